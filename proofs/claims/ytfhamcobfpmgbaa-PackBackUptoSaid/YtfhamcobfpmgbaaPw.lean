/- A scan of an image finds what was appended: plain. Sectors that are laid. -/
import Derived.Test.YtfhamcobfpmgbaaPu
set_option linter.unusedVariables false
set_option linter.unusedSimpArgs false
namespace Go.Proofs.Ytfhamcobfpmgbaa.Ah
open Go

theorem rdn_be4 {n : Nat} (h : n < 4294967296) : rdn (be 4 n) = n := by rw [rdn_be]; exact Nat.mod_eq_of_lt h
theorem slotOf_at {b pre suf c : List UInt8} {en : Nat} (hb : b = pre ++ (slotB c ++ suf)) (hc : c ≠ []) (hl : c.length < 4294967296) (he : pre.length + 8 + c.length ≤ en) : slotOf b pre.length en = some c.length := by
  have h1 : 0 < c.length := List.length_pos_iff.2 hc
  have d0 : b.drop pre.length = slotB c ++ suf := by rw [hb, List.drop_left' rfl]
  have t0 : (b.drop pre.length).take 4 = be 4 c.length := by
    rw [d0, slotB, List.append_assoc, List.append_assoc, List.take_left' (by simp)]
  have d4 : b.drop (pre.length + 4) = be 4 (crcOf (be 4 c.length ++ c)) ++ (c ++ suf) := by
    rw [← List.drop_drop, d0, slotB, List.append_assoc, List.append_assoc, List.drop_left' (by simp)]
  have t4 : (b.drop (pre.length + 4)).take 4 = be 4 (crcOf (be 4 c.length ++ c)) := by rw [d4, List.take_left' (by simp)]
  have d8 : b.drop (pre.length + 8) = c ++ suf := by
    rw [show pre.length + 8 = (pre.length + 4) + 4 by omega, ← List.drop_drop, d4, List.drop_left' (by simp)]
  have t8 : (b.drop (pre.length + 8)).take c.length = c := by rw [d8, List.take_left' rfl]
  have r0 := rdn_be4 hl
  have r4 := rdn_be4 (crcOf_lt (be 4 c.length ++ c))
  unfold slotOf
  rw [t0, t4, r0, r4, t8, if_neg (by omega), if_neg (by omega), if_pos rfl]
theorem scanL_at : ∀ (cs : List (List UInt8)) (b pre suf : List UInt8) (en k : Nat), b = pre ++ (cs.flatMap slotB ++ suf) → (∀ c, c ∈ cs → c ≠ []) → pre.length + (cs.flatMap slotB).length ≤ en → en < 4294967296 → slotOf b (pre.length + (cs.flatMap slotB).length) en = none → cs.length ≤ k →
    scanL b en k pre.length = (slotsFrom pre.length cs, pre.length + (cs.flatMap slotB).length) := by
  intro cs
  induction cs with
  | nil => intro b pre suf en k hb hc he hen hn hk; rw [scanL_none (by simpa using hn)]; simp [slotsFrom]
  | cons c cs ih =>
    intro b pre suf en k hb hc he hen hn hk
    rw [List.flatMap_cons, List.length_append, slotB_length] at he hn
    cases k with
    | zero => simp at hk
    | succ k =>
      have hs : slotOf b pre.length en = some c.length := slotOf_at (suf := cs.flatMap slotB ++ suf) (by rw [hb]; simp) (hc c (by simp)) (by omega) (by omega)
      have h2 := ih b (pre ++ slotB c) suf en k (by rw [hb]; simp) (fun d hd => hc d (by simp [hd])) (by rw [List.length_append, slotB_length]; omega) hen (by
        rw [List.length_append, slotB_length]
        rw [← Nat.add_assoc] at hn
        exact hn) (by simpa using hk)
      rw [List.length_append, slotB_length] at h2
      simp only [scanL, hs]
      rw [Nat.add_assoc pre.length 8 c.length, h2]
      simp only [slotsFrom, List.flatMap_cons, List.length_append, slotB_length]
      simp [Nat.add_assoc]
theorem flat_endOf (cs : List (List UInt8)) : 16 + (cs.flatMap slotB).length = endOf cs := by
  have := bodyB_length 0 0 cs
  simp only [bodyB, List.length_append, mark16_length (name := dpak) rfl] at this
  exact this
/-- The slots of an image. -/
theorem image_scan {st : PS} (o : st.Ok) : scanL st.image (st.bytes - 16) st.bytes 16 = (slotsFrom 16 st.chunks, endOf st.chunks) := by
  have hr := o.room
  have hby := o.bytes
  have h16 : (mark16 dpak st.id st.count).length = 16 := mark16_length rfl _ _
  have hf := flat_endOf st.chunks
  have hcl := chunks_le (cs := st.chunks)
  have himg : st.image = mark16 dpak st.id st.count ++ (st.chunks.flatMap slotB ++ (List.replicate (st.bytes - 16 - endOf st.chunks) 0 ++ st.foot)) := by simp [PS.image, bodyB]
  have := scanL_at st.chunks st.image (mark16 dpak st.id st.count) (List.replicate (st.bytes - 16 - endOf st.chunks) 0 ++ st.foot) (st.bytes - 16) st.bytes himg o.ne (by rw [h16]; omega) (by omega) (by
    rw [h16, hf]
    by_cases h8 : st.bytes - 16 < endOf st.chunks + 8
    · exact slotOf_far h8
    · have ht : (st.image.drop (endOf st.chunks)).take 4 = List.replicate 4 0 := by
        rw [himg, ← hf, ← List.drop_drop, List.drop_left' h16, List.drop_left' rfl, List.take_append_of_le_length (by rw [List.length_replicate]; omega), List.take_replicate, Nat.min_eq_left (by omega)]
      unfold slotOf
      rw [ht, if_neg h8, if_pos (.inl (by decide))]) (by omega)
  rw [h16, hf] at this
  exact this
theorem image_front {st : PS} (o : st.Ok) : headOk st.image st.count = true ∧ rdn ((st.image.drop 4).take 4) = st.id := by
  have h16 : (mark16 dpak st.id st.count).length = 16 := mark16_length rfl _ _
  have himg : st.image = mark16 dpak st.id st.count ++ (st.chunks.flatMap slotB ++ (List.replicate (st.bytes - 16 - endOf st.chunks) 0 ++ st.foot)) := by simp [PS.image, bodyB]
  have hm : mark16 dpak st.id st.count = dpak ++ (be 4 st.id ++ (be 4 st.count ++ be 4 (crcOf (mark12 dpak st.id st.count)))) := by simp [mark16, mark12]
  have h2 : (st.image.drop 4).take 4 = be 4 st.id := by
    rw [himg, hm, List.append_assoc, List.drop_left' (show dpak.length = 4 from rfl), List.append_assoc, List.take_left' (by simp)]
  have h3 : rdn ((st.image.drop 4).take 4) = st.id := by rw [h2]; exact rdn_be4 o.id
  refine ⟨?_, h3⟩
  unfold headOk
  rw [h3]
  apply decide_eq_true
  rw [himg, List.take_left' h16]
theorem image_foot {st : PS} (o : st.Ok) : decide (st.image.drop (st.image.length - 16) = mark16 dfot (slotsFrom 16 st.chunks).length (endOf st.chunks)) = st.shut := by
  rw [o.image, (image_parts st o).2, slotsFrom_length]
  unfold PS.foot
  cases st.shut with
  | true => simp
  | false =>
    simp only [Bool.false_eq_true, if_false]
    apply decide_eq_false
    intro h
    have := congrArg (·[0]?) h
    simp [mark16, mark12, dfot] at this
theorem readFrom_at : ∀ (cs : List (List UInt8)) (a i : Nat) (c : List UInt8) (p : Nat × Nat), cs[i]? = some c → (slotsFrom a cs)[i]? = some p → readFrom a cs p.1 p.2 = some c ∧ a + 8 ≤ p.1 ∧ p.2 = c.length ∧ p.1 + p.2 ≤ a + (cs.flatMap slotB).length := by
  intro cs
  induction cs with
  | nil => intro a i c p h; simp at h
  | cons d cs ih =>
    intro a i c p h hp
    simp only [List.flatMap_cons, List.length_append, slotB_length]
    cases i with
    | zero =>
      simp [slotsFrom] at h hp
      subst h hp
      refine ⟨?_, ?_, ?_, ?_⟩
      · simp [readFrom]
      · simp
      · simp
      · show a + 8 + d.length ≤ _
        omega
    | succ i =>
      simp only [slotsFrom, List.getElem?_cons_succ] at h hp
      obtain ⟨h1, h2, h3, h4⟩ := ih _ i c p h hp
      refine ⟨?_, by omega, h3, by omega⟩
      simp only [readFrom]
      rw [if_neg (by omega)]
      exact h1
theorem slots_split : ∀ (cs : List (List UInt8)) (a i : Nat) (c : List UInt8) (p : Nat × Nat), cs[i]? = some c → (slotsFrom a cs)[i]? = some p → ∃ pre suf, cs.flatMap slotB = pre ++ (slotB c ++ suf) ∧ a + pre.length + 8 = p.1 := by
  intro cs
  induction cs with
  | nil => intro a i c p h; simp at h
  | cons d cs ih =>
    intro a i c p h hp
    cases i with
    | zero =>
      simp [slotsFrom] at h hp
      subst h hp
      exact ⟨[], cs.flatMap slotB, by simp, by simp⟩
    | succ i =>
      simp only [slotsFrom, List.getElem?_cons_succ] at h hp
      obtain ⟨pre, suf, h1, h2⟩ := ih _ i c p h hp
      exact ⟨slotB d ++ pre, suf, by simp [h1], by simp; omega⟩
/-- A slot's chunk, in the image. -/
theorem image_chunk {st : PS} (o : st.Ok) {i : Nat} {c : List UInt8} {p : Nat × Nat} (hc : st.chunks[i]? = some c) (hp : (slotsFrom 16 st.chunks)[i]? = some p) : chunkOf st.image p.1 p.2 = some c ∧ st.read p.1 p.2 = some c ∧ p.1 ≤ 1000000 ∧ p.2 ≤ 1000000 := by
  obtain ⟨h1, h2, h3, h4⟩ := readFrom_at _ _ _ _ _ hc hp
  have hr := o.room
  have hby := o.bytes
  have hf := flat_endOf st.chunks
  have h16 : (mark16 dpak st.id st.count).length = 16 := mark16_length rfl _ _
  obtain ⟨pre, suf, h5, h6⟩ := slots_split _ _ _ _ _ hc hp
  have himg : st.image = (mark16 dpak st.id st.count ++ pre) ++ (slotB c ++ (suf ++ (List.replicate (st.bytes - 16 - endOf st.chunks) 0 ++ st.foot))) := by simp [PS.image, bodyB, h5]
  have hpl : (mark16 dpak st.id st.count ++ pre).length = p.1 - 8 := by rw [List.length_append, h16]; omega
  have hi := o.image
  have hs := slotOf_at (en := st.image.length) himg (o.ne c (List.mem_of_getElem? hc)) (by omega) (by rw [hpl]; omega)
  rw [hpl] at hs
  refine ⟨?_, h1, by omega, by omega⟩
  unfold chunkOf
  rw [if_neg (by omega), if_pos ⟨by rw [show (p.1 : Int).toNat - 8 = p.1 - 8 by omega, hs, h3]; simp, by omega⟩]
  congr 1
  have hd : st.image.drop p.1 = c ++ (suf ++ (List.replicate (st.bytes - 16 - endOf st.chunks) 0 ++ st.foot)) := by
    rw [himg, show p.1 = (p.1 - 8) + 8 by omega, ← List.drop_drop, List.drop_left' hpl]
    simp only [slotB]
    rw [List.append_assoc (be 4 _ ++ be 4 _), List.drop_left' (by simp)]
  rw [Int.toNat_natCast, Int.toNat_natCast, hd, h3, List.take_left' rfl]
/-! ### Filling up -/
/-- Each byte that is not 0 stays. -/
def fills (a m : List UInt8) : Prop := a.length = m.length ∧ ∀ (i : Nat) (x y : UInt8), a[i]? = some x → m[i]? = some y → x = 0 ∨ x = y
theorem fills_refl (a : List UInt8) : fills a a := ⟨rfl, fun i x y h1 h2 => .inr (by rw [h1] at h2; simpa using h2)⟩
theorem fills_trans {a b c : List UInt8} (h1 : fills a b) (h2 : fills b c) : fills a c := by
  refine ⟨h1.1.trans h2.1, fun i x z hx hz => ?_⟩
  have hi := (List.getElem?_eq_some_iff.1 hx).1
  obtain ⟨y, hy⟩ : ∃ y, b[i]? = some y := ⟨b[i]'(by rw [← h1.1]; exact hi), by simp⟩
  rcases h1.2 i x y hx hy with e | e
  · exact .inl e
  · subst e; exact h2.2 i x z hy hz
theorem fills_zero (m : List UInt8) (n : Nat) (h : m.length = n) : fills (List.replicate n 0) m := by
  refine ⟨by simp [h], fun i x y hx _ => ?_⟩
  left
  rw [List.getElem?_replicate] at hx
  split at hx <;> simp at hx
  exact hx.symm
theorem fills_app {a b c d : List UInt8} (h1 : fills a b) (h2 : fills c d) : fills (a ++ c) (b ++ d) := by
  refine ⟨by simp [h1.1, h2.1], fun i x y hx hy => ?_⟩
  by_cases hi : i < a.length
  · rw [List.getElem?_append_left hi] at hx
    rw [List.getElem?_append_left (by rw [← h1.1]; exact hi)] at hy
    exact h1.2 i x y hx hy
  · rw [List.getElem?_append_right (by omega)] at hx
    rw [List.getElem?_append_right (by rw [← h1.1]; omega), ← h1.1] at hy
    exact h2.2 _ x y hx hy
theorem fills_append {st : PS} (o : st.Ok) (b : List UInt8) : fills st.image (st.append b).2.image := by
  unfold PS.append
  split
  · exact fills_refl _
  split
  · exact fills_refl _
  split
  · exact fills_refl _
  rename_i h1 h2 h3
  have hs : st.shut = false := by simpa using h1
  have hr := o.room
  have hbp : 0 < b.length := List.length_pos_iff.2 h2
  simp only [PS.left, hs, Bool.false_eq_true, if_false] at h3
  have e1 : st.image = bodyB st.id st.count st.chunks ++ (List.replicate (8 + b.length) 0 ++ (List.replicate (st.bytes - 16 - (endOf st.chunks + 8 + b.length)) 0 ++ List.replicate 16 0)) := by
    simp only [PS.image, PS.foot, hs, Bool.false_eq_true, if_false, List.append_assoc]
    congr 1
    have e : st.bytes - 16 - endOf st.chunks = (8 + b.length) + (st.bytes - 16 - (endOf st.chunks + 8 + b.length)) := by omega
    rw [e, ← List.replicate_append_replicate, List.append_assoc]
  have e2 : ({ st with chunks := st.chunks ++ [b] } : PS).image = bodyB st.id st.count st.chunks ++ (slotB b ++ (List.replicate (st.bytes - 16 - (endOf st.chunks + 8 + b.length)) 0 ++ List.replicate 16 0)) := by
    simp [PS.image, PS.foot, hs, bodyB_snoc, endOf_snoc, PS.bytes]
  show fills st.image ({ st with chunks := st.chunks ++ [b] } : PS).image
  rw [e1, e2]
  exact fills_app (fills_refl _) (fills_app (fills_zero _ _ (by simp)) (fills_refl _))
theorem fills_seal {st : PS} (o : st.Ok) : fills st.image st.seal.2.image := by
  unfold PS.seal
  split
  · exact fills_refl _
  rename_i h1
  have hs : st.shut = false := by simpa using h1
  show fills st.image ({ st with shut := true } : PS).image
  simp only [PS.image, PS.foot, hs, Bool.false_eq_true, if_false, if_true, PS.bytes]
  exact fills_app (fills_refl _) (fills_zero _ _ (mark16_length rfl _ _))
/-- What was laid so far. -/
def PS.cur (st : PS) : List UInt8 := match st.last with | none => List.replicate st.bytes 0 | some t => t
theorem secs_mem (st : PS) : ∀ (m k : Nat) (p : Nat × List UInt8), p ∈ st.secs k m → k ≤ p.1 ∧ p.1 < k + m ∧ p.2 = secAt st.size st.image p.1 := by
  intro m
  induction m with
  | zero => intro k p h; simp [PS.secs] at h
  | succ m ih =>
    intro k p h
    simp only [PS.secs, List.mem_append] at h
    rcases h with h | h
    · split at h
      · simp at h; subst h; exact ⟨Nat.le_refl _, by simp, rfl⟩
      · simp at h
    · obtain ⟨a, b, c⟩ := ih _ _ h
      exact ⟨by omega, by omega, c⟩
theorem secs_all (st : PS) : ∀ (m k n : Nat), k ≤ n → n < k + m → st.parted n = true → (n, secAt st.size st.image n) ∈ st.secs k m := by
  intro m
  induction m with
  | zero => intro k n h1 h2; omega
  | succ m ih =>
    intro k n h1 h2 h3
    simp only [PS.secs, List.mem_append]
    by_cases e : n = k
    · subst e; left; rw [if_pos h3]; simp
    · exact .inr (ih _ _ (by omega) (by omega) h3)
/-- Where the sectors lie that were laid, and where it was so before, it is the image. -/
theorem laid_all {st : PS} (o : st.Ok) {L : List UInt8} (hl : L.length = st.image.length) (h1 : ∀ j : Nat, st.cur[j]? = st.image[j]? → L[j]? = st.image[j]?)
    (h2 : ∀ n r, (n, r) ∈ st.secs 0 st.count → ∀ j : Nat, n * st.size ≤ j → j < n * st.size + st.size → L[j]? = st.image[j]?) : L = st.image := by
  have hi := o.image
  have hsz := o.size
  apply List.ext_getElem?
  intro j
  by_cases hj : j < st.bytes
  · obtain ⟨q, k, hq, hk, hqc⟩ : ∃ q k, q * st.size + k = j ∧ k < st.size ∧ q < st.count :=
      ⟨j / st.size, j % st.size, by rw [Nat.mul_comm]; exact Nat.div_add_mod _ _, Nat.mod_lt _ (by omega), Nat.div_lt_of_lt_mul (by unfold PS.bytes at hj; exact hj)⟩
    by_cases hp : st.parted q = true
    · exact h2 _ _ (secs_all st st.count 0 _ (by omega) (by omega) hp) j (by omega) (by omega)
    · refine h1 j ?_
      unfold PS.parted at hp
      unfold PS.cur
      cases hla : st.last with
      | none => rw [hla] at hp; simp at hp
      | some t =>
        rw [hla] at hp
        simp only [Bool.not_eq_true', decide_eq_false_iff_not, Classical.not_not] at hp
        have := congrArg (·[k]?) hp
        simp only [secAt, List.getElem?_take, if_pos hk, List.getElem?_drop, hq] at this
        exact this.symm
  · rw [List.getElem?_eq_none (by omega), List.getElem?_eq_none (by omega)]
end Go.Proofs.Ytfhamcobfpmgbaa.Ah
namespace Go.Proofs.Ytfhamcobfpmgbaa.Ah
open Go

section
variable {w0 : World} {h : Hp}
theorem fills_set {L M : List UInt8} {i : Nat} {b : UInt8} (h : fills L M) (hb : M[i]? = some b) : fills (L.set i b) M ∧ ∀ j : Nat, (L[j]? = M[j]? ∨ j = i) → (L.set i b)[j]? = M[j]? := by
  have hi := (List.getElem?_eq_some_iff.1 hb).1
  have hil : i < L.length := by rw [h.1]; exact hi
  refine ⟨⟨by rw [List.length_set]; exact h.1, fun j x y hx hy => ?_⟩, fun j hj => ?_⟩
  · by_cases e : j = i
    · subst e
      rw [List.getElem?_set_self hil] at hx
      rw [hb] at hy
      right
      rw [← Option.some.injEq, ← hx, hy]
    · rw [List.getElem?_set_ne (fun q => e q.symm)] at hx
      exact h.2 j x y hx hy
  · by_cases e : j = i
    · subst e
      rw [List.getElem?_set_self hil, hb]
    · rw [List.getElem?_set_ne (fun q => e q.symm)]
      rcases hj with g | g
      · exact g
      · exact absurd g e
theorem laid_inner {k2 kr : Value → Value → Value → Value → Value → Hp → Prop} {x0 x2 x6 v : Value} {M r : List UInt8} {size n i cnt N : Nat} {cs : List Value} {S Tx T : List Nat} (hi : i < cnt) (hv : cs[i * 2 + 1]? = some v) (hr : r = secAt size M n) (hM : M.length = N) (hn : n * size + size ≤ N) (hN : N ≤ 1000000000) (hrl : r.length = size)
    (d1 : ∀ b, b ∈ Tx → b ∉ S) (d2 : ∀ b, b ∈ T → b ∉ S) : ∀ (m k : Nat) (h' : Hp) (L : List UInt8), k + m = size → GV w0 h' 1 x0 N (bvs L) S → GV w0 h' 2 x2 cnt cs Tx → GV w0 h' 1 v r.length (bvs r) T → fills L M →
    (∀ h2 L2, GV w0 h2 1 x0 N (bvs L2) S → fills L2 M → (∀ j : Nat, (L[j]? = M[j]? ∨ (n * size + k ≤ j ∧ j < n * size + size)) → L2[j]? = M[j]?) → Step h' h2 S S → k2 x0 (.int .i64 size) x2 x6 (.int .i64 i) h2) →
    deduplaw13_laid_L2 prog w0 k2 kr (m + 1) x0 (.int .i64 (size : Int)) x2 x6 (.int .i64 (i : Int)) (.int .i64 ((n * size : Nat) : Int)) (.int .i64 (k : Int)) h' := by
  intro m
  induction m with
  | zero =>
    intro k h' L hk g0 gx gv hf hK
    have : k = size := by omega
    subst this
    rw [deduplaw13_laid_L2]
    simp only [deduplaw13_laid_B2, lenSl_slice, lenStr_string, str_size, fpureA_some, fnilA_ptr, faddA_ptr, addr_add, Nat.zero_add, Nat.add_zero, fpureQ_k, fpureQ_nilA, fpureQ_addA, fpureQ_pureA, fpureQ_guardA, fpureQ_idxSlA, fpureQ_pickA, freadQ_loadA, freadQ_loadNA, freadQ_b2sA, freadQ_guardA, freadQ_slSlA, freadQ_k, fendA, fallA_one, fstillA_nil, fguardA_tt, fguardA_ff, fguardA_tf, fguardA_ft, fguardA_undef, fpickA_true, fpickA_false, fcondA_true, fcondA_false, binA_add, binA_sub, binA_mul, binA_eql, binA_neq, binA_lss, binA_leq, binA_gtr, binA_geq, unA_not, Bool.not_true, Bool.not_false, convA_int, extA_tuple, List.getElem?_toArray, List.getElem?_cons_zero, List.getElem?_cons_succ, Int.lt_irrefl, decide_false]
    exact hK h' L g0 hf (fun j hj => by
      rcases hj with e | e
      · exact e
      · omega) g0.refl
  | succ m ih =>
    intro k h' L hk g0 gx gv hf hK
    have hlL := hf.1
    have c1 : decide ((k : Int) < (size : Int)) = true := decide_eq_true (by omega)
    have e5 : IntKind.i64.wrap ((k : Int) + 1) = ((k + 1 : Nat) : Int) := by rw [IntWalk.i64_in _ (by omega)]; simp
    have e6 : IntKind.i64.wrap (((n * size : Nat) : Int) + (k : Int)) = ((n * size + k : Nat) : Int) := by rw [IntWalk.i64_in _ (by omega)]; simp
    obtain ⟨a, ha⟩ : ∃ a, L[n * size + k]? = some a := ⟨L[n * size + k]'(by omega), by simp⟩
    obtain ⟨b, hb⟩ : ∃ b, M[n * size + k]? = some b := ⟨M[n * size + k]'(by omega), by simp⟩
    have hrb : r[k]? = some b := by
      rw [hr, secAt, List.getElem?_take, if_pos (by omega), List.getElem?_drop]
      exact hb
    have hab := hf.2 _ _ _ ha hb
    have e0 : binA .neq (bv a) (.int .u8 0) = some (.bool (decide (a ≠ 0))) := bv_ne a 0
    have hav : (bvs L)[n * size + k]? = some (bv a) := by rw [bvs_get, ha]; rfl
    have hbv : (bvs r)[k]? = some (bv b) := by rw [bvs_get, hrb]; rfl
    rw [deduplaw13_laid_L2]
    simp only [deduplaw13_laid_B2, lenSl_slice, lenStr_string, str_size, fpureA_some, fnilA_ptr, faddA_ptr, addr_add, Nat.zero_add, Nat.add_zero, fpureQ_k, fpureQ_nilA, fpureQ_addA, fpureQ_pureA, fpureQ_guardA, fpureQ_idxSlA, fpureQ_pickA, freadQ_loadA, freadQ_loadNA, freadQ_b2sA, freadQ_guardA, freadQ_slSlA, freadQ_k, fendA, fallA_one, fstillA_nil, fguardA_tt, fguardA_ff, fguardA_tf, fguardA_ft, fguardA_undef, fpickA_true, fpickA_false, fcondA_true, fcondA_false, binA_add, binA_sub, binA_mul, binA_eql, binA_neq, binA_lss, binA_leq, binA_gtr, binA_geq, unA_not, Bool.not_true, Bool.not_false, convA_int, extA_tuple, List.getElem?_toArray, List.getElem?_cons_zero, List.getElem?_cons_succ, c1, e6]
    refine g0.idx (by omega) fun q1 hq1 hB1 hb1 => ?_
    rw [Nat.mul_one]
    refine loadA_at hB1 hb1 hav ?_
    have fin : (pureA (some (.int .i64 ((n * size + k : Nat) : Int))) fun v84 =>
        idxSlA 2 x2 (.int .i64 (i : Int)) fun v87 =>
        addA v87 1 fun v88 =>
        loadA w0 v88 fun v89 =>
        idxSlA 1 v89 (.int .i64 (k : Int)) fun v91 =>
        loadA w0 v91 fun v92 =>
        idxSlA 1 x0 v84 fun v93 =>
        storeA w0 v93 v92 fun _ =>
        pureA (some (.int .i64 ((k + 1 : Nat) : Int))) fun v56 =>
        deduplaw13_laid_L2 prog w0 k2 kr (m + 1) x0 (.int .i64 (size : Int)) x2 x6 (.int .i64 (i : Int)) (.int .i64 ((n * size : Nat) : Int)) v56) h' := by
      simp only [lenSl_slice, lenStr_string, str_size, fpureA_some, fnilA_ptr, faddA_ptr, addr_add, Nat.zero_add, Nat.add_zero, fpureQ_k, fpureQ_nilA, fpureQ_addA, fpureQ_pureA, fpureQ_guardA, fpureQ_idxSlA, fpureQ_pickA, freadQ_loadA, freadQ_loadNA, freadQ_b2sA, freadQ_guardA, freadQ_slSlA, freadQ_k, fendA, fallA_one, fstillA_nil, fguardA_tt, fguardA_ff, fguardA_tf, fguardA_ft, fguardA_undef, fpickA_true, fpickA_false, fcondA_true, fcondA_false, binA_add, binA_sub, binA_mul, binA_eql, binA_neq, binA_lss, binA_leq, binA_gtr, binA_geq, unA_not, Bool.not_true, Bool.not_false, convA_int, extA_tuple, List.getElem?_toArray, List.getElem?_cons_zero, List.getElem?_cons_succ]
      refine gx.idx hi fun q2 hq2 hB2 hb2 => ?_
      simp only [lenSl_slice, lenStr_string, str_size, fpureA_some, fnilA_ptr, faddA_ptr, addr_add, Nat.zero_add, Nat.add_zero, fpureQ_k, fpureQ_nilA, fpureQ_addA, fpureQ_pureA, fpureQ_guardA, fpureQ_idxSlA, fpureQ_pickA, freadQ_loadA, freadQ_loadNA, freadQ_b2sA, freadQ_guardA, freadQ_slSlA, freadQ_k, fendA, fallA_one, fstillA_nil, fguardA_tt, fguardA_ff, fguardA_tf, fguardA_ft, fguardA_undef, fpickA_true, fpickA_false, fcondA_true, fcondA_false, binA_add, binA_sub, binA_mul, binA_eql, binA_neq, binA_lss, binA_leq, binA_gtr, binA_geq, unA_not, Bool.not_true, Bool.not_false, convA_int, extA_tuple, List.getElem?_toArray, List.getElem?_cons_zero, List.getElem?_cons_succ]
      refine loadA_at hB2 hb2 hv ?_
      refine gv.idx (by omega) fun q3 hq3 hB3 hb3 => ?_
      rw [Nat.mul_one]
      refine loadA_at hB3 hb3 hbv ?_
      refine g0.idx (by omega) fun q4 hq4 hB4 hb4 => ?_
      rw [Nat.mul_one]
      refine storeA_at hB4 hb4 (by simp; omega) rfl ?_
      have hset : (bvs L).set (n * size + k) (bv b) = bvs (L.set (n * size + k) b) := by simp [bvs, List.map_set]
      rw [hset]
      have s2 : Step h' (h'.put q4 (bvs (L.set (n * size + k) b))) S S := g0.refl.put hq4 _
      have g0' := g0.write (q := q4) (cs' := bvs (L.set (n * size + k) b)) hq4 (by simp)
      obtain ⟨f1, f2⟩ := fills_set hf hb
      refine ih (k + 1) _ _ (by omega) g0' (gx.frame s2 d1) (gv.frame s2 d2) f1 fun h2 L2 g2 fl2 ag s => hK h2 L2 g2 fl2 (fun j hj => ?_) (s2.trans s)
      refine ag j ?_
      rcases hj with e | e
      · exact .inl (f2 j (.inl e))
      · by_cases ej : j = n * size + k
        · exact .inl (f2 j (.inr ej))
        · exact .inr (by omega)
    by_cases ha0 : a = 0
    · have c2 : decide (a ≠ 0) = false := decide_eq_false (by simpa using ha0)
      simp only [e0, c2, lenSl_slice, lenStr_string, str_size, fpureA_some, fnilA_ptr, faddA_ptr, addr_add, Nat.zero_add, Nat.add_zero, fpureQ_k, fpureQ_nilA, fpureQ_addA, fpureQ_pureA, fpureQ_guardA, fpureQ_idxSlA, fpureQ_pickA, freadQ_loadA, freadQ_loadNA, freadQ_b2sA, freadQ_guardA, freadQ_slSlA, freadQ_k, fendA, fallA_one, fstillA_nil, fguardA_tt, fguardA_ff, fguardA_tf, fguardA_ft, fguardA_undef, fpickA_true, fpickA_false, fcondA_true, fcondA_false, binA_add, binA_sub, binA_mul, binA_eql, binA_neq, binA_lss, binA_leq, binA_gtr, binA_geq, unA_not, Bool.not_true, Bool.not_false, convA_int, extA_tuple, List.getElem?_toArray, List.getElem?_cons_zero, List.getElem?_cons_succ, e6, e5]
      simp only [lenSl_slice, lenStr_string, str_size, fpureA_some, fnilA_ptr, faddA_ptr, addr_add, Nat.zero_add, Nat.add_zero, fpureQ_k, fpureQ_nilA, fpureQ_addA, fpureQ_pureA, fpureQ_guardA, fpureQ_idxSlA, fpureQ_pickA, freadQ_loadA, freadQ_loadNA, freadQ_b2sA, freadQ_guardA, freadQ_slSlA, freadQ_k, fendA, fallA_one, fstillA_nil, fguardA_tt, fguardA_ff, fguardA_tf, fguardA_ft, fguardA_undef, fpickA_true, fpickA_false, fcondA_true, fcondA_false, binA_add, binA_sub, binA_mul, binA_eql, binA_neq, binA_lss, binA_leq, binA_gtr, binA_geq, unA_not, Bool.not_true, Bool.not_false, convA_int, extA_tuple, List.getElem?_toArray, List.getElem?_cons_zero, List.getElem?_cons_succ] at fin
      exact fin
    · have c2 : decide (a ≠ 0) = true := decide_eq_true ha0
      have hab' : a = b := by
        rcases hab with e | e
        · exact absurd e ha0
        · exact e
      have c3 : decide (a ≠ b) = false := decide_eq_false (by simpa using hab')
      simp only [e0, c2, lenSl_slice, lenStr_string, str_size, fpureA_some, fnilA_ptr, faddA_ptr, addr_add, Nat.zero_add, Nat.add_zero, fpureQ_k, fpureQ_nilA, fpureQ_addA, fpureQ_pureA, fpureQ_guardA, fpureQ_idxSlA, fpureQ_pickA, freadQ_loadA, freadQ_loadNA, freadQ_b2sA, freadQ_guardA, freadQ_slSlA, freadQ_k, fendA, fallA_one, fstillA_nil, fguardA_tt, fguardA_ff, fguardA_tf, fguardA_ft, fguardA_undef, fpickA_true, fpickA_false, fcondA_true, fcondA_false, binA_add, binA_sub, binA_mul, binA_eql, binA_neq, binA_lss, binA_leq, binA_gtr, binA_geq, unA_not, Bool.not_true, Bool.not_false, convA_int, extA_tuple, List.getElem?_toArray, List.getElem?_cons_zero, List.getElem?_cons_succ, e6, e5]
      refine g0.idx (by omega) fun q2 hq2 hB2 hb2 => ?_
      rw [Nat.mul_one]
      refine loadA_at hB2 hb2 hav ?_
      refine gx.idx hi fun q3 hq3 hB3 hb3 => ?_
      simp only [lenSl_slice, lenStr_string, str_size, fpureA_some, fnilA_ptr, faddA_ptr, addr_add, Nat.zero_add, Nat.add_zero, fpureQ_k, fpureQ_nilA, fpureQ_addA, fpureQ_pureA, fpureQ_guardA, fpureQ_idxSlA, fpureQ_pickA, freadQ_loadA, freadQ_loadNA, freadQ_b2sA, freadQ_guardA, freadQ_slSlA, freadQ_k, fendA, fallA_one, fstillA_nil, fguardA_tt, fguardA_ff, fguardA_tf, fguardA_ft, fguardA_undef, fpickA_true, fpickA_false, fcondA_true, fcondA_false, binA_add, binA_sub, binA_mul, binA_eql, binA_neq, binA_lss, binA_leq, binA_gtr, binA_geq, unA_not, Bool.not_true, Bool.not_false, convA_int, extA_tuple, List.getElem?_toArray, List.getElem?_cons_zero, List.getElem?_cons_succ]
      refine loadA_at hB3 hb3 hv ?_
      refine gv.idx (by omega) fun q4 hq4 hB4 hb4 => ?_
      rw [Nat.mul_one]
      refine loadA_at hB4 hb4 hbv ?_
      simp only [bv_ne, c3, lenSl_slice, lenStr_string, str_size, fpureA_some, fnilA_ptr, faddA_ptr, addr_add, Nat.zero_add, Nat.add_zero, fpureQ_k, fpureQ_nilA, fpureQ_addA, fpureQ_pureA, fpureQ_guardA, fpureQ_idxSlA, fpureQ_pickA, freadQ_loadA, freadQ_loadNA, freadQ_b2sA, freadQ_guardA, freadQ_slSlA, freadQ_k, fendA, fallA_one, fstillA_nil, fguardA_tt, fguardA_ff, fguardA_tf, fguardA_ft, fguardA_undef, fpickA_true, fpickA_false, fcondA_true, fcondA_false, binA_add, binA_sub, binA_mul, binA_eql, binA_neq, binA_lss, binA_leq, binA_gtr, binA_geq, unA_not, Bool.not_true, Bool.not_false, convA_int, extA_tuple, List.getElem?_toArray, List.getElem?_cons_zero, List.getElem?_cons_succ]
      simp only [lenSl_slice, lenStr_string, str_size, fpureA_some, fnilA_ptr, faddA_ptr, addr_add, Nat.zero_add, Nat.add_zero, fpureQ_k, fpureQ_nilA, fpureQ_addA, fpureQ_pureA, fpureQ_guardA, fpureQ_idxSlA, fpureQ_pickA, freadQ_loadA, freadQ_loadNA, freadQ_b2sA, freadQ_guardA, freadQ_slSlA, freadQ_k, fendA, fallA_one, fstillA_nil, fguardA_tt, fguardA_ff, fguardA_tf, fguardA_ft, fguardA_undef, fpickA_true, fpickA_false, fcondA_true, fcondA_false, binA_add, binA_sub, binA_mul, binA_eql, binA_neq, binA_lss, binA_leq, binA_gtr, binA_geq, unA_not, Bool.not_true, Bool.not_false, convA_int, extA_tuple, List.getElem?_toArray, List.getElem?_cons_zero, List.getElem?_cons_succ] at fin
      exact fin
theorem laid_loop {k0 kr : Value → Hp → Prop} {x0 x2 : Value} {M : List UInt8} {size N : Nat} {l : List (Nat × List UInt8)} {vs : List Value} {S Tx : List Nat} (hM : M.length = N) (hN : N ≤ 1000000000) (hsz : size ≤ 1000000000) (hs0 : 0 < size) (hl : l.length ≤ 1000000000) (hvl : vs.length = l.length)
    (hrl : ∀ p, p ∈ l → p.2 = secAt size M p.1 ∧ p.2.length = size ∧ p.1 * size + size ≤ N) (d1 : ∀ b, b ∈ Tx → b ∉ S) : ∀ (post pre : List (Nat × List UInt8)) (h : Hp) (L : List UInt8) (S0 : List Nat), pre ++ post = l → GV w0 h 1 x0 N (bvs L) S → GV w0 h 2 x2 l.length (tCells (l.map (·.1)) vs) Tx → RowsC w0 h (vs.drop pre.length) (post.map (·.2)) S0 → (∀ b, b ∈ S0 → b ∉ S) → fills L M →
    (∀ h2 L2, GV w0 h2 1 x0 N (bvs L2) S → fills L2 M → (∀ j : Nat, (L[j]? = M[j]? ∨ ∃ p, p ∈ post ∧ p.1 * size ≤ j ∧ j < p.1 * size + size) → L2[j]? = M[j]?) → Step h h2 S S → k0 (.bool false) h2) →
    deduplaw13_laid_L1 prog w0 k0 kr (post.length + 1) x0 (.int .i64 (size : Int)) x2 (.bool false) (.int .i64 (pre.length : Int)) h := by
  intro post
  induction post with
  | nil =>
    intro pre h L S0 he g0 gx qx d0 hf hK
    obtain ⟨a, c, hx⟩ := gx.slice
    have hlx : lenSl x2 = some (.int .i64 l.length) := by rw [hx]; rfl
    have : pre = l := by simpa using he
    subst this
    rw [List.length_nil, deduplaw13_laid_L1]
    simp only [deduplaw13_laid_B1, hlx, lenSl_slice, lenStr_string, str_size, fpureA_some, fnilA_ptr, faddA_ptr, addr_add, Nat.zero_add, Nat.add_zero, fpureQ_k, fpureQ_nilA, fpureQ_addA, fpureQ_pureA, fpureQ_guardA, fpureQ_idxSlA, fpureQ_pickA, freadQ_loadA, freadQ_loadNA, freadQ_b2sA, freadQ_guardA, freadQ_slSlA, freadQ_k, fendA, fallA_one, fstillA_nil, fguardA_tt, fguardA_ff, fguardA_tf, fguardA_ft, fguardA_undef, fpickA_true, fpickA_false, fcondA_true, fcondA_false, binA_add, binA_sub, binA_mul, binA_eql, binA_neq, binA_lss, binA_leq, binA_gtr, binA_geq, unA_not, Bool.not_true, Bool.not_false, convA_int, extA_tuple, List.getElem?_toArray, List.getElem?_cons_zero, List.getElem?_cons_succ, Int.lt_irrefl, decide_false]
    exact hK h L g0 hf (fun j hj => by
      rcases hj with e | ⟨p, e, -⟩
      · exact e
      · simp at e) g0.refl
  | cons p post ih =>
    intro pre h L S0 he g0 gx qx d0 hf hK
    obtain ⟨a, c, hx⟩ := gx.slice
    obtain ⟨a0, c0, hx0⟩ := g0.slice
    have hlx : lenSl x2 = some (.int .i64 l.length) := by rw [hx]; rfl
    have hl0 : lenSl x0 = some (.int .i64 N) := by rw [hx0]; rfl
    have hlen : pre.length + (post.length + 1) = l.length := by rw [← he]; simp
    have hg : l[pre.length]? = some (p.1, p.2) := by rw [← he]; simp
    obtain ⟨p1, p2, p3⟩ := hrl p (by rw [← he]; simp)
    have hvd : ∃ v, vs[pre.length]? = some v := ⟨vs[pre.length], by simp [show pre.length < vs.length by omega]⟩
    obtain ⟨v, hv⟩ := hvd
    have hdv : vs.drop pre.length = v :: vs.drop (pre.length + 1) := by rw [List.drop_eq_getElem_cons (by omega)]; congr 1; rw [List.getElem?_eq_getElem (by omega)] at hv; simpa using hv
    rw [hdv, List.map_cons] at qx
    obtain ⟨n1, n2⟩ := tCells_at l vs pre.length p.1 p.2 v (by omega) hg hv
    cases qx with
    | cons gv qx dx =>
    rename_i T1 S1
    obtain ⟨av, cv, hvs⟩ := gv.slice
    have hlv : lenSl v = some (.int .i64 size) := by rw [hvs, p2]; rfl
    have hp1 : p.1 ≤ N := by
      have := Nat.mul_le_mul_left p.1 (show 1 ≤ size from hs0)
      omega
    have c1 : decide ((pre.length : Int) < (l.length : Int)) = true := decide_eq_true (by omega)
    have c2 : decide (((p.1 : Nat) : Int) < 0) = false := decide_eq_false (by omega)
    have e5 : IntKind.i64.wrap ((pre.length : Int) + 1) = ((pre.length + 1 : Nat) : Int) := by rw [IntWalk.i64_in _ (by omega)]; simp
    have e6 : IntKind.i64.wrap (((p.1 : Nat) : Int) + 1) = ((p.1 + 1 : Nat) : Int) := by rw [IntWalk.i64_in _ (by omega)]; simp
    have e7 : IntKind.i64.wrap (((p.1 + 1 : Nat) : Int) * (size : Int)) = ((p.1 * size + size : Nat) : Int) := by
      have : ((p.1 + 1 : Nat) : Int) * (size : Int) = ((p.1 * size + size : Nat) : Int) := by
        rw [← Int.natCast_mul, Nat.add_mul, Nat.one_mul]
      rw [this, IntWalk.i64_in _ (by omega)]
    have e8 : IntKind.i64.wrap (((p.1 : Nat) : Int) * (size : Int)) = ((p.1 * size : Nat) : Int) := by
      rw [← Int.natCast_mul, IntWalk.i64_in _ (by omega)]
    have c3 : decide (((N : Nat) : Int) < ((p.1 * size + size : Nat) : Int)) = false := decide_eq_false (by omega)
    rw [List.length_cons, deduplaw13_laid_L1]
    simp only [deduplaw13_laid_B1, hlx, lenSl_slice, lenStr_string, str_size, fpureA_some, fnilA_ptr, faddA_ptr, addr_add, Nat.zero_add, Nat.add_zero, fpureQ_k, fpureQ_nilA, fpureQ_addA, fpureQ_pureA, fpureQ_guardA, fpureQ_idxSlA, fpureQ_pickA, freadQ_loadA, freadQ_loadNA, freadQ_b2sA, freadQ_guardA, freadQ_slSlA, freadQ_k, fendA, fallA_one, fstillA_nil, fguardA_tt, fguardA_ff, fguardA_tf, fguardA_ft, fguardA_undef, fpickA_true, fpickA_false, fcondA_true, fcondA_false, binA_add, binA_sub, binA_mul, binA_eql, binA_neq, binA_lss, binA_leq, binA_gtr, binA_geq, unA_not, Bool.not_true, Bool.not_false, convA_int, extA_tuple, List.getElem?_toArray, List.getElem?_cons_zero, List.getElem?_cons_succ, c1]
    refine gx.idx (by omega) fun q1 hq1 hB1 hb1 => ?_
    simp only [lenSl_slice, lenStr_string, str_size, fpureA_some, fnilA_ptr, faddA_ptr, addr_add, Nat.zero_add, Nat.add_zero, fpureQ_k, fpureQ_nilA, fpureQ_addA, fpureQ_pureA, fpureQ_guardA, fpureQ_idxSlA, fpureQ_pickA, freadQ_loadA, freadQ_loadNA, freadQ_b2sA, freadQ_guardA, freadQ_slSlA, freadQ_k, fendA, fallA_one, fstillA_nil, fguardA_tt, fguardA_ff, fguardA_tf, fguardA_ft, fguardA_undef, fpickA_true, fpickA_false, fcondA_true, fcondA_false, binA_add, binA_sub, binA_mul, binA_eql, binA_neq, binA_lss, binA_leq, binA_gtr, binA_geq, unA_not, Bool.not_true, Bool.not_false, convA_int, extA_tuple, List.getElem?_toArray, List.getElem?_cons_zero, List.getElem?_cons_succ]
    refine loadA_at hB1 hb1 n1 ?_
    simp only [lenSl_slice, lenStr_string, str_size, fpureA_some, fnilA_ptr, faddA_ptr, addr_add, Nat.zero_add, Nat.add_zero, fpureQ_k, fpureQ_nilA, fpureQ_addA, fpureQ_pureA, fpureQ_guardA, fpureQ_idxSlA, fpureQ_pickA, freadQ_loadA, freadQ_loadNA, freadQ_b2sA, freadQ_guardA, freadQ_slSlA, freadQ_k, fendA, fallA_one, fstillA_nil, fguardA_tt, fguardA_ff, fguardA_tf, fguardA_ft, fguardA_undef, fpickA_true, fpickA_false, fcondA_true, fcondA_false, binA_add, binA_sub, binA_mul, binA_eql, binA_neq, binA_lss, binA_leq, binA_gtr, binA_geq, unA_not, Bool.not_true, Bool.not_false, convA_int, extA_tuple, List.getElem?_toArray, List.getElem?_cons_zero, List.getElem?_cons_succ, c2]
    refine gx.idx (by omega) fun q1 hq1 hB1 hb1 => ?_
    simp only [lenSl_slice, lenStr_string, str_size, fpureA_some, fnilA_ptr, faddA_ptr, addr_add, Nat.zero_add, Nat.add_zero, fpureQ_k, fpureQ_nilA, fpureQ_addA, fpureQ_pureA, fpureQ_guardA, fpureQ_idxSlA, fpureQ_pickA, freadQ_loadA, freadQ_loadNA, freadQ_b2sA, freadQ_guardA, freadQ_slSlA, freadQ_k, fendA, fallA_one, fstillA_nil, fguardA_tt, fguardA_ff, fguardA_tf, fguardA_ft, fguardA_undef, fpickA_true, fpickA_false, fcondA_true, fcondA_false, binA_add, binA_sub, binA_mul, binA_eql, binA_neq, binA_lss, binA_leq, binA_gtr, binA_geq, unA_not, Bool.not_true, Bool.not_false, convA_int, extA_tuple, List.getElem?_toArray, List.getElem?_cons_zero, List.getElem?_cons_succ]
    refine loadA_at hB1 hb1 n1 ?_
    simp only [lenSl_slice, lenStr_string, str_size, fpureA_some, fnilA_ptr, faddA_ptr, addr_add, Nat.zero_add, Nat.add_zero, fpureQ_k, fpureQ_nilA, fpureQ_addA, fpureQ_pureA, fpureQ_guardA, fpureQ_idxSlA, fpureQ_pickA, freadQ_loadA, freadQ_loadNA, freadQ_b2sA, freadQ_guardA, freadQ_slSlA, freadQ_k, fendA, fallA_one, fstillA_nil, fguardA_tt, fguardA_ff, fguardA_tf, fguardA_ft, fguardA_undef, fpickA_true, fpickA_false, fcondA_true, fcondA_false, binA_add, binA_sub, binA_mul, binA_eql, binA_neq, binA_lss, binA_leq, binA_gtr, binA_geq, unA_not, Bool.not_true, Bool.not_false, convA_int, extA_tuple, List.getElem?_toArray, List.getElem?_cons_zero, List.getElem?_cons_succ, e6, e7, hl0, c3]
    refine gx.idx (by omega) fun q1 hq1 hB1 hb1 => ?_
    simp only [lenSl_slice, lenStr_string, str_size, fpureA_some, fnilA_ptr, faddA_ptr, addr_add, Nat.zero_add, Nat.add_zero, fpureQ_k, fpureQ_nilA, fpureQ_addA, fpureQ_pureA, fpureQ_guardA, fpureQ_idxSlA, fpureQ_pickA, freadQ_loadA, freadQ_loadNA, freadQ_b2sA, freadQ_guardA, freadQ_slSlA, freadQ_k, fendA, fallA_one, fstillA_nil, fguardA_tt, fguardA_ff, fguardA_tf, fguardA_ft, fguardA_undef, fpickA_true, fpickA_false, fcondA_true, fcondA_false, binA_add, binA_sub, binA_mul, binA_eql, binA_neq, binA_lss, binA_leq, binA_gtr, binA_geq, unA_not, Bool.not_true, Bool.not_false, convA_int, extA_tuple, List.getElem?_toArray, List.getElem?_cons_zero, List.getElem?_cons_succ]
    refine loadA_at hB1 hb1 n2 ?_
    simp only [lenSl_slice, lenStr_string, str_size, fpureA_some, fnilA_ptr, faddA_ptr, addr_add, Nat.zero_add, Nat.add_zero, fpureQ_k, fpureQ_nilA, fpureQ_addA, fpureQ_pureA, fpureQ_guardA, fpureQ_idxSlA, fpureQ_pickA, freadQ_loadA, freadQ_loadNA, freadQ_b2sA, freadQ_guardA, freadQ_slSlA, freadQ_k, fendA, fallA_one, fstillA_nil, fguardA_tt, fguardA_ff, fguardA_tf, fguardA_ft, fguardA_undef, fpickA_true, fpickA_false, fcondA_true, fcondA_false, binA_add, binA_sub, binA_mul, binA_eql, binA_neq, binA_lss, binA_leq, binA_gtr, binA_geq, unA_not, Bool.not_true, Bool.not_false, convA_int, extA_tuple, List.getElem?_toArray, List.getElem?_cons_zero, List.getElem?_cons_succ, hlv, bne_self_eq_false]
    refine gx.idx (by omega) fun q1 hq1 hB1 hb1 => ?_
    simp only [lenSl_slice, lenStr_string, str_size, fpureA_some, fnilA_ptr, faddA_ptr, addr_add, Nat.zero_add, Nat.add_zero, fpureQ_k, fpureQ_nilA, fpureQ_addA, fpureQ_pureA, fpureQ_guardA, fpureQ_idxSlA, fpureQ_pickA, freadQ_loadA, freadQ_loadNA, freadQ_b2sA, freadQ_guardA, freadQ_slSlA, freadQ_k, fendA, fallA_one, fstillA_nil, fguardA_tt, fguardA_ff, fguardA_tf, fguardA_ft, fguardA_undef, fpickA_true, fpickA_false, fcondA_true, fcondA_false, binA_add, binA_sub, binA_mul, binA_eql, binA_neq, binA_lss, binA_leq, binA_gtr, binA_geq, unA_not, Bool.not_true, Bool.not_false, convA_int, extA_tuple, List.getElem?_toArray, List.getElem?_cons_zero, List.getElem?_cons_succ]
    refine loadA_at hB1 hb1 n1 ?_
    simp only [lenSl_slice, lenStr_string, str_size, fpureA_some, fnilA_ptr, faddA_ptr, addr_add, Nat.zero_add, Nat.add_zero, fpureQ_k, fpureQ_nilA, fpureQ_addA, fpureQ_pureA, fpureQ_guardA, fpureQ_idxSlA, fpureQ_pickA, freadQ_loadA, freadQ_loadNA, freadQ_b2sA, freadQ_guardA, freadQ_slSlA, freadQ_k, fendA, fallA_one, fstillA_nil, fguardA_tt, fguardA_ff, fguardA_tf, fguardA_ft, fguardA_undef, fpickA_true, fpickA_false, fcondA_true, fcondA_false, binA_add, binA_sub, binA_mul, binA_eql, binA_neq, binA_lss, binA_leq, binA_gtr, binA_geq, unA_not, Bool.not_true, Bool.not_false, convA_int, extA_tuple, List.getElem?_toArray, List.getElem?_cons_zero, List.getElem?_cons_succ, e8]
    refine ⟨size + 1, ?_⟩
    refine laid_inner (show pre.length < l.length by omega) n2 p1 hM p3 hN p2 d1 (fun b hb => d0 b (by simp [hb])) size 0 h L (by omega) g0 gx gv hf fun h2 L2 g2 f2 ag s2 => ?_
    simp only [lenSl_slice, lenStr_string, str_size, fpureA_some, fnilA_ptr, faddA_ptr, addr_add, Nat.zero_add, Nat.add_zero, fpureQ_k, fpureQ_nilA, fpureQ_addA, fpureQ_pureA, fpureQ_guardA, fpureQ_idxSlA, fpureQ_pickA, freadQ_loadA, freadQ_loadNA, freadQ_b2sA, freadQ_guardA, freadQ_slSlA, freadQ_k, fendA, fallA_one, fstillA_nil, fguardA_tt, fguardA_ff, fguardA_tf, fguardA_ft, fguardA_undef, fpickA_true, fpickA_false, fcondA_true, fcondA_false, binA_add, binA_sub, binA_mul, binA_eql, binA_neq, binA_lss, binA_leq, binA_gtr, binA_geq, unA_not, Bool.not_true, Bool.not_false, convA_int, extA_tuple, List.getElem?_toArray, List.getElem?_cons_zero, List.getElem?_cons_succ, e5]
    have := ih (pre ++ [p]) h2 L2 S1 (by simpa using he) g2 (gx.frame s2 d1) (by
      have := qx.frame s2 (fun b hb => d0 b (by simp [hb]))
      simpa using this) (fun b hb => d0 b (by simp [hb])) f2 (fun h3 L3 g3 f3 ag3 s3 => hK h3 L3 g3 f3 (fun j hj => ?_) (s2.trans s3))
    · simpa using this
    · refine ag3 j ?_
      rcases hj with e | ⟨q, hq, e⟩
      · exact .inl (ag j (.inl e))
      · rcases List.mem_cons.1 hq with rfl | hq
        · exact .inl (ag j (.inr (by omega)))
        · exact .inr ⟨q, hq, e⟩
theorem laid_spec {x0 x2 : Value} {M L : List UInt8} {size N : Nat} {l : List (Nat × List UInt8)} {S SO : List Nat} (hM : M.length = N) (hN : N ≤ 1000000000) (hsz : size ≤ 1000000000) (hs0 : 0 < size) (hl : l.length ≤ 1000000000)
    (hrl : ∀ p, p ∈ l → p.2 = secAt size M p.1 ∧ p.2.length = size ∧ p.1 * size + size ≤ N) (g0 : GV w0 h 1 x0 N (bvs L) S) (vx : TV w0 h x2 l SO) (d : ∀ b, b ∈ SO → b ∉ S) (hf : fills L M) :
    ACalls prog w0 n_deduplaw13_laid [x0, .int .i64 (size : Int), x2] h fun r h' => r = .bool true ∧ ∃ L2, GV w0 h' 1 x0 N (bvs L2) S ∧ fills L2 M ∧ (∀ j : Nat, (L[j]? = M[j]? ∨ ∃ p, p ∈ l ∧ p.1 * size ≤ j ∧ j < p.1 * size + size) → L2[j]? = M[j]?) ∧ Step h h' S S := by
  obtain ⟨ax, cx, hx⟩ := vx.slice
  obtain ⟨a0, c0, hx0⟩ := g0.slice
  refine ACalls.of_fit (by rw [hx, hx0]; simp) fun f => c_deduplaw13_laid (by rw [hx, hx0]; simp) ?_
  obtain ⟨vs, Tx, S0, gx, qx, dx, rfl⟩ := vx
  simp only [s_deduplaw13_laid]
  refine ⟨l.length + 1, laid_loop hM hN hsz hs0 hl (by rw [qx.len]; simp) hrl (fun b hb => d b (by simp [hb])) l [] h L S0 rfl g0 gx qx (fun b hb => d b (by simp [hb])) hf fun h2 L2 g2 f2 ag s => ?_⟩
  simp only [retA_iff, oneOf_one]
  exact ⟨by simp, by trivial, L2, g2, f2, ag, s⟩
end
end Go.Proofs.Ytfhamcobfpmgbaa.Ah
