/- What a container holds, plain; as it lies; pack.Pack: New, Left, Mark. -/
import Derived.Test.YtfhamcobfpmgbaaPb
set_option linter.unusedVariables false
set_option linter.unusedSimpArgs false
namespace Go.Proofs.Ytfhamcobfpmgbaa.Ah
open Go

/-- What a container holds. -/
structure PS where
  size : Nat
  count : Nat
  id : Nat
  chunks : List (List UInt8)
  shut : Bool
  last : Option (List UInt8)
  taken : Nat
  closed : Bool
def dpak : List UInt8 := [68, 80, 65, 75]
def dfot : List UInt8 := [68, 70, 79, 84]
def slotB (c : List UInt8) : List UInt8 := be 4 c.length ++ be 4 (crcOf (be 4 c.length ++ c)) ++ c
@[simp] theorem slotB_length (c : List UInt8) : (slotB c).length = 8 + c.length := by simp [slotB]; omega
def endOf : List (List UInt8) → Nat
  | [] => 16
  | c :: cs => endOf cs + 8 + c.length
theorem endOf_append (a b : List (List UInt8)) : endOf (a ++ b) + 16 = endOf a + endOf b := by
  induction a with
  | nil => simp [endOf]; omega
  | cons c a ih => simp only [List.cons_append, endOf]; omega
theorem endOf_snoc (a : List (List UInt8)) (c : List UInt8) : endOf (a ++ [c]) = endOf a + 8 + c.length := by
  have := endOf_append a [c]
  simp only [endOf] at this
  omega
theorem endOf_ge (a : List (List UInt8)) : 16 ≤ endOf a := by
  induction a with
  | nil => simp [endOf]
  | cons c a ih => simp only [endOf]; omega
theorem endOf_take (a : List (List UInt8)) (n : Nat) : endOf (a.take n) ≤ endOf a := by
  have := endOf_append (a.take n) (a.drop n)
  rw [List.take_append_drop] at this
  have := endOf_ge (a.drop n)
  omega
def bodyB (id count : Nat) (cs : List (List UInt8)) : List UInt8 := mark16 dpak id count ++ cs.flatMap slotB
theorem bodyB_length (id count : Nat) (cs : List (List UInt8)) : (bodyB id count cs).length = endOf cs := by
  have h1 : (mark16 dpak id count).length = 16 := mark16_length rfl _ _
  have h2 : ∀ l : List (List UInt8), (l.flatMap slotB).length + 16 = endOf l := by
    intro l
    induction l with
    | nil => simp [endOf]
    | cons c l ih => simp only [List.flatMap_cons, List.length_append, slotB_length, endOf]; omega
  have := h2 cs
  simp only [bodyB, List.length_append, h1]
  omega
theorem bodyB_snoc (id count : Nat) (cs : List (List UInt8)) (c : List UInt8) : bodyB id count (cs ++ [c]) = bodyB id count cs ++ slotB c := by simp [bodyB]
def PS.bytes (st : PS) : Nat := st.size * st.count
def PS.foot (st : PS) : List UInt8 := if st.shut then mark16 dfot st.chunks.length (endOf st.chunks) else List.replicate 16 0
theorem PS.foot_length (st : PS) : st.foot.length = 16 := by
  unfold PS.foot
  split
  · exact mark16_length rfl _ _
  · simp
def PS.image (st : PS) : List UInt8 := bodyB st.id st.count st.chunks ++ List.replicate (st.bytes - 16 - endOf st.chunks) 0 ++ st.foot
/-- Where the slots lie. -/
def slotsFrom : Nat → List (List UInt8) → List (Nat × Nat)
  | _, [] => []
  | a, c :: cs => (a + 8, c.length) :: slotsFrom (a + 8 + c.length) cs
theorem slotsFrom_append : ∀ (a b : List (List UInt8)) (k : Nat), slotsFrom k (a ++ b) = slotsFrom k a ++ slotsFrom (k + endOf a - 16) b := by
  intro a
  induction a with
  | nil => intro b k; simp [slotsFrom, endOf]
  | cons c a ih =>
    intro b k
    have := endOf_ge a
    simp only [List.cons_append, slotsFrom, ih, endOf]
    congr 3
    omega
@[simp] theorem slotsFrom_length : ∀ (a : List (List UInt8)) (k : Nat), (slotsFrom k a).length = a.length := by
  intro a
  induction a with
  | nil => intro k; rfl
  | cons c a ih => intro k; simp [slotsFrom, ih]
theorem slotsFrom_snoc (a : List (List UInt8)) (c : List UInt8) : slotsFrom 16 (a ++ [c]) = slotsFrom 16 a ++ [(endOf a + 8, c.length)] := by
  rw [slotsFrom_append]
  have := endOf_ge a
  simp only [slotsFrom]
  congr 3
  omega
theorem slotsFrom_take (a : List (List UInt8)) (n k : Nat) : (slotsFrom k a).take n = slotsFrom k (a.take n) := by
  have h1 := slotsFrom_append (a.take n) (a.drop n) k
  rw [List.take_append_drop] at h1
  rw [h1]
  by_cases hn : n ≤ a.length
  · rw [List.take_left' (by simp; omega)]
  · rw [List.take_of_length_le (by simp; omega), List.drop_eq_nil_of_le (by omega)]
    simp [slotsFrom]
def slotC (l : List (Nat × Nat)) : List Value := l.flatMap fun p => [.int .i64 (p.1 : Int), .int .i64 (p.2 : Int)]
theorem slotC_len (l : List (Nat × Nat)) : (slotC l).length = l.length * 2 := flat_len (s := 2) (fun _ => rfl) l
theorem slotC_get {l : List (Nat × Nat)} {i : Nat} {p : Nat × Nat} (hi : l[i]? = some p) : (slotC l)[i * 2]? = some (.int .i64 p.1) ∧ (slotC l)[i * 2 + 1]? = some (.int .i64 p.2) :=
  ⟨by have := flat_get (e := fun p : Nat × Nat => [(.int .i64 (p.1 : Int) : Value), .int .i64 (p.2 : Int)]) (s := 2) (fun _ => rfl) hi (show 0 < 2 by omega); simpa [slotC] using this,
   by have := flat_get (e := fun p : Nat × Nat => [(.int .i64 (p.1 : Int) : Value), .int .i64 (p.2 : Int)]) (s := 2) (fun _ => rfl) hi (show 1 < 2 by omega); simpa [slotC] using this⟩
theorem slotC_take (l : List (Nat × Nat)) (n : Nat) : (slotC l).take (n * 2) = slotC (l.take n) := by
  by_cases hn : n ≤ l.length
  · have h1 : slotC l = slotC (l.take n) ++ slotC (l.drop n) := by rw [slotC, slotC, slotC, ← List.flatMap_append, List.take_append_drop]
    rw [h1, List.take_left' (by rw [slotC_len]; simp; omega)]
  · rw [List.take_of_length_le (by rw [slotC_len]; omega), List.take_of_length_le (by omega)]
/-- Which containers there are. -/
structure PS.Ok (st : PS) : Prop where
  size : 512 ≤ st.size ∧ st.size ≤ 4096
  count : 1 ≤ st.count ∧ st.count ≤ 64
  id : st.id < 4294967296
  room : endOf st.chunks + 16 ≤ st.bytes
  ne : ∀ c, c ∈ st.chunks → c ≠ []
  taken : st.taken ≤ st.chunks.length
  closed : st.closed = true → st.shut = true ∧ st.taken = st.chunks.length
  last : ∀ t, st.last = some t → t.length = st.bytes
theorem PS.Ok.bytes {st : PS} (o : st.Ok) : 512 ≤ st.bytes ∧ st.bytes ≤ 262144 := by
  have h1 := o.size
  have h2 := o.count
  unfold PS.bytes
  have := Nat.mul_le_mul h1.1 h2.1
  have := Nat.mul_le_mul h1.2 h2.2
  omega
theorem PS.Ok.image {st : PS} (o : st.Ok) : st.image.length = st.bytes := by
  have := o.room
  simp only [PS.image, List.length_append, bodyB_length, List.length_replicate, PS.foot_length]
  omega
theorem chunks_le {cs : List (List UInt8)} : cs.length ≤ endOf cs := by
  induction cs with
  | nil => simp
  | cons c cs ih => simp only [List.length_cons, endOf]; omega
def PS.left (st : PS) : Nat := if st.shut then 0 else st.bytes - 16 - endOf st.chunks - 8
/-- A chunk is laid: where, how long, what is told. -/
def PS.append (st : PS) (b : List UInt8) : (Nat × Nat × Int) × PS :=
  if st.shut then ((0, 0, 6), st) else if b = [] then ((0, 0, 1), st) else if st.left < b.length then ((0, 0, 2), st)
  else ((endOf st.chunks + 8, b.length, 0), { st with chunks := st.chunks ++ [b] })
theorem PS.Ok.append {st : PS} (o : st.Ok) (b : List UInt8) : (st.append b).2.Ok := by
  unfold PS.append
  split
  · exact o
  split
  · exact o
  split
  · exact o
  rename_i h1 h2 h3
  have h4 := o.room
  have h5 : 0 < b.length := List.length_pos_iff.2 h2
  simp only [PS.left, h1] at h3
  refine ⟨o.size, o.count, o.id, ?_, fun c hc => ?_, ?_, fun hc => absurd (o.closed hc).1 h1, o.last⟩
  · show endOf (st.chunks ++ [b]) + 16 ≤ st.bytes
    rw [endOf_snoc]
    simp at h3
    omega
  · rcases List.mem_append.1 hc with e | e
    · exact o.ne c e
    · simp at e; subst e; exact h2
  · have := o.taken; simp; omega
/-- What the image becomes. -/
theorem image_append {st : PS} (o : st.Ok) (hs : st.shut = false) {b : List UInt8} (hb : endOf st.chunks + 8 + b.length + 16 ≤ st.bytes) :
    st.image.take (endOf st.chunks) ++ slotB b ++ st.image.drop (endOf st.chunks + (slotB b).length) = ({ st with chunks := st.chunks ++ [b] } : PS).image := by
  have hl := bodyB_length st.id st.count st.chunks
  simp only [PS.image, PS.foot, hs, bodyB_snoc, PS.bytes, endOf_snoc]
  have hb : endOf st.chunks + 8 + b.length + 16 ≤ st.size * st.count := hb
  simp only [Bool.false_eq_true, if_false]
  have e1 : ((bodyB st.id st.count st.chunks ++ List.replicate (st.size * st.count - 16 - endOf st.chunks) 0 ++ List.replicate 16 0)).take (endOf st.chunks) = bodyB st.id st.count st.chunks := by
    rw [List.append_assoc, List.take_left' hl]
  have e2 : ((bodyB st.id st.count st.chunks ++ List.replicate (st.size * st.count - 16 - endOf st.chunks) 0 ++ List.replicate 16 0)).drop (endOf st.chunks + (slotB b).length) = List.replicate (st.size * st.count - 16 - (endOf st.chunks + 8 + b.length)) 0 ++ List.replicate 16 (0 : UInt8) := by
    rw [List.append_assoc, ← List.drop_drop, List.drop_left' hl, slotB_length, List.drop_append_of_le_length (by simp; omega), List.drop_replicate]
    congr 2
    omega
  rw [e1, e2]
  simp
/-- The chunk of a slot. -/
def readFrom : Nat → List (List UInt8) → Int → Int → Option (List UInt8)
  | _, [], _, _ => none
  | a, c :: cs, o, n => if o = ((a + 8 : Nat) : Int) ∧ n = (c.length : Int) then some c else readFrom (a + 8 + c.length) cs o n
theorem readFrom_some : ∀ (cs : List (List UInt8)) (a : Nat) (o n : Int), (readFrom a cs o n).isSome = (slotsFrom a cs).any (fun p => o == (p.1 : Int) && n == (p.2 : Int)) := by
  intro cs
  induction cs with
  | nil => intro a o n; rfl
  | cons c cs ih =>
    intro a o n
    simp only [readFrom, slotsFrom, List.any_cons]
    by_cases h : o = ((a + 8 : Nat) : Int) ∧ n = (c.length : Int)
    · rw [if_pos h, h.1, h.2]; simp
    · rw [if_neg h, ih]
      have : (o == ((a + 8 : Nat) : Int) && n == (c.length : Int)) = false := by
        rw [Bool.and_eq_false_iff, beq_eq_false_iff_ne, beq_eq_false_iff_ne]
        by_cases h1 : o = ((a + 8 : Nat) : Int)
        · exact .inr fun h2 => h ⟨h1, h2⟩
        · exact .inl h1
      rw [this, Bool.false_or]
/-- It lies in the image. -/
theorem readFrom_cut : ∀ (cs : List (List UInt8)) (pre : List UInt8) (suf : List UInt8) (o n : Int) (c : List UInt8), readFrom pre.length cs o n = some c →
    ∃ k m : Nat, o = (k : Int) ∧ n = (m : Int) ∧ 8 ≤ k ∧ k + m ≤ pre.length + (cs.flatMap slotB).length ∧ c ∈ cs ∧ c.length = m ∧ ((pre ++ cs.flatMap slotB ++ suf).drop k).take m = c := by
  intro cs
  induction cs with
  | nil => intro pre suf o n c h; simp [readFrom] at h
  | cons d cs ih =>
    intro pre suf o n c h
    simp only [readFrom] at h
    split at h
    · rename_i h1
      simp at h
      subst h
      refine ⟨pre.length + 8, d.length, h1.1, h1.2, by omega, by simp; omega, by simp, rfl, ?_⟩
      have : pre ++ (d :: cs).flatMap slotB ++ suf = (pre ++ (be 4 d.length ++ be 4 (crcOf (be 4 d.length ++ d)))) ++ (d ++ (cs.flatMap slotB ++ suf)) := by simp [slotB]
      rw [this, List.drop_left' (by simp), List.take_left' rfl]
    · have := ih (pre ++ slotB d) suf o n c (by rw [List.length_append, slotB_length, ← Nat.add_assoc]; exact h)
      obtain ⟨k, m, h1, h2, h3, h4, h5, h6, h7⟩ := this
      refine ⟨k, m, h1, h2, h3, by simp at h4 ⊢; omega, by simp [h5], h6, ?_⟩
      simpa using h7
def PS.read (st : PS) (o n : Int) : Option (List UInt8) := readFrom 16 st.chunks o n
theorem PS.Ok.read {st : PS} (ok : st.Ok) {o n : Int} {c : List UInt8} (h : st.read o n = some c) : ∃ k m : Nat, o = (k : Int) ∧ n = (m : Int) ∧ k + m ≤ st.bytes ∧ c ≠ [] ∧ c.length = m ∧ (st.image.drop k).take m = c := by
  have h16 : (mark16 dpak st.id st.count).length = 16 := mark16_length rfl _ _
  obtain ⟨k, m, h1, h2, -, h4, h5, h6, h7⟩ := readFrom_cut st.chunks (mark16 dpak st.id st.count) (List.replicate (st.bytes - 16 - endOf st.chunks) 0 ++ st.foot) o n c (by rw [h16]; exact h)
  have := bodyB_length st.id st.count st.chunks
  simp only [bodyB, List.length_append] at this
  have := ok.room
  refine ⟨k, m, h1, h2, by omega, ok.ne c h5, h6, ?_⟩
  rw [← h7]
  simp [PS.image, bodyB]

/-! ### As it lies -/
structure Sep (p : Nat) (A B C : List Nat) : Prop where
  pa : p ∉ A
  pb : p ∉ B
  pc : p ∉ C
  ab : ∀ b, b ∈ A → b ∉ B
  ac : ∀ b, b ∈ A → b ∉ C
  bc : ∀ b, b ∈ B → b ∉ C
def LastV (w0 : World) (h : Hp) (x : Value) (t : Option (List UInt8)) (T : List Nat) : Prop :=
  match t with
  | none => x = .slice none 0 0 ∧ T = []
  | some t => GV w0 h 1 x t.length (bvs t) T
theorem LastV.lt {w0 : World} {h : Hp} {x : Value} {t : Option (List UInt8)} {T : List Nat} (v : LastV w0 h x t T) : ∀ b, b ∈ T → w0.heap.size ≤ b ∧ b < h.next := by
  cases t with
  | none => obtain ⟨-, rfl⟩ := v; simp
  | some t => exact GV.lt v
theorem LastV.frame {w0 : World} {h h' : Hp} {x : Value} {t : Option (List UInt8)} {T S S' : List Nat} (v : LastV w0 h x t T) (st : Step h h' S S') (hd : ∀ b, b ∈ T → b ∉ S) : LastV w0 h' x t T := by
  cases t with
  | none => exact v
  | some t => exact GV.frame v st hd
theorem LastV.slice {w0 : World} {h : Hp} {x : Value} {t : Option (List UInt8)} {T : List Nat} (v : LastV w0 h x t T) : ∃ a n c, x = .slice a n c := by
  cases t with
  | none => obtain ⟨rfl, -⟩ := v; exact ⟨_, _, _, rfl⟩
  | some t => obtain ⟨a, c, e⟩ := GV.slice v; exact ⟨a, _, c, e⟩
def pkC (st : PS) (xi xs xt : Value) : List Value :=
  [.int .i64 st.size, .int .i64 st.count, .int .u32 st.id, xi, xs, .bool st.shut, xt, .int .i64 st.taken, .bool st.closed]
/-- The program's container. -/
structure Pk1 (w0 : World) (h : Hp) (p : Nat) (st : PS) (xi xs xt : Value) (A B C : List Nat) : Prop where
  blk : h.blk p = some (pkC st xi xs xt)
  base : w0.heap.size ≤ p
  lt : p < h.next
  vi : GV w0 h 1 xi st.image.length (bvs st.image) A
  vs : GV w0 h 2 xs st.chunks.length (slotC (slotsFrom 16 st.chunks)) B
  vt : LastV w0 h xt st.last C
  sep : Sep p A B C
def Pk (w0 : World) (h : Hp) (p : Nat) (st : PS) (S : List Nat) : Prop := ∃ xi xs xt A B C, Pk1 w0 h p st xi xs xt A B C ∧ S = p :: (A ++ (B ++ C))
section
variable {w0 : World} {h h' : Hp} {p : Nat} {st : PS} {S : List Nat}
theorem Pk.lts (w : Pk w0 h p st S) : ∀ b, b ∈ S → w0.heap.size ≤ b ∧ b < h.next := by
  obtain ⟨xi, xs, xt, A, B, C, w, rfl⟩ := w
  intro b hb
  simp only [List.mem_cons, List.mem_append] at hb
  rcases hb with rfl | hb | hb | hb
  · exact ⟨w.base, w.lt⟩
  · exact w.vi.lt b hb
  · exact w.vs.lt b hb
  · exact w.vt.lt b hb
theorem Pk.mem (w : Pk w0 h p st S) : p ∈ S := by obtain ⟨xi, xs, xt, A, B, C, w, rfl⟩ := w; simp
theorem Pk.refl (w : Pk w0 h p st S) : Step h h S S := Step.refl _ _ fun b hb => (w.lts b hb).2
theorem Pk1.frame {xi xs xt : Value} {A B C T T' : List Nat} (w : Pk1 w0 h p st xi xs xt A B C) (s : Step h h' T T') (hd : ∀ b, b ∈ p :: (A ++ (B ++ C)) → b ∉ T) : Pk1 w0 h' p st xi xs xt A B C :=
  ⟨(s.keep p w.lt (hd p (by simp))).1.trans w.blk, w.base, Nat.lt_of_lt_of_le w.lt s.next, w.vi.frame s fun b hb => hd b (by simp [hb]), w.vs.frame s fun b hb => hd b (by simp [hb]), w.vt.frame s fun b hb => hd b (by simp [hb]), w.sep⟩
theorem Pk.frame {T T' : List Nat} (w : Pk w0 h p st S) (s : Step h h' T T') (hd : ∀ b, b ∈ S → b ∉ T) : Pk w0 h' p st S := by
  obtain ⟨xi, xs, xt, A, B, C, w, rfl⟩ := w
  exact ⟨xi, xs, xt, A, B, C, w.frame s hd, rfl⟩
/-- An element of a slice of one's own. -/
theorem GV.idx {s n i : Nat} {x : Value} {cs : List Value} {T : List Nat} {k : IntKind} {K : Kont} (v : GV w0 h s x n cs T) (hi : i < n) (hk : ∀ q, q ∈ T → w0.heap.size ≤ q → h.blk q = some cs → K (.pointer (some ⟨q, i * s, none⟩)) h) :
    idxSlA s x (.int k (i : Int)) K h := by
  rcases v with v | ⟨q, rfl, rfl, a, b, c, _, f⟩
  · rcases v with ⟨rfl, rfl, rfl, rfl⟩ | ⟨q, rfl, rfl, a, b, d, e', f⟩
    · omega
    · rw [idxSlA_iff]
      refine ⟨by omega, by omega, ?_⟩
      rw [addr_add, Int.toNat_natCast, Nat.zero_add]
      exact hk q (by simp) a d
  · rw [idxSlA_iff]
    refine ⟨by omega, by omega, ?_⟩
    rw [addr_add, Int.toNat_natCast, Nat.zero_add]
    exact hk q (by simp) a c
end

section
variable {w0 : World} {h : Hp} {p : Nat} {st : PS} {S : List Nat}
theorem pmade_spec (w : Pk w0 h p st S) (o : st.Ok) : ACalls prog w0 n_pack_Pack_made [ptr p] h fun v h' => v = .bool true ∧ h' = h := by
  refine ACalls.of_fit (by simp [ptr]) fun f => c_pack_Pack_made (by simp [ptr]) ?_
  obtain ⟨xi, xs, xt, A, B, C, w, -⟩ := w
  have hs := o.size
  have c1 : decide ((0 : Int) < (st.size : Int)) = true := decide_eq_true (by omega)
  simp only [s_pack_Pack_made, ptr, binPtrA_neq, lenSl_slice, lenStr_string, str_size, fpureA_some, fnilA_ptr, faddA_ptr, addr_add, Nat.zero_add, Nat.add_zero, fpureQ_k, fpureQ_nilA, fpureQ_addA, fpureQ_pureA, fpureQ_guardA, fpureQ_idxSlA, fpureQ_pickA, freadQ_loadA, freadQ_loadNA, freadQ_b2sA, freadQ_guardA, freadQ_slSlA, freadQ_k, fendA, fallA_one, fstillA_nil, fguardA_tt, fguardA_ff, fguardA_tf, fguardA_ft, fguardA_undef, fpickA_true, fpickA_false, fcondA_true, fcondA_false, binA_add, binA_sub, binA_mul, binA_eql, binA_neq, binA_lss, binA_leq, binA_gtr, binA_geq, unA_not, Bool.not_true, Bool.not_false, convA_int, extA_tuple, List.getElem?_toArray, List.getElem?_cons_zero, List.getElem?_cons_succ]
  refine loadA_at w.base w.blk (by rfl) ?_
  simp only [lenSl_slice, lenStr_string, str_size, fpureA_some, fnilA_ptr, faddA_ptr, addr_add, Nat.zero_add, Nat.add_zero, fpureQ_k, fpureQ_nilA, fpureQ_addA, fpureQ_pureA, fpureQ_guardA, fpureQ_idxSlA, fpureQ_pickA, freadQ_loadA, freadQ_loadNA, freadQ_b2sA, freadQ_guardA, freadQ_slSlA, freadQ_k, fendA, fallA_one, fstillA_nil, fguardA_tt, fguardA_ff, fguardA_tf, fguardA_ft, fguardA_undef, fpickA_true, fpickA_false, fcondA_true, fcondA_false, binA_add, binA_sub, binA_mul, binA_eql, binA_neq, binA_lss, binA_leq, binA_gtr, binA_geq, unA_not, Bool.not_true, Bool.not_false, convA_int, extA_tuple, List.getElem?_toArray, List.getElem?_cons_zero, List.getElem?_cons_succ, c1, retA_iff, oneOf_one]
  simp
theorem pmade_nil : ACalls prog w0 n_pack_Pack_made [.pointer none] h fun v h' => v = .bool false ∧ h' = h := by
  refine ACalls.of_fit (by simp) fun f => c_pack_Pack_made (by simp) ?_
  simp only [s_pack_Pack_made, binPtrA_neq0, lenSl_slice, lenStr_string, str_size, fpureA_some, fnilA_ptr, faddA_ptr, addr_add, Nat.zero_add, Nat.add_zero, fpureQ_k, fpureQ_nilA, fpureQ_addA, fpureQ_pureA, fpureQ_guardA, fpureQ_idxSlA, fpureQ_pickA, freadQ_loadA, freadQ_loadNA, freadQ_b2sA, freadQ_guardA, freadQ_slSlA, freadQ_k, fendA, fallA_one, fstillA_nil, fguardA_tt, fguardA_ff, fguardA_tf, fguardA_ft, fguardA_undef, fpickA_true, fpickA_false, fcondA_true, fcondA_false, binA_add, binA_sub, binA_mul, binA_eql, binA_neq, binA_lss, binA_leq, binA_gtr, binA_geq, unA_not, Bool.not_true, Bool.not_false, convA_int, extA_tuple, List.getElem?_toArray, List.getElem?_cons_zero, List.getElem?_cons_succ, retA_iff, oneOf_one]
  simp
theorem pend_spec (w : Pk w0 h p st S) (o : st.Ok) : ACalls prog w0 n_pack_Pack_end [ptr p] h fun v h' => v = .int .i64 (endOf st.chunks) ∧ h' = h := by
  refine ACalls.of_fit (by simp [ptr]) fun f => c_pack_Pack_end (by simp [ptr]) ?_
  obtain ⟨xi, xs, xt, A, B, C, w, -⟩ := w
  have hr := o.room
  have hb := o.bytes
  simp only [s_pack_Pack_end, ptr, lenSl_slice, lenStr_string, str_size, fpureA_some, fnilA_ptr, faddA_ptr, addr_add, Nat.zero_add, Nat.add_zero, fpureQ_k, fpureQ_nilA, fpureQ_addA, fpureQ_pureA, fpureQ_guardA, fpureQ_idxSlA, fpureQ_pickA, freadQ_loadA, freadQ_loadNA, freadQ_b2sA, freadQ_guardA, freadQ_slSlA, freadQ_k, fendA, fallA_one, fstillA_nil, fguardA_tt, fguardA_ff, fguardA_tf, fguardA_ft, fguardA_undef, fpickA_true, fpickA_false, fcondA_true, fcondA_false, binA_add, binA_sub, binA_mul, binA_eql, binA_neq, binA_lss, binA_leq, binA_gtr, binA_geq, unA_not, Bool.not_true, Bool.not_false, convA_int, extA_tuple, List.getElem?_toArray, List.getElem?_cons_zero, List.getElem?_cons_succ]
  refine loadA_at w.base w.blk (by rfl) ?_
  obtain ⟨a, c, hx⟩ := w.vs.slice
  have hl : lenSl xs = some (.int .i64 st.chunks.length) := by rw [hx]; rfl
  simp only [hl, lenSl_slice, lenStr_string, str_size, fpureA_some, fnilA_ptr, faddA_ptr, addr_add, Nat.zero_add, Nat.add_zero, fpureQ_k, fpureQ_nilA, fpureQ_addA, fpureQ_pureA, fpureQ_guardA, fpureQ_idxSlA, fpureQ_pickA, freadQ_loadA, freadQ_loadNA, freadQ_b2sA, freadQ_guardA, freadQ_slSlA, freadQ_k, fendA, fallA_one, fstillA_nil, fguardA_tt, fguardA_ff, fguardA_tf, fguardA_ft, fguardA_undef, fpickA_true, fpickA_false, fcondA_true, fcondA_false, binA_add, binA_sub, binA_mul, binA_eql, binA_neq, binA_lss, binA_leq, binA_gtr, binA_geq, unA_not, Bool.not_true, Bool.not_false, convA_int, extA_tuple, List.getElem?_toArray, List.getElem?_cons_zero, List.getElem?_cons_succ]
  rcases List.eq_nil_or_concat st.chunks with he | ⟨cs, d, he⟩
  · have c1 : decide ((0 : Int) < (st.chunks.length : Int)) = false := decide_eq_false (by rw [he]; simp)
    simp only [c1, lenSl_slice, lenStr_string, str_size, fpureA_some, fnilA_ptr, faddA_ptr, addr_add, Nat.zero_add, Nat.add_zero, fpureQ_k, fpureQ_nilA, fpureQ_addA, fpureQ_pureA, fpureQ_guardA, fpureQ_idxSlA, fpureQ_pickA, freadQ_loadA, freadQ_loadNA, freadQ_b2sA, freadQ_guardA, freadQ_slSlA, freadQ_k, fendA, fallA_one, fstillA_nil, fguardA_tt, fguardA_ff, fguardA_tf, fguardA_ft, fguardA_undef, fpickA_true, fpickA_false, fcondA_true, fcondA_false, binA_add, binA_sub, binA_mul, binA_eql, binA_neq, binA_lss, binA_leq, binA_gtr, binA_geq, unA_not, Bool.not_true, Bool.not_false, convA_int, extA_tuple, List.getElem?_toArray, List.getElem?_cons_zero, List.getElem?_cons_succ, retA_iff, oneOf_one, he]
    simp [endOf]
  · rw [List.concat_eq_append] at he
    have hlen : st.chunks.length = cs.length + 1 := by rw [he]; simp
    have hle := chunks_le (cs := st.chunks)
    have hend : endOf st.chunks = endOf cs + 8 + d.length := by rw [he, endOf_snoc]
    have c1 : decide ((0 : Int) < (st.chunks.length : Int)) = true := decide_eq_true (by omega)
    have e1 : IntKind.i64.wrap ((st.chunks.length : Int) - 1) = (cs.length : Int) := by rw [IntWalk.i64_in _ (by omega)]; omega
    have hg : (slotsFrom 16 st.chunks)[cs.length]? = some (endOf cs + 8, d.length) := by
      rw [he, slotsFrom_snoc, List.getElem?_append_right (by simp)]; simp
    obtain ⟨g1, g2⟩ := slotC_get hg
    have e2 : IntKind.i64.wrap (((endOf cs + 8 : Nat) : Int) + (d.length : Int)) = (endOf st.chunks : Int) := by rw [IntWalk.i64_in _ (by omega)]; omega
    simp only [c1, lenSl_slice, lenStr_string, str_size, fpureA_some, fnilA_ptr, faddA_ptr, addr_add, Nat.zero_add, Nat.add_zero, fpureQ_k, fpureQ_nilA, fpureQ_addA, fpureQ_pureA, fpureQ_guardA, fpureQ_idxSlA, fpureQ_pickA, freadQ_loadA, freadQ_loadNA, freadQ_b2sA, freadQ_guardA, freadQ_slSlA, freadQ_k, fendA, fallA_one, fstillA_nil, fguardA_tt, fguardA_ff, fguardA_tf, fguardA_ft, fguardA_undef, fpickA_true, fpickA_false, fcondA_true, fcondA_false, binA_add, binA_sub, binA_mul, binA_eql, binA_neq, binA_lss, binA_leq, binA_gtr, binA_geq, unA_not, Bool.not_true, Bool.not_false, convA_int, extA_tuple, List.getElem?_toArray, List.getElem?_cons_zero, List.getElem?_cons_succ, e1]
    refine loadA_at w.base w.blk (by rfl) ?_
    refine w.vs.idx (by omega) fun q hq hB hbq => ?_
    simp only [lenSl_slice, lenStr_string, str_size, fpureA_some, fnilA_ptr, faddA_ptr, addr_add, Nat.zero_add, Nat.add_zero, fpureQ_k, fpureQ_nilA, fpureQ_addA, fpureQ_pureA, fpureQ_guardA, fpureQ_idxSlA, fpureQ_pickA, freadQ_loadA, freadQ_loadNA, freadQ_b2sA, freadQ_guardA, freadQ_slSlA, freadQ_k, fendA, fallA_one, fstillA_nil, fguardA_tt, fguardA_ff, fguardA_tf, fguardA_ft, fguardA_undef, fpickA_true, fpickA_false, fcondA_true, fcondA_false, binA_add, binA_sub, binA_mul, binA_eql, binA_neq, binA_lss, binA_leq, binA_gtr, binA_geq, unA_not, Bool.not_true, Bool.not_false, convA_int, extA_tuple, List.getElem?_toArray, List.getElem?_cons_zero, List.getElem?_cons_succ]
    refine loadA_at hB hbq g1 ?_
    refine loadA_at w.base w.blk (by rfl) ?_
    refine w.vs.idx (by omega) fun q' hq' hB' hbq' => ?_
    simp only [lenSl_slice, lenStr_string, str_size, fpureA_some, fnilA_ptr, faddA_ptr, addr_add, Nat.zero_add, Nat.add_zero, fpureQ_k, fpureQ_nilA, fpureQ_addA, fpureQ_pureA, fpureQ_guardA, fpureQ_idxSlA, fpureQ_pickA, freadQ_loadA, freadQ_loadNA, freadQ_b2sA, freadQ_guardA, freadQ_slSlA, freadQ_k, fendA, fallA_one, fstillA_nil, fguardA_tt, fguardA_ff, fguardA_tf, fguardA_ft, fguardA_undef, fpickA_true, fpickA_false, fcondA_true, fcondA_false, binA_add, binA_sub, binA_mul, binA_eql, binA_neq, binA_lss, binA_leq, binA_gtr, binA_geq, unA_not, Bool.not_true, Bool.not_false, convA_int, extA_tuple, List.getElem?_toArray, List.getElem?_cons_zero, List.getElem?_cons_succ]
    refine loadA_at hB' hbq' g2 ?_
    simp only [lenSl_slice, lenStr_string, str_size, fpureA_some, fnilA_ptr, faddA_ptr, addr_add, Nat.zero_add, Nat.add_zero, fpureQ_k, fpureQ_nilA, fpureQ_addA, fpureQ_pureA, fpureQ_guardA, fpureQ_idxSlA, fpureQ_pickA, freadQ_loadA, freadQ_loadNA, freadQ_b2sA, freadQ_guardA, freadQ_slSlA, freadQ_k, fendA, fallA_one, fstillA_nil, fguardA_tt, fguardA_ff, fguardA_tf, fguardA_ft, fguardA_undef, fpickA_true, fpickA_false, fcondA_true, fcondA_false, binA_add, binA_sub, binA_mul, binA_eql, binA_neq, binA_lss, binA_leq, binA_gtr, binA_geq, unA_not, Bool.not_true, Bool.not_false, convA_int, extA_tuple, List.getElem?_toArray, List.getElem?_cons_zero, List.getElem?_cons_succ, e2, retA_iff, oneOf_one]
    simp
theorem pLeft_spec (w : Pk w0 h p st S) (o : st.Ok) : ACalls prog w0 n_pack_Pack_Left [ptr p] h fun v h' => v = .int .i64 st.left ∧ h' = h := by
  refine ACalls.of_fit (by simp [ptr]) fun f => c_pack_Pack_Left (by simp [ptr]) ?_
  refine callA_of (pmade_spec w o) fun v h1 ⟨e, e1⟩ f1 => ?_
  subst e e1
  have w' := w
  obtain ⟨xi, xs, xt, A, B, C, w, -⟩ := w
  have hr := o.room
  have hb := o.bytes
  have hi := o.image
  simp only [ptr, lenSl_slice, lenStr_string, str_size, fpureA_some, fnilA_ptr, faddA_ptr, addr_add, Nat.zero_add, Nat.add_zero, fpureQ_k, fpureQ_nilA, fpureQ_addA, fpureQ_pureA, fpureQ_guardA, fpureQ_idxSlA, fpureQ_pickA, freadQ_loadA, freadQ_loadNA, freadQ_b2sA, freadQ_guardA, freadQ_slSlA, freadQ_k, fendA, fallA_one, fstillA_nil, fguardA_tt, fguardA_ff, fguardA_tf, fguardA_ft, fguardA_undef, fpickA_true, fpickA_false, fcondA_true, fcondA_false, binA_add, binA_sub, binA_mul, binA_eql, binA_neq, binA_lss, binA_leq, binA_gtr, binA_geq, unA_not, Bool.not_true, Bool.not_false, convA_int, extA_tuple, List.getElem?_toArray, List.getElem?_cons_zero, List.getElem?_cons_succ]
  refine loadA_at w.base w.blk (by rfl) ?_
  cases hs : st.shut with
  | true =>
    simp only [lenSl_slice, lenStr_string, str_size, fpureA_some, fnilA_ptr, faddA_ptr, addr_add, Nat.zero_add, Nat.add_zero, fpureQ_k, fpureQ_nilA, fpureQ_addA, fpureQ_pureA, fpureQ_guardA, fpureQ_idxSlA, fpureQ_pickA, freadQ_loadA, freadQ_loadNA, freadQ_b2sA, freadQ_guardA, freadQ_slSlA, freadQ_k, fendA, fallA_one, fstillA_nil, fguardA_tt, fguardA_ff, fguardA_tf, fguardA_ft, fguardA_undef, fpickA_true, fpickA_false, fcondA_true, fcondA_false, binA_add, binA_sub, binA_mul, binA_eql, binA_neq, binA_lss, binA_leq, binA_gtr, binA_geq, unA_not, Bool.not_true, Bool.not_false, convA_int, extA_tuple, List.getElem?_toArray, List.getElem?_cons_zero, List.getElem?_cons_succ, retA_iff, oneOf_one, PS.left, hs]
    simp
  | false =>
    have hg := endOf_ge st.chunks
    have e1 : IntKind.i64.wrap ((st.image.length : Int) - 16) = ((st.bytes - 16 : Nat) : Int) := by rw [hi, IntWalk.i64_in _ (by omega)]; omega
    have e2 : IntKind.i64.wrap (((st.bytes - 16 : Nat) : Int) - (endOf st.chunks : Int)) = ((st.bytes - 16 - endOf st.chunks : Nat) : Int) := by rw [IntWalk.i64_in _ (by omega)]; omega
    have e3 : IntKind.i64.wrap (((st.bytes - 16 - endOf st.chunks : Nat) : Int) - 8) = ((st.bytes - 16 - endOf st.chunks : Nat) : Int) - 8 := IntWalk.i64_in _ (by omega)
    have e4 : max (0 : Int) (((st.bytes - 16 - endOf st.chunks : Nat) : Int) - 8) = ((st.bytes - 16 - endOf st.chunks - 8 : Nat) : Int) := by omega
    obtain ⟨a, c, hx⟩ := w.vi.slice
    have hl : lenSl xi = some (.int .i64 st.image.length) := by rw [hx]; rfl
    simp only [lenSl_slice, lenStr_string, str_size, fpureA_some, fnilA_ptr, faddA_ptr, addr_add, Nat.zero_add, Nat.add_zero, fpureQ_k, fpureQ_nilA, fpureQ_addA, fpureQ_pureA, fpureQ_guardA, fpureQ_idxSlA, fpureQ_pickA, freadQ_loadA, freadQ_loadNA, freadQ_b2sA, freadQ_guardA, freadQ_slSlA, freadQ_k, fendA, fallA_one, fstillA_nil, fguardA_tt, fguardA_ff, fguardA_tf, fguardA_ft, fguardA_undef, fpickA_true, fpickA_false, fcondA_true, fcondA_false, binA_add, binA_sub, binA_mul, binA_eql, binA_neq, binA_lss, binA_leq, binA_gtr, binA_geq, unA_not, Bool.not_true, Bool.not_false, convA_int, extA_tuple, List.getElem?_toArray, List.getElem?_cons_zero, List.getElem?_cons_succ]
    refine loadA_at w.base w.blk (by rfl) ?_
    simp only [hl, lenSl_slice, lenStr_string, str_size, fpureA_some, fnilA_ptr, faddA_ptr, addr_add, Nat.zero_add, Nat.add_zero, fpureQ_k, fpureQ_nilA, fpureQ_addA, fpureQ_pureA, fpureQ_guardA, fpureQ_idxSlA, fpureQ_pickA, freadQ_loadA, freadQ_loadNA, freadQ_b2sA, freadQ_guardA, freadQ_slSlA, freadQ_k, fendA, fallA_one, fstillA_nil, fguardA_tt, fguardA_ff, fguardA_tf, fguardA_ft, fguardA_undef, fpickA_true, fpickA_false, fcondA_true, fcondA_false, binA_add, binA_sub, binA_mul, binA_eql, binA_neq, binA_lss, binA_leq, binA_gtr, binA_geq, unA_not, Bool.not_true, Bool.not_false, convA_int, extA_tuple, List.getElem?_toArray, List.getElem?_cons_zero, List.getElem?_cons_succ, e1]
    refine callA_of (pend_spec w' o) fun v h2 ⟨e, e'⟩ f2 => ?_
    subst e e'
    simp only [stillA_iff, allA_cons, allA_one, sameQ_loadA]
    refine ⟨loadA_at w.base w.blk (by rfl) rfl, ?_⟩
    simp only [lenSl_slice, lenStr_string, str_size, fpureA_some, fnilA_ptr, faddA_ptr, addr_add, Nat.zero_add, Nat.add_zero, fpureQ_k, fpureQ_nilA, fpureQ_addA, fpureQ_pureA, fpureQ_guardA, fpureQ_idxSlA, fpureQ_pickA, freadQ_loadA, freadQ_loadNA, freadQ_b2sA, freadQ_guardA, freadQ_slSlA, freadQ_k, fendA, fallA_one, fstillA_nil, fguardA_tt, fguardA_ff, fguardA_tf, fguardA_ft, fguardA_undef, fpickA_true, fpickA_false, fcondA_true, fcondA_false, binA_add, binA_sub, binA_mul, binA_eql, binA_neq, binA_lss, binA_leq, binA_gtr, binA_geq, unA_not, Bool.not_true, Bool.not_false, convA_int, extA_tuple, List.getElem?_toArray, List.getElem?_cons_zero, List.getElem?_cons_succ, e2, e3, foldA_cons, foldA_nil, max2A_int, Option.bind_some, e4, retA_iff, oneOf_one, PS.left, hs]
    simp
theorem pMark_spec (w : Pk w0 h p st S) (o : st.Ok) : ACalls prog w0 n_pack_Pack_Mark [ptr p] h fun v h' => v = .int .i64 st.chunks.length ∧ h' = h := by
  refine ACalls.of_fit (by simp [ptr]) fun f => c_pack_Pack_Mark (by simp [ptr]) ?_
  refine callA_of (pmade_spec w o) fun v h1 ⟨e, e1⟩ f1 => ?_
  subst e e1
  obtain ⟨xi, xs, xt, A, B, C, w, -⟩ := w
  simp only [ptr, lenSl_slice, lenStr_string, str_size, fpureA_some, fnilA_ptr, faddA_ptr, addr_add, Nat.zero_add, Nat.add_zero, fpureQ_k, fpureQ_nilA, fpureQ_addA, fpureQ_pureA, fpureQ_guardA, fpureQ_idxSlA, fpureQ_pickA, freadQ_loadA, freadQ_loadNA, freadQ_b2sA, freadQ_guardA, freadQ_slSlA, freadQ_k, fendA, fallA_one, fstillA_nil, fguardA_tt, fguardA_ff, fguardA_tf, fguardA_ft, fguardA_undef, fpickA_true, fpickA_false, fcondA_true, fcondA_false, binA_add, binA_sub, binA_mul, binA_eql, binA_neq, binA_lss, binA_leq, binA_gtr, binA_geq, unA_not, Bool.not_true, Bool.not_false, convA_int, extA_tuple, List.getElem?_toArray, List.getElem?_cons_zero, List.getElem?_cons_succ]
  refine loadA_at w.base w.blk (by rfl) ?_
  obtain ⟨a, c, hx⟩ := w.vs.slice
  have hl : lenSl xs = some (.int .i64 st.chunks.length) := by rw [hx]; rfl
  simp only [hl, lenSl_slice, lenStr_string, str_size, fpureA_some, fnilA_ptr, faddA_ptr, addr_add, Nat.zero_add, Nat.add_zero, fpureQ_k, fpureQ_nilA, fpureQ_addA, fpureQ_pureA, fpureQ_guardA, fpureQ_idxSlA, fpureQ_pickA, freadQ_loadA, freadQ_loadNA, freadQ_b2sA, freadQ_guardA, freadQ_slSlA, freadQ_k, fendA, fallA_one, fstillA_nil, fguardA_tt, fguardA_ff, fguardA_tf, fguardA_ft, fguardA_undef, fpickA_true, fpickA_false, fcondA_true, fcondA_false, binA_add, binA_sub, binA_mul, binA_eql, binA_neq, binA_lss, binA_leq, binA_gtr, binA_geq, unA_not, Bool.not_true, Bool.not_false, convA_int, extA_tuple, List.getElem?_toArray, List.getElem?_cons_zero, List.getElem?_cons_succ, retA_iff, oneOf_one]
  simp
/-- A new container. -/
def PS.new (n s : Int) (id : Nat) : PS := ⟨n.toNat, s.toNat, id, [], false, none, 0, false⟩
theorem pfits_range {n s : Int} (h : pfits n s = true) : 512 ≤ n ∧ n ≤ 4096 ∧ 1 ≤ s ∧ s ≤ 64 := by
  simp only [pfits, Bool.and_eq_true, decide_eq_true_eq] at h
  have := jsize_range h.1.1
  omega
theorem PS.Ok.new {n s : Int} {id : Nat} (h : pfits n s = true) (hid : id < 4294967296) : (PS.new n s id).Ok := by
  obtain ⟨h1, h2, h3, h4⟩ := pfits_range h
  refine ⟨by simp [PS.new]; omega, by simp [PS.new]; omega, hid, ?_, by simp [PS.new], by simp [PS.new], by simp [PS.new], by simp [PS.new]⟩
  have := Nat.mul_le_mul (show 512 ≤ n.toNat by omega) (show 1 ≤ s.toNat by omega)
  simp only [PS.new, PS.bytes, endOf]
  omega
theorem cutV_all {q n : Nat} (hn : n < ucap) (h0 : 0 < n) : cutV 1 (.slice (some ⟨q, 0, none⟩) n n) 0 n = .slice (some ⟨q, 0, none⟩) n n := by
  simp only [cutV]
  rw [if_neg (Nat.ne_of_lt hn), if_neg (by omega)]
  simp
theorem pNew_spec (n s : Int) (id : Nat) (hn : -9223372036854775808 ≤ n ∧ n ≤ 9223372036854775807) (hid : id < 4294967296) :
    ACalls prog w0 n_pack_New [.int .i64 n, .int .i64 s, .int .u32 id] h fun v h' =>
      (pfits n s = true → ∃ q S', v = .tuple #[ptr q, .int .i64 0] ∧ Pk w0 h' q (PS.new n s id) S' ∧ Step h h' [] S') ∧ (pfits n s = false → v = .tuple #[.pointer none, .int .i64 1] ∧ h' = h) := by
  refine ACalls.of_fit (by simp) fun f => c_pack_New (by simp) ?_
  refine callA_of (fits_spec n s hn) fun v h1 ⟨e, e1⟩ f1 => ?_
  subst e e1
  cases hf : pfits n s with
  | false =>
    simp only [lenSl_slice, lenStr_string, str_size, fpureA_some, fnilA_ptr, faddA_ptr, addr_add, Nat.zero_add, Nat.add_zero, fpureQ_k, fpureQ_nilA, fpureQ_addA, fpureQ_pureA, fpureQ_guardA, fpureQ_idxSlA, fpureQ_pickA, freadQ_loadA, freadQ_loadNA, freadQ_b2sA, freadQ_guardA, freadQ_slSlA, freadQ_k, fendA, fallA_one, fstillA_nil, fguardA_tt, fguardA_ff, fguardA_tf, fguardA_ft, fguardA_undef, fpickA_true, fpickA_false, fcondA_true, fcondA_false, binA_add, binA_sub, binA_mul, binA_eql, binA_neq, binA_lss, binA_leq, binA_gtr, binA_geq, unA_not, Bool.not_true, Bool.not_false, convA_int, extA_tuple, List.getElem?_toArray, List.getElem?_cons_zero, List.getElem?_cons_succ, retA_iff, oneOf_two]
    simp
  | true =>
    obtain ⟨r1, r2, r3, r4⟩ := pfits_range hf
    have ok := PS.Ok.new (id := id) hf hid
    obtain ⟨n, rfl⟩ := Int.eq_ofNat_of_zero_le (show 0 ≤ n by omega)
    obtain ⟨s, rfl⟩ := Int.eq_ofNat_of_zero_le (show 0 ≤ s by omega)
    have hm1 := Nat.mul_le_mul (show n ≤ 4096 by omega) (show s ≤ 64 by omega)
    have hm2 := Nat.mul_le_mul (show 512 ≤ n by omega) (show 1 ≤ s by omega)
    have hu : n * s < ucap := by show n * s < 18446744073709551616; omega
    have e1 : IntKind.i64.wrap ((n : Int) * (s : Int)) = ((n * s : Nat) : Int) := by rw [IntWalk.i64_in _ (by rw [← Int.natCast_mul]; omega)]; simp
    have e2 : IntKind.u32.wrap (s : Int) = (s : Int) := IntWalk.u32_in _ (by omega)
    simp only [lenSl_slice, lenStr_string, str_size, fpureA_some, fnilA_ptr, faddA_ptr, addr_add, Nat.zero_add, Nat.add_zero, fpureQ_k, fpureQ_nilA, fpureQ_addA, fpureQ_pureA, fpureQ_guardA, fpureQ_idxSlA, fpureQ_pickA, freadQ_loadA, freadQ_loadNA, freadQ_b2sA, freadQ_guardA, freadQ_slSlA, freadQ_k, fendA, fallA_one, fstillA_nil, fguardA_tt, fguardA_ff, fguardA_tf, fguardA_ft, fguardA_undef, fpickA_true, fpickA_false, fcondA_true, fcondA_false, binA_add, binA_sub, binA_mul, binA_eql, binA_neq, binA_lss, binA_leq, binA_gtr, binA_geq, unA_not, Bool.not_true, Bool.not_false, convA_int, extA_tuple, List.getElem?_toArray, List.getElem?_cons_zero, List.getElem?_cons_succ, e1, mkA_nat]
    refine ⟨Nat.le_refl _, by omega, by omega, ?_⟩
    simp only [buildA_iff, fillA_one, fillA_nil, isCell_int, isCell_slice, true_and, List.set_cons_zero, List.set_cons_succ, List.length_cons, List.length_nil, boxA_agg, List.toList_toArray]
    refine ⟨by omega, by omega, by omega, by omega, ?_⟩
    have s1 : Step h1 (h1.new (zerosL [.int .u8 0] (n * s)) 1) [] [h1.next] := (Step.refl h1 [] (by simp)).new _ _
    have hz : zerosL [(.int .u8 0 : Value)] (n * s) = bvs (List.replicate (n * s) 0) := by rw [zerosL_single]; simp [bvs, bv]
    rw [hz] at s1 ⊢
    have g1 : GV w0 (h1.new (bvs (List.replicate (n * s) 0)) 1) 1 (.slice (some ⟨h1.next, 0, none⟩) (n * s) (n * s)) (List.replicate (n * s) (0 : UInt8)).length (bvs (List.replicate (n * s) 0)) [h1.next] := by
      have := GV.new (w0 := w0) (h := h1) (s := 1) (cs := bvs (List.replicate (n * s) 0)) (n := n * s) (k := 1) f1.base (by simp) hu
      simpa using this
    generalize hh2 : h1.new (bvs (List.replicate (n * s) 0)) 1 = h2 at s1 g1 ⊢
    have hlt2 : h1.next < h2.next := by rw [← hh2]; simp
    have b2 : w0.heap.size ≤ h2.next := Nat.le_trans f1.base (Nat.le_of_lt hlt2)
    have s2 : Step h2 (h2.new [.int .i64 (n : Int), .int .i64 (s : Int), .int .u32 (id : Int), .slice (some ⟨h1.next, 0, none⟩) (n * s) (n * s), .slice none 0 0, .bool false, .slice none 0 0, .int .i64 0, .bool false] 9) [] [h2.next] := (Step.refl h2 [] (by simp)).new _ _
    have hb3 : (h2.new [.int .i64 (n : Int), .int .i64 (s : Int), .int .u32 (id : Int), .slice (some ⟨h1.next, 0, none⟩) (n * s) (n * s), .slice none 0 0, .bool false, .slice none 0 0, .int .i64 0, .bool false] 9).blk h2.next = some [.int .i64 (n : Int), .int .i64 (s : Int), .int .u32 (id : Int), .slice (some ⟨h1.next, 0, none⟩) (n * s) (n * s), .slice none 0 0, .bool false, .slice none 0 0, .int .i64 0, .bool false] := by simp
    have g3 := g1.frame s2 (by simp)
    have hlt3 : h2.next < (h2.new [.int .i64 (n : Int), .int .i64 (s : Int), .int .u32 (id : Int), .slice (some ⟨h1.next, 0, none⟩) (n * s) (n * s), .slice none 0 0, .bool false, .slice none 0 0, .int .i64 0, .bool false] 9).next := by simp
    generalize hh3 : h2.new [.int .i64 (n : Int), .int .i64 (s : Int), .int .u32 (id : Int), .slice (some ⟨h1.next, 0, none⟩) (n * s) (n * s), .slice none 0 0, .bool false, .slice none 0 0, .int .i64 0, .bool false] 9 = h3 at s2 hb3 g3 hlt3 ⊢
    simp only [lenSl_slice, lenStr_string, str_size, fpureA_some, fnilA_ptr, faddA_ptr, addr_add, Nat.zero_add, Nat.add_zero, fpureQ_k, fpureQ_nilA, fpureQ_addA, fpureQ_pureA, fpureQ_guardA, fpureQ_idxSlA, fpureQ_pickA, freadQ_loadA, freadQ_loadNA, freadQ_b2sA, freadQ_guardA, freadQ_slSlA, freadQ_k, fendA, fallA_one, fstillA_nil, fguardA_tt, fguardA_ff, fguardA_tf, fguardA_ft, fguardA_undef, fpickA_true, fpickA_false, fcondA_true, fcondA_false, binA_add, binA_sub, binA_mul, binA_eql, binA_neq, binA_lss, binA_leq, binA_gtr, binA_geq, unA_not, Bool.not_true, Bool.not_false, convA_int, extA_tuple, List.getElem?_toArray, List.getElem?_cons_zero, List.getElem?_cons_succ]
    refine loadA_at b2 hb3 (by rfl) ?_
    simp only [lenSl_slice, lenStr_string, str_size, fpureA_some, fnilA_ptr, faddA_ptr, addr_add, Nat.zero_add, Nat.add_zero, fpureQ_k, fpureQ_nilA, fpureQ_addA, fpureQ_pureA, fpureQ_guardA, fpureQ_idxSlA, fpureQ_pickA, freadQ_loadA, freadQ_loadNA, freadQ_b2sA, freadQ_guardA, freadQ_slSlA, freadQ_k, fendA, fallA_one, fstillA_nil, fguardA_tt, fguardA_ff, fguardA_tf, fguardA_ft, fguardA_undef, fpickA_true, fpickA_false, fcondA_true, fcondA_false, binA_add, binA_sub, binA_mul, binA_eql, binA_neq, binA_lss, binA_leq, binA_gtr, binA_geq, unA_not, Bool.not_true, Bool.not_false, convA_int, extA_tuple, List.getElem?_toArray, List.getElem?_cons_zero, List.getElem?_cons_succ, e2]
    refine callA_of (marked_spec (name := dpak) rfl id s) fun v h4 ⟨e, s4⟩ f4 => ?_
    subst e
    have hb4 := (s4.keep _ hlt3 (by simp)).1.trans hb3
    have g4 := g3.frame s4 (by simp)
    simp only [stillA_iff, allA_cons, allA_one, sameQ_loadA]
    refine ⟨loadA_at b2 hb4 (by rfl) rfl, ?_⟩
    have hm16 : (mark16 dpak id s).length = 16 := mark16_length rfl _ _
    have hrl : (List.replicate (n * s) (0 : UInt8)).length = n * s := by simp
    have hc := g4.copy (y := .string (str (mark16 dpak id s))) (m := mark16 dpak id s) (lo := 0) (hi := n * s) (K := fun v30 => stillA [] (endA (retA [.pointer (some ⟨h2.next, 0, none⟩), .int .i64 0] fun v h' => (true = true → ∃ q S', v = .tuple #[ptr q, .int .i64 0] ∧ Pk w0 h' q (PS.new n s id) S' ∧ Step h1 h' [] S') ∧ (true = false → v = .tuple #[.pointer none, .int .i64 1] ∧ h' = h1))))
      (by omega) (by rw [hrl]; exact Nat.le_refl _) (by omega) (by simp) (by have := src_string (h := h4) w0.heap.size (str (mark16 dpak id s)); simpa using this) (fun r h5 hr5 g5 s5 => by
        simp only [lenSl_slice, lenStr_string, str_size, fpureA_some, fnilA_ptr, faddA_ptr, addr_add, Nat.zero_add, Nat.add_zero, fpureQ_k, fpureQ_nilA, fpureQ_addA, fpureQ_pureA, fpureQ_guardA, fpureQ_idxSlA, fpureQ_pickA, freadQ_loadA, freadQ_loadNA, freadQ_b2sA, freadQ_guardA, freadQ_slSlA, freadQ_k, fendA, fallA_one, fstillA_nil, fguardA_tt, fguardA_ff, fguardA_tf, fguardA_ft, fguardA_undef, fpickA_true, fpickA_false, fcondA_true, fcondA_false, binA_add, binA_sub, binA_mul, binA_eql, binA_neq, binA_lss, binA_leq, binA_gtr, binA_geq, unA_not, Bool.not_true, Bool.not_false, convA_int, extA_tuple, List.getElem?_toArray, List.getElem?_cons_zero, List.getElem?_cons_succ, retA_iff, oneOf_two]
        refine ⟨by simp, fun _ => ⟨h2.next, h2.next :: ([h1.next] ++ ([] ++ [])), rfl, ⟨.slice (some ⟨h1.next, 0, none⟩) (n * s) (n * s), .slice none 0 0, .slice none 0 0, [h1.next], [], [], ⟨?_, b2, ?_, ?_, .inl .nil, ⟨rfl, rfl⟩, ⟨?_, by simp, by simp, by simp, by simp, by simp⟩⟩, rfl⟩, ?_⟩, by simp⟩
        · exact (s5.keep _ (Nat.lt_of_lt_of_le hlt3 s4.next) (by simp; omega)).1.trans hb4
        · exact Nat.lt_of_lt_of_le (Nat.lt_of_lt_of_le hlt3 s4.next) s5.next
        · have hi : (List.replicate (n * s) (0 : UInt8)).take 0 ++ mark16 dpak id s ++ (List.replicate (n * s) (0 : UInt8)).drop (0 + (mark16 dpak id s).length) = (PS.new n s id).image := by
            rw [hm16]
            simp only [PS.image, PS.new, bodyB, PS.foot, PS.bytes, endOf, Int.toNat_natCast, List.flatMap_nil, List.append_nil, List.take_zero, List.nil_append, List.drop_replicate, Bool.false_eq_true, if_false, List.append_assoc, List.replicate_append_replicate]
            congr 2
            omega
          rw [hi] at g5
          rw [ok.image]
          simpa [PS.new, PS.bytes] using g5
        · simp; omega
        · have s15 : Step h1 h5 [] ([h2.next] ++ [h1.next]) := ((s1.trans ((s2.trans (s4.wide (T := [h2.next]) (T' := [h2.next]) (by simp) (fun b hb => .inr ⟨hb, by simp at hb; subst hb; exact hlt3⟩))).more [h1.next] (by simp; exact hlt2))).trans (s5.wide (T := [h2.next] ++ [h1.next]) (T' := [h2.next] ++ [h1.next]) (by simp) (fun b hb => by
            simp at hb
            rcases hb with rfl | rfl
            · exact .inr ⟨by simp, Nat.lt_of_lt_of_le hlt3 s4.next⟩
            · exact .inl (by simp))))
          exact s15.less (by simp))
    have ec : cutV 1 (.slice (some ⟨h1.next, 0, none⟩) (n * s) (n * s)) 0 (n * s) = .slice (some ⟨h1.next, 0, none⟩) (n * s) (n * s) := cutV_all hu (by omega)
    rw [ec] at hc
    simpa only [stillA_iff, allA_cons, allA_one, sameQ_loadA, lenSl_slice, lenStr_string, str_size, fpureA_some, fnilA_ptr, faddA_ptr, addr_add, Nat.zero_add, Nat.add_zero, fpureQ_k, fpureQ_nilA, fpureQ_addA, fpureQ_pureA, fpureQ_guardA, fpureQ_idxSlA, fpureQ_pickA, freadQ_loadA, freadQ_loadNA, freadQ_b2sA, freadQ_guardA, freadQ_slSlA, freadQ_k, fendA, fallA_one, fstillA_nil, fguardA_tt, fguardA_ff, fguardA_tf, fguardA_ft, fguardA_undef, fpickA_true, fpickA_false, fcondA_true, fcondA_false, binA_add, binA_sub, binA_mul, binA_eql, binA_neq, binA_lss, binA_leq, binA_gtr, binA_geq, unA_not, Bool.not_true, Bool.not_false, convA_int, extA_tuple, List.getElem?_toArray, List.getElem?_cons_zero, List.getElem?_cons_succ] using hc
end
end Go.Proofs.Ytfhamcobfpmgbaa.Ah
