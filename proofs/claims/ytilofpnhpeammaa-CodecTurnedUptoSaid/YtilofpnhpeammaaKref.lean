/- dedupref02: Varint, Text, ReadVarint. -/
import Derived.Test.YtilofpnhpeammaaKnum
import Derived.Test.YtilofpnhpeammaaKvi
set_option linter.unusedVariables false
set_option linter.unusedSimpArgs false
namespace Go.Proofs.Ytilofpnhpeammaa.Ah
open Go

theorem rem128 {k : IntKind} {c : Nat} : binA .rem (.int k (c : Int)) (.int k 128) = some (.int k ((c % 128 : Nat) : Int)) := by
  rw [binA_rem _ _ _ (by omega)]
  have : (c : Int).tmod 128 = ((c % 128 : Nat) : Int) := by rw [Int.tmod_eq_emod_of_nonneg (by omega)]; simp
  rw [this]
theorem quo128 {c : Nat} (hc : c < 18446744073709551616) : binA .quo (.int .u64 (c : Int)) (.int .u64 128) = some (.int .u64 ((c / 128 : Nat) : Int)) := by
  rw [binA_quo _ _ _ (by omega)]
  have : (c : Int).tdiv 128 = ((c / 128 : Nat) : Int) := by rw [Int.tdiv_eq_ediv_of_nonneg (by omega)]; simp
  rw [this, IntWalk.u64_in _ (by omega)]
theorem g7_add (n : Nat) : (.int .u8 (IntKind.u8.wrap (IntKind.u8.wrap ((n % 128 : Nat) : Int) + 128)) : Value) = bv (g7 n) := by
  have e1 : IntKind.u8.wrap ((n % 128 : Nat) : Int) = ((n % 128 : Nat) : Int) := IntWalk.u8_in _ (by omega)
  have e2 : IntKind.u8.wrap (((n % 128 : Nat) : Int) + 128) = ((n % 128 : Nat) : Int) + 128 := IntWalk.u8_in _ (by omega)
  rw [e1, e2, g7, bv_ofNat, Nat.mod_eq_of_lt (a := n % 128 + 128) (by omega)]
  simp
theorem rvarint_loop {w0 : World} {K : Value → Value → Hp → Prop} (n : Nat) : ∀ (h : Hp) (x : Value) (pre : List UInt8) (S : List Nat), w0.heap.size ≤ h.next → Vec w0 h 1 x pre.length (bvs pre) S → pre.length + (vi n).length ≤ 100 → n < 18446744073709551616 →
    (∀ (h' : Hp) (x' : Value) (m : Nat) (pre' : List UInt8) (S' : List Nat), m < 128 → Vec w0 h' 1 x' pre'.length (bvs pre') S' → pre' ++ [UInt8.ofNat m] = pre ++ vi n → Step h h' S S' → K (.int .u64 m) x' h') →
    dedupref02_Varint_L1 prog w0 K (vi n).length (.int .u64 n) x h := by
  induction n using vi.induct with
  | case1 n hn =>
    intro h x pre S hf hv hl hb hk
    have e : vi n = [UInt8.ofNat n] := by unfold vi; rw [dif_pos hn]
    rw [e] at hk ⊢
    simp [dedupref02_Varint_L1, dedupref02_Varint_B1, show ¬ (128 : Int) ≤ n by omega]
    exact hk h x n pre S hn hv rfl (.refl _ _ fun b hb => (hv.lt b hb).2)
  | case2 n hn ih =>
    intro h x pre S hf hv hl hb hk
    have e : vi n = g7 n :: vi (n / 128) := by rw [vi]; rw [dif_neg hn]
    rw [e] at hk hl ⊢
    simp at hl
    rw [List.length_cons, dedupref02_Varint_L1]
    have c1 : decide ((128 : Int) ≤ (n : Int)) = true := decide_eq_true (by omega)
    simp only [dedupref02_Varint_B1, binA_geq, pureA_some, c1, condA_true, rem128, convA_int, binA_add, g7_add, quo128 hb]
    simp
    refine appA_vec (w0 := w0) (m := 1) (s := 1) (by_ := 1) (h := h.new [bv (g7 n)] 1) (ys := bvs [g7 n]) (by simp; omega) (hv.new _ _) (by simp) (src_new hf (by simp)) (by simp) (by omega) (by omega) (by omega) (fun x' h' S' hv' st => ?_)
    have st2 : Step h h' S S' := (((Step.refl h S fun b hb => (hv.lt b hb).2).new _ _).less (T := S) (fun b hb => by simp [hb])).trans st
    have := ih h' x' (pre ++ [g7 n]) S' (by have := st2.1; omega) (by simpa using hv') (by simp; omega) (by omega) (fun h2 x2 m pre' S2 hm hv2 hp st3 => hk h2 x2 m pre' S2 hm hv2 (by simpa using hp) (st2.trans st3))
    simpa using this
theorem rVarint_spec {w0 : World} {h : Hp} (n : Nat) (hn : n < 18446744073709551616) :
    ACalls prog w0 n_dedupref02_Varint [.int .u64 n] h fun v h' => v = .string (str (vi n)) ∧ Step h h' [] [] := by
  refine ACalls.of_fit (by simp) fun f => c_dedupref02_Varint (by simp) ?_
  have h10 := vi_10 hn
  refine ⟨(vi n).length, rvarint_loop n h _ [] [] f.base .nil (by simp; omega) hn (fun h' x' m pre' S' hm hv he st => ?_)⟩
  have e : IntKind.u8.wrap (m : Int) = ((m % 256 : Nat) : Int) := by rw [IntKind.wrap_u8]; simp
  simp [e]
  have hb : (.int .u8 ((m : Int) % 256) : Value) = bv (UInt8.ofNat m) := by rw [bv_ofNat]; simp
  rw [hb]
  have hlen : pre'.length + 1 = (vi n).length := by rw [← List.nil_append (vi n), ← he]; simp
  have hfb := f.base
  have := st.1
  refine appA_vec (w0 := w0) (m := 1) (s := 1) (by_ := 1) (h := h'.new [bv (UInt8.ofNat m)] 1) (ys := bvs [UInt8.ofNat m]) (by simp; omega) (hv.new _ _) (by simp) (src_new (by omega) (by simp)) (by simp) (by omega) (by omega) (by omega) (fun x2 h2 S2 hv2 st2 => ?_)
  have he2 : bvs pre' ++ bvs [UInt8.ofNat m] = bvs (vi n) := by rw [← bvs_append, he]; simp
  rw [he2] at hv2
  refine hv2.b2s ?_
  simp only [retA_iff, oneOf_one]
  exact ⟨by simp, by trivial, (((st.new _ _).less (T := S') (fun b hb => by simp [hb])).trans st2).less (by simp)⟩
theorem rText_spec {w0 : World} {h : Hp} (l : List UInt8) (hl : l.length ≤ 70368744177664) :
    ACalls prog w0 n_dedupref02_Text [.string (str l)] h fun v h' => v = .string (str (vi l.length ++ l)) ∧ Step h h' [] [] := by
  refine ACalls.of_fit (by simp) fun f => c_dedupref02_Text (by simp) ?_
  have h10 := vi_10 (n := l.length) (by omega)
  simp only [s_dedupref02_Text, lenStr_string, pureA_some, convA_int, str_size]
  rw [IntWalk.u64_in _ (by omega)]
  refine callA_of (rVarint_spec l.length (by omega)) fun v h1 ⟨e, s1⟩ f1 => ?_
  subst e
  rw [strA_add _ _ (by simp; omega)]
  simp only [pureA_some, retA_iff, oneOf_one, str_append]
  exact ⟨by simp, trivial, s1⟩

/-! ### ReadVarint -/
/-- The number that groups of seven bits are, the lowest first. -/
def lv : List UInt8 → Nat
  | [] => 0
  | b :: l => b.toNat % 128 + 128 * lv l
theorem lv_append (l m : List UInt8) : lv (l ++ m) = lv l + 128 ^ l.length * lv m := by
  induction l with
  | nil => simp [lv]
  | cons b l ih => rw [List.cons_append, lv, lv, ih, List.length_cons, Nat.pow_succ, Nat.mul_add, Nat.add_assoc, ← Nat.mul_assoc, Nat.mul_comm 128 (128 ^ l.length)]
theorem lv_one (b : UInt8) : lv [b] = b.toNat % 128 := by simp [lv]
theorem lv_drop (l : List UInt8) (k : Nat) : lv (l.drop k) ≤ lv l := by
  have h1 := lv_append (l.take k) (l.drop k)
  rw [List.take_append_drop] at h1
  have h2 : 1 ≤ 128 ^ (l.take k).length := Nat.pos_of_ne_zero (by simp)
  have h3 := Nat.mul_le_mul_right (lv (l.drop k)) h2
  omega
theorem lv_lt (l : List UInt8) : lv l < 128 ^ l.length := by
  induction l with
  | nil => simp [lv]
  | cons b l ih => simp only [lv, List.length_cons, Nat.pow_succ]; omega
theorem rrv_inner {w0 : World} {K : Value → Value → Hp → Prop} {h : Hp} {q l : List UInt8} {x5 : Value} (hq : ∃ r, q ++ r = l) (hb : lv q < 18446744073709551616) (h11 : q.length ≤ 11) (hk : K x5 (.int .u64 (lv q : Nat)) h) : ∀ k : Nat, k ≤ q.length →
    dedupref02_ReadVarint_L2 prog w0 K (k + 1) (.string (str l)) x5 (.int .u64 (lv (q.drop k) : Nat)) (.int .i64 ((k : Int) - 1)) h := by
  intro k
  induction k with
  | zero =>
    intro _
    rw [dedupref02_ReadVarint_L2]
    simp only [dedupref02_ReadVarint_B2, binA_geq, pureA_some, show decide ((0 : Int) ≤ ((0 : Nat) : Int) - 1) = false from rfl, condA_false]
    simpa using hk
  | succ k ih =>
    intro hkl
    have hlt : k < q.length := by omega
    obtain ⟨r, rfl⟩ := hq
    have e0 : ((k + 1 : Nat) : Int) - 1 = (k : Int) := by omega
    have c1 : decide ((0 : Int) ≤ (k : Int)) = true := decide_eq_true (by omega)
    have hd : q.drop k = q[k] :: q.drop (k + 1) := List.drop_eq_getElem_cons hlt
    have hv : lv (q.drop k) = q[k].toNat % 128 + 128 * lv (q.drop (k + 1)) := by rw [hd]; rfl
    have hle := lv_drop q k
    have hs : strIdxA (.string (str (q ++ r))) (.int .i64 (k : Int)) = some (.int .u8 (q[k].toNat : Int)) := by
      rw [strIdxA_str, List.getElem?_append_left hlt, List.getElem?_eq_getElem hlt]; rfl
    have e1 : IntKind.u64.wrap (((lv (q.drop (k + 1)) : Nat) : Int) * 128) = ((lv (q.drop (k + 1)) * 128 : Nat) : Int) := by rw [IntWalk.u64_in _ (by omega)]; simp
    have e2 : IntKind.u64.wrap ((q[k].toNat % 128 : Nat) : Int) = ((q[k].toNat % 128 : Nat) : Int) := IntWalk.u64_in _ (by omega)
    have e3 : IntKind.u64.wrap (((lv (q.drop (k + 1)) * 128 : Nat) : Int) + ((q[k].toNat % 128 : Nat) : Int)) = ((lv (q.drop k) : Nat) : Int) := by rw [IntWalk.u64_in _ (by omega)]; omega
    have e6 : IntKind.i64.wrap ((k : Int) - 1) = (k : Int) - 1 := IntWalk.i64_in _ (by omega)
    rw [dedupref02_ReadVarint_L2, e0]
    simp only [dedupref02_ReadVarint_B2, binA_geq, pureA_some, c1, condA_true, binA_mul, e1, hs, rem128, convA_int, e2, binA_add, e3, binA_sub, e6]
    exact ih (by omega)
theorem rrv_loop {w0 : World} {k0 kr : Value → Value → Value → Hp → Prop} {h : Hp} {l : List UInt8} (hl : l.length ≤ 140737488355328) : ∀ (post pre : List UInt8) (fuel : Nat), pre ++ post = l → pre.length ≤ 9 → post.length < fuel →
    kr (.int .u64 ((shp post pre.length (lv pre)).1 : Nat)) (.int .i64 ((shp post pre.length (lv pre)).2.1 : Nat)) (.int .i64 (shp post pre.length (lv pre)).2.2) h →
    dedupref02_ReadVarint_L1 prog w0 k0 kr fuel (.string (str l)) (.int .u64 0) (.int .i64 0) (.int .i64 0) (.int .i64 (pre.length : Int)) h := by
  intro post
  induction post with
  | nil =>
    intro pre fuel he hp hfu hr
    obtain ⟨m, rfl⟩ : ∃ m, fuel = m + 1 := ⟨fuel - 1, by simp at hfu; omega⟩
    have : pre = l := by simpa using he
    subst this
    have c1 : decide ((pre.length : Int) < 10) = true := decide_eq_true (by omega)
    rw [dedupref02_ReadVarint_L1]
    simp only [dedupref02_ReadVarint_B1, binA_lss, pureA_some, c1, condA_true, lenStr_string, str_size, binA_geq, Int.le_refl, decide_true]
    simpa [shp] using hr
  | cons b post ih =>
    intro pre fuel he hp hfu hr
    obtain ⟨m, rfl⟩ : ∃ m, fuel = m + 1 := ⟨fuel - 1, by simp at hfu; omega⟩
    have hlen : pre.length + (post.length + 1) = l.length := by rw [← he]; simp
    have hg : l[pre.length]? = some b := by rw [← he]; simp
    have hb := UInt8.toNat_lt b
    have c1 : decide ((pre.length : Int) < 10) = true := decide_eq_true (by omega)
    have c2 : decide ((l.length : Int) ≤ (pre.length : Int)) = false := decide_eq_false (by omega)
    have hs : strIdxA (.string (str l)) (.int .i64 (pre.length : Int)) = some (.int .u8 (b.toNat : Int)) := by rw [strIdxA_str, hg]; rfl
    have e5 : IntKind.i64.wrap ((pre.length : Int) + 1) = ((pre.length + 1 : Nat) : Int) := by rw [IntWalk.i64_in _ (by omega)]; simp
    have hz : (b = 0) ↔ b.toNat = 0 := ⟨fun e => by rw [e]; rfl, fun e => UInt8.toNat_inj.1 (by simpa using e)⟩
    have h1z : (b = 1) ↔ b.toNat = 1 := ⟨fun e => by rw [e]; rfl, fun e => UInt8.toNat_inj.1 (by simpa using e)⟩
    rw [shp_cons] at hr
    rw [dedupref02_ReadVarint_L1]
    simp only [dedupref02_ReadVarint_B1, binA_lss, pureA_some, c1, condA_true, lenStr_string, str_size, binA_geq, c2, condA_false, binA_eql]
    -- the tenth byte
    have hten : ∀ {Z : Value → Hp → Prop}, ((pre.length = 9 ∧ 1 < b.toNat) → Z (.bool true) h) → (¬ (pre.length = 9 ∧ 1 < b.toNat) → Z (.bool false) h) →
        guardA (.bool ((pre.length : Int) == 9)) true (fun K => K (.string (str l))) (fun v19 => guardA (.bool ((pre.length : Int) == 9)) true (pureA (strIdxA v19 (.int .i64 9))) fun v20 => guardA (.bool ((pre.length : Int) == 9)) true (pureA (binA .gtr v20 (.int .u8 1))) fun v21 => pickA (.bool ((pre.length : Int) == 9)) v21 (.bool false) Z) h := by
      intro Z h1 h2
      by_cases h9 : pre.length = 9
      · have c9 : ((pre.length : Int) == 9) = true := by simp; omega
        have hs9 : strIdxA (.string (str l)) (.int .i64 9) = some (.int .u8 (b.toNat : Int)) := by rw [← hs, h9]; rfl
        simp only [c9, guardA_tt, hs9, pureA_some, binA_gtr, pickA_true]
        by_cases hb1 : 1 < b.toNat
        · have : decide ((1 : Int) < (b.toNat : Int)) = true := decide_eq_true (by omega)
          rw [this]; exact h1 ⟨h9, hb1⟩
        · have : decide ((1 : Int) < (b.toNat : Int)) = false := decide_eq_false (by omega)
          rw [this]; exact h2 (fun e => hb1 e.2)
      · have c9 : ((pre.length : Int) == 9) = false := by simp; omega
        simp only [c9, guardA_ft, pickA_false]
        exact h2 (fun e => h9 e.1)
    refine hten (fun hA => ?_) (fun hA => ?_)
    · rw [if_pos ⟨hA.1, fun e => by have := h1z.1 e; omega⟩] at hr
      simpa using hr
    · simp only [condA_false, hs, pureA_some, binA_geq]
      by_cases h128 : b.toNat < 128
      · have c128 : decide ((128 : Int) ≤ (b.toNat : Int)) = false := decide_eq_false (by omega)
        simp only [c128, condA_false, binA_eql, pureA_some]
        have hzero : ∀ {Z : Value → Hp → Prop}, ((b.toNat = 0 ∧ 0 < pre.length) → Z (.bool true) h) → (¬ (b.toNat = 0 ∧ 0 < pre.length) → Z (.bool false) h) →
            guardA (.bool ((b.toNat : Int) == 0)) true (fun K => K (.int .i64 (pre.length : Int))) (fun v32 => guardA (.bool ((b.toNat : Int) == 0)) true (pureA (binA .gtr v32 (.int .i64 0))) fun v33 => pickA (.bool ((b.toNat : Int) == 0)) v33 (.bool false) Z) h := by
          intro Z h1 h2
          by_cases h0 : b.toNat = 0
          · have c0 : ((b.toNat : Int) == 0) = true := by simp; omega
            simp only [c0, guardA_tt, binA_gtr, pureA_some, pickA_true]
            by_cases hp0 : 0 < pre.length
            · have : decide ((0 : Int) < (pre.length : Int)) = true := decide_eq_true (by omega)
              rw [this]; exact h1 ⟨h0, hp0⟩
            · have : decide ((0 : Int) < (pre.length : Int)) = false := decide_eq_false (by omega)
              rw [this]; exact h2 (fun e => hp0 e.2)
          · have c0 : ((b.toNat : Int) == 0) = false := by simp only [beq_eq_false_iff_ne, ne_eq]; omega
            simp only [c0, guardA_ft, pickA_false]
            exact h2 (fun e => h0 e.1)
        refine hzero (fun hZ => ?_) (fun hZ => ?_)
        · have hr2 : kr (.int .u64 0) (.int .i64 0) (.int .i64 21) h := by
            split at hr
            · exact hr
            · rw [if_pos ⟨hz.2 hZ.1, hZ.2⟩] at hr; exact hr
          simpa only [condA_true] using hr2
        · have hA' : ¬ (pre.length = 9 ∧ b ≠ 1) := by
            rintro ⟨h9, hb1⟩
            have : ¬ b.toNat = 1 := fun e => hb1 (h1z.2 e)
            have : ¬ 1 < b.toNat := fun e => hA ⟨h9, e⟩
            exact hZ ⟨by omega, by omega⟩
          rw [if_neg hA', if_pos h128, if_neg (fun e => hZ ⟨hz.1 e.1, e.2⟩)] at hr
          simp only [condA_false]
          have hv1 : lv (pre ++ [b]) = lv pre + b.toNat % 128 * 128 ^ pre.length := by rw [lv_append, lv_one, Nat.mul_comm]
          have hv2 : lv (pre ++ [b]) < 18446744073709551616 := by
            by_cases h9 : pre.length = 9
            · have hb1 : b.toNat = 1 := h1z.1 (Decidable.not_not.1 fun e => hA' ⟨h9, e⟩)
              have := lv_lt pre
              rw [h9] at this
              rw [hv1, hb1, h9]
              omega
            · have := lv_lt (pre ++ [b])
              have hpow : 128 ^ (pre ++ [b]).length ≤ 128 ^ 9 := Nat.pow_le_pow_right (by omega) (by simp; omega)
              omega
          have hin := rrv_inner (w0 := w0) (K := fun y5 y6 => pureA (binA .add y5 (.int .i64 1)) fun v50 => kr y6 v50 (.int .i64 0)) (h := h) (q := pre ++ [b]) (l := l) (x5 := .int .i64 (pre.length : Int)) ⟨post, by simpa using he⟩ hv2 (by simp; omega)
            (by simp only [binA_add, pureA_some, e5]; rw [hv1]; exact hr) (pre.length + 1) (by simp)
          refine ⟨pre.length + 1 + 1, ?_⟩
          have ed : (pre ++ [b]).drop (pre.length + 1) = [] := List.drop_eq_nil_of_le (by simp)
          rw [ed] at hin
          have e1 : ((pre.length + 1 : Nat) : Int) - 1 = (pre.length : Int) := by omega
          rw [e1] at hin
          exact hin
      · have c128 : decide ((128 : Int) ≤ (b.toNat : Int)) = true := decide_eq_true (by omega)
        have h9 : pre.length ≠ 9 := fun e => hA ⟨e, by omega⟩
        rw [if_neg (fun e => h9 e.1), if_neg h128] at hr
        simp only [c128, condA_true, binA_add, pureA_some, e5]
        have := ih (pre ++ [b]) m (by simpa using he) (by simp; omega) (by simp at hfu; omega) (by
          rw [lv_append, lv_one, Nat.mul_comm]
          simpa using hr)
        simpa using this
theorem rReadVarint_spec {w0 : World} {h : Hp} (l : List UInt8) (hl : l.length ≤ 140737488355328) :
    ACalls prog w0 n_dedupref02_ReadVarint [.string (str l)] h fun v h' => v = .tuple #[.int .u64 ((shp l 0 0).1 : Nat), .int .i64 ((shp l 0 0).2.1 : Nat), .int .i64 (shp l 0 0).2.2] ∧ h' = h := by
  refine ACalls.of_fit (by simp) fun f => c_dedupref02_ReadVarint (by simp) ?_
  refine ⟨l.length + 1, ?_⟩
  refine rrv_loop hl l [] _ (by simp) (by simp) (by omega) ?_
  simp [lv]
end Go.Proofs.Ytilofpnhpeammaa.Ah
