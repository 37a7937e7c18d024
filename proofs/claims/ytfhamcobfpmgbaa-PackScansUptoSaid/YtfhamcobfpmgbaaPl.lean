/- The document's Scan; PackScans. -/
import Derived.Test.YtfhamcobfpmgbaaPj
set_option linter.unusedVariables false
set_option linter.unusedSimpArgs false
namespace Go.Proofs.Ytfhamcobfpmgbaa.Ah
open Go

section
variable {w0 : World} {h : Hp}
theorem rscan_loop {k0 : Value → Value → Value → Value → Hp → Prop} {x : Value} {b : List UInt8} {en : Nat} (hen : en ≤ b.length) (hb : b.length ≤ 1000000000) :
    ∀ (k a : Nat) (pre : List (Nat × Nat)) (h : Hp) (xl : Value) (S : List Nat), a ≤ 1000000000 → en < a + k → pre.length + k ≤ 2000000000 → (∀ h' S', Step h h' S S' → Bs w0 h' x b) → GV w0 h 2 xl pre.length (slotC pre) S → pre.length ≤ a →
    (∀ h' xl' S', GV w0 h' 2 xl' (pre ++ (scanL b en k a).1).length (slotC (pre ++ (scanL b en k a).1)) S' → Step h h' S S' → k0 x xl' (.int .i64 ((scanL b en k a).2 : Int)) (.int .i64 (en : Int)) h') →
    dedupref13_Scan_L1 prog w0 k0 (k + 1) x xl (.int .i64 (a : Int)) (.int .i64 (en : Int)) h := by
  intro k
  induction k with
  | zero =>
    intro a pre h xl S ha hk hpk vbs vl hpa hk0
    have hn : slotOf b a en = none := slotOf_far (by omega)
    rw [dedupref13_Scan_L1]
    simp only [dedupref13_Scan_B1]
    refine callA_of (rslot_spec (vbs h S vl.refl) hb (by omega) hen) fun r h1 ⟨⟨d, e⟩, s1⟩ f1 => ?_
    subst e
    simp only [hn, Option.getD_none, Option.isSome_none, lenSl_slice, lenStr_string, str_size, fpureA_some, fnilA_ptr, faddA_ptr, addr_add, Nat.zero_add, Nat.add_zero, fpureQ_k, fpureQ_nilA, fpureQ_addA, fpureQ_pureA, fpureQ_guardA, fpureQ_idxSlA, fpureQ_pickA, freadQ_loadA, freadQ_loadNA, freadQ_b2sA, freadQ_guardA, freadQ_slSlA, freadQ_k, fendA, fallA_one, fstillA_nil, fguardA_tt, fguardA_ff, fguardA_tf, fguardA_ft, fguardA_undef, fpickA_true, fpickA_false, fcondA_true, fcondA_false, binA_add, binA_sub, binA_mul, binA_eql, binA_neq, binA_lss, binA_leq, binA_gtr, binA_geq, unA_not, Bool.not_true, Bool.not_false, convA_int, extA_tuple, List.getElem?_toArray, List.getElem?_cons_zero, List.getElem?_cons_succ]
    exact hk0 h1 xl S (by simpa [scanL] using vl.frame s1 (by simp)) (s1.idle S fun b hb => (vl.lt b hb).2)
  | succ k ih =>
    intro a pre h xl S ha hk hpk vbs vl hpa hk0
    rw [dedupref13_Scan_L1]
    simp only [dedupref13_Scan_B1]
    refine callA_of (rslot_spec (vbs h S vl.refl) hb (by omega) hen) fun r h1 ⟨⟨d, e⟩, s1⟩ f1 => ?_
    subst e
    cases hs : slotOf b a en with
    | none =>
      simp only [Option.getD_none, Option.isSome_none, lenSl_slice, lenStr_string, str_size, fpureA_some, fnilA_ptr, faddA_ptr, addr_add, Nat.zero_add, Nat.add_zero, fpureQ_k, fpureQ_nilA, fpureQ_addA, fpureQ_pureA, fpureQ_guardA, fpureQ_idxSlA, fpureQ_pickA, freadQ_loadA, freadQ_loadNA, freadQ_b2sA, freadQ_guardA, freadQ_slSlA, freadQ_k, fendA, fallA_one, fstillA_nil, fguardA_tt, fguardA_ff, fguardA_tf, fguardA_ft, fguardA_undef, fpickA_true, fpickA_false, fcondA_true, fcondA_false, binA_add, binA_sub, binA_mul, binA_eql, binA_neq, binA_lss, binA_leq, binA_gtr, binA_geq, unA_not, Bool.not_true, Bool.not_false, convA_int, extA_tuple, List.getElem?_toArray, List.getElem?_cons_zero, List.getElem?_cons_succ]
      have := hk0 h1 xl S (by rw [scanL_none hs]; simpa using vl.frame s1 (by simp)) (s1.idle S fun b hb => (vl.lt b hb).2)
      rw [scanL_none hs] at this
      exact this
    | some n =>
      have hm := slotOf_some hs
      have e1 : IntKind.i64.wrap ((a : Int) + 8) = ((a + 8 : Nat) : Int) := by rw [IntWalk.i64_in _ (by omega)]; simp
      have e2 : IntKind.i64.wrap (((a + 8 : Nat) : Int) + (n : Int)) = ((a + 8 + n : Nat) : Int) := by rw [IntWalk.i64_in _ (by omega)]; simp
      simp only [Option.getD_some, Option.isSome_some, lenSl_slice, lenStr_string, str_size, fpureA_some, fnilA_ptr, faddA_ptr, addr_add, Nat.zero_add, Nat.add_zero, fpureQ_k, fpureQ_nilA, fpureQ_addA, fpureQ_pureA, fpureQ_guardA, fpureQ_idxSlA, fpureQ_pickA, freadQ_loadA, freadQ_loadNA, freadQ_b2sA, freadQ_guardA, freadQ_slSlA, freadQ_k, fendA, fallA_one, fstillA_nil, fguardA_tt, fguardA_ff, fguardA_tf, fguardA_ft, fguardA_undef, fpickA_true, fpickA_false, fcondA_true, fcondA_false, binA_add, binA_sub, binA_mul, binA_eql, binA_neq, binA_lss, binA_leq, binA_gtr, binA_geq, unA_not, Bool.not_true, Bool.not_false, convA_int, extA_tuple, List.getElem?_toArray, List.getElem?_cons_zero, List.getElem?_cons_succ, e1, e2, buildA_iff, fillA_one, fillA_nil, isCell_int, true_and, List.set_cons_zero, List.set_cons_succ, List.length_cons, List.length_nil]
      refine ⟨by omega, by omega, ?_⟩
      refine app_slot f1.base (vl.frame s1 (by simp)) (by omega) fun x3 h3 S3 v3 s3 => ?_
      have t3 : Step h h3 S S3 := (s1.idle S fun b hb => (vl.lt b hb).2).trans s3
      have := ih (a + 8 + n) (pre ++ [(a + 8, n)]) h3 x3 S3 (by omega) (by omega) (by simp; omega) (fun h' S' st => vbs h' S' (t3.trans st)) v3 (by simp; omega) (fun h4 x4 S4 v4 s4 => by
        have := hk0 h4 x4 S4 (by simp only [scanL, hs]; simpa using v4) (t3.trans s4)
        simpa only [scanL, hs] using this)
      exact this
/-- Four bytes of a name. -/
theorem name_new {K : Kont} {a b c d : Int} {l : List UInt8} (hf : w0.heap.size ≤ h.next) (hl : [(.int .u8 a : Value), .int .u8 b, .int .u8 c, .int .u8 d] = bvs l) (h4 : l.length = 4)
    (hk : ∀ x h' S, GV w0 h' 1 x l.length (bvs l) S → Step h h' [] S → K x h') :
    bslA [(0, 1, false, (.int .u8 a)), (1, 1, false, (.int .u8 b)), (2, 1, false, (.int .u8 c)), (3, 1, false, (.int .u8 d))] (zerosL [(.int .u8 0)] 4) 4 1 K h := by
  have hz : zerosL [(.int .u8 0 : Value)] 4 = [.int .u8 0, .int .u8 0, .int .u8 0, .int .u8 0] := rfl
  simp only [hz, bslA_iff, fillA_one, fillA_nil, isCell_int, true_and, List.set_cons_zero, List.set_cons_succ, List.length_cons, List.length_nil]
  refine ⟨by omega, by omega, by omega, by omega, ?_⟩
  rw [hl]
  refine hk _ _ [h.next] ?_ ((Step.refl h [] (by simp)).new _ _)
  rw [h4]
  exact GV.new hf (by simp [h4]) (by decide)
/-- append(x, y...) of bytes. -/
theorem app_bytes {x y : Value} {l m : List UInt8} {S : List Nat} {K : Kont} (hf : w0.heap.size ≤ h.next) (v : GV w0 h 1 x l.length (bvs l) S) (w : Bs w0 h y m) (hl : l.length + m.length ≤ 1000000000)
    (hk : ∀ x' h' S', GV w0 h' 1 x' (l ++ m).length (bvs (l ++ m)) S' → Step h h' S S' → K x' h') : appA w0 1 1 x y K h := by
  obtain ⟨a, c, hy⟩ := w.slice
  refine appA_gv (m := m.length) hf v (by rw [hy]; rfl) w.src (by simp) (by omega) (by omega) (by omega) fun x' h' S' v' s' => hk x' h' S' ?_ s'
  rw [List.length_append, bvs_append]
  exact v'
theorem rfoot_spec (a b : Nat) (ha : a < 4294967296) (hb : b < 4294967296) : ACalls prog w0 n_dedupref13_foot [.int .i64 a, .int .i64 b] h fun r h' => ∃ S', GV w0 h' 1 r (mark16 dfot a b).length (bvs (mark16 dfot a b)) S' ∧ Step h h' [] S' := by
  refine ACalls.of_fit (by simp) fun f => c_dedupref13_foot (by simp) ?_
  have e1 : IntKind.u64.wrap (a : Int) = (a : Int) := IntWalk.u64_in _ (by omega)
  have e2 : IntKind.u64.wrap (b : Int) = (b : Int) := IntWalk.u64_in _ (by omega)
  simp only [s_dedupref13_foot]
  refine name_new (l := dfot) f.base rfl rfl fun x1 h1 S1 v1 s1 => ?_
  refine sl2sl_gv v1 (by decide) ?_
  simp only [lenSl_slice, lenStr_string, str_size, fpureA_some, fnilA_ptr, faddA_ptr, addr_add, Nat.zero_add, Nat.add_zero, fpureQ_k, fpureQ_nilA, fpureQ_addA, fpureQ_pureA, fpureQ_guardA, fpureQ_idxSlA, fpureQ_pickA, freadQ_loadA, freadQ_loadNA, freadQ_b2sA, freadQ_guardA, freadQ_slSlA, freadQ_k, fendA, fallA_one, fstillA_nil, fguardA_tt, fguardA_ff, fguardA_tf, fguardA_ft, fguardA_undef, fpickA_true, fpickA_false, fcondA_true, fcondA_false, binA_add, binA_sub, binA_mul, binA_eql, binA_neq, binA_lss, binA_leq, binA_gtr, binA_geq, unA_not, Bool.not_true, Bool.not_false, convA_int, extA_tuple, List.getElem?_toArray, List.getElem?_cons_zero, List.getElem?_cons_succ, e1, e2]
  refine callA_of (high_spec a 4 (by omega) (by omega)) fun x2 h2 ⟨S2, v2, s2⟩ f2 => ?_
  have v1' := v1.frame s2 (by simp)
  refine app_bytes f2.base v1' (by have := v2.sl; unfold Bs; rw [be_length]; exact this) (by simp [dfot]) fun x3 h3 S3 v3 s3 => ?_
  have t3 : Step h h3 [] S3 := s1.trans ((s2.idle S1 fun b hb => (v1.lt b hb).2).trans s3)
  refine callA_of (high_spec b 4 (by omega) (by omega)) fun x4 h4 ⟨S4, v4, s4⟩ f4 => ?_
  have v3' := v3.frame s4 (by simp)
  refine app_bytes f4.base v3' (by have := v4.sl; unfold Bs; rw [be_length]; exact this) (by simp [dfot]) fun x5 h5 S5 v5 s5 => ?_
  have t5 : Step h h5 [] S5 := t3.trans ((s4.idle S3 fun b hb => (v3.lt b hb).2).trans s5)
  have v5 : GV w0 h5 1 x5 (mark12 dfot a b).length (bvs (mark12 dfot a b)) S5 := v5
  refine callA_of (sum_spec (v5.sl : Bs w0 h5 x5 (mark12 dfot a b)) (by rw [mark12_length rfl]; omega)) fun x6 h6 ⟨S6, v6, s6⟩ f6 => ?_
  have v5' := v5.frame s6 (by simp)
  refine app_bytes f6.base v5' (by have := v6.sl; unfold Bs; rw [be_length]; exact this) (by rw [mark12_length rfl]; simp) fun x7 h7 S7 v7 s7 => ?_
  have t7 : Step h h7 [] S7 := t5.trans ((s6.idle S5 fun b hb => (v5.lt b hb).2).trans s7)
  have hc := crcOf_lt (mark12 dfot a b)
  obtain ⟨aa, cc, hr⟩ := v7.slice
  simp only [retA_iff, oneOf_one]
  exact ⟨by rw [hr]; simp, S7, v7, t7⟩
/-! ### Heads -/
theorem head_split {b : List UInt8} (hb : 16 ≤ b.length) (s : Nat) (hs : s < 4294967296) :
    headOk b s = true ↔ b.take 4 = dpak ∧ rdn ((b.drop 8).take 4) = s ∧ be 4 (crcOf (b.take 12)) = (b.drop 12).take 4 := by
  have h4 : ((b.drop 4).take 4).length = 4 := by simp; omega
  have h8 : ((b.drop 8).take 4).length = 4 := by simp; omega
  have e16 : b.take 16 = b.take 4 ++ (b.drop 4).take 4 ++ (b.drop 8).take 4 ++ (b.drop 12).take 4 := by
    have : ∀ k, b.take (k + 4) = b.take k ++ (b.drop k).take 4 := fun k => by rw [List.take_add]
    rw [show 16 = 12 + 4 from rfl, this, show 12 = 8 + 4 from rfl, this, show 8 = 4 + 4 from rfl, this]
  have e12 : b.take 12 = b.take 4 ++ (b.drop 4).take 4 ++ (b.drop 8).take 4 := by
    have : ∀ k, b.take (k + 4) = b.take k ++ (b.drop k).take 4 := fun k => by rw [List.take_add]
    rw [show 12 = 8 + 4 from rfl, this, show 8 = 4 + 4 from rfl, this]
  have eb : be 4 (rdn ((b.drop 4).take 4)) = (b.drop 4).take 4 := by have := be_rdn ((b.drop 4).take 4); rw [h4] at this; exact this
  have eb8 : be 4 (rdn ((b.drop 8).take 4)) = (b.drop 8).take 4 := by have := be_rdn ((b.drop 8).take 4); rw [h8] at this; exact this
  unfold headOk
  rw [decide_eq_true_iff, e16]
  simp only [mark16, mark12, eb]
  constructor
  · intro e
    have e' := e
    rw [List.append_assoc, List.append_assoc, List.append_assoc, List.append_assoc, List.append_assoc] at e
    have a1 := List.append_inj e (by simp [dpak]; omega)
    have a2 := List.append_inj a1.2 rfl
    have a3 := List.append_inj a2.2 (by simp; omega)
    refine ⟨a1.1, ?_, ?_⟩
    · have := congrArg rdn a3.1
      rw [rdn_be, Nat.mod_eq_of_lt hs] at this
      exact this
    · rw [e12, a1.1, a3.1]
      have := a3.2
      simp only [List.append_assoc] at this ⊢
      exact this.symm
  · rintro ⟨a1, a2, a3⟩
    rw [e12] at a3
    rw [← a3, ← a2, eb8, a1]
end
end Go.Proofs.Ytfhamcobfpmgbaa.Ah
