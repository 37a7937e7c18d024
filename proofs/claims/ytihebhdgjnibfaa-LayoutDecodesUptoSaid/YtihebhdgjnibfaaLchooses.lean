/- LayoutDecodes, LayoutChooses, LayoutOneOrOther: the walks. -/
import Derived.Test.YtihebhdgjnibfaaYj
set_option linter.unusedVariables false
set_option linter.unusedSimpArgs false
namespace Go.Proofs.Ytihebhdgjnibfaa.Ah
open Go

theorem sup0_in : sup0.In := by
  refine ⟨by simp [sup0], by simp [sup0, i64R], ⟨?_, ?_, ?_, ?_, ?_, ?_, ?_, ?_, ?_⟩⟩ <;> simp [sup0, i64R]
theorem chStep_in {size : Int} {i : Nat} {st : Sup × Int} {l : List UInt8} (h : st.1.In) : (chStep size i st (decB l)).1.In := by
  cases hd : decB l with
  | none => exact h
  | some x =>
    simp only [chStep]
    split
    · exact (dec_some hd).1
    · exact h
theorem choose_in (size : Int) (a b : List UInt8) : (choose size (decB a) (decB b)).1.In := by
  unfold choose
  split
  · exact sup0_in
  · exact chStep_in (chStep_in sup0_in)
section
variable {w0 : World} {h : Hp}
theorem LayoutDecodes_top {x : Value} {b : List UInt8} (ex : ExtSl w0 1 x b.length (b.flatMap dByte.e)) (hb : b.length ≤ 1000000000) :
    ACalls prog w0 n_deduplaw04_LayoutDecodes [x] h fun v h' => v = .bool true := by
  have exb := ex.bytes
  have hj : x ≠ junk := by obtain ⟨a, c, rfl, -⟩ := ex.sl; simp
  have vb : ∀ {h' : Hp}, Fit w0 h' → Bs w0 h' x b := fun f' => exb _ f'
  refine ACalls.of_fit (by simpa using hj) fun f => c_deduplaw04_LayoutDecodes (by simpa using hj) ?_
  simp only [s_deduplaw04_LayoutDecodes, sup0_zero]
  refine callA_of awake_spec fun v1 h1 ⟨e, s1⟩ f1 => ?_
  subst e
  simp only [lenSl_slice, lenStr_string, str_size, fpureA_some, fnilA_ptr, faddA_ptr, addr_add, Nat.zero_add, Nat.add_zero, fpureQ_k, fpureQ_nilA, fpureQ_addA, fpureQ_pureA, fpureQ_guardA, fpureQ_idxSlA, fpureQ_pickA, freadQ_loadA, freadQ_loadNA, freadQ_b2sA, freadQ_guardA, freadQ_slSlA, freadQ_k, fendA, fallA_one, fstillA_nil, fguardA_tt, fguardA_ff, fguardA_tf, fguardA_ft, fguardA_undef, fpickA_true, fpickA_false, fcondA_true, fcondA_false, binA_add, binA_sub, binA_mul, binA_eql, binA_neq, binA_lss, binA_leq, binA_gtr, binA_geq, unA_not, Bool.not_true, Bool.not_false, convA_int, extA_tuple, List.getElem?_toArray, List.getElem?_cons_zero, List.getElem?_cons_succ]
  refine app_new f1 (vb f1) (by omega) (by omega) (by omega) fun x2 h2 S2 g2 g2' s2 g2'' => ?_
  refine callA_of (DecodeSuper_spec (g2.sl : Bs w0 h2 x2 b) hb) fun v3 h3 ⟨e, s3⟩ f3 => ?_
  subst e
  have g3 := g2.frame s3 (by simp)
  -- what both tell
  obtain ⟨X, er, hv, hX⟩ : ∃ X er, decV b = .tuple #[.agg X.e.toArray, .int .i64 er] ∧ ((er = 0 ∧ decB b = some X) ∨ er = 40) := by
    cases hd : decB b with
    | none => exact ⟨sup0, 40, decV_none hd, .inr rfl⟩
    | some X => exact ⟨X, 0, decV_some hd, .inl ⟨rfl, rfl⟩⟩
  have hXc : X.e.all isCell = true := by simp [Sup.e, Shp.e, isCell]
  rw [hv]
  simp only [lenSl_slice, lenStr_string, str_size, fpureA_some, fnilA_ptr, faddA_ptr, addr_add, Nat.zero_add, Nat.add_zero, fpureQ_k, fpureQ_nilA, fpureQ_addA, fpureQ_pureA, fpureQ_guardA, fpureQ_idxSlA, fpureQ_pickA, freadQ_loadA, freadQ_loadNA, freadQ_b2sA, freadQ_guardA, freadQ_slSlA, freadQ_k, fendA, fallA_one, fstillA_nil, fguardA_tt, fguardA_ff, fguardA_tf, fguardA_ft, fguardA_undef, fpickA_true, fpickA_false, fcondA_true, fcondA_false, binA_add, binA_sub, binA_mul, binA_eql, binA_neq, binA_lss, binA_leq, binA_gtr, binA_geq, unA_not, Bool.not_true, Bool.not_false, convA_int, extA_tuple, List.getElem?_toArray, List.getElem?_cons_zero, List.getElem?_cons_succ, newA_iff]
  refine ⟨by simp [sup0, Sup.e, Shp.e], storeN0 (cs := sup0.e) f3.base (by simp) rfl rfl hXc ?_⟩
  rw [put_new]
  have s4 : Step h3 (h3.new X.e 12) [] [h3.next] := (Step.refl h3 [] (by simp)).new _ _
  have hq4 : (h3.new X.e 12).blk h3.next = some X.e := by simp
  have hn4 : h3.next < (h3.new X.e 12).next := by simp
  have f4 : Fit w0 (h3.new X.e 12) := f3.new (by simpa using hXc)
  have hB4 := f3.base
  generalize h3.new X.e 12 = h4 at s4 hq4 hn4 f4 ⊢
  have g4 := g3.frame s4 (by simp)
  refine callA_of (rDecodeSuper_spec (vb f4) hb) fun v5 h5 ⟨e, s5⟩ f5 => ?_
  subst e
  rw [hv]
  have hq5 := (s5.keep _ hn4 (by simp)).1.trans hq4
  have g5 := g4.frame s5 (by simp)
  have n5 := s5.next
  simp only [lenSl_slice, lenStr_string, str_size, fpureA_some, fnilA_ptr, faddA_ptr, addr_add, Nat.zero_add, Nat.add_zero, fpureQ_k, fpureQ_nilA, fpureQ_addA, fpureQ_pureA, fpureQ_guardA, fpureQ_idxSlA, fpureQ_pickA, freadQ_loadA, freadQ_loadNA, freadQ_b2sA, freadQ_guardA, freadQ_slSlA, freadQ_k, fendA, fallA_one, fstillA_nil, fguardA_tt, fguardA_ff, fguardA_tf, fguardA_ft, fguardA_undef, fpickA_true, fpickA_false, fcondA_true, fcondA_false, binA_add, binA_sub, binA_mul, binA_eql, binA_neq, binA_lss, binA_leq, binA_gtr, binA_geq, unA_not, Bool.not_true, Bool.not_false, convA_int, extA_tuple, List.getElem?_toArray, List.getElem?_cons_zero, List.getElem?_cons_succ, newA_iff]
  refine ⟨by simp [sup0, Sup.e, Shp.e], storeN0 (cs := sup0.e) f5.base (by simp) rfl rfl hXc ?_⟩
  rw [put_new]
  have s6 : Step h5 (h5.new X.e 12) [] [h5.next] := (Step.refl h5 [] (by simp)).new _ _
  have hq6 : (h5.new X.e 12).blk h5.next = some X.e := by simp
  have f6 : Fit w0 (h5.new X.e 12) := f5.new (by simpa using hXc)
  have hB6 := f5.base
  generalize h5.new X.e 12 = h6 at s6 hq6 f6 ⊢
  have hq56 := (s6.keep _ (show h3.next < h5.next by omega) (by simp)).1.trans hq5
  have g6 := g5.frame s6 (by simp)
  refine loadNA_whole hB4 hq56 rfl ?_
  refine loadNA_whole hB6 hq6 rfl ?_
  simp only [neSup w0, lenSl_slice, lenStr_string, str_size, fpureA_some, fnilA_ptr, faddA_ptr, addr_add, Nat.zero_add, Nat.add_zero, fpureQ_k, fpureQ_nilA, fpureQ_addA, fpureQ_pureA, fpureQ_guardA, fpureQ_idxSlA, fpureQ_pickA, freadQ_loadA, freadQ_loadNA, freadQ_b2sA, freadQ_guardA, freadQ_slSlA, freadQ_k, fendA, fallA_one, fstillA_nil, fguardA_tt, fguardA_ff, fguardA_tf, fguardA_ft, fguardA_undef, fpickA_true, fpickA_false, fcondA_true, fcondA_false, binA_add, binA_sub, binA_mul, binA_eql, binA_neq, binA_lss, binA_leq, binA_gtr, binA_geq, unA_not, Bool.not_true, Bool.not_false, convA_int, extA_tuple, List.getElem?_toArray, List.getElem?_cons_zero, List.getElem?_cons_succ, bne_self_eq_false]
  refine Bs.b2s (g6.sl : Bs w0 h6 x2 b) ?_
  refine Bs.b2s (vb f6) ?_
  rw [binA_strneq]
  simp only [decide_true, Bool.not_true, lenSl_slice, lenStr_string, str_size, fpureA_some, fnilA_ptr, faddA_ptr, addr_add, Nat.zero_add, Nat.add_zero, fpureQ_k, fpureQ_nilA, fpureQ_addA, fpureQ_pureA, fpureQ_guardA, fpureQ_idxSlA, fpureQ_pickA, freadQ_loadA, freadQ_loadNA, freadQ_b2sA, freadQ_guardA, freadQ_slSlA, freadQ_k, fendA, fallA_one, fstillA_nil, fguardA_tt, fguardA_ff, fguardA_tf, fguardA_ft, fguardA_undef, fpickA_true, fpickA_false, fcondA_true, fcondA_false, binA_add, binA_sub, binA_mul, binA_eql, binA_neq, binA_lss, binA_leq, binA_gtr, binA_geq, unA_not, Bool.not_true, Bool.not_false, convA_int, extA_tuple, List.getElem?_toArray, List.getElem?_cons_zero, List.getElem?_cons_succ]
  rcases hX with ⟨rfl, hd⟩ | rfl
  · have z : ((0 : Int) != 0) = false := rfl
    obtain ⟨hin, hck, henc⟩ := dec_some hd
    simp only [z, lenSl_slice, lenStr_string, str_size, fpureA_some, fnilA_ptr, faddA_ptr, addr_add, Nat.zero_add, Nat.add_zero, fpureQ_k, fpureQ_nilA, fpureQ_addA, fpureQ_pureA, fpureQ_guardA, fpureQ_idxSlA, fpureQ_pickA, freadQ_loadA, freadQ_loadNA, freadQ_b2sA, freadQ_guardA, freadQ_slSlA, freadQ_k, fendA, fallA_one, fstillA_nil, fguardA_tt, fguardA_ff, fguardA_tf, fguardA_ft, fguardA_undef, fpickA_true, fpickA_false, fcondA_true, fcondA_false, binA_add, binA_sub, binA_mul, binA_eql, binA_neq, binA_lss, binA_leq, binA_gtr, binA_geq, unA_not, Bool.not_true, Bool.not_false, convA_int, extA_tuple, List.getElem?_toArray, List.getElem?_cons_zero, List.getElem?_cons_succ]
    refine loadNA_whole hB4 hq56 rfl ?_
    refine callA_of (EncodeSuper_spec hin) fun v7 h7 ⟨g1, g1'⟩ f7 => ?_
    obtain ⟨q, e, g7, hq7, s7⟩ := g1 hck
    subst e
    have hlen := Sup.enc_length hck
    have gB : Bs w0 h7 (.slice (some ⟨q, 0, none⟩) X.s.sec.toNat X.s.sec.toNat) X.enc := by
      have := g7.sl
      rw [← hlen] at this ⊢
      exact this
    simp only [lenSl_slice, lenStr_string, str_size, fpureA_some, fnilA_ptr, faddA_ptr, addr_add, Nat.zero_add, Nat.add_zero, fpureQ_k, fpureQ_nilA, fpureQ_addA, fpureQ_pureA, fpureQ_guardA, fpureQ_idxSlA, fpureQ_pickA, freadQ_loadA, freadQ_loadNA, freadQ_b2sA, freadQ_guardA, freadQ_slSlA, freadQ_k, fendA, fallA_one, fstillA_nil, fguardA_tt, fguardA_ff, fguardA_tf, fguardA_ft, fguardA_undef, fpickA_true, fpickA_false, fcondA_true, fcondA_false, binA_add, binA_sub, binA_mul, binA_eql, binA_neq, binA_lss, binA_leq, binA_gtr, binA_geq, unA_not, Bool.not_true, Bool.not_false, convA_int, extA_tuple, List.getElem?_toArray, List.getElem?_cons_zero, List.getElem?_cons_succ]
    refine Bs.b2s gB ?_
    refine Bs.b2s (vb f7) ?_
    rw [binA_streql, henc]
    simp only [decide_true, lenSl_slice, lenStr_string, str_size, fpureA_some, fnilA_ptr, faddA_ptr, addr_add, Nat.zero_add, Nat.add_zero, fpureQ_k, fpureQ_nilA, fpureQ_addA, fpureQ_pureA, fpureQ_guardA, fpureQ_idxSlA, fpureQ_pickA, freadQ_loadA, freadQ_loadNA, freadQ_b2sA, freadQ_guardA, freadQ_slSlA, freadQ_k, fendA, fallA_one, fstillA_nil, fguardA_tt, fguardA_ff, fguardA_tf, fguardA_ft, fguardA_undef, fpickA_true, fpickA_false, fcondA_true, fcondA_false, binA_add, binA_sub, binA_mul, binA_eql, binA_neq, binA_lss, binA_leq, binA_gtr, binA_geq, unA_not, Bool.not_true, Bool.not_false, convA_int, extA_tuple, List.getElem?_toArray, List.getElem?_cons_zero, List.getElem?_cons_succ, beq_self_eq_true, retA_iff, oneOf_one]
    simp
  · have z : ((40 : Int) != 0) = true := by decide
    simp only [z, lenSl_slice, lenStr_string, str_size, fpureA_some, fnilA_ptr, faddA_ptr, addr_add, Nat.zero_add, Nat.add_zero, fpureQ_k, fpureQ_nilA, fpureQ_addA, fpureQ_pureA, fpureQ_guardA, fpureQ_idxSlA, fpureQ_pickA, freadQ_loadA, freadQ_loadNA, freadQ_b2sA, freadQ_guardA, freadQ_slSlA, freadQ_k, fendA, fallA_one, fstillA_nil, fguardA_tt, fguardA_ff, fguardA_tf, fguardA_ft, fguardA_undef, fpickA_true, fpickA_false, fcondA_true, fcondA_false, binA_add, binA_sub, binA_mul, binA_eql, binA_neq, binA_lss, binA_leq, binA_gtr, binA_geq, unA_not, Bool.not_true, Bool.not_false, convA_int, extA_tuple, List.getElem?_toArray, List.getElem?_cons_zero, List.getElem?_cons_succ, retA_iff, oneOf_one]
    simp
theorem LayoutChooses_top {x y : Value} {a b : List UInt8} (size : Int) (ex : ExtSl w0 1 x a.length (a.flatMap dByte.e)) (ey : ExtSl w0 1 y b.length (b.flatMap dByte.e)) (ha : a.length ≤ 1000000000) (hb : b.length ≤ 1000000000) :
    ACalls prog w0 n_deduplaw04_LayoutChooses [.int .i64 size, x, y] h fun v h' => v = .bool true := by
  have exb := ex.bytes
  have eyb := ey.bytes
  have hj : x ≠ junk := by obtain ⟨a, c, rfl, -⟩ := ex.sl; simp
  have hj2 : y ≠ junk := by obtain ⟨a, c, rfl, -⟩ := ey.sl; simp
  have va : ∀ {h' : Hp}, Fit w0 h' → Bs w0 h' x a := fun f' => exb _ f'
  have vb : ∀ {h' : Hp}, Fit w0 h' → Bs w0 h' y b := fun f' => eyb _ f'
  refine ACalls.of_fit (by simpa using ⟨hj, hj2⟩) fun f => c_deduplaw04_LayoutChooses (by simpa using ⟨hj, hj2⟩) ?_
  simp only [s_deduplaw04_LayoutChooses, sup0_zero]
  refine callA_of awake_spec fun v1 h1 ⟨e, s1⟩ f1 => ?_
  subst e
  simp only [lenSl_slice, lenStr_string, str_size, fpureA_some, fnilA_ptr, faddA_ptr, addr_add, Nat.zero_add, Nat.add_zero, fpureQ_k, fpureQ_nilA, fpureQ_addA, fpureQ_pureA, fpureQ_guardA, fpureQ_idxSlA, fpureQ_pickA, freadQ_loadA, freadQ_loadNA, freadQ_b2sA, freadQ_guardA, freadQ_slSlA, freadQ_k, fendA, fallA_one, fstillA_nil, fguardA_tt, fguardA_ff, fguardA_tf, fguardA_ft, fguardA_undef, fpickA_true, fpickA_false, fcondA_true, fcondA_false, binA_add, binA_sub, binA_mul, binA_eql, binA_neq, binA_lss, binA_leq, binA_gtr, binA_geq, unA_not, Bool.not_true, Bool.not_false, convA_int, extA_tuple, List.getElem?_toArray, List.getElem?_cons_zero, List.getElem?_cons_succ]
  have hin := choose_in size a b
  refine callA_of (Choose_spec size (va f1) (vb f1) ha hb) fun v3 h3 ⟨e, s3⟩ f3 => ?_
  subst e
  have hR := fun (h : Hp) (f : Fit w0 h) => rChoose_spec (w0 := w0) (h := h) size (va f) (vb f) ha hb
  generalize choose size (decB a) (decB b) = C at hin hR ⊢
  obtain ⟨X, n, er⟩ := C
  simp only at hin
  have hXc : X.e.all isCell = true := by simp [Sup.e, Shp.e, isCell]
  simp only [chV, Sup.v, lenSl_slice, lenStr_string, str_size, fpureA_some, fnilA_ptr, faddA_ptr, addr_add, Nat.zero_add, Nat.add_zero, fpureQ_k, fpureQ_nilA, fpureQ_addA, fpureQ_pureA, fpureQ_guardA, fpureQ_idxSlA, fpureQ_pickA, freadQ_loadA, freadQ_loadNA, freadQ_b2sA, freadQ_guardA, freadQ_slSlA, freadQ_k, fendA, fallA_one, fstillA_nil, fguardA_tt, fguardA_ff, fguardA_tf, fguardA_ft, fguardA_undef, fpickA_true, fpickA_false, fcondA_true, fcondA_false, binA_add, binA_sub, binA_mul, binA_eql, binA_neq, binA_lss, binA_leq, binA_gtr, binA_geq, unA_not, Bool.not_true, Bool.not_false, convA_int, extA_tuple, List.getElem?_toArray, List.getElem?_cons_zero, List.getElem?_cons_succ, newA_iff]
  refine ⟨by simp [sup0, Sup.e, Shp.e], storeN0 (cs := sup0.e) f3.base (by simp) rfl rfl hXc ?_⟩
  rw [put_new]
  have s4 : Step h3 (h3.new X.e 12) [] [h3.next] := (Step.refl h3 [] (by simp)).new _ _
  have hq4 : (h3.new X.e 12).blk h3.next = some X.e := by simp
  have hn4 : h3.next < (h3.new X.e 12).next := by simp
  have f4 : Fit w0 (h3.new X.e 12) := f3.new (by simpa using hXc)
  have hB4 := f3.base
  generalize h3.new X.e 12 = h4 at s4 hq4 hn4 f4 ⊢
  refine callA_of (hR h4 f4) fun v5 h5 ⟨e, s5⟩ f5 => ?_
  subst e
  have hq5 := (s5.keep _ hn4 (by simp)).1.trans hq4
  have n5 := s5.next
  simp only [chV, Sup.v, lenSl_slice, lenStr_string, str_size, fpureA_some, fnilA_ptr, faddA_ptr, addr_add, Nat.zero_add, Nat.add_zero, fpureQ_k, fpureQ_nilA, fpureQ_addA, fpureQ_pureA, fpureQ_guardA, fpureQ_idxSlA, fpureQ_pickA, freadQ_loadA, freadQ_loadNA, freadQ_b2sA, freadQ_guardA, freadQ_slSlA, freadQ_k, fendA, fallA_one, fstillA_nil, fguardA_tt, fguardA_ff, fguardA_tf, fguardA_ft, fguardA_undef, fpickA_true, fpickA_false, fcondA_true, fcondA_false, binA_add, binA_sub, binA_mul, binA_eql, binA_neq, binA_lss, binA_leq, binA_gtr, binA_geq, unA_not, Bool.not_true, Bool.not_false, convA_int, extA_tuple, List.getElem?_toArray, List.getElem?_cons_zero, List.getElem?_cons_succ, newA_iff]
  refine ⟨by simp [sup0, Sup.e, Shp.e], storeN0 (cs := sup0.e) f5.base (by simp) rfl rfl hXc ?_⟩
  rw [put_new]
  have s6 : Step h5 (h5.new X.e 12) [] [h5.next] := (Step.refl h5 [] (by simp)).new _ _
  have hq6 : (h5.new X.e 12).blk h5.next = some X.e := by simp
  have hn6 : h5.next < (h5.new X.e 12).next := by simp
  have hB6 := f5.base
  generalize h5.new X.e 12 = h6 at s6 hq6 hn6 ⊢
  have hq56 := (s6.keep _ (show h3.next < h5.next by omega) (by simp)).1.trans hq5
  refine loadNA_whole hB4 hq56 rfl ?_
  refine loadNA_whole hB6 hq6 rfl ?_
  simp only [neSup w0, lenSl_slice, lenStr_string, str_size, fpureA_some, fnilA_ptr, faddA_ptr, addr_add, Nat.zero_add, Nat.add_zero, fpureQ_k, fpureQ_nilA, fpureQ_addA, fpureQ_pureA, fpureQ_guardA, fpureQ_idxSlA, fpureQ_pickA, freadQ_loadA, freadQ_loadNA, freadQ_b2sA, freadQ_guardA, freadQ_slSlA, freadQ_k, fendA, fallA_one, fstillA_nil, fguardA_tt, fguardA_ff, fguardA_tf, fguardA_ft, fguardA_undef, fpickA_true, fpickA_false, fcondA_true, fcondA_false, binA_add, binA_sub, binA_mul, binA_eql, binA_neq, binA_lss, binA_leq, binA_gtr, binA_geq, unA_not, Bool.not_true, Bool.not_false, convA_int, extA_tuple, List.getElem?_toArray, List.getElem?_cons_zero, List.getElem?_cons_succ, bne_self_eq_false]
  refine loadNA_whole hB4 hq56 rfl ?_
  refine callA_of (Next_spec hin) fun v7 h7 ⟨e, s7⟩ f7 => ?_
  subst e
  have n7 := s7.next
  have hq7 := (s7.keep _ (show h3.next < h6.next by omega) (by simp)).1.trans hq56
  obtain ⟨t1, t2, t3, ht⟩ : ∃ t1 t2 t3, nextV X.gen = .tuple #[.int .u64 t1, .int .i64 t2, .int .i64 t3] := by
    unfold nextV
    split
    · exact ⟨_, _, _, rfl⟩
    · exact ⟨_, _, _, rfl⟩
  rw [ht]
  simp only [lenSl_slice, lenStr_string, str_size, fpureA_some, fnilA_ptr, faddA_ptr, addr_add, Nat.zero_add, Nat.add_zero, fpureQ_k, fpureQ_nilA, fpureQ_addA, fpureQ_pureA, fpureQ_guardA, fpureQ_idxSlA, fpureQ_pickA, freadQ_loadA, freadQ_loadNA, freadQ_b2sA, freadQ_guardA, freadQ_slSlA, freadQ_k, fendA, fallA_one, fstillA_nil, fguardA_tt, fguardA_ff, fguardA_tf, fguardA_ft, fguardA_undef, fpickA_true, fpickA_false, fcondA_true, fcondA_false, binA_add, binA_sub, binA_mul, binA_eql, binA_neq, binA_lss, binA_leq, binA_gtr, binA_geq, unA_not, Bool.not_true, Bool.not_false, convA_int, extA_tuple, List.getElem?_toArray, List.getElem?_cons_zero, List.getElem?_cons_succ]
  refine loadNA_whole hB4 hq7 rfl ?_
  refine callA_of (rNext_spec hin) fun v8 h8 ⟨e, s8⟩ f8 => ?_
  subst e
  have n8 := s8.next
  have hq8 := (s8.keep _ (show h3.next < h7.next by omega) (by simp)).1.trans hq7
  rw [ht]
  simp only [lenSl_slice, lenStr_string, str_size, fpureA_some, fnilA_ptr, faddA_ptr, addr_add, Nat.zero_add, Nat.add_zero, fpureQ_k, fpureQ_nilA, fpureQ_addA, fpureQ_pureA, fpureQ_guardA, fpureQ_idxSlA, fpureQ_pickA, freadQ_loadA, freadQ_loadNA, freadQ_b2sA, freadQ_guardA, freadQ_slSlA, freadQ_k, fendA, fallA_one, fstillA_nil, fguardA_tt, fguardA_ff, fguardA_tf, fguardA_ft, fguardA_undef, fpickA_true, fpickA_false, fcondA_true, fcondA_false, binA_add, binA_sub, binA_mul, binA_eql, binA_neq, binA_lss, binA_leq, binA_gtr, binA_geq, unA_not, Bool.not_true, Bool.not_false, convA_int, extA_tuple, List.getElem?_toArray, List.getElem?_cons_zero, List.getElem?_cons_succ, beq_self_eq_true]
  refine loadA_at (v := .int .u64 X.gen) hB4 hq8 (by rfl) ?_
  refine loadA_at (v := .int .u64 X.gen) hB4 hq8 (by rfl) ?_
  try simp only [allA_one, lenSl_slice, lenStr_string, str_size, fpureA_some, fnilA_ptr, faddA_ptr, addr_add, Nat.zero_add, Nat.add_zero, fpureQ_k, fpureQ_nilA, fpureQ_addA, fpureQ_pureA, fpureQ_guardA, fpureQ_idxSlA, fpureQ_pickA, freadQ_loadA, freadQ_loadNA, freadQ_b2sA, freadQ_guardA, freadQ_slSlA, freadQ_k, fendA, fallA_one, fstillA_nil, fguardA_tt, fguardA_ff, fguardA_tf, fguardA_ft, fguardA_undef, fpickA_true, fpickA_false, fcondA_true, fcondA_false, binA_add, binA_sub, binA_mul, binA_eql, binA_neq, binA_lss, binA_leq, binA_gtr, binA_geq, unA_not, Bool.not_true, Bool.not_false, convA_int, extA_tuple, List.getElem?_toArray, List.getElem?_cons_zero, List.getElem?_cons_succ]
  refine callA_of (Slot_spec X.gen hin.gen) fun v9 h9 ⟨e, e9⟩ f9 => ?_
  have e9' := e9.symm
  subst e e9'
  simp only [stillA_iff, allA_one, sameQ_loadA, lenSl_slice, lenStr_string, str_size, fpureA_some, fnilA_ptr, faddA_ptr, addr_add, Nat.zero_add, Nat.add_zero, fpureQ_k, fpureQ_nilA, fpureQ_addA, fpureQ_pureA, fpureQ_guardA, fpureQ_idxSlA, fpureQ_pickA, freadQ_loadA, freadQ_loadNA, freadQ_b2sA, freadQ_guardA, freadQ_slSlA, freadQ_k, fendA, fallA_one, fstillA_nil, fguardA_tt, fguardA_ff, fguardA_tf, fguardA_ft, fguardA_undef, fpickA_true, fpickA_false, fcondA_true, fcondA_false, binA_add, binA_sub, binA_mul, binA_eql, binA_neq, binA_lss, binA_leq, binA_gtr, binA_geq, unA_not, Bool.not_true, Bool.not_false, convA_int, extA_tuple, List.getElem?_toArray, List.getElem?_cons_zero, List.getElem?_cons_succ]
  refine ⟨loadA_at (v := .int .u64 X.gen) hB4 hq8 (by rfl) rfl, ?_⟩
  refine callA_of (rSlot_spec X.gen hin.gen) fun v10 h10 ⟨e, e10⟩ f10 => ?_
  have e10' := e10.symm
  subst e e10'
  simp only [lenSl_slice, lenStr_string, str_size, fpureA_some, fnilA_ptr, faddA_ptr, addr_add, Nat.zero_add, Nat.add_zero, fpureQ_k, fpureQ_nilA, fpureQ_addA, fpureQ_pureA, fpureQ_guardA, fpureQ_idxSlA, fpureQ_pickA, freadQ_loadA, freadQ_loadNA, freadQ_b2sA, freadQ_guardA, freadQ_slSlA, freadQ_k, fendA, fallA_one, fstillA_nil, fguardA_tt, fguardA_ff, fguardA_tf, fguardA_ft, fguardA_undef, fpickA_true, fpickA_false, fcondA_true, fcondA_false, binA_add, binA_sub, binA_mul, binA_eql, binA_neq, binA_lss, binA_leq, binA_gtr, binA_geq, unA_not, Bool.not_true, Bool.not_false, convA_int, extA_tuple, List.getElem?_toArray, List.getElem?_cons_zero, List.getElem?_cons_succ, beq_self_eq_true, retA_iff, oneOf_one]
  simp
end
end Go.Proofs.Ytihebhdgjnibfaa.Ah
