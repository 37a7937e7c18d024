/- PackNobody: a nil container. -/
import Derived.Test.YtfhamcobfpmgbaaPi
set_option linter.unusedVariables false
set_option linter.unusedSimpArgs false
namespace Go.Proofs.Ytfhamcobfpmgbaa.Ah
open Go

section
variable {w0 : World} {h : Hp}
theorem nAppend_spec {x : Value} (hj : x ≠ junk) : ACalls prog w0 n_pack_Pack_Append [.pointer none, x] h fun r h' => r = appV (0, 0, 6) ∧ Step h h' [] [] := by
  refine ACalls.of_fit (by simpa using hj) fun f => c_pack_Pack_Append (by simpa using hj) ?_
  simp only [s_pack_Pack_Append, newA_iff]
  refine ⟨by simp, ?_⟩
  have s1 : Step h (h.new [.int .i64 0, .int .i64 0] 2) [] [h.next] := (Step.refl h [] (by simp)).new _ _
  have hq1 : (h.new [.int .i64 0, .int .i64 0] 2).blk h.next = some [.int .i64 0, .int .i64 0] := by simp
  refine callA_of pmade_nil fun _ h1 ⟨e, e1⟩ f1 => ?_
  subst e e1
  simp only [lenSl_slice, lenStr_string, str_size, fpureA_some, fnilA_ptr, faddA_ptr, addr_add, Nat.zero_add, Nat.add_zero, fpureQ_k, fpureQ_nilA, fpureQ_addA, fpureQ_pureA, fpureQ_guardA, fpureQ_idxSlA, fpureQ_pickA, freadQ_loadA, freadQ_loadNA, freadQ_b2sA, freadQ_guardA, freadQ_slSlA, freadQ_k, fendA, fallA_one, fstillA_nil, fguardA_tt, fguardA_ff, fguardA_tf, fguardA_ft, fguardA_undef, fpickA_true, fpickA_false, fcondA_true, fcondA_false, binA_add, binA_sub, binA_mul, binA_eql, binA_neq, binA_lss, binA_leq, binA_gtr, binA_geq, unA_not, Bool.not_true, Bool.not_false, convA_int, extA_tuple, List.getElem?_toArray, List.getElem?_cons_zero, List.getElem?_cons_succ, buildA_iff, fillA_nil]
  exact ret2 f.base hq1 rfl (by simp) ⟨rfl, (s1.put (by simp) _).drop⟩
theorem nRead_spec (o n : Int) : ACalls prog w0 n_pack_Pack_Read [.pointer none, slt o n] h fun r h' => r = .tuple #[.slice none 0 0, .int .i64 6] ∧ Step h h' [] [] := by
  refine ACalls.of_fit (by simp [slt]) fun f => c_pack_Pack_Read (by simp [slt]) ?_
  simp only [s_pack_Pack_Read, slt, boxA_agg, List.toList_toArray]
  refine callA_of pmade_nil fun _ h1 ⟨e, e1⟩ f1 => ?_
  subst e e1
  simp only [lenSl_slice, lenStr_string, str_size, fpureA_some, fnilA_ptr, faddA_ptr, addr_add, Nat.zero_add, Nat.add_zero, fpureQ_k, fpureQ_nilA, fpureQ_addA, fpureQ_pureA, fpureQ_guardA, fpureQ_idxSlA, fpureQ_pickA, freadQ_loadA, freadQ_loadNA, freadQ_b2sA, freadQ_guardA, freadQ_slSlA, freadQ_k, fendA, fallA_one, fstillA_nil, fguardA_tt, fguardA_ff, fguardA_tf, fguardA_ft, fguardA_undef, fpickA_true, fpickA_false, fcondA_true, fcondA_false, binA_add, binA_sub, binA_mul, binA_eql, binA_neq, binA_lss, binA_leq, binA_gtr, binA_geq, unA_not, Bool.not_true, Bool.not_false, convA_int, extA_tuple, List.getElem?_toArray, List.getElem?_cons_zero, List.getElem?_cons_succ, retA_iff, oneOf_two]
  exact ⟨by simp, by trivial, ((Step.refl h [] (by simp)).new _ _).drop⟩
theorem nBack_spec (n : Int) : ACalls prog w0 n_pack_Pack_Back [.pointer none, .int .i64 n] h fun r h' => r = .int .i64 6 ∧ h' = h := by
  refine ACalls.of_fit (by simp) fun f => c_pack_Pack_Back (by simp) ?_
  refine callA_of pmade_nil fun _ h1 ⟨e, e1⟩ f1 => ?_
  subst e e1
  simp only [lenSl_slice, lenStr_string, str_size, fpureA_some, fnilA_ptr, faddA_ptr, addr_add, Nat.zero_add, Nat.add_zero, fpureQ_k, fpureQ_nilA, fpureQ_addA, fpureQ_pureA, fpureQ_guardA, fpureQ_idxSlA, fpureQ_pickA, freadQ_loadA, freadQ_loadNA, freadQ_b2sA, freadQ_guardA, freadQ_slSlA, freadQ_k, fendA, fallA_one, fstillA_nil, fguardA_tt, fguardA_ff, fguardA_tf, fguardA_ft, fguardA_undef, fpickA_true, fpickA_false, fcondA_true, fcondA_false, binA_add, binA_sub, binA_mul, binA_eql, binA_neq, binA_lss, binA_leq, binA_gtr, binA_geq, unA_not, Bool.not_true, Bool.not_false, convA_int, extA_tuple, List.getElem?_toArray, List.getElem?_cons_zero, List.getElem?_cons_succ, retA_iff, oneOf_one]
  simp
theorem nSeal_spec : ACalls prog w0 n_pack_Pack_Seal [.pointer none] h fun r h' => r = .int .i64 6 ∧ h' = h := by
  refine ACalls.of_fit (by simp) fun f => c_pack_Pack_Seal (by simp) ?_
  refine callA_of pmade_nil fun _ h1 ⟨e, e1⟩ f1 => ?_
  subst e e1
  simp only [lenSl_slice, lenStr_string, str_size, fpureA_some, fnilA_ptr, faddA_ptr, addr_add, Nat.zero_add, Nat.add_zero, fpureQ_k, fpureQ_nilA, fpureQ_addA, fpureQ_pureA, fpureQ_guardA, fpureQ_idxSlA, fpureQ_pickA, freadQ_loadA, freadQ_loadNA, freadQ_b2sA, freadQ_guardA, freadQ_slSlA, freadQ_k, fendA, fallA_one, fstillA_nil, fguardA_tt, fguardA_ff, fguardA_tf, fguardA_ft, fguardA_undef, fpickA_true, fpickA_false, fcondA_true, fcondA_false, binA_add, binA_sub, binA_mul, binA_eql, binA_neq, binA_lss, binA_leq, binA_gtr, binA_geq, unA_not, Bool.not_true, Bool.not_false, convA_int, extA_tuple, List.getElem?_toArray, List.getElem?_cons_zero, List.getElem?_cons_succ, retA_iff, oneOf_one]
  simp
theorem nLeft_spec' : ACalls prog w0 n_pack_Pack_Left [.pointer none] h fun r h' => r = .int .i64 0 ∧ h' = h := by
  refine ACalls.of_fit (by simp) fun f => c_pack_Pack_Left (by simp) ?_
  refine callA_of pmade_nil fun _ h1 ⟨e, e1⟩ f1 => ?_
  subst e e1
  simp only [lenSl_slice, lenStr_string, str_size, fpureA_some, fnilA_ptr, faddA_ptr, addr_add, Nat.zero_add, Nat.add_zero, fpureQ_k, fpureQ_nilA, fpureQ_addA, fpureQ_pureA, fpureQ_guardA, fpureQ_idxSlA, fpureQ_pickA, freadQ_loadA, freadQ_loadNA, freadQ_b2sA, freadQ_guardA, freadQ_slSlA, freadQ_k, fendA, fallA_one, fstillA_nil, fguardA_tt, fguardA_ff, fguardA_tf, fguardA_ft, fguardA_undef, fpickA_true, fpickA_false, fcondA_true, fcondA_false, binA_add, binA_sub, binA_mul, binA_eql, binA_neq, binA_lss, binA_leq, binA_gtr, binA_geq, unA_not, Bool.not_true, Bool.not_false, convA_int, extA_tuple, List.getElem?_toArray, List.getElem?_cons_zero, List.getElem?_cons_succ, retA_iff, oneOf_one]
  simp
theorem nMark_spec : ACalls prog w0 n_pack_Pack_Mark [.pointer none] h fun r h' => r = .int .i64 0 ∧ h' = h := by
  refine ACalls.of_fit (by simp) fun f => c_pack_Pack_Mark (by simp) ?_
  refine callA_of pmade_nil fun _ h1 ⟨e, e1⟩ f1 => ?_
  subst e e1
  simp only [lenSl_slice, lenStr_string, str_size, fpureA_some, fnilA_ptr, faddA_ptr, addr_add, Nat.zero_add, Nat.add_zero, fpureQ_k, fpureQ_nilA, fpureQ_addA, fpureQ_pureA, fpureQ_guardA, fpureQ_idxSlA, fpureQ_pickA, freadQ_loadA, freadQ_loadNA, freadQ_b2sA, freadQ_guardA, freadQ_slSlA, freadQ_k, fendA, fallA_one, fstillA_nil, fguardA_tt, fguardA_ff, fguardA_tf, fguardA_ft, fguardA_undef, fpickA_true, fpickA_false, fcondA_true, fcondA_false, binA_add, binA_sub, binA_mul, binA_eql, binA_neq, binA_lss, binA_leq, binA_gtr, binA_geq, unA_not, Bool.not_true, Bool.not_false, convA_int, extA_tuple, List.getElem?_toArray, List.getElem?_cons_zero, List.getElem?_cons_succ, retA_iff, oneOf_one]
  simp
theorem nTake_spec : ACalls prog w0 n_pack_Pack_Take [.pointer none] h fun r h' => r = .slice none 0 0 ∧ h' = h := by
  refine ACalls.of_fit (by simp) fun f => c_pack_Pack_Take (by simp) ?_
  refine callA_of pmade_nil fun _ h1 ⟨e, e1⟩ f1 => ?_
  subst e e1
  simp only [lenSl_slice, lenStr_string, str_size, fpureA_some, fnilA_ptr, faddA_ptr, addr_add, Nat.zero_add, Nat.add_zero, fpureQ_k, fpureQ_nilA, fpureQ_addA, fpureQ_pureA, fpureQ_guardA, fpureQ_idxSlA, fpureQ_pickA, freadQ_loadA, freadQ_loadNA, freadQ_b2sA, freadQ_guardA, freadQ_slSlA, freadQ_k, fendA, fallA_one, fstillA_nil, fguardA_tt, fguardA_ff, fguardA_tf, fguardA_ft, fguardA_undef, fpickA_true, fpickA_false, fcondA_true, fcondA_false, binA_add, binA_sub, binA_mul, binA_eql, binA_neq, binA_lss, binA_leq, binA_gtr, binA_geq, unA_not, Bool.not_true, Bool.not_false, convA_int, extA_tuple, List.getElem?_toArray, List.getElem?_cons_zero, List.getElem?_cons_succ, retA_iff, oneOf_one]
  simp
theorem nSlots_spec : ACalls prog w0 n_pack_Pack_Slots [.pointer none] h fun r h' => r = .slice none 0 0 ∧ h' = h := by
  refine ACalls.of_fit (by simp) fun f => c_pack_Pack_Slots (by simp) ?_
  refine callA_of pmade_nil fun _ h1 ⟨e, e1⟩ f1 => ?_
  subst e e1
  simp only [lenSl_slice, lenStr_string, str_size, fpureA_some, fnilA_ptr, faddA_ptr, addr_add, Nat.zero_add, Nat.add_zero, fpureQ_k, fpureQ_nilA, fpureQ_addA, fpureQ_pureA, fpureQ_guardA, fpureQ_idxSlA, fpureQ_pickA, freadQ_loadA, freadQ_loadNA, freadQ_b2sA, freadQ_guardA, freadQ_slSlA, freadQ_k, fendA, fallA_one, fstillA_nil, fguardA_tt, fguardA_ff, fguardA_tf, fguardA_ft, fguardA_undef, fpickA_true, fpickA_false, fcondA_true, fcondA_false, binA_add, binA_sub, binA_mul, binA_eql, binA_neq, binA_lss, binA_leq, binA_gtr, binA_geq, unA_not, Bool.not_true, Bool.not_false, convA_int, extA_tuple, List.getElem?_toArray, List.getElem?_cons_zero, List.getElem?_cons_succ, retA_iff, oneOf_one]
  simp
theorem nImage_spec : ACalls prog w0 n_pack_Pack_Image [.pointer none] h fun r h' => r = .slice none 0 0 ∧ h' = h := by
  refine ACalls.of_fit (by simp) fun f => c_pack_Pack_Image (by simp) ?_
  refine callA_of pmade_nil fun _ h1 ⟨e, e1⟩ f1 => ?_
  subst e e1
  simp only [lenSl_slice, lenStr_string, str_size, fpureA_some, fnilA_ptr, faddA_ptr, addr_add, Nat.zero_add, Nat.add_zero, fpureQ_k, fpureQ_nilA, fpureQ_addA, fpureQ_pureA, fpureQ_guardA, fpureQ_idxSlA, fpureQ_pickA, freadQ_loadA, freadQ_loadNA, freadQ_b2sA, freadQ_guardA, freadQ_slSlA, freadQ_k, fendA, fallA_one, fstillA_nil, fguardA_tt, fguardA_ff, fguardA_tf, fguardA_ft, fguardA_undef, fpickA_true, fpickA_false, fcondA_true, fcondA_false, binA_add, binA_sub, binA_mul, binA_eql, binA_neq, binA_lss, binA_leq, binA_gtr, binA_geq, unA_not, Bool.not_true, Bool.not_false, convA_int, extA_tuple, List.getElem?_toArray, List.getElem?_cons_zero, List.getElem?_cons_succ, retA_iff, oneOf_one]
  simp
theorem nFork_spec : ACalls prog w0 n_pack_Pack_Fork [.pointer none] h fun r h' => r = .pointer none ∧ h' = h := by
  refine ACalls.of_fit (by simp) fun f => c_pack_Pack_Fork (by simp) ?_
  refine callA_of pmade_nil fun _ h1 ⟨e, e1⟩ f1 => ?_
  subst e e1
  simp only [lenSl_slice, lenStr_string, str_size, fpureA_some, fnilA_ptr, faddA_ptr, addr_add, Nat.zero_add, Nat.add_zero, fpureQ_k, fpureQ_nilA, fpureQ_addA, fpureQ_pureA, fpureQ_guardA, fpureQ_idxSlA, fpureQ_pickA, freadQ_loadA, freadQ_loadNA, freadQ_b2sA, freadQ_guardA, freadQ_slSlA, freadQ_k, fendA, fallA_one, fstillA_nil, fguardA_tt, fguardA_ff, fguardA_tf, fguardA_ft, fguardA_undef, fpickA_true, fpickA_false, fcondA_true, fcondA_false, binA_add, binA_sub, binA_mul, binA_eql, binA_neq, binA_lss, binA_leq, binA_gtr, binA_geq, unA_not, Bool.not_true, Bool.not_false, convA_int, extA_tuple, List.getElem?_toArray, List.getElem?_cons_zero, List.getElem?_cons_succ, retA_iff, oneOf_one]
  simp
/-- PackNobody: true. -/
theorem PackNobody_top {x : Value} {b : List UInt8} (ex : ExtSl w0 1 x b.length (b.flatMap dByte.e)) (s : Slot) (n : Int) :
    ACalls prog w0 n_deduplaw13_PackNobody [x, .agg (dSlot.e s).toArray, .int .i64 n] h fun r h' => r = .bool true := by
  have hj : x ≠ junk := by obtain ⟨a, c, rfl, -⟩ := ex.sl; simp
  refine ACalls.of_fit (by simpa using hj) fun f => c_deduplaw13_PackNobody (by simpa using hj) ?_
  simp only [s_deduplaw13_PackNobody, dSlot, Slot.e, boxA_agg, List.toList_toArray]
  have s1 : Step h (h.new [.int .i64 s.o, .int .i64 s.n] 2) [] [h.next] := (Step.refl h [] (by simp)).new _ _
  have hq1 : (h.new [.int .i64 s.o, .int .i64 s.n] 2).blk h.next = some [.int .i64 s.o, .int .i64 s.n] := by simp
  have hl1 : h.next < (h.new [.int .i64 s.o, .int .i64 s.n] 2).next := by simp
  generalize h.new [.int .i64 s.o, .int .i64 s.n] 2 = h1 at s1 hq1 hl1 ⊢
  refine callA_of (nAppend_spec hj) fun _ h2 ⟨e, s2⟩ f2 => ?_
  subst e
  have hq2 : h2.blk h.next = _ := (s2.keep _ hl1 (by simp)).1.trans hq1
  have hl2 : h.next < h2.next := by have := s2.next; omega
  simp only [appV, slt, lenSl_slice, lenStr_string, str_size, fpureA_some, fnilA_ptr, faddA_ptr, addr_add, Nat.zero_add, Nat.add_zero, fpureQ_k, fpureQ_nilA, fpureQ_addA, fpureQ_pureA, fpureQ_guardA, fpureQ_idxSlA, fpureQ_pickA, freadQ_loadA, freadQ_loadNA, freadQ_b2sA, freadQ_guardA, freadQ_slSlA, freadQ_k, fendA, fallA_one, fstillA_nil, fguardA_tt, fguardA_ff, fguardA_tf, fguardA_ft, fguardA_undef, fpickA_true, fpickA_false, fcondA_true, fcondA_false, binA_add, binA_sub, binA_mul, binA_eql, binA_neq, binA_lss, binA_leq, binA_gtr, binA_geq, unA_not, Bool.not_true, Bool.not_false, convA_int, extA_tuple, List.getElem?_toArray, List.getElem?_cons_zero, List.getElem?_cons_succ, newA_iff]
  refine ⟨by simp, store2 (cs := [.int .i64 0, .int .i64 0]) f2.base (by simp) rfl ?_⟩
  rw [put_new]
  have s3 : Step h2 (h2.new [.int .i64 ((0 : Nat) : Int), .int .i64 ((0 : Nat) : Int)] 2) [] [h2.next] := (Step.refl h2 [] (by simp)).new _ _
  have hq3 : (h2.new [.int .i64 ((0 : Nat) : Int), .int .i64 ((0 : Nat) : Int)] 2).blk h2.next = some [.int .i64 ((0 : Nat) : Int), .int .i64 ((0 : Nat) : Int)] := by simp
  have hl3 : h2.next < (h2.new [.int .i64 ((0 : Nat) : Int), .int .i64 ((0 : Nat) : Int)] 2).next := by simp
  generalize h2.new [.int .i64 ((0 : Nat) : Int), .int .i64 ((0 : Nat) : Int)] 2 = h3 at s3 hq3 hl3 ⊢
  refine loadNA_whole f.base ((s3.keep _ hl2 (by simp)).1.trans hq2) rfl ?_
  refine callA_of (nRead_spec s.o s.n) fun _ h4 ⟨e, s4⟩ f4 => ?_
  subst e
  simp only [lenSl_slice, lenStr_string, str_size, fpureA_some, fnilA_ptr, faddA_ptr, addr_add, Nat.zero_add, Nat.add_zero, fpureQ_k, fpureQ_nilA, fpureQ_addA, fpureQ_pureA, fpureQ_guardA, fpureQ_idxSlA, fpureQ_pickA, freadQ_loadA, freadQ_loadNA, freadQ_b2sA, freadQ_guardA, freadQ_slSlA, freadQ_k, fendA, fallA_one, fstillA_nil, fguardA_tt, fguardA_ff, fguardA_tf, fguardA_ft, fguardA_undef, fpickA_true, fpickA_false, fcondA_true, fcondA_false, binA_add, binA_sub, binA_mul, binA_eql, binA_neq, binA_lss, binA_leq, binA_gtr, binA_geq, unA_not, Bool.not_true, Bool.not_false, convA_int, extA_tuple, List.getElem?_toArray, List.getElem?_cons_zero, List.getElem?_cons_succ]
  refine callA_of lives_spec fun _ h5 ⟨e, s5⟩ f5 => ?_
  subst e
  have hq5 : h5.blk h2.next = _ := ((s4.trans s5).keep _ hl3 (by simp)).1.trans hq3
  simp only [lenSl_slice, lenStr_string, str_size, fpureA_some, fnilA_ptr, faddA_ptr, addr_add, Nat.zero_add, Nat.add_zero, fpureQ_k, fpureQ_nilA, fpureQ_addA, fpureQ_pureA, fpureQ_guardA, fpureQ_idxSlA, fpureQ_pickA, freadQ_loadA, freadQ_loadNA, freadQ_b2sA, freadQ_guardA, freadQ_slSlA, freadQ_k, fendA, fallA_one, fstillA_nil, fguardA_tt, fguardA_ff, fguardA_tf, fguardA_ft, fguardA_undef, fpickA_true, fpickA_false, fcondA_true, fcondA_false, binA_add, binA_sub, binA_mul, binA_eql, binA_neq, binA_lss, binA_leq, binA_gtr, binA_geq, unA_not, Bool.not_true, Bool.not_false, convA_int, extA_tuple, List.getElem?_toArray, List.getElem?_cons_zero, List.getElem?_cons_succ]
  refine loadNA_whole f2.base hq5 rfl ?_
  have c1 : (((0 : Nat) : Int) == 0 && ((0 : Nat) : Int) == 0) = true := by decide
  simp only [buildA_iff, fillA_nil, eqSlot w0, c1, Bool.and_true, Bool.and_self, lenSl_slice, lenStr_string, str_size, fpureA_some, fnilA_ptr, faddA_ptr, addr_add, Nat.zero_add, Nat.add_zero, fpureQ_k, fpureQ_nilA, fpureQ_addA, fpureQ_pureA, fpureQ_guardA, fpureQ_idxSlA, fpureQ_pickA, freadQ_loadA, freadQ_loadNA, freadQ_b2sA, freadQ_guardA, freadQ_slSlA, freadQ_k, fendA, fallA_one, fstillA_nil, fguardA_tt, fguardA_ff, fguardA_tf, fguardA_ft, fguardA_undef, fpickA_true, fpickA_false, fcondA_true, fcondA_false, binA_add, binA_sub, binA_mul, binA_eql, binA_neq, binA_lss, binA_leq, binA_gtr, binA_geq, unA_not, Bool.not_true, Bool.not_false, convA_int, extA_tuple, List.getElem?_toArray, List.getElem?_cons_zero, List.getElem?_cons_succ, beq_self_eq_true, show ((((0 : Nat) : Int)) == 0) = true from rfl]
  refine callA_of (nBack_spec n) fun _ h6 ⟨e, e6⟩ f6 => ?_
  subst e e6
  simp only [lenSl_slice, lenStr_string, str_size, fpureA_some, fnilA_ptr, faddA_ptr, addr_add, Nat.zero_add, Nat.add_zero, fpureQ_k, fpureQ_nilA, fpureQ_addA, fpureQ_pureA, fpureQ_guardA, fpureQ_idxSlA, fpureQ_pickA, freadQ_loadA, freadQ_loadNA, freadQ_b2sA, freadQ_guardA, freadQ_slSlA, freadQ_k, fendA, fallA_one, fstillA_nil, fguardA_tt, fguardA_ff, fguardA_tf, fguardA_ft, fguardA_undef, fpickA_true, fpickA_false, fcondA_true, fcondA_false, binA_add, binA_sub, binA_mul, binA_eql, binA_neq, binA_lss, binA_leq, binA_gtr, binA_geq, unA_not, Bool.not_true, Bool.not_false, convA_int, extA_tuple, List.getElem?_toArray, List.getElem?_cons_zero, List.getElem?_cons_succ, beq_self_eq_true]
  refine callA_of nSeal_spec fun _ h6 ⟨e, e6⟩ f6 => ?_
  subst e e6
  simp only [lenSl_slice, lenStr_string, str_size, fpureA_some, fnilA_ptr, faddA_ptr, addr_add, Nat.zero_add, Nat.add_zero, fpureQ_k, fpureQ_nilA, fpureQ_addA, fpureQ_pureA, fpureQ_guardA, fpureQ_idxSlA, fpureQ_pickA, freadQ_loadA, freadQ_loadNA, freadQ_b2sA, freadQ_guardA, freadQ_slSlA, freadQ_k, fendA, fallA_one, fstillA_nil, fguardA_tt, fguardA_ff, fguardA_tf, fguardA_ft, fguardA_undef, fpickA_true, fpickA_false, fcondA_true, fcondA_false, binA_add, binA_sub, binA_mul, binA_eql, binA_neq, binA_lss, binA_leq, binA_gtr, binA_geq, unA_not, Bool.not_true, Bool.not_false, convA_int, extA_tuple, List.getElem?_toArray, List.getElem?_cons_zero, List.getElem?_cons_succ, beq_self_eq_true]
  refine callA_of nLeft_spec' fun _ h6 ⟨e, e6⟩ f6 => ?_
  subst e e6
  simp only [lenSl_slice, lenStr_string, str_size, fpureA_some, fnilA_ptr, faddA_ptr, addr_add, Nat.zero_add, Nat.add_zero, fpureQ_k, fpureQ_nilA, fpureQ_addA, fpureQ_pureA, fpureQ_guardA, fpureQ_idxSlA, fpureQ_pickA, freadQ_loadA, freadQ_loadNA, freadQ_b2sA, freadQ_guardA, freadQ_slSlA, freadQ_k, fendA, fallA_one, fstillA_nil, fguardA_tt, fguardA_ff, fguardA_tf, fguardA_ft, fguardA_undef, fpickA_true, fpickA_false, fcondA_true, fcondA_false, binA_add, binA_sub, binA_mul, binA_eql, binA_neq, binA_lss, binA_leq, binA_gtr, binA_geq, unA_not, Bool.not_true, Bool.not_false, convA_int, extA_tuple, List.getElem?_toArray, List.getElem?_cons_zero, List.getElem?_cons_succ, beq_self_eq_true]
  refine callA_of nMark_spec fun _ h6 ⟨e, e6⟩ f6 => ?_
  subst e e6
  simp only [lenSl_slice, lenStr_string, str_size, fpureA_some, fnilA_ptr, faddA_ptr, addr_add, Nat.zero_add, Nat.add_zero, fpureQ_k, fpureQ_nilA, fpureQ_addA, fpureQ_pureA, fpureQ_guardA, fpureQ_idxSlA, fpureQ_pickA, freadQ_loadA, freadQ_loadNA, freadQ_b2sA, freadQ_guardA, freadQ_slSlA, freadQ_k, fendA, fallA_one, fstillA_nil, fguardA_tt, fguardA_ff, fguardA_tf, fguardA_ft, fguardA_undef, fpickA_true, fpickA_false, fcondA_true, fcondA_false, binA_add, binA_sub, binA_mul, binA_eql, binA_neq, binA_lss, binA_leq, binA_gtr, binA_geq, unA_not, Bool.not_true, Bool.not_false, convA_int, extA_tuple, List.getElem?_toArray, List.getElem?_cons_zero, List.getElem?_cons_succ, beq_self_eq_true]
  refine callA_of nTake_spec fun _ h6 ⟨e, e6⟩ f6 => ?_
  subst e e6
  simp only [lenSl_slice, lenStr_string, str_size, fpureA_some, fnilA_ptr, faddA_ptr, addr_add, Nat.zero_add, Nat.add_zero, fpureQ_k, fpureQ_nilA, fpureQ_addA, fpureQ_pureA, fpureQ_guardA, fpureQ_idxSlA, fpureQ_pickA, freadQ_loadA, freadQ_loadNA, freadQ_b2sA, freadQ_guardA, freadQ_slSlA, freadQ_k, fendA, fallA_one, fstillA_nil, fguardA_tt, fguardA_ff, fguardA_tf, fguardA_ft, fguardA_undef, fpickA_true, fpickA_false, fcondA_true, fcondA_false, binA_add, binA_sub, binA_mul, binA_eql, binA_neq, binA_lss, binA_leq, binA_gtr, binA_geq, unA_not, Bool.not_true, Bool.not_false, convA_int, extA_tuple, List.getElem?_toArray, List.getElem?_cons_zero, List.getElem?_cons_succ, show ((((0 : Nat) : Int)) == 0) = true from rfl]
  refine callA_of nSlots_spec fun _ h6 ⟨e, e6⟩ f6 => ?_
  subst e e6
  simp only [lenSl_slice, lenStr_string, str_size, fpureA_some, fnilA_ptr, faddA_ptr, addr_add, Nat.zero_add, Nat.add_zero, fpureQ_k, fpureQ_nilA, fpureQ_addA, fpureQ_pureA, fpureQ_guardA, fpureQ_idxSlA, fpureQ_pickA, freadQ_loadA, freadQ_loadNA, freadQ_b2sA, freadQ_guardA, freadQ_slSlA, freadQ_k, fendA, fallA_one, fstillA_nil, fguardA_tt, fguardA_ff, fguardA_tf, fguardA_ft, fguardA_undef, fpickA_true, fpickA_false, fcondA_true, fcondA_false, binA_add, binA_sub, binA_mul, binA_eql, binA_neq, binA_lss, binA_leq, binA_gtr, binA_geq, unA_not, Bool.not_true, Bool.not_false, convA_int, extA_tuple, List.getElem?_toArray, List.getElem?_cons_zero, List.getElem?_cons_succ, show ((((0 : Nat) : Int)) == 0) = true from rfl]
  refine callA_of nImage_spec fun _ h6 ⟨e, e6⟩ f6 => ?_
  subst e e6
  simp only [lenSl_slice, lenStr_string, str_size, fpureA_some, fnilA_ptr, faddA_ptr, addr_add, Nat.zero_add, Nat.add_zero, fpureQ_k, fpureQ_nilA, fpureQ_addA, fpureQ_pureA, fpureQ_guardA, fpureQ_idxSlA, fpureQ_pickA, freadQ_loadA, freadQ_loadNA, freadQ_b2sA, freadQ_guardA, freadQ_slSlA, freadQ_k, fendA, fallA_one, fstillA_nil, fguardA_tt, fguardA_ff, fguardA_tf, fguardA_ft, fguardA_undef, fpickA_true, fpickA_false, fcondA_true, fcondA_false, binA_add, binA_sub, binA_mul, binA_eql, binA_neq, binA_lss, binA_leq, binA_gtr, binA_geq, unA_not, Bool.not_true, Bool.not_false, convA_int, extA_tuple, List.getElem?_toArray, List.getElem?_cons_zero, List.getElem?_cons_succ, show ((((0 : Nat) : Int)) == 0) = true from rfl]
  refine callA_of nFork_spec fun _ h6 ⟨e, e6⟩ f6 => ?_
  subst e e6
  simp only [binPtrA_eql0, lenSl_slice, lenStr_string, str_size, fpureA_some, fnilA_ptr, faddA_ptr, addr_add, Nat.zero_add, Nat.add_zero, fpureQ_k, fpureQ_nilA, fpureQ_addA, fpureQ_pureA, fpureQ_guardA, fpureQ_idxSlA, fpureQ_pickA, freadQ_loadA, freadQ_loadNA, freadQ_b2sA, freadQ_guardA, freadQ_slSlA, freadQ_k, fendA, fallA_one, fstillA_nil, fguardA_tt, fguardA_ff, fguardA_tf, fguardA_ft, fguardA_undef, fpickA_true, fpickA_false, fcondA_true, fcondA_false, binA_add, binA_sub, binA_mul, binA_eql, binA_neq, binA_lss, binA_leq, binA_gtr, binA_geq, unA_not, Bool.not_true, Bool.not_false, convA_int, extA_tuple, List.getElem?_toArray, List.getElem?_cons_zero, List.getElem?_cons_succ, retA_iff, oneOf_one]
  simp
end
end Go.Proofs.Ytfhamcobfpmgbaa.Ah
