/- LayoutChecks, LayoutKinds, LayoutNames: the walks. -/
import Derived.Test.YtihebhdgjnibfaaYe
set_option linter.unusedVariables false
set_option linter.unusedSimpArgs false
namespace Go.Proofs.Ytihebhdgjnibfaa.Ah
open Go

def dShp : Dec Shp := ⟨Shp.e, fun s => (-9223372036854775808 ≤ s.sec ∧ s.sec ≤ 9223372036854775807) ∧ (-9223372036854775808 ≤ s.tot ∧ s.tot ≤ 9223372036854775807) ∧ (-9223372036854775808 ≤ s.jou ∧ s.jou ≤ 9223372036854775807) ∧ (-9223372036854775808 ≤ s.pck ∧ s.pck ≤ 9223372036854775807) ∧
  (-9223372036854775808 ≤ s.mn ∧ s.mn ≤ 9223372036854775807) ∧ (-9223372036854775808 ≤ s.nm ∧ s.nm ≤ 9223372036854775807) ∧ (-9223372036854775808 ≤ s.mx ∧ s.mx ≤ 9223372036854775807) ∧ (0 ≤ s.seed ∧ s.seed ≤ 18446744073709551615) ∧ (-9223372036854775808 ≤ s.bits ∧ s.bits ≤ 9223372036854775807), fun _ => 1⟩
theorem dShp_in {s : Shp} (h : dShp.ok s) : s.In := by
  obtain ⟨a, b, c, d, e, f, g, i, j⟩ := h
  exact ⟨a, b, c, d, e, f, g, i, j⟩
def dSup : Dec Sup := ⟨Sup.e, fun x => (0 ≤ x.gen ∧ x.gen ≤ 18446744073709551615) ∧ (-9223372036854775808 ≤ x.root ∧ x.root ≤ 9223372036854775807) ∧ dShp.ok x.s, fun _ => 1⟩
theorem dSup_in {x : Sup} (h : dSup.ok x) : x.In := ⟨h.1, h.2.1, dShp_in h.2.2⟩
section
variable {w0 : World} {h : Hp} {s : Shp}
theorem LayoutChecks_top (i : s.In) : ACalls prog w0 n_deduplaw04_LayoutChecks [.agg s.e.toArray] h fun v h' => v = .bool true := by
  refine ACalls.of_fit (by simp) fun f => c_deduplaw04_LayoutChecks (by simp) ?_
  simp only [s_deduplaw04_LayoutChecks, boxA_agg, List.toList_toArray, allA_one]
  have hq1 : (h.new s.e 10).blk h.next = some s.e := by simp
  have hn1 : h.next < (h.new s.e 10).next := by simp
  have hB := f.base
  generalize h.new s.e 10 = h1 at hq1 hn1 ⊢
  refine callA_of awake_spec fun v h2 ⟨e, s2⟩ f2 => ?_
  subst e
  have hq2 := (s2.keep _ hn1 (by simp)).1.trans hq1
  have hn2 : h.next < h2.next := by have := s2.next; omega
  simp only [stillA_iff, lenSl_slice, lenStr_string, str_size, fpureA_some, fnilA_ptr, faddA_ptr, addr_add, Nat.zero_add, Nat.add_zero, fpureQ_k, fpureQ_nilA, fpureQ_addA, fpureQ_pureA, fpureQ_guardA, fpureQ_idxSlA, fpureQ_pickA, freadQ_loadA, freadQ_loadNA, freadQ_b2sA, freadQ_guardA, freadQ_slSlA, freadQ_k, fendA, fallA_one, fstillA_nil, fguardA_tt, fguardA_ff, fguardA_tf, fguardA_ft, fguardA_undef, fpickA_true, fpickA_false, fcondA_true, fcondA_false, binA_add, binA_sub, binA_mul, binA_eql, binA_neq, binA_lss, binA_leq, binA_gtr, binA_geq, unA_not, Bool.not_true, Bool.not_false, convA_int, extA_tuple, List.getElem?_toArray, List.getElem?_cons_zero, List.getElem?_cons_succ]
  refine ⟨by trivial, loadNA_whole hB hq2 rfl (loadNA_whole hB hq2 rfl ?_)⟩
  try simp only [allA_one, lenSl_slice, lenStr_string, str_size, fpureA_some, fnilA_ptr, faddA_ptr, addr_add, Nat.zero_add, Nat.add_zero, fpureQ_k, fpureQ_nilA, fpureQ_addA, fpureQ_pureA, fpureQ_guardA, fpureQ_idxSlA, fpureQ_pickA, freadQ_loadA, freadQ_loadNA, freadQ_b2sA, freadQ_guardA, freadQ_slSlA, freadQ_k, fendA, fallA_one, fstillA_nil, fguardA_tt, fguardA_ff, fguardA_tf, fguardA_ft, fguardA_undef, fpickA_true, fpickA_false, fcondA_true, fcondA_false, binA_add, binA_sub, binA_mul, binA_eql, binA_neq, binA_lss, binA_leq, binA_gtr, binA_geq, unA_not, Bool.not_true, Bool.not_false, convA_int, extA_tuple, List.getElem?_toArray, List.getElem?_cons_zero, List.getElem?_cons_succ]
  refine callA_of (Check_spec i) fun v h3 ⟨e, s3⟩ f3 => ?_
  subst e
  have hq3 := (s3.keep _ hn2 (by simp)).1.trans hq2
  have hn3 : h.next < h3.next := by have := s3.next; omega
  simp only [stillA_iff, allA_one, sameQ_loadNA, lenSl_slice, lenStr_string, str_size, fpureA_some, fnilA_ptr, faddA_ptr, addr_add, Nat.zero_add, Nat.add_zero, fpureQ_k, fpureQ_nilA, fpureQ_addA, fpureQ_pureA, fpureQ_guardA, fpureQ_idxSlA, fpureQ_pickA, freadQ_loadA, freadQ_loadNA, freadQ_b2sA, freadQ_guardA, freadQ_slSlA, freadQ_k, fendA, fallA_one, fstillA_nil, fguardA_tt, fguardA_ff, fguardA_tf, fguardA_ft, fguardA_undef, fpickA_true, fpickA_false, fcondA_true, fcondA_false, binA_add, binA_sub, binA_mul, binA_eql, binA_neq, binA_lss, binA_leq, binA_gtr, binA_geq, unA_not, Bool.not_true, Bool.not_false, convA_int, extA_tuple, List.getElem?_toArray, List.getElem?_cons_zero, List.getElem?_cons_succ]
  refine ⟨loadNA_whole hB hq3 rfl rfl, ?_⟩
  refine callA_of (rCheck_spec i) fun v h4 ⟨e, s4⟩ f4 => ?_
  subst e
  have hq4 := (s4.keep _ hn3 (by simp)).1.trans hq3
  have hn4 : h.next < h4.next := by have := s4.next; omega
  simp only [stillA_iff, lenSl_slice, lenStr_string, str_size, fpureA_some, fnilA_ptr, faddA_ptr, addr_add, Nat.zero_add, Nat.add_zero, fpureQ_k, fpureQ_nilA, fpureQ_addA, fpureQ_pureA, fpureQ_guardA, fpureQ_idxSlA, fpureQ_pickA, freadQ_loadA, freadQ_loadNA, freadQ_b2sA, freadQ_guardA, freadQ_slSlA, freadQ_k, fendA, fallA_one, fstillA_nil, fguardA_tt, fguardA_ff, fguardA_tf, fguardA_ft, fguardA_undef, fpickA_true, fpickA_false, fcondA_true, fcondA_false, binA_add, binA_sub, binA_mul, binA_eql, binA_neq, binA_lss, binA_leq, binA_gtr, binA_geq, unA_not, Bool.not_true, Bool.not_false, convA_int, extA_tuple, List.getElem?_toArray, List.getElem?_cons_zero, List.getElem?_cons_succ, beq_self_eq_true]
  refine loadNA_whole hB hq4 rfl (loadNA_whole hB hq4 rfl ?_)
  try simp only [allA_one, lenSl_slice, lenStr_string, str_size, fpureA_some, fnilA_ptr, faddA_ptr, addr_add, Nat.zero_add, Nat.add_zero, fpureQ_k, fpureQ_nilA, fpureQ_addA, fpureQ_pureA, fpureQ_guardA, fpureQ_idxSlA, fpureQ_pickA, freadQ_loadA, freadQ_loadNA, freadQ_b2sA, freadQ_guardA, freadQ_slSlA, freadQ_k, fendA, fallA_one, fstillA_nil, fguardA_tt, fguardA_ff, fguardA_tf, fguardA_ft, fguardA_undef, fpickA_true, fpickA_false, fcondA_true, fcondA_false, binA_add, binA_sub, binA_mul, binA_eql, binA_neq, binA_lss, binA_leq, binA_gtr, binA_geq, unA_not, Bool.not_true, Bool.not_false, convA_int, extA_tuple, List.getElem?_toArray, List.getElem?_cons_zero, List.getElem?_cons_succ]
  refine callA_of (Journal_spec i) fun v h5 ⟨e, s5⟩ f5 => ?_
  subst e
  have hq5 := (s5.keep _ hn4 (by simp)).1.trans hq4
  have hn5 : h.next < h5.next := by have := s5.next; omega
  simp only [stillA_iff, allA_one, sameQ_loadNA, lenSl_slice, lenStr_string, str_size, fpureA_some, fnilA_ptr, faddA_ptr, addr_add, Nat.zero_add, Nat.add_zero, fpureQ_k, fpureQ_nilA, fpureQ_addA, fpureQ_pureA, fpureQ_guardA, fpureQ_idxSlA, fpureQ_pickA, freadQ_loadA, freadQ_loadNA, freadQ_b2sA, freadQ_guardA, freadQ_slSlA, freadQ_k, fendA, fallA_one, fstillA_nil, fguardA_tt, fguardA_ff, fguardA_tf, fguardA_ft, fguardA_undef, fpickA_true, fpickA_false, fcondA_true, fcondA_false, binA_add, binA_sub, binA_mul, binA_eql, binA_neq, binA_lss, binA_leq, binA_gtr, binA_geq, unA_not, Bool.not_true, Bool.not_false, convA_int, extA_tuple, List.getElem?_toArray, List.getElem?_cons_zero, List.getElem?_cons_succ]
  refine ⟨loadNA_whole hB hq5 rfl rfl, ?_⟩
  refine callA_of (rJournal_spec i) fun v h6 ⟨e, s6⟩ f6 => ?_
  subst e
  have hq6 := (s6.keep _ hn5 (by simp)).1.trans hq5
  have hn6 : h.next < h6.next := by have := s6.next; omega
  simp only [stillA_iff, fpureQ_eqStA, area, eqArea w0, lenSl_slice, lenStr_string, str_size, fpureA_some, fnilA_ptr, faddA_ptr, addr_add, Nat.zero_add, Nat.add_zero, fpureQ_k, fpureQ_nilA, fpureQ_addA, fpureQ_pureA, fpureQ_guardA, fpureQ_idxSlA, fpureQ_pickA, freadQ_loadA, freadQ_loadNA, freadQ_b2sA, freadQ_guardA, freadQ_slSlA, freadQ_k, fendA, fallA_one, fstillA_nil, fguardA_tt, fguardA_ff, fguardA_tf, fguardA_ft, fguardA_undef, fpickA_true, fpickA_false, fcondA_true, fcondA_false, binA_add, binA_sub, binA_mul, binA_eql, binA_neq, binA_lss, binA_leq, binA_gtr, binA_geq, unA_not, Bool.not_true, Bool.not_false, convA_int, extA_tuple, List.getElem?_toArray, List.getElem?_cons_zero, List.getElem?_cons_succ, beq_self_eq_true, Bool.and_self]
  refine loadNA_whole hB hq6 rfl (loadNA_whole hB hq6 rfl ?_)
  try simp only [allA_one, lenSl_slice, lenStr_string, str_size, fpureA_some, fnilA_ptr, faddA_ptr, addr_add, Nat.zero_add, Nat.add_zero, fpureQ_k, fpureQ_nilA, fpureQ_addA, fpureQ_pureA, fpureQ_guardA, fpureQ_idxSlA, fpureQ_pickA, freadQ_loadA, freadQ_loadNA, freadQ_b2sA, freadQ_guardA, freadQ_slSlA, freadQ_k, fendA, fallA_one, fstillA_nil, fguardA_tt, fguardA_ff, fguardA_tf, fguardA_ft, fguardA_undef, fpickA_true, fpickA_false, fcondA_true, fcondA_false, binA_add, binA_sub, binA_mul, binA_eql, binA_neq, binA_lss, binA_leq, binA_gtr, binA_geq, unA_not, Bool.not_true, Bool.not_false, convA_int, extA_tuple, List.getElem?_toArray, List.getElem?_cons_zero, List.getElem?_cons_succ]
  refine callA_of (Data_spec i) fun v h7 ⟨e, s7⟩ f7 => ?_
  subst e
  have hq7 := (s7.keep _ hn6 (by simp)).1.trans hq6
  have hn7 : h.next < h7.next := by have := s7.next; omega
  simp only [stillA_iff, allA_one, sameQ_loadNA, lenSl_slice, lenStr_string, str_size, fpureA_some, fnilA_ptr, faddA_ptr, addr_add, Nat.zero_add, Nat.add_zero, fpureQ_k, fpureQ_nilA, fpureQ_addA, fpureQ_pureA, fpureQ_guardA, fpureQ_idxSlA, fpureQ_pickA, freadQ_loadA, freadQ_loadNA, freadQ_b2sA, freadQ_guardA, freadQ_slSlA, freadQ_k, fendA, fallA_one, fstillA_nil, fguardA_tt, fguardA_ff, fguardA_tf, fguardA_ft, fguardA_undef, fpickA_true, fpickA_false, fcondA_true, fcondA_false, binA_add, binA_sub, binA_mul, binA_eql, binA_neq, binA_lss, binA_leq, binA_gtr, binA_geq, unA_not, Bool.not_true, Bool.not_false, convA_int, extA_tuple, List.getElem?_toArray, List.getElem?_cons_zero, List.getElem?_cons_succ]
  refine ⟨loadNA_whole hB hq7 rfl rfl, ?_⟩
  refine callA_of (rData_spec i) fun v h8 ⟨e, s8⟩ f8 => ?_
  subst e
  simp only [stillA_iff, fpureQ_eqStA, area, eqArea w0, lenSl_slice, lenStr_string, str_size, fpureA_some, fnilA_ptr, faddA_ptr, addr_add, Nat.zero_add, Nat.add_zero, fpureQ_k, fpureQ_nilA, fpureQ_addA, fpureQ_pureA, fpureQ_guardA, fpureQ_idxSlA, fpureQ_pickA, freadQ_loadA, freadQ_loadNA, freadQ_b2sA, freadQ_guardA, freadQ_slSlA, freadQ_k, fendA, fallA_one, fstillA_nil, fguardA_tt, fguardA_ff, fguardA_tf, fguardA_ft, fguardA_undef, fpickA_true, fpickA_false, fcondA_true, fcondA_false, binA_add, binA_sub, binA_mul, binA_eql, binA_neq, binA_lss, binA_leq, binA_gtr, binA_geq, unA_not, Bool.not_true, Bool.not_false, convA_int, extA_tuple, List.getElem?_toArray, List.getElem?_cons_zero, List.getElem?_cons_succ, beq_self_eq_true, Bool.and_self, retA_iff, oneOf_one]
  exact ⟨by simp, by trivial⟩
theorem LayoutKinds_top (i : s.In) (n : Int) (hn : i64R n) : ACalls prog w0 n_deduplaw04_LayoutKinds [.agg s.e.toArray, .int .i64 n] h fun v h' => v = .bool true := by
  refine ACalls.of_fit (by simp) fun f => c_deduplaw04_LayoutKinds (by simp) ?_
  simp only [s_deduplaw04_LayoutKinds, boxA_agg, List.toList_toArray, allA_one]
  have hq1 : (h.new s.e 10).blk h.next = some s.e := by simp
  have hn1 : h.next < (h.new s.e 10).next := by simp
  have hB := f.base
  generalize h.new s.e 10 = h1 at hq1 hn1 ⊢
  refine callA_of awake_spec fun v h2 ⟨e, s2⟩ f2 => ?_
  subst e
  have hq2 := (s2.keep _ hn1 (by simp)).1.trans hq1
  have hn2 : h.next < h2.next := by have := s2.next; omega
  simp only [stillA_iff, lenSl_slice, lenStr_string, str_size, fpureA_some, fnilA_ptr, faddA_ptr, addr_add, Nat.zero_add, Nat.add_zero, fpureQ_k, fpureQ_nilA, fpureQ_addA, fpureQ_pureA, fpureQ_guardA, fpureQ_idxSlA, fpureQ_pickA, freadQ_loadA, freadQ_loadNA, freadQ_b2sA, freadQ_guardA, freadQ_slSlA, freadQ_k, fendA, fallA_one, fstillA_nil, fguardA_tt, fguardA_ff, fguardA_tf, fguardA_ft, fguardA_undef, fpickA_true, fpickA_false, fcondA_true, fcondA_false, binA_add, binA_sub, binA_mul, binA_eql, binA_neq, binA_lss, binA_leq, binA_gtr, binA_geq, unA_not, Bool.not_true, Bool.not_false, convA_int, extA_tuple, List.getElem?_toArray, List.getElem?_cons_zero, List.getElem?_cons_succ]
  refine ⟨by trivial, loadNA_whole hB hq2 rfl (loadNA_whole hB hq2 rfl ?_)⟩
  try simp only [allA_one, lenSl_slice, lenStr_string, str_size, fpureA_some, fnilA_ptr, faddA_ptr, addr_add, Nat.zero_add, Nat.add_zero, fpureQ_k, fpureQ_nilA, fpureQ_addA, fpureQ_pureA, fpureQ_guardA, fpureQ_idxSlA, fpureQ_pickA, freadQ_loadA, freadQ_loadNA, freadQ_b2sA, freadQ_guardA, freadQ_slSlA, freadQ_k, fendA, fallA_one, fstillA_nil, fguardA_tt, fguardA_ff, fguardA_tf, fguardA_ft, fguardA_undef, fpickA_true, fpickA_false, fcondA_true, fcondA_false, binA_add, binA_sub, binA_mul, binA_eql, binA_neq, binA_lss, binA_leq, binA_gtr, binA_geq, unA_not, Bool.not_true, Bool.not_false, convA_int, extA_tuple, List.getElem?_toArray, List.getElem?_cons_zero, List.getElem?_cons_succ]
  refine callA_of (Kind_spec i n hn) fun v h3 ⟨e, s3⟩ f3 => ?_
  subst e
  have hq3 := (s3.keep _ hn2 (by simp)).1.trans hq2
  have hn3 : h.next < h3.next := by have := s3.next; omega
  simp only [stillA_iff, allA_one, sameQ_loadNA, lenSl_slice, lenStr_string, str_size, fpureA_some, fnilA_ptr, faddA_ptr, addr_add, Nat.zero_add, Nat.add_zero, fpureQ_k, fpureQ_nilA, fpureQ_addA, fpureQ_pureA, fpureQ_guardA, fpureQ_idxSlA, fpureQ_pickA, freadQ_loadA, freadQ_loadNA, freadQ_b2sA, freadQ_guardA, freadQ_slSlA, freadQ_k, fendA, fallA_one, fstillA_nil, fguardA_tt, fguardA_ff, fguardA_tf, fguardA_ft, fguardA_undef, fpickA_true, fpickA_false, fcondA_true, fcondA_false, binA_add, binA_sub, binA_mul, binA_eql, binA_neq, binA_lss, binA_leq, binA_gtr, binA_geq, unA_not, Bool.not_true, Bool.not_false, convA_int, extA_tuple, List.getElem?_toArray, List.getElem?_cons_zero, List.getElem?_cons_succ]
  refine ⟨loadNA_whole hB hq3 rfl rfl, ?_⟩
  refine callA_of (rKind_spec i n hn) fun v h4 ⟨e, s4⟩ f4 => ?_
  subst e
  simp only [stillA_iff, lenSl_slice, lenStr_string, str_size, fpureA_some, fnilA_ptr, faddA_ptr, addr_add, Nat.zero_add, Nat.add_zero, fpureQ_k, fpureQ_nilA, fpureQ_addA, fpureQ_pureA, fpureQ_guardA, fpureQ_idxSlA, fpureQ_pickA, freadQ_loadA, freadQ_loadNA, freadQ_b2sA, freadQ_guardA, freadQ_slSlA, freadQ_k, fendA, fallA_one, fstillA_nil, fguardA_tt, fguardA_ff, fguardA_tf, fguardA_ft, fguardA_undef, fpickA_true, fpickA_false, fcondA_true, fcondA_false, binA_add, binA_sub, binA_mul, binA_eql, binA_neq, binA_lss, binA_leq, binA_gtr, binA_geq, unA_not, Bool.not_true, Bool.not_false, convA_int, extA_tuple, List.getElem?_toArray, List.getElem?_cons_zero, List.getElem?_cons_succ, beq_self_eq_true, retA_iff, oneOf_one]
  exact ⟨by simp, by trivial⟩
theorem LayoutNames_top : ACalls prog w0 n_deduplaw04_LayoutNames [] h fun v h' => v = .bool true := by
  refine ACalls.of_fit (by simp) fun f => c_deduplaw04_LayoutNames (by simp) ?_
  simp only [s_deduplaw04_LayoutNames]
  refine callA_of awake_spec fun v h2 ⟨e, s2⟩ f2 => ?_
  subst e
  simp only [lenSl_slice, lenStr_string, str_size, fpureA_some, fnilA_ptr, faddA_ptr, addr_add, Nat.zero_add, Nat.add_zero, fpureQ_k, fpureQ_nilA, fpureQ_addA, fpureQ_pureA, fpureQ_guardA, fpureQ_idxSlA, fpureQ_pickA, freadQ_loadA, freadQ_loadNA, freadQ_b2sA, freadQ_guardA, freadQ_slSlA, freadQ_k, fendA, fallA_one, fstillA_nil, fguardA_tt, fguardA_ff, fguardA_tf, fguardA_ft, fguardA_undef, fpickA_true, fpickA_false, fcondA_true, fcondA_false, binA_add, binA_sub, binA_mul, binA_eql, binA_neq, binA_lss, binA_leq, binA_gtr, binA_geq, unA_not, Bool.not_true, Bool.not_false, convA_int, extA_tuple, List.getElem?_toArray, List.getElem?_cons_zero, List.getElem?_cons_succ, retA_iff, oneOf_one]
  simp
end
end Go.Proofs.Ytihebhdgjnibfaa.Ah
