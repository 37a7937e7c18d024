/- The document's Chunk; what is laid into a slice of one's own; what a container holds. -/
import Derived.Test.YtfhamcobfpmgbaaPd
set_option linter.unusedVariables false
set_option linter.unusedSimpArgs false
namespace Go.Proofs.Ytfhamcobfpmgbaa.Ah
open Go

section
variable {w0 : World} {h : Hp}
theorem rChunk_spec {x : Value} {b : List UInt8} (v : Bs w0 h x b) (hb : b.length ≤ 1000000000) (o n : Int) (ho : -9223372036854775808 ≤ o ∧ o ≤ 9223372036854775807) (hn : -9223372036854775808 ≤ n ∧ n ≤ 9223372036854775807) :
    ACalls prog w0 n_dedupref13_Chunk [x, slt o n] h fun r h' => chunkV w0 h' r (chunkOf b o n) ∧ Step h h' [] [] := by
  refine ACalls.of_fit (by simpa [slt] using v.junk) fun f => c_dedupref13_Chunk (by simpa [slt] using v.junk) ?_
  simp only [s_dedupref13_Chunk, slt, boxA_agg, List.toList_toArray, lenSl_slice, lenStr_string, str_size, fpureA_some, fnilA_ptr, faddA_ptr, addr_add, Nat.zero_add, Nat.add_zero, fpureQ_k, fpureQ_nilA, fpureQ_addA, fpureQ_pureA, fpureQ_guardA, fpureQ_idxSlA, fpureQ_pickA, freadQ_loadA, freadQ_loadNA, freadQ_b2sA, freadQ_guardA, freadQ_slSlA, freadQ_k, fendA, fallA_one, fstillA_nil, fguardA_tt, fguardA_ff, fguardA_tf, fguardA_ft, fguardA_undef, fpickA_true, fpickA_false, fcondA_true, fcondA_false, binA_add, binA_sub, binA_mul, binA_eql, binA_neq, binA_lss, binA_leq, binA_gtr, binA_geq, unA_not, Bool.not_true, Bool.not_false, convA_int, extA_tuple, List.getElem?_toArray, List.getElem?_cons_zero, List.getElem?_cons_succ]
  have s1 : Step h (h.new [.int .i64 o, .int .i64 n] 2) [] [h.next] := (Step.refl h [] (by simp)).new _ _
  have hB := f.base
  have hq1 : (h.new [.int .i64 o, .int .i64 n] 2).blk h.next = some [.int .i64 o, .int .i64 n] := by simp
  refine loadA_at hB hq1 (by rfl) ?_
  simp only [lenSl_slice, lenStr_string, str_size, fpureA_some, fnilA_ptr, faddA_ptr, addr_add, Nat.zero_add, Nat.add_zero, fpureQ_k, fpureQ_nilA, fpureQ_addA, fpureQ_pureA, fpureQ_guardA, fpureQ_idxSlA, fpureQ_pickA, freadQ_loadA, freadQ_loadNA, freadQ_b2sA, freadQ_guardA, freadQ_slSlA, freadQ_k, fendA, fallA_one, fstillA_nil, fguardA_tt, fguardA_ff, fguardA_tf, fguardA_ft, fguardA_undef, fpickA_true, fpickA_false, fcondA_true, fcondA_false, binA_add, binA_sub, binA_mul, binA_eql, binA_neq, binA_lss, binA_leq, binA_gtr, binA_geq, unA_not, Bool.not_true, Bool.not_false, convA_int, extA_tuple, List.getElem?_toArray, List.getElem?_cons_zero, List.getElem?_cons_succ]
  obtain ⟨ax, cx, hx⟩ := v.slice
  have hlen : lenSl x = some (.int .i64 b.length) := by rw [hx]; rfl
  -- what is told when there is none
  have none_ : ∀ {h' : Hp}, chunkOf b o n = none → Step h h' [] [] → retA [.slice none 0 0, .int .i64 130] (fun r h' => chunkV w0 h' r (chunkOf b o n) ∧ Step h h' [] []) h' := by
    intro h' e st
    simp only [retA_iff, oneOf_two, e, chunkV]
    exact ⟨by simp, by trivial, st⟩
  by_cases h1 : o < 8
  · have c1 : decide (o < 8) = true := decide_eq_true h1
    simp only [c1, lenSl_slice, lenStr_string, str_size, fpureA_some, fnilA_ptr, faddA_ptr, addr_add, Nat.zero_add, Nat.add_zero, fpureQ_k, fpureQ_nilA, fpureQ_addA, fpureQ_pureA, fpureQ_guardA, fpureQ_idxSlA, fpureQ_pickA, freadQ_loadA, freadQ_loadNA, freadQ_b2sA, freadQ_guardA, freadQ_slSlA, freadQ_k, fendA, fallA_one, fstillA_nil, fguardA_tt, fguardA_ff, fguardA_tf, fguardA_ft, fguardA_undef, fpickA_true, fpickA_false, fcondA_true, fcondA_false, binA_add, binA_sub, binA_mul, binA_eql, binA_neq, binA_lss, binA_leq, binA_gtr, binA_geq, unA_not, Bool.not_true, Bool.not_false, convA_int, extA_tuple, List.getElem?_toArray, List.getElem?_cons_zero, List.getElem?_cons_succ]
    exact none_ (by unfold chunkOf; rw [if_pos h1]) (s1.less (by simp))
  have c1 : decide (o < 8) = false := decide_eq_false h1
  obtain ⟨k, rfl⟩ := Int.eq_ofNat_of_zero_le (show 0 ≤ o by omega)
  simp only [c1, lenSl_slice, lenStr_string, str_size, fpureA_some, fnilA_ptr, faddA_ptr, addr_add, Nat.zero_add, Nat.add_zero, fpureQ_k, fpureQ_nilA, fpureQ_addA, fpureQ_pureA, fpureQ_guardA, fpureQ_idxSlA, fpureQ_pickA, freadQ_loadA, freadQ_loadNA, freadQ_b2sA, freadQ_guardA, freadQ_slSlA, freadQ_k, fendA, fallA_one, fstillA_nil, fguardA_tt, fguardA_ff, fguardA_tf, fguardA_ft, fguardA_undef, fpickA_true, fpickA_false, fcondA_true, fcondA_false, binA_add, binA_sub, binA_mul, binA_eql, binA_neq, binA_lss, binA_leq, binA_gtr, binA_geq, unA_not, Bool.not_true, Bool.not_false, convA_int, extA_tuple, List.getElem?_toArray, List.getElem?_cons_zero, List.getElem?_cons_succ]
  refine loadA_at hB hq1 (by rfl) ?_
  simp only [hlen, lenSl_slice, lenStr_string, str_size, fpureA_some, fnilA_ptr, faddA_ptr, addr_add, Nat.zero_add, Nat.add_zero, fpureQ_k, fpureQ_nilA, fpureQ_addA, fpureQ_pureA, fpureQ_guardA, fpureQ_idxSlA, fpureQ_pickA, freadQ_loadA, freadQ_loadNA, freadQ_b2sA, freadQ_guardA, freadQ_slSlA, freadQ_k, fendA, fallA_one, fstillA_nil, fguardA_tt, fguardA_ff, fguardA_tf, fguardA_ft, fguardA_undef, fpickA_true, fpickA_false, fcondA_true, fcondA_false, binA_add, binA_sub, binA_mul, binA_eql, binA_neq, binA_lss, binA_leq, binA_gtr, binA_geq, unA_not, Bool.not_true, Bool.not_false, convA_int, extA_tuple, List.getElem?_toArray, List.getElem?_cons_zero, List.getElem?_cons_succ]
  by_cases h2 : b.length < k
  · have c2 : decide ((b.length : Int) < (k : Int)) = true := decide_eq_true (by omega)
    simp only [c2, lenSl_slice, lenStr_string, str_size, fpureA_some, fnilA_ptr, faddA_ptr, addr_add, Nat.zero_add, Nat.add_zero, fpureQ_k, fpureQ_nilA, fpureQ_addA, fpureQ_pureA, fpureQ_guardA, fpureQ_idxSlA, fpureQ_pickA, freadQ_loadA, freadQ_loadNA, freadQ_b2sA, freadQ_guardA, freadQ_slSlA, freadQ_k, fendA, fallA_one, fstillA_nil, fguardA_tt, fguardA_ff, fguardA_tf, fguardA_ft, fguardA_undef, fpickA_true, fpickA_false, fcondA_true, fcondA_false, binA_add, binA_sub, binA_mul, binA_eql, binA_neq, binA_lss, binA_leq, binA_gtr, binA_geq, unA_not, Bool.not_true, Bool.not_false, convA_int, extA_tuple, List.getElem?_toArray, List.getElem?_cons_zero, List.getElem?_cons_succ]
    refine none_ ?_ (s1.less (by simp))
    unfold chunkOf
    rw [if_neg h1, if_neg]
    rintro ⟨e, -⟩
    have := slotOf_some e
    simp at this
    omega
  have c2 : decide ((b.length : Int) < (k : Int)) = false := decide_eq_false (by omega)
  simp only [c2, lenSl_slice, lenStr_string, str_size, fpureA_some, fnilA_ptr, faddA_ptr, addr_add, Nat.zero_add, Nat.add_zero, fpureQ_k, fpureQ_nilA, fpureQ_addA, fpureQ_pureA, fpureQ_guardA, fpureQ_idxSlA, fpureQ_pickA, freadQ_loadA, freadQ_loadNA, freadQ_b2sA, freadQ_guardA, freadQ_slSlA, freadQ_k, fendA, fallA_one, fstillA_nil, fguardA_tt, fguardA_ff, fguardA_tf, fguardA_ft, fguardA_undef, fpickA_true, fpickA_false, fcondA_true, fcondA_false, binA_add, binA_sub, binA_mul, binA_eql, binA_neq, binA_lss, binA_leq, binA_gtr, binA_geq, unA_not, Bool.not_true, Bool.not_false, convA_int, extA_tuple, List.getElem?_toArray, List.getElem?_cons_zero, List.getElem?_cons_succ]
  refine loadA_at hB hq1 (by rfl) ?_
  simp only [lenSl_slice, lenStr_string, str_size, fpureA_some, fnilA_ptr, faddA_ptr, addr_add, Nat.zero_add, Nat.add_zero, fpureQ_k, fpureQ_nilA, fpureQ_addA, fpureQ_pureA, fpureQ_guardA, fpureQ_idxSlA, fpureQ_pickA, freadQ_loadA, freadQ_loadNA, freadQ_b2sA, freadQ_guardA, freadQ_slSlA, freadQ_k, fendA, fallA_one, fstillA_nil, fguardA_tt, fguardA_ff, fguardA_tf, fguardA_ft, fguardA_undef, fpickA_true, fpickA_false, fcondA_true, fcondA_false, binA_add, binA_sub, binA_mul, binA_eql, binA_neq, binA_lss, binA_leq, binA_gtr, binA_geq, unA_not, Bool.not_true, Bool.not_false, convA_int, extA_tuple, List.getElem?_toArray, List.getElem?_cons_zero, List.getElem?_cons_succ]
  by_cases h3 : n < 1
  · have c3 : decide (n < 1) = true := decide_eq_true h3
    simp only [c3, lenSl_slice, lenStr_string, str_size, fpureA_some, fnilA_ptr, faddA_ptr, addr_add, Nat.zero_add, Nat.add_zero, fpureQ_k, fpureQ_nilA, fpureQ_addA, fpureQ_pureA, fpureQ_guardA, fpureQ_idxSlA, fpureQ_pickA, freadQ_loadA, freadQ_loadNA, freadQ_b2sA, freadQ_guardA, freadQ_slSlA, freadQ_k, fendA, fallA_one, fstillA_nil, fguardA_tt, fguardA_ff, fguardA_tf, fguardA_ft, fguardA_undef, fpickA_true, fpickA_false, fcondA_true, fcondA_false, binA_add, binA_sub, binA_mul, binA_eql, binA_neq, binA_lss, binA_leq, binA_gtr, binA_geq, unA_not, Bool.not_true, Bool.not_false, convA_int, extA_tuple, List.getElem?_toArray, List.getElem?_cons_zero, List.getElem?_cons_succ]
    refine none_ ?_ (s1.less (by simp))
    unfold chunkOf
    rw [if_neg h1, if_neg]
    rintro ⟨e, -⟩
    have := slotOf_some e
    omega
  have c3 : decide (n < 1) = false := decide_eq_false h3
  have e3 : IntKind.i64.wrap ((b.length : Int) - (k : Int)) = ((b.length - k : Nat) : Int) := by rw [IntWalk.i64_in _ (by omega)]; omega
  simp only [c3, lenSl_slice, lenStr_string, str_size, fpureA_some, fnilA_ptr, faddA_ptr, addr_add, Nat.zero_add, Nat.add_zero, fpureQ_k, fpureQ_nilA, fpureQ_addA, fpureQ_pureA, fpureQ_guardA, fpureQ_idxSlA, fpureQ_pickA, freadQ_loadA, freadQ_loadNA, freadQ_b2sA, freadQ_guardA, freadQ_slSlA, freadQ_k, fendA, fallA_one, fstillA_nil, fguardA_tt, fguardA_ff, fguardA_tf, fguardA_ft, fguardA_undef, fpickA_true, fpickA_false, fcondA_true, fcondA_false, binA_add, binA_sub, binA_mul, binA_eql, binA_neq, binA_lss, binA_leq, binA_gtr, binA_geq, unA_not, Bool.not_true, Bool.not_false, convA_int, extA_tuple, List.getElem?_toArray, List.getElem?_cons_zero, List.getElem?_cons_succ]
  refine loadA_at hB hq1 (by rfl) ?_
  simp only [hlen, lenSl_slice, lenStr_string, str_size, fpureA_some, fnilA_ptr, faddA_ptr, addr_add, Nat.zero_add, Nat.add_zero, fpureQ_k, fpureQ_nilA, fpureQ_addA, fpureQ_pureA, fpureQ_guardA, fpureQ_idxSlA, fpureQ_pickA, freadQ_loadA, freadQ_loadNA, freadQ_b2sA, freadQ_guardA, freadQ_slSlA, freadQ_k, fendA, fallA_one, fstillA_nil, fguardA_tt, fguardA_ff, fguardA_tf, fguardA_ft, fguardA_undef, fpickA_true, fpickA_false, fcondA_true, fcondA_false, binA_add, binA_sub, binA_mul, binA_eql, binA_neq, binA_lss, binA_leq, binA_gtr, binA_geq, unA_not, Bool.not_true, Bool.not_false, convA_int, extA_tuple, List.getElem?_toArray, List.getElem?_cons_zero, List.getElem?_cons_succ]
  refine loadA_at hB hq1 (by rfl) ?_
  simp only [lenSl_slice, lenStr_string, str_size, fpureA_some, fnilA_ptr, faddA_ptr, addr_add, Nat.zero_add, Nat.add_zero, fpureQ_k, fpureQ_nilA, fpureQ_addA, fpureQ_pureA, fpureQ_guardA, fpureQ_idxSlA, fpureQ_pickA, freadQ_loadA, freadQ_loadNA, freadQ_b2sA, freadQ_guardA, freadQ_slSlA, freadQ_k, fendA, fallA_one, fstillA_nil, fguardA_tt, fguardA_ff, fguardA_tf, fguardA_ft, fguardA_undef, fpickA_true, fpickA_false, fcondA_true, fcondA_false, binA_add, binA_sub, binA_mul, binA_eql, binA_neq, binA_lss, binA_leq, binA_gtr, binA_geq, unA_not, Bool.not_true, Bool.not_false, convA_int, extA_tuple, List.getElem?_toArray, List.getElem?_cons_zero, List.getElem?_cons_succ, e3]
  by_cases h4 : ((b.length - k : Nat) : Int) < n
  · have c4 : decide (((b.length - k : Nat) : Int) < n) = true := decide_eq_true h4
    simp only [c4, lenSl_slice, lenStr_string, str_size, fpureA_some, fnilA_ptr, faddA_ptr, addr_add, Nat.zero_add, Nat.add_zero, fpureQ_k, fpureQ_nilA, fpureQ_addA, fpureQ_pureA, fpureQ_guardA, fpureQ_idxSlA, fpureQ_pickA, freadQ_loadA, freadQ_loadNA, freadQ_b2sA, freadQ_guardA, freadQ_slSlA, freadQ_k, fendA, fallA_one, fstillA_nil, fguardA_tt, fguardA_ff, fguardA_tf, fguardA_ft, fguardA_undef, fpickA_true, fpickA_false, fcondA_true, fcondA_false, binA_add, binA_sub, binA_mul, binA_eql, binA_neq, binA_lss, binA_leq, binA_gtr, binA_geq, unA_not, Bool.not_true, Bool.not_false, convA_int, extA_tuple, List.getElem?_toArray, List.getElem?_cons_zero, List.getElem?_cons_succ]
    refine none_ ?_ (s1.less (by simp))
    unfold chunkOf
    rw [if_neg h1, if_neg]
    rintro ⟨e, -⟩
    have := slotOf_some e
    simp at this
    omega
  have c4 : decide (((b.length - k : Nat) : Int) < n) = false := decide_eq_false h4
  obtain ⟨m, rfl⟩ := Int.eq_ofNat_of_zero_le (show 0 ≤ n by omega)
  have e1 : IntKind.i64.wrap ((k : Int) - 8) = ((k - 8 : Nat) : Int) := by rw [IntWalk.i64_in _ (by omega)]; omega
  simp only [c4, lenSl_slice, lenStr_string, str_size, fpureA_some, fnilA_ptr, faddA_ptr, addr_add, Nat.zero_add, Nat.add_zero, fpureQ_k, fpureQ_nilA, fpureQ_addA, fpureQ_pureA, fpureQ_guardA, fpureQ_idxSlA, fpureQ_pickA, freadQ_loadA, freadQ_loadNA, freadQ_b2sA, freadQ_guardA, freadQ_slSlA, freadQ_k, fendA, fallA_one, fstillA_nil, fguardA_tt, fguardA_ff, fguardA_tf, fguardA_ft, fguardA_undef, fpickA_true, fpickA_false, fcondA_true, fcondA_false, binA_add, binA_sub, binA_mul, binA_eql, binA_neq, binA_lss, binA_leq, binA_gtr, binA_geq, unA_not, Bool.not_true, Bool.not_false, convA_int, extA_tuple, List.getElem?_toArray, List.getElem?_cons_zero, List.getElem?_cons_succ]
  refine loadA_at hB hq1 (by rfl) ?_
  simp only [hlen, lenSl_slice, lenStr_string, str_size, fpureA_some, fnilA_ptr, faddA_ptr, addr_add, Nat.zero_add, Nat.add_zero, fpureQ_k, fpureQ_nilA, fpureQ_addA, fpureQ_pureA, fpureQ_guardA, fpureQ_idxSlA, fpureQ_pickA, freadQ_loadA, freadQ_loadNA, freadQ_b2sA, freadQ_guardA, freadQ_slSlA, freadQ_k, fendA, fallA_one, fstillA_nil, fguardA_tt, fguardA_ff, fguardA_tf, fguardA_ft, fguardA_undef, fpickA_true, fpickA_false, fcondA_true, fcondA_false, binA_add, binA_sub, binA_mul, binA_eql, binA_neq, binA_lss, binA_leq, binA_gtr, binA_geq, unA_not, Bool.not_true, Bool.not_false, convA_int, extA_tuple, List.getElem?_toArray, List.getElem?_cons_zero, List.getElem?_cons_succ, e1]
  have v1 : Bs w0 (h.new [.int .i64 (k : Int), .int .i64 (m : Int)] 2) x b := v.step f s1 (by simp)
  refine callA_of (rslot_spec v1 hb (by omega) (Nat.le_refl _)) fun r h2' ⟨⟨d, e⟩, s2⟩ f2 => ?_
  subst e
  have hq2 : h2'.blk h.next = some [.int .i64 (k : Int), .int .i64 (m : Int)] := by rw [(s2.keep _ (by simp) (by simp)).1]; simp
  have s12 : Step h h2' [] [] := ((s1.less (T := []) (by simp)).trans s2)
  cases hs : slotOf b (k - 8) b.length with
  | none =>
    simp only [Option.getD_none, Option.isSome_none, lenSl_slice, lenStr_string, str_size, fpureA_some, fnilA_ptr, faddA_ptr, addr_add, Nat.zero_add, Nat.add_zero, fpureQ_k, fpureQ_nilA, fpureQ_addA, fpureQ_pureA, fpureQ_guardA, fpureQ_idxSlA, fpureQ_pickA, freadQ_loadA, freadQ_loadNA, freadQ_b2sA, freadQ_guardA, freadQ_slSlA, freadQ_k, fendA, fallA_one, fstillA_nil, fguardA_tt, fguardA_ff, fguardA_tf, fguardA_ft, fguardA_undef, fpickA_true, fpickA_false, fcondA_true, fcondA_false, binA_add, binA_sub, binA_mul, binA_eql, binA_neq, binA_lss, binA_leq, binA_gtr, binA_geq, unA_not, Bool.not_true, Bool.not_false, convA_int, extA_tuple, List.getElem?_toArray, List.getElem?_cons_zero, List.getElem?_cons_succ]
    exact none_ (by unfold chunkOf; rw [if_neg h1]; simp [hs]) s12
  | some j =>
    obtain ⟨hm1, hm2, -⟩ := slotOf_some hs
    simp only [Option.getD_some, Option.isSome_some, lenSl_slice, lenStr_string, str_size, fpureA_some, fnilA_ptr, faddA_ptr, addr_add, Nat.zero_add, Nat.add_zero, fpureQ_k, fpureQ_nilA, fpureQ_addA, fpureQ_pureA, fpureQ_guardA, fpureQ_idxSlA, fpureQ_pickA, freadQ_loadA, freadQ_loadNA, freadQ_b2sA, freadQ_guardA, freadQ_slSlA, freadQ_k, fendA, fallA_one, fstillA_nil, fguardA_tt, fguardA_ff, fguardA_tf, fguardA_ft, fguardA_undef, fpickA_true, fpickA_false, fcondA_true, fcondA_false, binA_add, binA_sub, binA_mul, binA_eql, binA_neq, binA_lss, binA_leq, binA_gtr, binA_geq, unA_not, Bool.not_true, Bool.not_false, convA_int, extA_tuple, List.getElem?_toArray, List.getElem?_cons_zero, List.getElem?_cons_succ]
    refine loadA_at hB hq2 (by rfl) ?_
    simp only [lenSl_slice, lenStr_string, str_size, fpureA_some, fnilA_ptr, faddA_ptr, addr_add, Nat.zero_add, Nat.add_zero, fpureQ_k, fpureQ_nilA, fpureQ_addA, fpureQ_pureA, fpureQ_guardA, fpureQ_idxSlA, fpureQ_pickA, freadQ_loadA, freadQ_loadNA, freadQ_b2sA, freadQ_guardA, freadQ_slSlA, freadQ_k, fendA, fallA_one, fstillA_nil, fguardA_tt, fguardA_ff, fguardA_tf, fguardA_ft, fguardA_undef, fpickA_true, fpickA_false, fcondA_true, fcondA_false, binA_add, binA_sub, binA_mul, binA_eql, binA_neq, binA_lss, binA_leq, binA_gtr, binA_geq, unA_not, Bool.not_true, Bool.not_false, convA_int, extA_tuple, List.getElem?_toArray, List.getElem?_cons_zero, List.getElem?_cons_succ]
    by_cases hjm : j = m
    · subst hjm
      have c5 : ((j : Int) != (j : Int)) = false := by simp
      have e2 : chunkOf b k j = some ((b.drop k).take j) := by
        unfold chunkOf
        rw [if_neg h1, if_pos ⟨by simpa using hs, by omega⟩]; simp
      have e4 : IntKind.i64.wrap ((k : Int) + (j : Int)) = ((k + j : Nat) : Int) := by rw [IntWalk.i64_in _ (by omega)]; simp
      simp only [c5, lenSl_slice, lenStr_string, str_size, fpureA_some, fnilA_ptr, faddA_ptr, addr_add, Nat.zero_add, Nat.add_zero, fpureQ_k, fpureQ_nilA, fpureQ_addA, fpureQ_pureA, fpureQ_guardA, fpureQ_idxSlA, fpureQ_pickA, freadQ_loadA, freadQ_loadNA, freadQ_b2sA, freadQ_guardA, freadQ_slSlA, freadQ_k, fendA, fallA_one, fstillA_nil, fguardA_tt, fguardA_ff, fguardA_tf, fguardA_ft, fguardA_undef, fpickA_true, fpickA_false, fcondA_true, fcondA_false, binA_add, binA_sub, binA_mul, binA_eql, binA_neq, binA_lss, binA_leq, binA_gtr, binA_geq, unA_not, Bool.not_true, Bool.not_false, convA_int, extA_tuple, List.getElem?_toArray, List.getElem?_cons_zero, List.getElem?_cons_succ, bslA_iff, fillA_nil]
      have hz : zerosL [(.int .u8 0 : Value)] 0 = [] := rfl
      rw [hz]
      have s3 : Step h2' (h2'.new [] 1) [] [h2'.next] := (Step.refl h2' [] (by simp)).new _ _
      have hqn : h.next < h2'.next := by have := s2.next; simp at this; omega
      have hq3 : (h2'.new [] 1).blk h.next = some [.int .i64 (k : Int), .int .i64 (j : Int)] := by rw [(s3.keep _ hqn (by simp)).1]; exact hq2
      refine loadA_at hB hq3 (by rfl) ?_
      refine loadA_at hB hq3 (by rfl) ?_
      refine loadA_at hB hq3 (by rfl) ?_
      simp only [lenSl_slice, lenStr_string, str_size, fpureA_some, fnilA_ptr, faddA_ptr, addr_add, Nat.zero_add, Nat.add_zero, fpureQ_k, fpureQ_nilA, fpureQ_addA, fpureQ_pureA, fpureQ_guardA, fpureQ_idxSlA, fpureQ_pickA, freadQ_loadA, freadQ_loadNA, freadQ_b2sA, freadQ_guardA, freadQ_slSlA, freadQ_k, fendA, fallA_one, fstillA_nil, fguardA_tt, fguardA_ff, fguardA_tf, fguardA_ft, fguardA_undef, fpickA_true, fpickA_false, fcondA_true, fcondA_false, binA_add, binA_sub, binA_mul, binA_eql, binA_neq, binA_lss, binA_leq, binA_gtr, binA_geq, unA_not, Bool.not_true, Bool.not_false, convA_int, extA_tuple, List.getElem?_toArray, List.getElem?_cons_zero, List.getElem?_cons_succ, e4]
      have v3 : Bs w0 (h2'.new [] 1) x b := v.step f ((s12.trans s3)) (by simp)
      refine v3.cut boundA_nat boundA_nat (by omega) (by omega) fun x2 hc2 hx2 y2 => ?_
      rw [cut_eq] at y2
      obtain ⟨a2, k2, hx2'⟩ := y2.slice
      have hl2 : ((b.drop k).take j).length = j := by simp; omega
      refine appA_gv (m := j) (by have := f2.base; simp; omega) (GV.new f2.base rfl (by decide) : GV w0 (h2'.new [] 1) 1 (.slice (some ⟨h2'.next, 0, none⟩) 0 0) 0 [] [h2'.next]) (by rw [hx2', hl2]; rfl) (by have := y2.src; rw [hl2] at this; exact this) (by simp [hl2]) (by omega) (by omega) (by omega) fun x4 h4 S4 g4 s4 => ?_
      obtain ⟨a4, c4, hr⟩ := g4.slice
      simp only [retA_iff, oneOf_two, e2, chunkV]
      refine ⟨by rw [hr]; simp, ⟨x4, S4, rfl, by rw [hl2]; simpa using g4⟩, (s12.trans (s3.trans s4)).less (by simp)⟩
    · have c5 : ((j : Int) != (m : Int)) = true := by rw [bne_iff_ne]; omega
      simp only [c5, lenSl_slice, lenStr_string, str_size, fpureA_some, fnilA_ptr, faddA_ptr, addr_add, Nat.zero_add, Nat.add_zero, fpureQ_k, fpureQ_nilA, fpureQ_addA, fpureQ_pureA, fpureQ_guardA, fpureQ_idxSlA, fpureQ_pickA, freadQ_loadA, freadQ_loadNA, freadQ_b2sA, freadQ_guardA, freadQ_slSlA, freadQ_k, fendA, fallA_one, fstillA_nil, fguardA_tt, fguardA_ff, fguardA_tf, fguardA_ft, fguardA_undef, fpickA_true, fpickA_false, fcondA_true, fcondA_false, binA_add, binA_sub, binA_mul, binA_eql, binA_neq, binA_lss, binA_leq, binA_gtr, binA_geq, unA_not, Bool.not_true, Bool.not_false, convA_int, extA_tuple, List.getElem?_toArray, List.getElem?_cons_zero, List.getElem?_cons_succ]
      refine none_ ?_ s12
      unfold chunkOf
      rw [if_neg h1, if_neg (fun e => hjm (by have h1 := e.1; simp [hs] at h1; omega))]
/-! ### What is laid into a slice of one's own -/
theorem GV.write {x : Value} {n s : Nat} {cs cs' : List Value} {S : List Nat} {q : Nat} (v : GV w0 h s x n cs S) (hq : q ∈ S) (hl : cs'.length = cs.length) : GV w0 (h.put q cs') s x n cs' S := by
  have e := v.len
  rcases v with v | ⟨q', rfl, rfl, a, b, c, _, f⟩
  · rcases v with ⟨rfl, rfl, rfl, rfl⟩ | ⟨q', rfl, rfl, a, b, d, e', f⟩
    · simp at hq
    · simp at hq; subst hq
      exact .inl (.inr ⟨q, rfl, rfl, a, by simpa using b, by simp, by simpa using e', by omega⟩)
  · simp at hq; subst hq
    exact .inr ⟨q, rfl, rfl, a, by simpa using b, by simp, by omega, f⟩
/-- Where a part of it lies. -/
theorem GV.at {x : Value} {l : List Value} {n : Nat} {S : List Nat} (v : GV w0 h 1 x n l S) {lo hi : Nat} (hl : lo < hi) (hh : hi ≤ n) :
    ∃ q c, S = [q] ∧ cutV 1 x lo hi = .slice (some ⟨q, lo, none⟩) (hi - lo) c ∧ w0.heap.size ≤ q ∧ q < h.next ∧ h.blk q = some l := by
  rcases v with v | ⟨q, rfl, rfl, a, b, c, _, f⟩
  · rcases v with ⟨rfl, rfl, rfl, rfl⟩ | ⟨q, rfl, rfl, a, b, d, e', f⟩
    · omega
    · exact ⟨q, ucap, rfl, by simp [cutV], a, b, d⟩
  · exact ⟨q, n - lo, rfl, by
      simp only [cutV]
      rw [if_neg (Nat.ne_of_lt f), if_neg (by omega)]
      simp, a, b, c⟩
theorem splice_bvs (l m : List UInt8) (lo : Nat) : splice (bvs l) lo (bvs m) = bvs (l.take lo ++ m ++ l.drop (lo + m.length)) := by
  unfold splice
  simp
theorem GV.copy {x y : Value} {l m : List UInt8} {S : List Nat} {lo hi : Nat} {K : Kont} (v : GV w0 h 1 x l.length (bvs l) S) (hl : lo ≤ hi) (hh : hi ≤ l.length) (hm : m.length ≤ hi - lo) (hy : lenA y = some m.length) (hs : Src w0.heap.size h 1 y m.length (bvs m))
    (hk : ∀ r h', r ≠ junk → GV w0 h' 1 x l.length (bvs (l.take lo ++ m ++ l.drop (lo + m.length))) S → Step h h' S S → K r h') : copyA w0 1 (cutV 1 x lo hi) y K h := by
  rcases Nat.eq_zero_or_pos m.length with h0 | h0
  · have hm0 : m = [] := List.eq_nil_of_length_eq_zero h0
    subst hm0
    obtain ⟨a, c, e⟩ := (Sl.cut_sl v.sl hl hh).1.slice
    rw [e]
    refine ⟨a, _, _, 0, rfl, hy, fun _ => hk _ _ (by simp) (by simpa using v) v.refl, fun hp => by simp at hp⟩
  · obtain ⟨q, c, rfl, e, hB, hlt, hb⟩ := v.at (lo := lo) (hi := hi) (by omega) hh
    rw [e]
    refine ⟨_, _, _, m.length, rfl, hy, fun hp => by omega, fun _ => ⟨q, lo, bvs l, bvs m, rfl, hB, hb, ?_, ?_, ?_⟩⟩
    · simp; omega
    · rw [Nat.min_eq_left hm]; exact hs
    · rw [splice_bvs]
      refine hk _ _ (by simp) (v.write (by simp) (by simp; omega)) ((Step.refl h [q] (by simpa using hlt)).put (by simp) _)
theorem GV.clear {x : Value} {l : List UInt8} {S : List Nat} {lo hi : Nat} {K : Kont} (v : GV w0 h 1 x l.length (bvs l) S) (hl : lo ≤ hi) (hh : hi ≤ l.length)
    (hk : ∀ h', GV w0 h' 1 x l.length (bvs (l.take lo ++ List.replicate (hi - lo) 0 ++ l.drop hi)) S → Step h h' S S → K undef h') : clearA w0 1 [.int .u8 0] (cutV 1 x lo hi) K h := by
  rcases Nat.eq_zero_or_pos (hi - lo) with h0 | h0
  · obtain ⟨a, c, e⟩ := (Sl.cut_sl v.sl hl hh).1.slice
    have : lo = hi := by omega
    subst this
    rw [e]
    refine ⟨a, _, _, rfl, fun _ => hk _ (by simpa using v) v.refl, fun hp => by omega⟩
  · obtain ⟨q, c, rfl, e, hB, hlt, hb⟩ := v.at (lo := lo) (hi := hi) (by omega) hh
    rw [e]
    refine ⟨_, _, _, rfl, fun hp => by omega, fun _ => ⟨q, lo, bvs l, rfl, hB, hb, by simp; omega, ?_⟩⟩
    have hz : zerosL [(.int .u8 0 : Value)] (hi - lo) = bvs (List.replicate (hi - lo) 0) := by
      rw [zerosL_single]; simp [bvs, bv]
    rw [hz, splice_bvs]
    have e2 : lo + (List.replicate (hi - lo) (0 : UInt8)).length = hi := by simp; omega
    rw [e2]
    exact hk _ (v.write (by simp) (by simp; omega)) ((Step.refl h [q] (by simpa using hlt)).put (by simp) _)
end
end Go.Proofs.Ytfhamcobfpmgbaa.Ah
