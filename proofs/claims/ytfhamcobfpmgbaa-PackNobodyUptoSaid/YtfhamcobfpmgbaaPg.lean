/- pack.Pack: New, Left, Mark, Append. -/
import Derived.Test.YtfhamcobfpmgbaaPf
set_option linter.unusedVariables false
set_option linter.unusedSimpArgs false
namespace Go.Proofs.Ytfhamcobfpmgbaa.Ah
open Go

section
variable {w0 : World} {h : Hp} {p : Nat} {st : PS} {S : List Nat}
theorem pmade_spec (w : Pk w0 h p st S) (o : st.Ok) : ACalls prog w0 n_pack_Pack_made [ptr p] h fun v h' => v = .bool true ∧ h' = h := by
  refine ACalls.of_fit (by simp [ptr]) fun f => c_pack_Pack_made (by simp [ptr]) ?_
  obtain ⟨xi, xs, xt, A, B, C, w, -⟩ := w
  have hs := o.size
  have c1 : decide ((0 : Int) < (st.size : Int)) = true := decide_eq_true (by omega)
  simp only [s_pack_Pack_made, ptr, binPtrA_neq, lenSl_slice, lenStr_string, str_size, fpureA_some, fnilA_ptr, faddA_ptr, addr_add, Nat.zero_add, Nat.add_zero, fpureQ_k, fpureQ_nilA, fpureQ_addA, fpureQ_pureA, fpureQ_guardA, fpureQ_idxSlA, fpureQ_pickA, freadQ_loadA, freadQ_loadNA, freadQ_b2sA, freadQ_guardA, freadQ_slSlA, freadQ_k, fendA, fallA_one, fstillA_nil, fguardA_tt, fguardA_ff, fguardA_tf, fguardA_ft, fguardA_undef, fpickA_true, fpickA_false, fcondA_true, fcondA_false, binA_add, binA_sub, binA_mul, binA_eql, binA_neq, binA_lss, binA_leq, binA_gtr, binA_geq, unA_not, Bool.not_true, Bool.not_false, convA_int, extA_tuple, List.getElem?_toArray, List.getElem?_cons_zero, List.getElem?_cons_succ]
  refine loadA_at w.base w.blk (by rfl) ?_
  simp only [lenSl_slice, lenStr_string, str_size, fpureA_some, fnilA_ptr, faddA_ptr, addr_add, Nat.zero_add, Nat.add_zero, fpureQ_k, fpureQ_nilA, fpureQ_addA, fpureQ_pureA, fpureQ_guardA, fpureQ_idxSlA, fpureQ_pickA, freadQ_loadA, freadQ_loadNA, freadQ_b2sA, freadQ_guardA, freadQ_slSlA, freadQ_k, fendA, fallA_one, fstillA_nil, fguardA_tt, fguardA_ff, fguardA_tf, fguardA_ft, fguardA_undef, fpickA_true, fpickA_false, fcondA_true, fcondA_false, binA_add, binA_sub, binA_mul, binA_eql, binA_neq, binA_lss, binA_leq, binA_gtr, binA_geq, unA_not, Bool.not_true, Bool.not_false, convA_int, extA_tuple, List.getElem?_toArray, List.getElem?_cons_zero, List.getElem?_cons_succ, c1, retA_iff, oneOf_one]
  simp
theorem pmade_nil : ACalls prog w0 n_pack_Pack_made [.pointer none] h fun v h' => v = .bool false ∧ h' = h := by
  refine ACalls.of_fit (by simp) fun f => c_pack_Pack_made (by simp) ?_
  simp only [s_pack_Pack_made, binPtrA_neq0, lenSl_slice, lenStr_string, str_size, fpureA_some, fnilA_ptr, faddA_ptr, addr_add, Nat.zero_add, Nat.add_zero, fpureQ_k, fpureQ_nilA, fpureQ_addA, fpureQ_pureA, fpureQ_guardA, fpureQ_idxSlA, fpureQ_pickA, freadQ_loadA, freadQ_loadNA, freadQ_b2sA, freadQ_guardA, freadQ_slSlA, freadQ_k, fendA, fallA_one, fstillA_nil, fguardA_tt, fguardA_ff, fguardA_tf, fguardA_ft, fguardA_undef, fpickA_true, fpickA_false, fcondA_true, fcondA_false, binA_add, binA_sub, binA_mul, binA_eql, binA_neq, binA_lss, binA_leq, binA_gtr, binA_geq, unA_not, Bool.not_true, Bool.not_false, convA_int, extA_tuple, List.getElem?_toArray, List.getElem?_cons_zero, List.getElem?_cons_succ, retA_iff, oneOf_one]
  simp
theorem pend_spec (w : Pk w0 h p st S) (o : st.Ok) : ACalls prog w0 n_pack_Pack_end [ptr p] h fun v h' => v = .int .i64 (endOf st.chunks) ∧ h' = h := by
  refine ACalls.of_fit (by simp [ptr]) fun f => c_pack_Pack_end (by simp [ptr]) ?_
  obtain ⟨xi, xs, xt, A, B, C, w, -⟩ := w
  have hr := o.room
  have hb := o.bytes
  simp only [s_pack_Pack_end, ptr, lenSl_slice, lenStr_string, str_size, fpureA_some, fnilA_ptr, faddA_ptr, addr_add, Nat.zero_add, Nat.add_zero, fpureQ_k, fpureQ_nilA, fpureQ_addA, fpureQ_pureA, fpureQ_guardA, fpureQ_idxSlA, fpureQ_pickA, freadQ_loadA, freadQ_loadNA, freadQ_b2sA, freadQ_guardA, freadQ_slSlA, freadQ_k, fendA, fallA_one, fstillA_nil, fguardA_tt, fguardA_ff, fguardA_tf, fguardA_ft, fguardA_undef, fpickA_true, fpickA_false, fcondA_true, fcondA_false, binA_add, binA_sub, binA_mul, binA_eql, binA_neq, binA_lss, binA_leq, binA_gtr, binA_geq, unA_not, Bool.not_true, Bool.not_false, convA_int, extA_tuple, List.getElem?_toArray, List.getElem?_cons_zero, List.getElem?_cons_succ]
  refine loadA_at w.base w.blk (by rfl) ?_
  obtain ⟨a, c, hx⟩ := w.vs.slice
  have hl : lenSl xs = some (.int .i64 st.chunks.length) := by rw [hx]; rfl
  simp only [hl, lenSl_slice, lenStr_string, str_size, fpureA_some, fnilA_ptr, faddA_ptr, addr_add, Nat.zero_add, Nat.add_zero, fpureQ_k, fpureQ_nilA, fpureQ_addA, fpureQ_pureA, fpureQ_guardA, fpureQ_idxSlA, fpureQ_pickA, freadQ_loadA, freadQ_loadNA, freadQ_b2sA, freadQ_guardA, freadQ_slSlA, freadQ_k, fendA, fallA_one, fstillA_nil, fguardA_tt, fguardA_ff, fguardA_tf, fguardA_ft, fguardA_undef, fpickA_true, fpickA_false, fcondA_true, fcondA_false, binA_add, binA_sub, binA_mul, binA_eql, binA_neq, binA_lss, binA_leq, binA_gtr, binA_geq, unA_not, Bool.not_true, Bool.not_false, convA_int, extA_tuple, List.getElem?_toArray, List.getElem?_cons_zero, List.getElem?_cons_succ]
  rcases List.eq_nil_or_concat st.chunks with he | ⟨cs, d, he⟩
  · have c1 : decide ((0 : Int) < (st.chunks.length : Int)) = false := decide_eq_false (by rw [he]; simp)
    simp only [c1, lenSl_slice, lenStr_string, str_size, fpureA_some, fnilA_ptr, faddA_ptr, addr_add, Nat.zero_add, Nat.add_zero, fpureQ_k, fpureQ_nilA, fpureQ_addA, fpureQ_pureA, fpureQ_guardA, fpureQ_idxSlA, fpureQ_pickA, freadQ_loadA, freadQ_loadNA, freadQ_b2sA, freadQ_guardA, freadQ_slSlA, freadQ_k, fendA, fallA_one, fstillA_nil, fguardA_tt, fguardA_ff, fguardA_tf, fguardA_ft, fguardA_undef, fpickA_true, fpickA_false, fcondA_true, fcondA_false, binA_add, binA_sub, binA_mul, binA_eql, binA_neq, binA_lss, binA_leq, binA_gtr, binA_geq, unA_not, Bool.not_true, Bool.not_false, convA_int, extA_tuple, List.getElem?_toArray, List.getElem?_cons_zero, List.getElem?_cons_succ, retA_iff, oneOf_one, he]
    simp [endOf]
  · rw [List.concat_eq_append] at he
    have hlen : st.chunks.length = cs.length + 1 := by rw [he]; simp
    have hle := chunks_le (cs := st.chunks)
    have hend : endOf st.chunks = endOf cs + 8 + d.length := by rw [he, endOf_snoc]
    have c1 : decide ((0 : Int) < (st.chunks.length : Int)) = true := decide_eq_true (by omega)
    have e1 : IntKind.i64.wrap ((st.chunks.length : Int) - 1) = (cs.length : Int) := by rw [IntWalk.i64_in _ (by omega)]; omega
    have hg : (slotsFrom 16 st.chunks)[cs.length]? = some (endOf cs + 8, d.length) := by
      rw [he, slotsFrom_snoc, List.getElem?_append_right (by simp)]; simp
    obtain ⟨g1, g2⟩ := slotC_get hg
    have e2 : IntKind.i64.wrap (((endOf cs + 8 : Nat) : Int) + (d.length : Int)) = (endOf st.chunks : Int) := by rw [IntWalk.i64_in _ (by omega)]; omega
    simp only [c1, lenSl_slice, lenStr_string, str_size, fpureA_some, fnilA_ptr, faddA_ptr, addr_add, Nat.zero_add, Nat.add_zero, fpureQ_k, fpureQ_nilA, fpureQ_addA, fpureQ_pureA, fpureQ_guardA, fpureQ_idxSlA, fpureQ_pickA, freadQ_loadA, freadQ_loadNA, freadQ_b2sA, freadQ_guardA, freadQ_slSlA, freadQ_k, fendA, fallA_one, fstillA_nil, fguardA_tt, fguardA_ff, fguardA_tf, fguardA_ft, fguardA_undef, fpickA_true, fpickA_false, fcondA_true, fcondA_false, binA_add, binA_sub, binA_mul, binA_eql, binA_neq, binA_lss, binA_leq, binA_gtr, binA_geq, unA_not, Bool.not_true, Bool.not_false, convA_int, extA_tuple, List.getElem?_toArray, List.getElem?_cons_zero, List.getElem?_cons_succ, e1]
    refine loadA_at w.base w.blk (by rfl) ?_
    refine w.vs.idx (by omega) fun q hq hB hbq => ?_
    simp only [lenSl_slice, lenStr_string, str_size, fpureA_some, fnilA_ptr, faddA_ptr, addr_add, Nat.zero_add, Nat.add_zero, fpureQ_k, fpureQ_nilA, fpureQ_addA, fpureQ_pureA, fpureQ_guardA, fpureQ_idxSlA, fpureQ_pickA, freadQ_loadA, freadQ_loadNA, freadQ_b2sA, freadQ_guardA, freadQ_slSlA, freadQ_k, fendA, fallA_one, fstillA_nil, fguardA_tt, fguardA_ff, fguardA_tf, fguardA_ft, fguardA_undef, fpickA_true, fpickA_false, fcondA_true, fcondA_false, binA_add, binA_sub, binA_mul, binA_eql, binA_neq, binA_lss, binA_leq, binA_gtr, binA_geq, unA_not, Bool.not_true, Bool.not_false, convA_int, extA_tuple, List.getElem?_toArray, List.getElem?_cons_zero, List.getElem?_cons_succ]
    refine loadA_at hB hbq g1 ?_
    refine loadA_at w.base w.blk (by rfl) ?_
    refine w.vs.idx (by omega) fun q' hq' hB' hbq' => ?_
    simp only [lenSl_slice, lenStr_string, str_size, fpureA_some, fnilA_ptr, faddA_ptr, addr_add, Nat.zero_add, Nat.add_zero, fpureQ_k, fpureQ_nilA, fpureQ_addA, fpureQ_pureA, fpureQ_guardA, fpureQ_idxSlA, fpureQ_pickA, freadQ_loadA, freadQ_loadNA, freadQ_b2sA, freadQ_guardA, freadQ_slSlA, freadQ_k, fendA, fallA_one, fstillA_nil, fguardA_tt, fguardA_ff, fguardA_tf, fguardA_ft, fguardA_undef, fpickA_true, fpickA_false, fcondA_true, fcondA_false, binA_add, binA_sub, binA_mul, binA_eql, binA_neq, binA_lss, binA_leq, binA_gtr, binA_geq, unA_not, Bool.not_true, Bool.not_false, convA_int, extA_tuple, List.getElem?_toArray, List.getElem?_cons_zero, List.getElem?_cons_succ]
    refine loadA_at hB' hbq' g2 ?_
    simp only [lenSl_slice, lenStr_string, str_size, fpureA_some, fnilA_ptr, faddA_ptr, addr_add, Nat.zero_add, Nat.add_zero, fpureQ_k, fpureQ_nilA, fpureQ_addA, fpureQ_pureA, fpureQ_guardA, fpureQ_idxSlA, fpureQ_pickA, freadQ_loadA, freadQ_loadNA, freadQ_b2sA, freadQ_guardA, freadQ_slSlA, freadQ_k, fendA, fallA_one, fstillA_nil, fguardA_tt, fguardA_ff, fguardA_tf, fguardA_ft, fguardA_undef, fpickA_true, fpickA_false, fcondA_true, fcondA_false, binA_add, binA_sub, binA_mul, binA_eql, binA_neq, binA_lss, binA_leq, binA_gtr, binA_geq, unA_not, Bool.not_true, Bool.not_false, convA_int, extA_tuple, List.getElem?_toArray, List.getElem?_cons_zero, List.getElem?_cons_succ, e2, retA_iff, oneOf_one]
    simp
theorem pLeft_spec (w : Pk w0 h p st S) (o : st.Ok) : ACalls prog w0 n_pack_Pack_Left [ptr p] h fun v h' => v = .int .i64 st.left ∧ h' = h := by
  refine ACalls.of_fit (by simp [ptr]) fun f => c_pack_Pack_Left (by simp [ptr]) ?_
  refine callA_of (pmade_spec w o) fun v h1 ⟨e, e1⟩ f1 => ?_
  subst e e1
  have w' := w
  obtain ⟨xi, xs, xt, A, B, C, w, -⟩ := w
  have hr := o.room
  have hb := o.bytes
  have hi := o.image
  simp only [ptr, lenSl_slice, lenStr_string, str_size, fpureA_some, fnilA_ptr, faddA_ptr, addr_add, Nat.zero_add, Nat.add_zero, fpureQ_k, fpureQ_nilA, fpureQ_addA, fpureQ_pureA, fpureQ_guardA, fpureQ_idxSlA, fpureQ_pickA, freadQ_loadA, freadQ_loadNA, freadQ_b2sA, freadQ_guardA, freadQ_slSlA, freadQ_k, fendA, fallA_one, fstillA_nil, fguardA_tt, fguardA_ff, fguardA_tf, fguardA_ft, fguardA_undef, fpickA_true, fpickA_false, fcondA_true, fcondA_false, binA_add, binA_sub, binA_mul, binA_eql, binA_neq, binA_lss, binA_leq, binA_gtr, binA_geq, unA_not, Bool.not_true, Bool.not_false, convA_int, extA_tuple, List.getElem?_toArray, List.getElem?_cons_zero, List.getElem?_cons_succ]
  refine loadA_at w.base w.blk (by rfl) ?_
  cases hs : st.shut with
  | true =>
    simp only [lenSl_slice, lenStr_string, str_size, fpureA_some, fnilA_ptr, faddA_ptr, addr_add, Nat.zero_add, Nat.add_zero, fpureQ_k, fpureQ_nilA, fpureQ_addA, fpureQ_pureA, fpureQ_guardA, fpureQ_idxSlA, fpureQ_pickA, freadQ_loadA, freadQ_loadNA, freadQ_b2sA, freadQ_guardA, freadQ_slSlA, freadQ_k, fendA, fallA_one, fstillA_nil, fguardA_tt, fguardA_ff, fguardA_tf, fguardA_ft, fguardA_undef, fpickA_true, fpickA_false, fcondA_true, fcondA_false, binA_add, binA_sub, binA_mul, binA_eql, binA_neq, binA_lss, binA_leq, binA_gtr, binA_geq, unA_not, Bool.not_true, Bool.not_false, convA_int, extA_tuple, List.getElem?_toArray, List.getElem?_cons_zero, List.getElem?_cons_succ, retA_iff, oneOf_one, PS.left, hs]
    simp
  | false =>
    have hg := endOf_ge st.chunks
    have e1 : IntKind.i64.wrap ((st.image.length : Int) - 16) = ((st.bytes - 16 : Nat) : Int) := by rw [hi, IntWalk.i64_in _ (by omega)]; omega
    have e2 : IntKind.i64.wrap (((st.bytes - 16 : Nat) : Int) - (endOf st.chunks : Int)) = ((st.bytes - 16 - endOf st.chunks : Nat) : Int) := by rw [IntWalk.i64_in _ (by omega)]; omega
    have e3 : IntKind.i64.wrap (((st.bytes - 16 - endOf st.chunks : Nat) : Int) - 8) = ((st.bytes - 16 - endOf st.chunks : Nat) : Int) - 8 := IntWalk.i64_in _ (by omega)
    have e4 : max (0 : Int) (((st.bytes - 16 - endOf st.chunks : Nat) : Int) - 8) = ((st.bytes - 16 - endOf st.chunks - 8 : Nat) : Int) := by omega
    obtain ⟨a, c, hx⟩ := w.vi.slice
    have hl : lenSl xi = some (.int .i64 st.image.length) := by rw [hx]; rfl
    simp only [lenSl_slice, lenStr_string, str_size, fpureA_some, fnilA_ptr, faddA_ptr, addr_add, Nat.zero_add, Nat.add_zero, fpureQ_k, fpureQ_nilA, fpureQ_addA, fpureQ_pureA, fpureQ_guardA, fpureQ_idxSlA, fpureQ_pickA, freadQ_loadA, freadQ_loadNA, freadQ_b2sA, freadQ_guardA, freadQ_slSlA, freadQ_k, fendA, fallA_one, fstillA_nil, fguardA_tt, fguardA_ff, fguardA_tf, fguardA_ft, fguardA_undef, fpickA_true, fpickA_false, fcondA_true, fcondA_false, binA_add, binA_sub, binA_mul, binA_eql, binA_neq, binA_lss, binA_leq, binA_gtr, binA_geq, unA_not, Bool.not_true, Bool.not_false, convA_int, extA_tuple, List.getElem?_toArray, List.getElem?_cons_zero, List.getElem?_cons_succ]
    refine loadA_at w.base w.blk (by rfl) ?_
    simp only [hl, lenSl_slice, lenStr_string, str_size, fpureA_some, fnilA_ptr, faddA_ptr, addr_add, Nat.zero_add, Nat.add_zero, fpureQ_k, fpureQ_nilA, fpureQ_addA, fpureQ_pureA, fpureQ_guardA, fpureQ_idxSlA, fpureQ_pickA, freadQ_loadA, freadQ_loadNA, freadQ_b2sA, freadQ_guardA, freadQ_slSlA, freadQ_k, fendA, fallA_one, fstillA_nil, fguardA_tt, fguardA_ff, fguardA_tf, fguardA_ft, fguardA_undef, fpickA_true, fpickA_false, fcondA_true, fcondA_false, binA_add, binA_sub, binA_mul, binA_eql, binA_neq, binA_lss, binA_leq, binA_gtr, binA_geq, unA_not, Bool.not_true, Bool.not_false, convA_int, extA_tuple, List.getElem?_toArray, List.getElem?_cons_zero, List.getElem?_cons_succ, e1]
    refine callA_of (pend_spec w' o) fun v h2 ⟨e, e'⟩ f2 => ?_
    subst e e'
    simp only [stillA_iff, allA_cons, allA_one, sameQ_loadA]
    refine ⟨loadA_at w.base w.blk (by rfl) rfl, ?_⟩
    simp only [lenSl_slice, lenStr_string, str_size, fpureA_some, fnilA_ptr, faddA_ptr, addr_add, Nat.zero_add, Nat.add_zero, fpureQ_k, fpureQ_nilA, fpureQ_addA, fpureQ_pureA, fpureQ_guardA, fpureQ_idxSlA, fpureQ_pickA, freadQ_loadA, freadQ_loadNA, freadQ_b2sA, freadQ_guardA, freadQ_slSlA, freadQ_k, fendA, fallA_one, fstillA_nil, fguardA_tt, fguardA_ff, fguardA_tf, fguardA_ft, fguardA_undef, fpickA_true, fpickA_false, fcondA_true, fcondA_false, binA_add, binA_sub, binA_mul, binA_eql, binA_neq, binA_lss, binA_leq, binA_gtr, binA_geq, unA_not, Bool.not_true, Bool.not_false, convA_int, extA_tuple, List.getElem?_toArray, List.getElem?_cons_zero, List.getElem?_cons_succ, e2, e3, foldA_cons, foldA_nil, max2A_int, Option.bind_some, e4, retA_iff, oneOf_one, PS.left, hs]
    simp
theorem pMark_spec (w : Pk w0 h p st S) (o : st.Ok) : ACalls prog w0 n_pack_Pack_Mark [ptr p] h fun v h' => v = .int .i64 st.chunks.length ∧ h' = h := by
  refine ACalls.of_fit (by simp [ptr]) fun f => c_pack_Pack_Mark (by simp [ptr]) ?_
  refine callA_of (pmade_spec w o) fun v h1 ⟨e, e1⟩ f1 => ?_
  subst e e1
  obtain ⟨xi, xs, xt, A, B, C, w, -⟩ := w
  simp only [ptr, lenSl_slice, lenStr_string, str_size, fpureA_some, fnilA_ptr, faddA_ptr, addr_add, Nat.zero_add, Nat.add_zero, fpureQ_k, fpureQ_nilA, fpureQ_addA, fpureQ_pureA, fpureQ_guardA, fpureQ_idxSlA, fpureQ_pickA, freadQ_loadA, freadQ_loadNA, freadQ_b2sA, freadQ_guardA, freadQ_slSlA, freadQ_k, fendA, fallA_one, fstillA_nil, fguardA_tt, fguardA_ff, fguardA_tf, fguardA_ft, fguardA_undef, fpickA_true, fpickA_false, fcondA_true, fcondA_false, binA_add, binA_sub, binA_mul, binA_eql, binA_neq, binA_lss, binA_leq, binA_gtr, binA_geq, unA_not, Bool.not_true, Bool.not_false, convA_int, extA_tuple, List.getElem?_toArray, List.getElem?_cons_zero, List.getElem?_cons_succ]
  refine loadA_at w.base w.blk (by rfl) ?_
  obtain ⟨a, c, hx⟩ := w.vs.slice
  have hl : lenSl xs = some (.int .i64 st.chunks.length) := by rw [hx]; rfl
  simp only [hl, lenSl_slice, lenStr_string, str_size, fpureA_some, fnilA_ptr, faddA_ptr, addr_add, Nat.zero_add, Nat.add_zero, fpureQ_k, fpureQ_nilA, fpureQ_addA, fpureQ_pureA, fpureQ_guardA, fpureQ_idxSlA, fpureQ_pickA, freadQ_loadA, freadQ_loadNA, freadQ_b2sA, freadQ_guardA, freadQ_slSlA, freadQ_k, fendA, fallA_one, fstillA_nil, fguardA_tt, fguardA_ff, fguardA_tf, fguardA_ft, fguardA_undef, fpickA_true, fpickA_false, fcondA_true, fcondA_false, binA_add, binA_sub, binA_mul, binA_eql, binA_neq, binA_lss, binA_leq, binA_gtr, binA_geq, unA_not, Bool.not_true, Bool.not_false, convA_int, extA_tuple, List.getElem?_toArray, List.getElem?_cons_zero, List.getElem?_cons_succ, retA_iff, oneOf_one]
  simp
/-- A new container. -/
def PS.new (n s : Int) (id : Nat) : PS := ⟨n.toNat, s.toNat, id, [], false, none, 0, false⟩
theorem pfits_range {n s : Int} (h : pfits n s = true) : 512 ≤ n ∧ n ≤ 4096 ∧ 1 ≤ s ∧ s ≤ 64 := by
  simp only [pfits, Bool.and_eq_true, decide_eq_true_eq] at h
  have := jsize_range h.1.1
  omega
theorem PS.Ok.new {n s : Int} {id : Nat} (h : pfits n s = true) (hid : id < 4294967296) : (PS.new n s id).Ok := by
  obtain ⟨h1, h2, h3, h4⟩ := pfits_range h
  refine ⟨by simp [PS.new]; omega, by simp [PS.new]; omega, hid, ?_, by simp [PS.new], by simp [PS.new], by simp [PS.new], by simp [PS.new]⟩
  have := Nat.mul_le_mul (show 512 ≤ n.toNat by omega) (show 1 ≤ s.toNat by omega)
  simp only [PS.new, PS.bytes, endOf]
  omega
theorem cutV_all {q n : Nat} (hn : n < ucap) (h0 : 0 < n) : cutV 1 (.slice (some ⟨q, 0, none⟩) n n) 0 n = .slice (some ⟨q, 0, none⟩) n n := by
  simp only [cutV]
  rw [if_neg (Nat.ne_of_lt hn), if_neg (by omega)]
  simp
theorem pNew_spec (n s : Int) (id : Nat) (hn : -9223372036854775808 ≤ n ∧ n ≤ 9223372036854775807) (hid : id < 4294967296) :
    ACalls prog w0 n_pack_New [.int .i64 n, .int .i64 s, .int .u32 id] h fun v h' =>
      (pfits n s = true → ∃ q S', v = .tuple #[ptr q, .int .i64 0] ∧ Pk w0 h' q (PS.new n s id) S' ∧ Step h h' [] S') ∧ (pfits n s = false → v = .tuple #[.pointer none, .int .i64 1] ∧ h' = h) := by
  refine ACalls.of_fit (by simp) fun f => c_pack_New (by simp) ?_
  refine callA_of (fits_spec n s hn) fun v h1 ⟨e, e1⟩ f1 => ?_
  subst e e1
  cases hf : pfits n s with
  | false =>
    simp only [lenSl_slice, lenStr_string, str_size, fpureA_some, fnilA_ptr, faddA_ptr, addr_add, Nat.zero_add, Nat.add_zero, fpureQ_k, fpureQ_nilA, fpureQ_addA, fpureQ_pureA, fpureQ_guardA, fpureQ_idxSlA, fpureQ_pickA, freadQ_loadA, freadQ_loadNA, freadQ_b2sA, freadQ_guardA, freadQ_slSlA, freadQ_k, fendA, fallA_one, fstillA_nil, fguardA_tt, fguardA_ff, fguardA_tf, fguardA_ft, fguardA_undef, fpickA_true, fpickA_false, fcondA_true, fcondA_false, binA_add, binA_sub, binA_mul, binA_eql, binA_neq, binA_lss, binA_leq, binA_gtr, binA_geq, unA_not, Bool.not_true, Bool.not_false, convA_int, extA_tuple, List.getElem?_toArray, List.getElem?_cons_zero, List.getElem?_cons_succ, retA_iff, oneOf_two]
    simp
  | true =>
    obtain ⟨r1, r2, r3, r4⟩ := pfits_range hf
    have ok := PS.Ok.new (id := id) hf hid
    obtain ⟨n, rfl⟩ := Int.eq_ofNat_of_zero_le (show 0 ≤ n by omega)
    obtain ⟨s, rfl⟩ := Int.eq_ofNat_of_zero_le (show 0 ≤ s by omega)
    have hm1 := Nat.mul_le_mul (show n ≤ 4096 by omega) (show s ≤ 64 by omega)
    have hm2 := Nat.mul_le_mul (show 512 ≤ n by omega) (show 1 ≤ s by omega)
    have hu : n * s < ucap := by show n * s < 18446744073709551616; omega
    have e1 : IntKind.i64.wrap ((n : Int) * (s : Int)) = ((n * s : Nat) : Int) := by rw [IntWalk.i64_in _ (by rw [← Int.natCast_mul]; omega)]; simp
    have e2 : IntKind.u32.wrap (s : Int) = (s : Int) := IntWalk.u32_in _ (by omega)
    simp only [lenSl_slice, lenStr_string, str_size, fpureA_some, fnilA_ptr, faddA_ptr, addr_add, Nat.zero_add, Nat.add_zero, fpureQ_k, fpureQ_nilA, fpureQ_addA, fpureQ_pureA, fpureQ_guardA, fpureQ_idxSlA, fpureQ_pickA, freadQ_loadA, freadQ_loadNA, freadQ_b2sA, freadQ_guardA, freadQ_slSlA, freadQ_k, fendA, fallA_one, fstillA_nil, fguardA_tt, fguardA_ff, fguardA_tf, fguardA_ft, fguardA_undef, fpickA_true, fpickA_false, fcondA_true, fcondA_false, binA_add, binA_sub, binA_mul, binA_eql, binA_neq, binA_lss, binA_leq, binA_gtr, binA_geq, unA_not, Bool.not_true, Bool.not_false, convA_int, extA_tuple, List.getElem?_toArray, List.getElem?_cons_zero, List.getElem?_cons_succ, e1, mkA_nat]
    refine ⟨Nat.le_refl _, by omega, by omega, ?_⟩
    simp only [buildA_iff, fillA_one, fillA_nil, isCell_int, isCell_slice, true_and, List.set_cons_zero, List.set_cons_succ, List.length_cons, List.length_nil, boxA_agg, List.toList_toArray]
    refine ⟨by omega, by omega, by omega, by omega, ?_⟩
    have s1 : Step h1 (h1.new (zerosL [.int .u8 0] (n * s)) 1) [] [h1.next] := (Step.refl h1 [] (by simp)).new _ _
    have hz : zerosL [(.int .u8 0 : Value)] (n * s) = bvs (List.replicate (n * s) 0) := by rw [zerosL_single]; simp [bvs, bv]
    rw [hz] at s1 ⊢
    have g1 : GV w0 (h1.new (bvs (List.replicate (n * s) 0)) 1) 1 (.slice (some ⟨h1.next, 0, none⟩) (n * s) (n * s)) (List.replicate (n * s) (0 : UInt8)).length (bvs (List.replicate (n * s) 0)) [h1.next] := by
      have := GV.new (w0 := w0) (h := h1) (s := 1) (cs := bvs (List.replicate (n * s) 0)) (n := n * s) (k := 1) f1.base (by simp) hu
      simpa using this
    generalize hh2 : h1.new (bvs (List.replicate (n * s) 0)) 1 = h2 at s1 g1 ⊢
    have hlt2 : h1.next < h2.next := by rw [← hh2]; simp
    have b2 : w0.heap.size ≤ h2.next := Nat.le_trans f1.base (Nat.le_of_lt hlt2)
    have s2 : Step h2 (h2.new [.int .i64 (n : Int), .int .i64 (s : Int), .int .u32 (id : Int), .slice (some ⟨h1.next, 0, none⟩) (n * s) (n * s), .slice none 0 0, .bool false, .slice none 0 0, .int .i64 0, .bool false] 9) [] [h2.next] := (Step.refl h2 [] (by simp)).new _ _
    have hb3 : (h2.new [.int .i64 (n : Int), .int .i64 (s : Int), .int .u32 (id : Int), .slice (some ⟨h1.next, 0, none⟩) (n * s) (n * s), .slice none 0 0, .bool false, .slice none 0 0, .int .i64 0, .bool false] 9).blk h2.next = some [.int .i64 (n : Int), .int .i64 (s : Int), .int .u32 (id : Int), .slice (some ⟨h1.next, 0, none⟩) (n * s) (n * s), .slice none 0 0, .bool false, .slice none 0 0, .int .i64 0, .bool false] := by simp
    have g3 := g1.frame s2 (by simp)
    have hlt3 : h2.next < (h2.new [.int .i64 (n : Int), .int .i64 (s : Int), .int .u32 (id : Int), .slice (some ⟨h1.next, 0, none⟩) (n * s) (n * s), .slice none 0 0, .bool false, .slice none 0 0, .int .i64 0, .bool false] 9).next := by simp
    generalize hh3 : h2.new [.int .i64 (n : Int), .int .i64 (s : Int), .int .u32 (id : Int), .slice (some ⟨h1.next, 0, none⟩) (n * s) (n * s), .slice none 0 0, .bool false, .slice none 0 0, .int .i64 0, .bool false] 9 = h3 at s2 hb3 g3 hlt3 ⊢
    simp only [lenSl_slice, lenStr_string, str_size, fpureA_some, fnilA_ptr, faddA_ptr, addr_add, Nat.zero_add, Nat.add_zero, fpureQ_k, fpureQ_nilA, fpureQ_addA, fpureQ_pureA, fpureQ_guardA, fpureQ_idxSlA, fpureQ_pickA, freadQ_loadA, freadQ_loadNA, freadQ_b2sA, freadQ_guardA, freadQ_slSlA, freadQ_k, fendA, fallA_one, fstillA_nil, fguardA_tt, fguardA_ff, fguardA_tf, fguardA_ft, fguardA_undef, fpickA_true, fpickA_false, fcondA_true, fcondA_false, binA_add, binA_sub, binA_mul, binA_eql, binA_neq, binA_lss, binA_leq, binA_gtr, binA_geq, unA_not, Bool.not_true, Bool.not_false, convA_int, extA_tuple, List.getElem?_toArray, List.getElem?_cons_zero, List.getElem?_cons_succ]
    refine loadA_at b2 hb3 (by rfl) ?_
    simp only [lenSl_slice, lenStr_string, str_size, fpureA_some, fnilA_ptr, faddA_ptr, addr_add, Nat.zero_add, Nat.add_zero, fpureQ_k, fpureQ_nilA, fpureQ_addA, fpureQ_pureA, fpureQ_guardA, fpureQ_idxSlA, fpureQ_pickA, freadQ_loadA, freadQ_loadNA, freadQ_b2sA, freadQ_guardA, freadQ_slSlA, freadQ_k, fendA, fallA_one, fstillA_nil, fguardA_tt, fguardA_ff, fguardA_tf, fguardA_ft, fguardA_undef, fpickA_true, fpickA_false, fcondA_true, fcondA_false, binA_add, binA_sub, binA_mul, binA_eql, binA_neq, binA_lss, binA_leq, binA_gtr, binA_geq, unA_not, Bool.not_true, Bool.not_false, convA_int, extA_tuple, List.getElem?_toArray, List.getElem?_cons_zero, List.getElem?_cons_succ, e2]
    refine callA_of (marked_spec (name := dpak) rfl id s) fun v h4 ⟨e, s4⟩ f4 => ?_
    subst e
    have hb4 := (s4.keep _ hlt3 (by simp)).1.trans hb3
    have g4 := g3.frame s4 (by simp)
    simp only [stillA_iff, allA_cons, allA_one, sameQ_loadA]
    refine ⟨loadA_at b2 hb4 (by rfl) rfl, ?_⟩
    have hm16 : (mark16 dpak id s).length = 16 := mark16_length rfl _ _
    have hrl : (List.replicate (n * s) (0 : UInt8)).length = n * s := by simp
    have hc := g4.copy (y := .string (str (mark16 dpak id s))) (m := mark16 dpak id s) (lo := 0) (hi := n * s) (K := fun v30 => stillA [] (endA (retA [.pointer (some ⟨h2.next, 0, none⟩), .int .i64 0] fun v h' => (true = true → ∃ q S', v = .tuple #[ptr q, .int .i64 0] ∧ Pk w0 h' q (PS.new n s id) S' ∧ Step h1 h' [] S') ∧ (true = false → v = .tuple #[.pointer none, .int .i64 1] ∧ h' = h1))))
      (by omega) (by rw [hrl]; exact Nat.le_refl _) (by omega) (by simp) (by have := src_string (h := h4) w0.heap.size (str (mark16 dpak id s)); simpa using this) (fun r h5 hr5 g5 s5 => by
        simp only [lenSl_slice, lenStr_string, str_size, fpureA_some, fnilA_ptr, faddA_ptr, addr_add, Nat.zero_add, Nat.add_zero, fpureQ_k, fpureQ_nilA, fpureQ_addA, fpureQ_pureA, fpureQ_guardA, fpureQ_idxSlA, fpureQ_pickA, freadQ_loadA, freadQ_loadNA, freadQ_b2sA, freadQ_guardA, freadQ_slSlA, freadQ_k, fendA, fallA_one, fstillA_nil, fguardA_tt, fguardA_ff, fguardA_tf, fguardA_ft, fguardA_undef, fpickA_true, fpickA_false, fcondA_true, fcondA_false, binA_add, binA_sub, binA_mul, binA_eql, binA_neq, binA_lss, binA_leq, binA_gtr, binA_geq, unA_not, Bool.not_true, Bool.not_false, convA_int, extA_tuple, List.getElem?_toArray, List.getElem?_cons_zero, List.getElem?_cons_succ, retA_iff, oneOf_two]
        refine ⟨by simp, fun _ => ⟨h2.next, h2.next :: ([h1.next] ++ ([] ++ [])), rfl, ⟨.slice (some ⟨h1.next, 0, none⟩) (n * s) (n * s), .slice none 0 0, .slice none 0 0, [h1.next], [], [], ⟨?_, b2, ?_, ?_, .inl .nil, ⟨rfl, rfl⟩, ⟨?_, by simp, by simp, by simp, by simp, by simp⟩⟩, rfl⟩, ?_⟩, by simp⟩
        · exact (s5.keep _ (Nat.lt_of_lt_of_le hlt3 s4.next) (by simp; omega)).1.trans hb4
        · exact Nat.lt_of_lt_of_le (Nat.lt_of_lt_of_le hlt3 s4.next) s5.next
        · have hi : (List.replicate (n * s) (0 : UInt8)).take 0 ++ mark16 dpak id s ++ (List.replicate (n * s) (0 : UInt8)).drop (0 + (mark16 dpak id s).length) = (PS.new n s id).image := by
            rw [hm16]
            simp only [PS.image, PS.new, bodyB, PS.foot, PS.bytes, endOf, Int.toNat_natCast, List.flatMap_nil, List.append_nil, List.take_zero, List.nil_append, List.drop_replicate, Bool.false_eq_true, if_false, List.append_assoc, List.replicate_append_replicate]
            congr 2
            omega
          rw [hi] at g5
          rw [ok.image]
          simpa [PS.new, PS.bytes] using g5
        · simp; omega
        · have s15 : Step h1 h5 [] ([h2.next] ++ [h1.next]) := ((s1.trans ((s2.trans (s4.wide (T := [h2.next]) (T' := [h2.next]) (by simp) (fun b hb => .inr ⟨hb, by simp at hb; subst hb; exact hlt3⟩))).more [h1.next] (by simp; exact hlt2))).trans (s5.wide (T := [h2.next] ++ [h1.next]) (T' := [h2.next] ++ [h1.next]) (by simp) (fun b hb => by
            simp at hb
            rcases hb with rfl | rfl
            · exact .inr ⟨by simp, Nat.lt_of_lt_of_le hlt3 s4.next⟩
            · exact .inl (by simp))))
          exact s15.less (by simp))
    have ec : cutV 1 (.slice (some ⟨h1.next, 0, none⟩) (n * s) (n * s)) 0 (n * s) = .slice (some ⟨h1.next, 0, none⟩) (n * s) (n * s) := cutV_all hu (by omega)
    rw [ec] at hc
    simpa only [stillA_iff, allA_cons, allA_one, sameQ_loadA, lenSl_slice, lenStr_string, str_size, fpureA_some, fnilA_ptr, faddA_ptr, addr_add, Nat.zero_add, Nat.add_zero, fpureQ_k, fpureQ_nilA, fpureQ_addA, fpureQ_pureA, fpureQ_guardA, fpureQ_idxSlA, fpureQ_pickA, freadQ_loadA, freadQ_loadNA, freadQ_b2sA, freadQ_guardA, freadQ_slSlA, freadQ_k, fendA, fallA_one, fstillA_nil, fguardA_tt, fguardA_ff, fguardA_tf, fguardA_ft, fguardA_undef, fpickA_true, fpickA_false, fcondA_true, fcondA_false, binA_add, binA_sub, binA_mul, binA_eql, binA_neq, binA_lss, binA_leq, binA_gtr, binA_geq, unA_not, Bool.not_true, Bool.not_false, convA_int, extA_tuple, List.getElem?_toArray, List.getElem?_cons_zero, List.getElem?_cons_succ] using hc
end
end Go.Proofs.Ytfhamcobfpmgbaa.Ah
