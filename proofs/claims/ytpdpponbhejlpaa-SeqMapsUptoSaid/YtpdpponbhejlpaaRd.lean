/- SeqNobody: the walk. -/
import Derived.Test.YtpdpponbhejlpaaRxb
set_option linter.unusedVariables false
set_option linter.unusedSimpArgs false
namespace Go.Proofs.Ytpdpponbhejlpaa.Ah
open Go
/-- A call of a map. -/
structure MOp where
  k : Int
  key : Key
  to : Key
  n : Int
def MOp.e (o : MOp) : List Value := [.int .i64 o.k, .string (str o.key), .string (str o.to), .int .i64 o.n]
def dMOp : Dec MOp := ⟨MOp.e, fun o => True, fun o => o.key.length + o.to.length + 1⟩
section
variable {w0 : World} {h h' : Hp}
/-- Over nothing. -/
theorem rangeA_nil {fv : Value} {np : Nat} {round : Nat → Lp → List Value → Kont → Hp → Prop} {K0 : Hp → Prop} {Ks : List (Option Nat × (Hp → Prop))} {T : List Nat} (f : Fit w0 h) (it : ∀ g, ItC prog w0 fv (h.newLp g) T [])
    (body : Nat → Lp → List Value → Kont → Hp → Prop) (hround : ∀ b g x K, round b g x K = beginA b g (body b g x K)) (k0 : ∀ h3, Fit w0 h3 → YStep 0 h h3 [] [] → K0 h3) : rangeA prog w0 fv np round K0 Ks h := by
  refine rangeA_of (xs := []) (T := T) 0 (Nat.zero_le _) f it body hround [] (fun _ _ S => S = []) (fun _ _ _ => False) (fun i => ⟨fun _ _ _ _ e => e, fun _ _ _ _ _ _ e _ _ _ => e, fun _ _ e => by subst e; simp⟩) (fun o => ⟨fun _ _ _ _ e => e, fun _ _ _ _ _ _ e _ _ _ => e, fun _ _ e => e.elim⟩)
    rfl (by simp) (by simp) (fun i x h1 S1 g K hx => by simp at hx) (fun h3 S2 f3 ys e => ?_) (fun o h3 S2 f3 ys e => e.elim)
  subst e
  exact k0 h3 f3 ys
theorem SeqNobody_top (o : MOp) : ACalls prog w0 n_deduplaw10_SeqNobody [.agg o.e.toArray] h fun r h' => r = .bool true := by
  refine ACalls.of_fit (by simp) fun f => c_deduplaw10_SeqNobody (by simp) ?_
  have fb := f.base
  simp only [s_deduplaw10_SeqNobody, boxA_agg, newA_iff]
  refine ⟨by simp [isCell], ?_⟩
  have a1 : ((h.new o.e 4).new [.bool false] 1).blk h.next = some o.e := by simp
  have a2 : ((h.new o.e 4).new [.bool false] 1).blk (h.next + 1) = some [.bool false] := by simp
  have a3 : ((h.new o.e 4).new [.bool false] 1).next = h.next + 2 := rfl
  have fA : Fit w0 ((h.new o.e 4).new [.bool false] 1) := (f.new (by simp [MOp.e, isCell])).new (by simp [isCell])
  have a4 : (h.new o.e 4).next = h.next + 1 := rfl
  rw [a4]
  show addA (.pointer (some ⟨h.next, 0, none⟩)) 3 _ ((h.new o.e 4).new [.bool false] 1)
  generalize (h.new o.e 4).new [.bool false] 1 = hA at *
  simp only [lenSl_slice, lenStr_string, str_size, fpureA_some, fnilA_ptr, faddA_ptr, addr_add, Nat.zero_add, Nat.add_zero, fpureQ_k, fpureQ_nilA, fpureQ_addA, fpureQ_pureA, fpureQ_guardA, fpureQ_idxSlA, fpureQ_pickA, freadQ_loadA, freadQ_loadNA, freadQ_b2sA, freadQ_guardA, freadQ_slSlA, freadQ_k, fendA, fallA_one, fstillA_nil, fguardA_tt, fguardA_ff, fguardA_tf, fguardA_ft, fguardA_undef, fpickA_true, fpickA_false, fcondA_true, fcondA_false, binA_add, binA_sub, binA_mul, binA_eql, binA_neq, binA_lss, binA_leq, binA_gtr, binA_geq, unA_not, Bool.not_true, Bool.not_false, convA_int, extA_tuple, List.getElem?_toArray, List.getElem?_cons_zero, List.getElem?_cons_succ]
  refine loadA_at fb a1 rfl ?_
  refine callA_of (HPush_nil o.n) fun _ h1 e f1 => ?_
  subst e
  refine callA_of HPop_nil fun _ h2 ⟨e, e'⟩ f2 => ?_
  subst e e'
  simp only [lenSl_slice, lenStr_string, str_size, fpureA_some, fnilA_ptr, faddA_ptr, addr_add, Nat.zero_add, Nat.add_zero, fpureQ_k, fpureQ_nilA, fpureQ_addA, fpureQ_pureA, fpureQ_guardA, fpureQ_idxSlA, fpureQ_pickA, freadQ_loadA, freadQ_loadNA, freadQ_b2sA, freadQ_guardA, freadQ_slSlA, freadQ_k, fendA, fallA_one, fstillA_nil, fguardA_tt, fguardA_ff, fguardA_tf, fguardA_ft, fguardA_undef, fpickA_true, fpickA_false, fcondA_true, fcondA_false, binA_add, binA_sub, binA_mul, binA_eql, binA_neq, binA_lss, binA_leq, binA_gtr, binA_geq, unA_not, Bool.not_true, Bool.not_false, convA_int, extA_tuple, List.getElem?_toArray, List.getElem?_cons_zero, List.getElem?_cons_succ]
  refine callA_of HLeast_nil fun _ h3 ⟨e, e'⟩ f3 => ?_
  subst e e'
  simp only [lenSl_slice, lenStr_string, str_size, fpureA_some, fnilA_ptr, faddA_ptr, addr_add, Nat.zero_add, Nat.add_zero, fpureQ_k, fpureQ_nilA, fpureQ_addA, fpureQ_pureA, fpureQ_guardA, fpureQ_idxSlA, fpureQ_pickA, freadQ_loadA, freadQ_loadNA, freadQ_b2sA, freadQ_guardA, freadQ_slSlA, freadQ_k, fendA, fallA_one, fstillA_nil, fguardA_tt, fguardA_ff, fguardA_tf, fguardA_ft, fguardA_undef, fpickA_true, fpickA_false, fcondA_true, fcondA_false, binA_add, binA_sub, binA_mul, binA_eql, binA_neq, binA_lss, binA_leq, binA_gtr, binA_geq, unA_not, Bool.not_true, Bool.not_false, convA_int, extA_tuple, List.getElem?_toArray, List.getElem?_cons_zero, List.getElem?_cons_succ]
  refine callA_of awake_spec fun _ h4 ⟨e, s4⟩ f4 => ?_
  subst e
  have b1 : h4.blk h.next = some o.e := by rw [(s4.keep _ (by omega) (by simp)).1]; exact a1
  have b2 : h4.blk (h.next + 1) = some [.bool false] := by rw [(s4.keep _ (by omega) (by simp)).1]; exact a2
  have n4 := s4.1
  simp only [lenSl_slice, lenStr_string, str_size, fpureA_some, fnilA_ptr, faddA_ptr, addr_add, Nat.zero_add, Nat.add_zero, fpureQ_k, fpureQ_nilA, fpureQ_addA, fpureQ_pureA, fpureQ_guardA, fpureQ_idxSlA, fpureQ_pickA, freadQ_loadA, freadQ_loadNA, freadQ_b2sA, freadQ_guardA, freadQ_slSlA, freadQ_k, fendA, fallA_one, fstillA_nil, fguardA_tt, fguardA_ff, fguardA_tf, fguardA_ft, fguardA_undef, fpickA_true, fpickA_false, fcondA_true, fcondA_false, binA_add, binA_sub, binA_mul, binA_eql, binA_neq, binA_lss, binA_leq, binA_gtr, binA_geq, unA_not, Bool.not_true, Bool.not_false, convA_int, extA_tuple, List.getElem?_toArray, List.getElem?_cons_zero, List.getElem?_cons_succ, bne_self_eq_false]
  refine callA_of HLen_nil fun _ h5 ⟨e, e'⟩ f5 => ?_
  subst e e'
  simp only [lenSl_slice, lenStr_string, str_size, fpureA_some, fnilA_ptr, faddA_ptr, addr_add, Nat.zero_add, Nat.add_zero, fpureQ_k, fpureQ_nilA, fpureQ_addA, fpureQ_pureA, fpureQ_guardA, fpureQ_idxSlA, fpureQ_pickA, freadQ_loadA, freadQ_loadNA, freadQ_b2sA, freadQ_guardA, freadQ_slSlA, freadQ_k, fendA, fallA_one, fstillA_nil, fguardA_tt, fguardA_ff, fguardA_tf, fguardA_ft, fguardA_undef, fpickA_true, fpickA_false, fcondA_true, fcondA_false, binA_add, binA_sub, binA_mul, binA_eql, binA_neq, binA_lss, binA_leq, binA_gtr, binA_geq, unA_not, Bool.not_true, Bool.not_false, convA_int, extA_tuple, List.getElem?_toArray, List.getElem?_cons_zero, List.getElem?_cons_succ, bne_self_eq_false]
  refine callA_of MLen_nil fun _ h6 ⟨e, e'⟩ f6 => ?_
  subst e e'
  simp only [lenSl_slice, lenStr_string, str_size, fpureA_some, fnilA_ptr, faddA_ptr, addr_add, Nat.zero_add, Nat.add_zero, fpureQ_k, fpureQ_nilA, fpureQ_addA, fpureQ_pureA, fpureQ_guardA, fpureQ_idxSlA, fpureQ_pickA, freadQ_loadA, freadQ_loadNA, freadQ_b2sA, freadQ_guardA, freadQ_slSlA, freadQ_k, fendA, fallA_one, fstillA_nil, fguardA_tt, fguardA_ff, fguardA_tf, fguardA_ft, fguardA_undef, fpickA_true, fpickA_false, fcondA_true, fcondA_false, binA_add, binA_sub, binA_mul, binA_eql, binA_neq, binA_lss, binA_leq, binA_gtr, binA_geq, unA_not, Bool.not_true, Bool.not_false, convA_int, extA_tuple, List.getElem?_toArray, List.getElem?_cons_zero, List.getElem?_cons_succ, bne_self_eq_false]
  refine loadA_at fb b1 rfl ?_
  refine callA_of (MRank_nil _) fun _ h7 ⟨e, e'⟩ f7 => ?_
  subst e e'
  simp only [lenSl_slice, lenStr_string, str_size, fpureA_some, fnilA_ptr, faddA_ptr, addr_add, Nat.zero_add, Nat.add_zero, fpureQ_k, fpureQ_nilA, fpureQ_addA, fpureQ_pureA, fpureQ_guardA, fpureQ_idxSlA, fpureQ_pickA, freadQ_loadA, freadQ_loadNA, freadQ_b2sA, freadQ_guardA, freadQ_slSlA, freadQ_k, fendA, fallA_one, fstillA_nil, fguardA_tt, fguardA_ff, fguardA_tf, fguardA_ft, fguardA_undef, fpickA_true, fpickA_false, fcondA_true, fcondA_false, binA_add, binA_sub, binA_mul, binA_eql, binA_neq, binA_lss, binA_leq, binA_gtr, binA_geq, unA_not, Bool.not_true, Bool.not_false, convA_int, extA_tuple, List.getElem?_toArray, List.getElem?_cons_zero, List.getElem?_cons_succ, bne_self_eq_false]
  refine callA_of MFork_nil fun _ h8 ⟨e, e'⟩ f8 => ?_
  subst e e'
  have c1 : binPtrA .neq (.pointer none) (.pointer none) = some (.bool false) := rfl
  simp only [lenSl_slice, lenStr_string, str_size, fpureA_some, fnilA_ptr, faddA_ptr, addr_add, Nat.zero_add, Nat.add_zero, fpureQ_k, fpureQ_nilA, fpureQ_addA, fpureQ_pureA, fpureQ_guardA, fpureQ_idxSlA, fpureQ_pickA, freadQ_loadA, freadQ_loadNA, freadQ_b2sA, freadQ_guardA, freadQ_slSlA, freadQ_k, fendA, fallA_one, fstillA_nil, fguardA_tt, fguardA_ff, fguardA_tf, fguardA_ft, fguardA_undef, fpickA_true, fpickA_false, fcondA_true, fcondA_false, binA_add, binA_sub, binA_mul, binA_eql, binA_neq, binA_lss, binA_leq, binA_gtr, binA_geq, unA_not, Bool.not_true, Bool.not_false, convA_int, extA_tuple, List.getElem?_toArray, List.getElem?_cons_zero, List.getElem?_cons_succ, c1]
  refine loadA_at fb b1 rfl ?_
  refine loadA_at fb b1 rfl ?_
  refine callA_of (MPut_nil _ _) fun _ h9 ⟨e, e'⟩ f9 => ?_
  subst e e'
  simp only [lenSl_slice, lenStr_string, str_size, fpureA_some, fnilA_ptr, faddA_ptr, addr_add, Nat.zero_add, Nat.add_zero, fpureQ_k, fpureQ_nilA, fpureQ_addA, fpureQ_pureA, fpureQ_guardA, fpureQ_idxSlA, fpureQ_pickA, freadQ_loadA, freadQ_loadNA, freadQ_b2sA, freadQ_guardA, freadQ_slSlA, freadQ_k, fendA, fallA_one, fstillA_nil, fguardA_tt, fguardA_ff, fguardA_tf, fguardA_ft, fguardA_undef, fpickA_true, fpickA_false, fcondA_true, fcondA_false, binA_add, binA_sub, binA_mul, binA_eql, binA_neq, binA_lss, binA_leq, binA_gtr, binA_geq, unA_not, Bool.not_true, Bool.not_false, convA_int, extA_tuple, List.getElem?_toArray, List.getElem?_cons_zero, List.getElem?_cons_succ]
  refine loadA_at fb b1 rfl ?_
  refine callA_of (MGet_nil _) fun _ h10 ⟨e, e'⟩ f10 => ?_
  subst e e'
  simp only [lenSl_slice, lenStr_string, str_size, fpureA_some, fnilA_ptr, faddA_ptr, addr_add, Nat.zero_add, Nat.add_zero, fpureQ_k, fpureQ_nilA, fpureQ_addA, fpureQ_pureA, fpureQ_guardA, fpureQ_idxSlA, fpureQ_pickA, freadQ_loadA, freadQ_loadNA, freadQ_b2sA, freadQ_guardA, freadQ_slSlA, freadQ_k, fendA, fallA_one, fstillA_nil, fguardA_tt, fguardA_ff, fguardA_tf, fguardA_ft, fguardA_undef, fpickA_true, fpickA_false, fcondA_true, fcondA_false, binA_add, binA_sub, binA_mul, binA_eql, binA_neq, binA_lss, binA_leq, binA_gtr, binA_geq, unA_not, Bool.not_true, Bool.not_false, convA_int, extA_tuple, List.getElem?_toArray, List.getElem?_cons_zero, List.getElem?_cons_succ]
  refine loadA_at fb b1 rfl ?_
  refine callA_of (MDelete_nil _) fun _ h11 ⟨e, e'⟩ f11 => ?_
  subst e e'
  simp only [lenSl_slice, lenStr_string, str_size, fpureA_some, fnilA_ptr, faddA_ptr, addr_add, Nat.zero_add, Nat.add_zero, fpureQ_k, fpureQ_nilA, fpureQ_addA, fpureQ_pureA, fpureQ_guardA, fpureQ_idxSlA, fpureQ_pickA, freadQ_loadA, freadQ_loadNA, freadQ_b2sA, freadQ_guardA, freadQ_slSlA, freadQ_k, fendA, fallA_one, fstillA_nil, fguardA_tt, fguardA_ff, fguardA_tf, fguardA_ft, fguardA_undef, fpickA_true, fpickA_false, fcondA_true, fcondA_false, binA_add, binA_sub, binA_mul, binA_eql, binA_neq, binA_lss, binA_leq, binA_gtr, binA_geq, unA_not, Bool.not_true, Bool.not_false, convA_int, extA_tuple, List.getElem?_toArray, List.getElem?_cons_zero, List.getElem?_cons_succ]
  refine callA_of (MAt_nil 0 (by omega)) fun _ h12 ⟨e, s12⟩ f12 => ?_
  subst e
  simp only [lenSl_slice, lenStr_string, str_size, fpureA_some, fnilA_ptr, faddA_ptr, addr_add, Nat.zero_add, Nat.add_zero, fpureQ_k, fpureQ_nilA, fpureQ_addA, fpureQ_pureA, fpureQ_guardA, fpureQ_idxSlA, fpureQ_pickA, freadQ_loadA, freadQ_loadNA, freadQ_b2sA, freadQ_guardA, freadQ_slSlA, freadQ_k, fendA, fallA_one, fstillA_nil, fguardA_tt, fguardA_ff, fguardA_tf, fguardA_ft, fguardA_undef, fpickA_true, fpickA_false, fcondA_true, fcondA_false, binA_add, binA_sub, binA_mul, binA_eql, binA_neq, binA_lss, binA_leq, binA_gtr, binA_geq, unA_not, Bool.not_true, Bool.not_false, convA_int, extA_tuple, List.getElem?_toArray, List.getElem?_cons_zero, List.getElem?_cons_succ]
  refine boxN (e := [.string .empty, .int .i64 0]) f12.base rfl rfl (by simp [isCell]) ?_
  have n12 := s12.1
  have d1 : (h12.new [.string .empty, .int .i64 0] 2).blk h.next = some o.e := by rw [new_blk, if_neg (by omega), (s12.keep _ (by omega) (by simp)).1]; exact b1
  have d2 : (h12.new [.string .empty, .int .i64 0] 2).blk (h.next + 1) = some [.bool false] := by rw [new_blk, if_neg (by omega), (s12.keep _ (by omega) (by simp)).1]; exact b2
  have d3 : (h12.new [.string .empty, .int .i64 0] 2).blk h12.next = some [.string .empty, .int .i64 0] := by simp
  have n13 : (h12.new [.string .empty, .int .i64 0] 2).next = h12.next + 1 := rfl
  have f12b := f12.base
  generalize h12.next = q at *
  generalize h12.new [.string .empty, .int .i64 0] 2 = h13 at *
  refine callA_of All_nil fun _ h14 ⟨q1, q2, e, e1, e2, s14⟩ f14 => ?_
  subst e
  have n14 := s14.1
  have g1 : h14.blk h.next = some o.e := by rw [(s14.keep _ (by omega) (by simp)).1]; exact d1
  have g2 : h14.blk (h.next + 1) = some [.bool false] := by rw [(s14.keep _ (by omega) (by simp)).1]; exact d2
  have g3 : h14.blk q = some [.string .empty, .int .i64 0] := by rw [(s14.keep _ (by omega) (by simp)).1]; exact d3
  refine rangeA_nil (T := []) f14 (fun g => over_nil (by rw [newLp_blk]; exact e1) (by omega)) _ (fun b g x K => rfl) fun h15 f15 y15 => ?_
  have n15 := y15.next
  have i1 : h15.blk h.next = some o.e := by rw [(y15.keep _ (by omega) (by simp)).1]; exact g1
  have i2 : h15.blk (h.next + 1) = some [.bool false] := by rw [(y15.keep _ (by omega) (by simp)).1]; exact g2
  have i3 : h15.blk q = some [.string .empty, .int .i64 0] := by rw [(y15.keep _ (by omega) (by simp)).1]; exact g3
  simp only [lenSl_slice, lenStr_string, str_size, fpureA_some, fnilA_ptr, faddA_ptr, addr_add, Nat.zero_add, Nat.add_zero, fpureQ_k, fpureQ_nilA, fpureQ_addA, fpureQ_pureA, fpureQ_guardA, fpureQ_idxSlA, fpureQ_pickA, freadQ_loadA, freadQ_loadNA, freadQ_b2sA, freadQ_guardA, freadQ_slSlA, freadQ_k, fendA, fallA_one, fstillA_nil, fguardA_tt, fguardA_ff, fguardA_tf, fguardA_ft, fguardA_undef, fpickA_true, fpickA_false, fcondA_true, fcondA_false, binA_add, binA_sub, binA_mul, binA_eql, binA_neq, binA_lss, binA_leq, binA_gtr, binA_geq, unA_not, Bool.not_true, Bool.not_false, convA_int, extA_tuple, List.getElem?_toArray, List.getElem?_cons_zero, List.getElem?_cons_succ]
  refine loadA_at fb i1 rfl ?_
  refine callA_of (Range_any (.pointer none) (by simp [junk]) rfl [] o.key) fun r h16 ⟨q1, q2, r1, r2, e, e1, _, _, _, e2, _, _, _, _, _, _, _, s16⟩ f16 => ?_
  subst e
  have n16 := s16.1
  have j2 : h16.blk (h.next + 1) = some [.bool false] := by rw [(s16.keep _ (by omega) (by simp)).1]; exact i2
  have j3 : h16.blk q = some [.string .empty, .int .i64 0] := by rw [(s16.keep _ (by omega) (by simp)).1]; exact i3
  refine rangeA_nil (T := []) f16 (fun g => over_nil (by rw [newLp_blk]; exact e1) (by omega)) _ (fun b g x K => rfl) fun h17 f17 y17 => ?_
  have n17 := y17.next
  have k2 : h17.blk (h.next + 1) = some [.bool false] := by rw [(y17.keep _ (by omega) (by simp)).1]; exact j2
  have k3 : h17.blk q = some [.string .empty, .int .i64 0] := by rw [(y17.keep _ (by omega) (by simp)).1]; exact j3
  have c0 : ((0 : Int) == 0) = true := rfl
  have c2 : binA .eql (.string .empty) (.string .empty) = some (.bool true) := by
    have := s_eql [] []
    rw [← str_empty] at this
    simpa using this
  simp only [lenSl_slice, lenStr_string, str_size, fpureA_some, fnilA_ptr, faddA_ptr, addr_add, Nat.zero_add, Nat.add_zero, fpureQ_k, fpureQ_nilA, fpureQ_addA, fpureQ_pureA, fpureQ_guardA, fpureQ_idxSlA, fpureQ_pickA, freadQ_loadA, freadQ_loadNA, freadQ_b2sA, freadQ_guardA, freadQ_slSlA, freadQ_k, fendA, fallA_one, fstillA_nil, fguardA_tt, fguardA_ff, fguardA_tf, fguardA_ft, fguardA_undef, fpickA_true, fpickA_false, fcondA_true, fcondA_false, binA_add, binA_sub, binA_mul, binA_eql, binA_neq, binA_lss, binA_leq, binA_gtr, binA_geq, unA_not, Bool.not_true, Bool.not_false, convA_int, extA_tuple, List.getElem?_toArray, List.getElem?_cons_zero, List.getElem?_cons_succ, c0]
  refine loadA_at (by omega) k3 rfl ?_
  simp only [c2, Bool.not_false, lenSl_slice, lenStr_string, str_size, fpureA_some, fnilA_ptr, faddA_ptr, addr_add, Nat.zero_add, Nat.add_zero, fpureQ_k, fpureQ_nilA, fpureQ_addA, fpureQ_pureA, fpureQ_guardA, fpureQ_idxSlA, fpureQ_pickA, freadQ_loadA, freadQ_loadNA, freadQ_b2sA, freadQ_guardA, freadQ_slSlA, freadQ_k, fendA, fallA_one, fstillA_nil, fguardA_tt, fguardA_ff, fguardA_tf, fguardA_ft, fguardA_undef, fpickA_true, fpickA_false, fcondA_true, fcondA_false, binA_add, binA_sub, binA_mul, binA_eql, binA_neq, binA_lss, binA_leq, binA_gtr, binA_geq, unA_not, Bool.not_true, Bool.not_false, convA_int, extA_tuple, List.getElem?_toArray, List.getElem?_cons_zero, List.getElem?_cons_succ]
  refine storeA_at (by omega) k2 (by simp) rfl ?_
  unfold cutA
  refine loadA_at (cs := [.bool true]) (by omega) (by simp) rfl ?_
  simp only [retA_iff, oneOf_one]
  simp
end
end Go.Proofs.Ytpdpponbhejlpaa.Ah
