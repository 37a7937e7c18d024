/- The statements' own functions: awake, items, same. -/
import Derived.Test.YtpdpponbhejlpaaRxf
import Derived.Test.YtpdpponbhejlpaaSxh
import Derived.Test.YtpdpponbhejlpaaSxa
import Derived.Test.YtpdpponbhejlpaaGlaw10
import Derived.Test.YtpdpponbhejlpaaAh26
set_option linter.unusedVariables false
set_option linter.unusedSimpArgs false
namespace Go.Proofs.Ytpdpponbhejlpaa.Ah
open Go
section
variable {w0 : World} {h : Hp}
theorem binFnA_nil (f : FuncId) (a c : Array Value) : binFnA .eql (.func (.func f) a c) .nilFunc = some (.bool false) := rfl
theorem awake_spec : ACalls prog w0 n_deduplaw10_awake [] h fun r h' => r = .bool true ∧ Step h h' [] [] := by
  refine ACalls.of_fit (by simp) fun f => c_deduplaw10_awake (by simp) ?_
  simp only [s_deduplaw10_awake]
  refine callA_of NewHeap_int fun r h1 ⟨e, m1, s1⟩ f1 => ?_
  subst e
  refine callA_of NewMap_spec fun r h2 ⟨e, n2, s2⟩ f2 => ?_
  subst e
  generalize hpe : h.next = p at *
  have m2 := m1.frame s2 (by simp)
  have hp1 : p < h1.next := (m1.1.lt p (by simp)).2
  generalize hqe : h1.next = q at *
  have c0 : ∀ p, binPtrA .eql (ptr p) (.pointer none) = some (.bool false) := fun p => rfl
  simp only [c0, lenSl_slice, lenStr_string, str_size, fpureA_some, fnilA_ptr, faddA_ptr, addr_add, Nat.zero_add, Nat.add_zero, fpureQ_k, fpureQ_nilA, fpureQ_addA, fpureQ_pureA, fpureQ_guardA, fpureQ_idxSlA, fpureQ_pickA, freadQ_loadA, freadQ_loadNA, freadQ_b2sA, freadQ_guardA, freadQ_slSlA, freadQ_k, fendA, fallA_one, fstillA_nil, fguardA_tt, fguardA_ff, fguardA_tf, fguardA_ft, fguardA_undef, fpickA_true, fpickA_false, fcondA_true, fcondA_false, binA_add, binA_sub, binA_mul, binA_eql, binA_neq, binA_lss, binA_leq, binA_gtr, binA_geq, unA_not, Bool.not_true, Bool.not_false, convA_int, extA_tuple, List.getElem?_toArray, List.getElem?_cons_zero, List.getElem?_cons_succ]
  refine callA_of (All_spec q) fun r h3 ⟨q1, q2, e, _, _, _, _, _, _, s3⟩ f3 => ?_
  subst e
  simp only [binFnA_nil, lenSl_slice, lenStr_string, str_size, fpureA_some, fnilA_ptr, faddA_ptr, addr_add, Nat.zero_add, Nat.add_zero, fpureQ_k, fpureQ_nilA, fpureQ_addA, fpureQ_pureA, fpureQ_guardA, fpureQ_idxSlA, fpureQ_pickA, freadQ_loadA, freadQ_loadNA, freadQ_b2sA, freadQ_guardA, freadQ_slSlA, freadQ_k, fendA, fallA_one, fstillA_nil, fguardA_tt, fguardA_ff, fguardA_tf, fguardA_ft, fguardA_undef, fpickA_true, fpickA_false, fcondA_true, fcondA_false, binA_add, binA_sub, binA_mul, binA_eql, binA_neq, binA_lss, binA_leq, binA_gtr, binA_geq, unA_not, Bool.not_true, Bool.not_false, convA_int, extA_tuple, List.getElem?_toArray, List.getElem?_cons_zero, List.getElem?_cons_succ]
  refine callA_of (Range_any (ptr q) (by simp [ptr, junk]) rfl [] []) fun r h4 ⟨q1, q2, r1, r2, e, _, _, _, _, _, _, _, _, _, _, _, _, s4⟩ f4 => ?_
  subst e
  simp only [binFnA_nil, lenSl_slice, lenStr_string, str_size, fpureA_some, fnilA_ptr, faddA_ptr, addr_add, Nat.zero_add, Nat.add_zero, fpureQ_k, fpureQ_nilA, fpureQ_addA, fpureQ_pureA, fpureQ_guardA, fpureQ_idxSlA, fpureQ_pickA, freadQ_loadA, freadQ_loadNA, freadQ_b2sA, freadQ_guardA, freadQ_slSlA, freadQ_k, fendA, fallA_one, fstillA_nil, fguardA_tt, fguardA_ff, fguardA_tf, fguardA_ft, fguardA_undef, fpickA_true, fpickA_false, fcondA_true, fcondA_false, binA_add, binA_sub, binA_mul, binA_eql, binA_neq, binA_lss, binA_leq, binA_gtr, binA_geq, unA_not, Bool.not_true, Bool.not_false, convA_int, extA_tuple, List.getElem?_toArray, List.getElem?_cons_zero, List.getElem?_cons_succ]
  refine callA_of All_nil fun r h5 ⟨q1, q2, e, _, _, s5⟩ f5 => ?_
  subst e
  simp only [binFnA_nil, lenSl_slice, lenStr_string, str_size, fpureA_some, fnilA_ptr, faddA_ptr, addr_add, Nat.zero_add, Nat.add_zero, fpureQ_k, fpureQ_nilA, fpureQ_addA, fpureQ_pureA, fpureQ_guardA, fpureQ_idxSlA, fpureQ_pickA, freadQ_loadA, freadQ_loadNA, freadQ_b2sA, freadQ_guardA, freadQ_slSlA, freadQ_k, fendA, fallA_one, fstillA_nil, fguardA_tt, fguardA_ff, fguardA_tf, fguardA_ft, fguardA_undef, fpickA_true, fpickA_false, fcondA_true, fcondA_false, binA_add, binA_sub, binA_mul, binA_eql, binA_neq, binA_lss, binA_leq, binA_gtr, binA_geq, unA_not, Bool.not_true, Bool.not_false, convA_int, extA_tuple, List.getElem?_toArray, List.getElem?_cons_zero, List.getElem?_cons_succ]
  refine callA_of (Range_any (.pointer none) (by simp [junk]) rfl [] []) fun r h6 ⟨q1, q2, r1, r2, e, _, _, _, _, _, _, _, _, _, _, _, _, s6⟩ f6 => ?_
  subst e
  simp only [binFnA_nil, lenSl_slice, lenStr_string, str_size, fpureA_some, fnilA_ptr, faddA_ptr, addr_add, Nat.zero_add, Nat.add_zero, fpureQ_k, fpureQ_nilA, fpureQ_addA, fpureQ_pureA, fpureQ_guardA, fpureQ_idxSlA, fpureQ_pickA, freadQ_loadA, freadQ_loadNA, freadQ_b2sA, freadQ_guardA, freadQ_slSlA, freadQ_k, fendA, fallA_one, fstillA_nil, fguardA_tt, fguardA_ff, fguardA_tf, fguardA_ft, fguardA_undef, fpickA_true, fpickA_false, fcondA_true, fcondA_false, binA_add, binA_sub, binA_mul, binA_eql, binA_neq, binA_lss, binA_leq, binA_gtr, binA_geq, unA_not, Bool.not_true, Bool.not_false, convA_int, extA_tuple, List.getElem?_toArray, List.getElem?_cons_zero, List.getElem?_cons_succ]
  have s26 : Step h2 h6 [] [] := ((s3.trans s4).trans s5).trans s6
  have m6 := m2.frame s26 (by simp)
  have n6 := n2.frame s26 (by simp)
  refine callA_of (Push_int m6 3 (by simp)) fun _ h7 ⟨S7, m7, s7⟩ f7 => ?_
  have x7 : pushL ltI [] 3 = [3] := by decide
  rw [x7] at m7
  have n7 := n6.frame s7 (by simp; omega)
  refine callA_of (Push_int m7 1 (by simp)) fun _ h8 ⟨S8, m8, s8⟩ f8 => ?_
  have x8 : pushL ltI [3] 1 = [1, 3] := by decide
  rw [x8] at m8
  have hlt2 : q < h6.next := (n6.lt q n6.mem).2
  have hq7 : q ∉ S7 := fun e => by
    rcases (s7.own q e).2 with e | e
    · simp at e; omega
    · omega
  have hq8 : q ∉ S8 := fun e => by
    rcases (s8.own q e).2 with e | e
    · exact hq7 e
    · have := s7.1; omega
  have n8 := n7.frame s8 (by simp; exact hq7)
  refine callA_of (Pop_int m8 (by simp)) fun _ h9 ⟨_, hp⟩ f9 => ?_
  obtain ⟨e, S9, m9, s9⟩ := hp 1 rfl
  subst e
  have n9 := n8.frame s9 (by simp; exact hq8)
  simp only [lenSl_slice, lenStr_string, str_size, fpureA_some, fnilA_ptr, faddA_ptr, addr_add, Nat.zero_add, Nat.add_zero, fpureQ_k, fpureQ_nilA, fpureQ_addA, fpureQ_pureA, fpureQ_guardA, fpureQ_idxSlA, fpureQ_pickA, freadQ_loadA, freadQ_loadNA, freadQ_b2sA, freadQ_guardA, freadQ_slSlA, freadQ_k, fendA, fallA_one, fstillA_nil, fguardA_tt, fguardA_ff, fguardA_tf, fguardA_ft, fguardA_undef, fpickA_true, fpickA_false, fcondA_true, fcondA_false, binA_add, binA_sub, binA_mul, binA_eql, binA_neq, binA_lss, binA_leq, binA_gtr, binA_geq, unA_not, Bool.not_true, Bool.not_false, convA_int, extA_tuple, List.getElem?_toArray, List.getElem?_cons_zero, List.getElem?_cons_succ]
  refine callA_of (MPut_spec n9 List.Pairwise.nil (by simp) [98] 1) fun _ h10 ⟨e, T10, n10, s10⟩ f10 => ?_
  have y10 : putK ([] : List Itm) [98] 1 = [([98], 1)] := rfl
  rw [y10] at n10
  refine callA_of (MPut_spec n10 (by unfold Srt; simp) (by simp) [97] 2) fun _ h11 ⟨e, T11, n11, s11⟩ f11 => ?_
  have y11 : putK ([([98], 1)] : List Itm) [97] 2 = [([97], 2), ([98], 1)] := by decide
  rw [y11] at n11
  refine callA_of (MAt_spec n11 0) fun _ h12 ⟨e, s12⟩ f12 => ?_
  subst e
  have n12 := n11.frame s12 (by simp)
  simp only [List.length_cons, List.length_nil, Int.le_refl, if_true, Int.toNat_zero, List.getElem?_cons_zero, lenSl_slice, lenStr_string, str_size, fpureA_some, fnilA_ptr, faddA_ptr, addr_add, Nat.zero_add, Nat.add_zero, fpureQ_k, fpureQ_nilA, fpureQ_addA, fpureQ_pureA, fpureQ_guardA, fpureQ_idxSlA, fpureQ_pickA, freadQ_loadA, freadQ_loadNA, freadQ_b2sA, freadQ_guardA, freadQ_slSlA, freadQ_k, fendA, fallA_one, fstillA_nil, fguardA_tt, fguardA_ff, fguardA_tf, fguardA_ft, fguardA_undef, fpickA_true, fpickA_false, fcondA_true, fcondA_false, binA_add, binA_sub, binA_mul, binA_eql, binA_neq, binA_lss, binA_leq, binA_gtr, binA_geq, unA_not, Bool.not_true, Bool.not_false, convA_int, extA_tuple, List.getElem?_toArray, List.getElem?_cons_zero, List.getElem?_cons_succ]
  refine boxN f12.base rfl rfl (by simp [isCell]) ?_
  have s13 : Step h12 (h12.new (iv ([97], 2)) 2) [] [h12.next] := (Step.refl h12 [] (by simp)).new _ _
  have x13 : (h12.new (iv ([97], 2)) 2).blk h12.next = some (iv ([97], 2)) := by simp
  have n13 := n12.frame s13 (by simp)
  have f12b := f12.base
  generalize h12.new (iv ([97], 2)) 2 = h13 at *
  have c1 : ((1 : Int) == 1) = true := rfl
  simp only [c1, lenSl_slice, lenStr_string, str_size, fpureA_some, fnilA_ptr, faddA_ptr, addr_add, Nat.zero_add, Nat.add_zero, fpureQ_k, fpureQ_nilA, fpureQ_addA, fpureQ_pureA, fpureQ_guardA, fpureQ_idxSlA, fpureQ_pickA, freadQ_loadA, freadQ_loadNA, freadQ_b2sA, freadQ_guardA, freadQ_slSlA, freadQ_k, fendA, fallA_one, fstillA_nil, fguardA_tt, fguardA_ff, fguardA_tf, fguardA_ft, fguardA_undef, fpickA_true, fpickA_false, fcondA_true, fcondA_false, binA_add, binA_sub, binA_mul, binA_eql, binA_neq, binA_lss, binA_leq, binA_gtr, binA_geq, unA_not, Bool.not_true, Bool.not_false, convA_int, extA_tuple, List.getElem?_toArray, List.getElem?_cons_zero, List.getElem?_cons_succ]
  refine loadA_at f12b x13 rfl ?_
  have c2 : binA .eql (.string (str [97])) (.string ⟨#[97]⟩) = some (.bool true) := by
    show binA .eql (.string (str [97])) (.string (str [97])) = _
    rw [s_eql]
    simp
  simp only [c2, lenSl_slice, lenStr_string, str_size, fpureA_some, fnilA_ptr, faddA_ptr, addr_add, Nat.zero_add, Nat.add_zero, fpureQ_k, fpureQ_nilA, fpureQ_addA, fpureQ_pureA, fpureQ_guardA, fpureQ_idxSlA, fpureQ_pickA, freadQ_loadA, freadQ_loadNA, freadQ_b2sA, freadQ_guardA, freadQ_slSlA, freadQ_k, fendA, fallA_one, fstillA_nil, fguardA_tt, fguardA_ff, fguardA_tf, fguardA_ft, fguardA_undef, fpickA_true, fpickA_false, fcondA_true, fcondA_false, binA_add, binA_sub, binA_mul, binA_eql, binA_neq, binA_lss, binA_leq, binA_gtr, binA_geq, unA_not, Bool.not_true, Bool.not_false, convA_int, extA_tuple, List.getElem?_toArray, List.getElem?_cons_zero, List.getElem?_cons_succ]
  refine loadA_at f12b x13 rfl ?_
  have c3 : ((2 : Int) == 2) = true := rfl
  simp only [c3, lenSl_slice, lenStr_string, str_size, fpureA_some, fnilA_ptr, faddA_ptr, addr_add, Nat.zero_add, Nat.add_zero, fpureQ_k, fpureQ_nilA, fpureQ_addA, fpureQ_pureA, fpureQ_guardA, fpureQ_idxSlA, fpureQ_pickA, freadQ_loadA, freadQ_loadNA, freadQ_b2sA, freadQ_guardA, freadQ_slSlA, freadQ_k, fendA, fallA_one, fstillA_nil, fguardA_tt, fguardA_ff, fguardA_tf, fguardA_ft, fguardA_undef, fpickA_true, fpickA_false, fcondA_true, fcondA_false, binA_add, binA_sub, binA_mul, binA_eql, binA_neq, binA_lss, binA_leq, binA_gtr, binA_geq, unA_not, Bool.not_true, Bool.not_false, convA_int, extA_tuple, List.getElem?_toArray, List.getElem?_cons_zero, List.getElem?_cons_succ]
  refine callA_of (MLen_spec n13) fun _ h14 ⟨e, e'⟩ f14 => ?_
  subst e e'
  simp only [List.length_cons, List.length_nil, lenSl_slice, lenStr_string, str_size, fpureA_some, fnilA_ptr, faddA_ptr, addr_add, Nat.zero_add, Nat.add_zero, fpureQ_k, fpureQ_nilA, fpureQ_addA, fpureQ_pureA, fpureQ_guardA, fpureQ_idxSlA, fpureQ_pickA, freadQ_loadA, freadQ_loadNA, freadQ_b2sA, freadQ_guardA, freadQ_slSlA, freadQ_k, fendA, fallA_one, fstillA_nil, fguardA_tt, fguardA_ff, fguardA_tf, fguardA_ft, fguardA_undef, fpickA_true, fpickA_false, fcondA_true, fcondA_false, binA_add, binA_sub, binA_mul, binA_eql, binA_neq, binA_lss, binA_leq, binA_gtr, binA_geq, unA_not, Bool.not_true, Bool.not_false, convA_int, extA_tuple, List.getElem?_toArray, List.getElem?_cons_zero, List.getElem?_cons_succ, retA_iff, oneOf_one]
  refine ⟨by simp, rfl, ?_⟩
  have z1 : Step h h6 [] [] := ((s1.less (T := []) (by simp)).trans (s2.less (T := []) (by simp))).trans s26
  have z2 : Step h6 h9 [p] S9 := (s7.trans s8).trans s9
  have z3 : Step h9 h11 [q] T11 := s10.trans s11
  have z1' : Step h h6 [] [p] := z1.claim (by simp; omega)
  have z3' : Step h h9 [] [q] := ((z1'.trans z2).less (T := []) (by simp)).claim (by have := z2.1; have := s1.1; simp; omega)
  exact ((z3'.trans z3).less (T := []) (by simp)).trans (s12.trans (s13.less (by simp)))
end
section
variable {w0 : World} {h : Hp}
theorem items_loop {k0 : Value → Hp → Prop} {v : Value} {l : List Itm} {hh : Hp} (hv : Is w0 hh v l) (fh : Fit w0 hh) (hl : l.length ≤ 1000000000)
    (hk : ∀ x' h' S', Vec w0 h' 2 x' l.length (ivs l) S' → Step hh h' [] S' → k0 x' h') : ∀ (post pre : List Itm) (h1 : Hp) (x3 : Value) (S1 : List Nat), pre ++ post = l → Vec w0 h1 2 x3 pre.length (ivs pre) S1 → Step hh h1 [] S1 →
      deduplaw10_items_L1 prog w0 k0 (post.length + 1) x3 v (.int .i64 (l.length : Int)) (.int .i64 (pre.length : Int)) h1 := by
  intro post
  induction post with
  | nil =>
    intro pre h1 x3 S1 he g st
    have hpre : pre = l := by simpa using he
    subst hpre
    rw [List.length_nil, deduplaw10_items_L1]
    simp only [deduplaw10_items_B1, lenSl_slice, lenStr_string, str_size, fpureA_some, fnilA_ptr, faddA_ptr, addr_add, Nat.zero_add, Nat.add_zero, fpureQ_k, fpureQ_nilA, fpureQ_addA, fpureQ_pureA, fpureQ_guardA, fpureQ_idxSlA, fpureQ_pickA, freadQ_loadA, freadQ_loadNA, freadQ_b2sA, freadQ_guardA, freadQ_slSlA, freadQ_k, fendA, fallA_one, fstillA_nil, fguardA_tt, fguardA_ff, fguardA_tf, fguardA_ft, fguardA_undef, fpickA_true, fpickA_false, fcondA_true, fcondA_false, binA_add, binA_sub, binA_mul, binA_eql, binA_neq, binA_lss, binA_leq, binA_gtr, binA_geq, unA_not, Bool.not_true, Bool.not_false, convA_int, extA_tuple, List.getElem?_toArray, List.getElem?_cons_zero, List.getElem?_cons_succ, Int.lt_irrefl, decide_false]
    exact hk x3 h1 S1 g st
  | cons x post ih =>
    intro pre h1 x3 S1 he g st
    have hlen : pre.length + (post.length + 1) = l.length := by rw [← he]; simp
    have hg : l[pre.length]? = some x := by rw [← he]; simp
    have c1 : decide ((pre.length : Int) < (l.length : Int)) = true := decide_eq_true (by omega)
    have e6 : IntKind.i64.wrap ((pre.length : Int) + 1) = (((pre ++ [x]).length : Nat) : Int) := by rw [IntWalk.i64_in _ (by omega)]; simp
    have vs : Is w0 h1 v l := hv.step fh st (by simp)
    have fb := st.base fh.base
    rw [List.length_cons, deduplaw10_items_L1]
    simp only [deduplaw10_items_B1, lenSl_slice, lenStr_string, str_size, fpureA_some, fnilA_ptr, faddA_ptr, addr_add, Nat.zero_add, Nat.add_zero, fpureQ_k, fpureQ_nilA, fpureQ_addA, fpureQ_pureA, fpureQ_guardA, fpureQ_idxSlA, fpureQ_pickA, freadQ_loadA, freadQ_loadNA, freadQ_b2sA, freadQ_guardA, freadQ_slSlA, freadQ_k, fendA, fallA_one, fstillA_nil, fguardA_tt, fguardA_ff, fguardA_tf, fguardA_ft, fguardA_undef, fpickA_true, fpickA_false, fcondA_true, fcondA_false, binA_add, binA_sub, binA_mul, binA_eql, binA_neq, binA_lss, binA_leq, binA_gtr, binA_geq, unA_not, Bool.not_true, Bool.not_false, convA_int, extA_tuple, List.getElem?_toArray, List.getElem?_cons_zero, List.getElem?_cons_succ, c1]
    refine vs.elem (by omega) (ivs_get hg) ?_
    refine boxN fb rfl rfl (by simp [isCell]) ?_
    have sx : Step h1 (h1.new (iv x) 2) [] [h1.next] := (Step.refl h1 [] (by simp)).new _ _
    have hx : (h1.new (iv x) 2).blk h1.next = some (iv x) := by simp
    have stx : Step hh (h1.new (iv x) 2) [] S1 := st.trans ((sx.less (T := []) (by simp)).keepS fun b hb => (g.lt b hb).2)
    have gx := g.frame sx (by simp)
    have fbx : w0.heap.size ≤ (h1.new (iv x) 2).next := by simp; omega
    generalize hnx : h1.new (iv x) 2 = hx1 at *
    simp only [lenSl_slice, lenStr_string, str_size, fpureA_some, fnilA_ptr, faddA_ptr, addr_add, Nat.zero_add, Nat.add_zero, fpureQ_k, fpureQ_nilA, fpureQ_addA, fpureQ_pureA, fpureQ_guardA, fpureQ_idxSlA, fpureQ_pickA, freadQ_loadA, freadQ_loadNA, freadQ_b2sA, freadQ_guardA, freadQ_slSlA, freadQ_k, fendA, fallA_one, fstillA_nil, fguardA_tt, fguardA_ff, fguardA_tf, fguardA_ft, fguardA_undef, fpickA_true, fpickA_false, fcondA_true, fcondA_false, binA_add, binA_sub, binA_mul, binA_eql, binA_neq, binA_lss, binA_leq, binA_gtr, binA_geq, unA_not, Bool.not_true, Bool.not_false, convA_int, extA_tuple, List.getElem?_toArray, List.getElem?_cons_zero, List.getElem?_cons_succ]
    refine loadA_at fb hx rfl ?_
    refine loadA_at fb hx rfl ?_
    simp only [buildA_iff, fillA_one, fillA_nil, List.set_cons_zero, List.set_cons_succ]
    refine ⟨rfl, by simp, rfl, by simp, ?_⟩
    refine appN_vec (e := iv x) (by omega) gx.gv rfl rfl (by omega) (by omega) (by omega) fun x' h3 S3 v3 s3 => ?_
    simp only [e6]
    refine ih (pre ++ [x]) h3 x' S3 (by simpa using he) ?_ (stx.trans s3)
    rw [List.length_append]
    simpa [ivs] using v3
theorem items_spec {v : Value} {l : List Itm} (hv : Is w0 h v l) (hl : l.length ≤ 1000000000) : ACalls prog w0 n_deduplaw10_items [v] h fun r h' => ∃ S', Vec w0 h' 2 r l.length (ivs l) S' ∧ Step h h' [] S' := by
  refine ACalls.of_fit (by simpa using hv.junk) fun f => c_deduplaw10_items (by simpa using hv.junk) ?_
  simp only [s_deduplaw10_items, hv.lenv, lenSl_slice, lenStr_string, str_size, fpureA_some, fnilA_ptr, faddA_ptr, addr_add, Nat.zero_add, Nat.add_zero, fpureQ_k, fpureQ_nilA, fpureQ_addA, fpureQ_pureA, fpureQ_guardA, fpureQ_idxSlA, fpureQ_pickA, freadQ_loadA, freadQ_loadNA, freadQ_b2sA, freadQ_guardA, freadQ_slSlA, freadQ_k, fendA, fallA_one, fstillA_nil, fguardA_tt, fguardA_ff, fguardA_tf, fguardA_ft, fguardA_undef, fpickA_true, fpickA_false, fcondA_true, fcondA_false, binA_add, binA_sub, binA_mul, binA_eql, binA_neq, binA_lss, binA_leq, binA_gtr, binA_geq, unA_not, Bool.not_true, Bool.not_false, convA_int, extA_tuple, List.getElem?_toArray, List.getElem?_cons_zero, List.getElem?_cons_succ]
  refine ⟨l.length + 1, ?_⟩
  refine items_loop hv f hl (fun x' h' S' g st => ?_) l [] h _ [] rfl .nil (.refl _ _ (by simp))
  simp only [retA_iff, oneOf_one]
  exact ⟨by simpa using g.gv.junk, S', g, st⟩
theorem same_loop {k0 : Value → Hp → Prop} {kr : Value → Hp → Prop} {v u x4 : Value} {a b : List Itm} (hv : Is w0 h v a) (hu : Is w0 h u b) (hl : a.length ≤ 1000000000) (hab : a.length = b.length)
    (h1 : a = b → k0 x4 h) (h2 : a ≠ b → kr (.bool false) h) : ∀ (post pre : List Itm) (pb : List Itm), pre ++ post = a → pre ++ pb = b →
      deduplaw10_same_L1 prog w0 k0 kr (post.length + 1) v u x4 (.int .i64 (a.length : Int)) (.int .i64 (pre.length : Int)) h := by
  intro post
  induction post with
  | nil =>
    intro pre pb he hb
    have hpre : pre = a := by simpa using he
    subst hpre
    rw [List.length_nil, deduplaw10_same_L1]
    simp only [deduplaw10_same_B1, lenSl_slice, lenStr_string, str_size, fpureA_some, fnilA_ptr, faddA_ptr, addr_add, Nat.zero_add, Nat.add_zero, fpureQ_k, fpureQ_nilA, fpureQ_addA, fpureQ_pureA, fpureQ_guardA, fpureQ_idxSlA, fpureQ_pickA, freadQ_loadA, freadQ_loadNA, freadQ_b2sA, freadQ_guardA, freadQ_slSlA, freadQ_k, fendA, fallA_one, fstillA_nil, fguardA_tt, fguardA_ff, fguardA_tf, fguardA_ft, fguardA_undef, fpickA_true, fpickA_false, fcondA_true, fcondA_false, binA_add, binA_sub, binA_mul, binA_eql, binA_neq, binA_lss, binA_leq, binA_gtr, binA_geq, unA_not, Bool.not_true, Bool.not_false, convA_int, extA_tuple, List.getElem?_toArray, List.getElem?_cons_zero, List.getElem?_cons_succ, Int.lt_irrefl, decide_false]
    refine h1 ?_
    have : pb = [] := by
      have := congrArg List.length hb
      simp at this
      exact List.eq_nil_of_length_eq_zero (by omega)
    rw [← hb, this, List.append_nil]
  | cons x post ih =>
    intro pre pb he hb
    have hlen : pre.length + (post.length + 1) = a.length := by rw [← he]; simp
    have hg : a[pre.length]? = some x := by rw [← he]; simp
    obtain ⟨y, pb', rfl⟩ : ∃ y pb', pb = y :: pb' := by
      cases pb with
      | nil => have := congrArg List.length hb; simp at this; omega
      | cons y pb' => exact ⟨y, pb', rfl⟩
    have hgb : b[pre.length]? = some y := by rw [← hb]; simp
    have c1 : decide ((pre.length : Int) < (a.length : Int)) = true := decide_eq_true (by omega)
    have e6 : IntKind.i64.wrap ((pre.length : Int) + 1) = (((pre ++ [x]).length : Nat) : Int) := by rw [IntWalk.i64_in _ (by omega)]; simp
    rw [List.length_cons, deduplaw10_same_L1]
    simp only [deduplaw10_same_B1, lenSl_slice, lenStr_string, str_size, fpureA_some, fnilA_ptr, faddA_ptr, addr_add, Nat.zero_add, Nat.add_zero, fpureQ_k, fpureQ_nilA, fpureQ_addA, fpureQ_pureA, fpureQ_guardA, fpureQ_idxSlA, fpureQ_pickA, freadQ_loadA, freadQ_loadNA, freadQ_b2sA, freadQ_guardA, freadQ_slSlA, freadQ_k, fendA, fallA_one, fstillA_nil, fguardA_tt, fguardA_ff, fguardA_tf, fguardA_ft, fguardA_undef, fpickA_true, fpickA_false, fcondA_true, fcondA_false, binA_add, binA_sub, binA_mul, binA_eql, binA_neq, binA_lss, binA_leq, binA_gtr, binA_geq, unA_not, Bool.not_true, Bool.not_false, convA_int, extA_tuple, List.getElem?_toArray, List.getElem?_cons_zero, List.getElem?_cons_succ, c1]
    refine hv.fld (o := 0) (by omega) (by omega) (ivs_key hg) ?_
    refine hu.fld (o := 0) (by omega) (by omega) (ivs_key hgb) ?_
    simp only [s_neq, lenSl_slice, lenStr_string, str_size, fpureA_some, fnilA_ptr, faddA_ptr, addr_add, Nat.zero_add, Nat.add_zero, fpureQ_k, fpureQ_nilA, fpureQ_addA, fpureQ_pureA, fpureQ_guardA, fpureQ_idxSlA, fpureQ_pickA, freadQ_loadA, freadQ_loadNA, freadQ_b2sA, freadQ_guardA, freadQ_slSlA, freadQ_k, fendA, fallA_one, fstillA_nil, fguardA_tt, fguardA_ff, fguardA_tf, fguardA_ft, fguardA_undef, fpickA_true, fpickA_false, fcondA_true, fcondA_false, binA_add, binA_sub, binA_mul, binA_eql, binA_neq, binA_lss, binA_leq, binA_gtr, binA_geq, unA_not, Bool.not_true, Bool.not_false, convA_int, extA_tuple, List.getElem?_toArray, List.getElem?_cons_zero, List.getElem?_cons_succ]
    have hne : x ≠ y → a ≠ b := fun e q => by
      rw [q, hgb] at hg
      simp at hg
      exact e hg.symm
    by_cases hk : x.1 = y.1
    · simp only [decide_eq_false (not_not_intro hk), lenSl_slice, lenStr_string, str_size, fpureA_some, fnilA_ptr, faddA_ptr, addr_add, Nat.zero_add, Nat.add_zero, fpureQ_k, fpureQ_nilA, fpureQ_addA, fpureQ_pureA, fpureQ_guardA, fpureQ_idxSlA, fpureQ_pickA, freadQ_loadA, freadQ_loadNA, freadQ_b2sA, freadQ_guardA, freadQ_slSlA, freadQ_k, fendA, fallA_one, fstillA_nil, fguardA_tt, fguardA_ff, fguardA_tf, fguardA_ft, fguardA_undef, fpickA_true, fpickA_false, fcondA_true, fcondA_false, binA_add, binA_sub, binA_mul, binA_eql, binA_neq, binA_lss, binA_leq, binA_gtr, binA_geq, unA_not, Bool.not_true, Bool.not_false, convA_int, extA_tuple, List.getElem?_toArray, List.getElem?_cons_zero, List.getElem?_cons_succ]
      refine hv.fld (o := 1) (by omega) (by omega) (ivs_val hg) ?_
      refine hu.fld (o := 1) (by omega) (by omega) (ivs_val hgb) ?_
      simp only [lenSl_slice, lenStr_string, str_size, fpureA_some, fnilA_ptr, faddA_ptr, addr_add, Nat.zero_add, Nat.add_zero, fpureQ_k, fpureQ_nilA, fpureQ_addA, fpureQ_pureA, fpureQ_guardA, fpureQ_idxSlA, fpureQ_pickA, freadQ_loadA, freadQ_loadNA, freadQ_b2sA, freadQ_guardA, freadQ_slSlA, freadQ_k, fendA, fallA_one, fstillA_nil, fguardA_tt, fguardA_ff, fguardA_tf, fguardA_ft, fguardA_undef, fpickA_true, fpickA_false, fcondA_true, fcondA_false, binA_add, binA_sub, binA_mul, binA_eql, binA_neq, binA_lss, binA_leq, binA_gtr, binA_geq, unA_not, Bool.not_true, Bool.not_false, convA_int, extA_tuple, List.getElem?_toArray, List.getElem?_cons_zero, List.getElem?_cons_succ]
      by_cases hv2 : x.2 = y.2
      · have c2 : (x.2 != y.2) = false := by simp [hv2]
        simp only [c2, lenSl_slice, lenStr_string, str_size, fpureA_some, fnilA_ptr, faddA_ptr, addr_add, Nat.zero_add, Nat.add_zero, fpureQ_k, fpureQ_nilA, fpureQ_addA, fpureQ_pureA, fpureQ_guardA, fpureQ_idxSlA, fpureQ_pickA, freadQ_loadA, freadQ_loadNA, freadQ_b2sA, freadQ_guardA, freadQ_slSlA, freadQ_k, fendA, fallA_one, fstillA_nil, fguardA_tt, fguardA_ff, fguardA_tf, fguardA_ft, fguardA_undef, fpickA_true, fpickA_false, fcondA_true, fcondA_false, binA_add, binA_sub, binA_mul, binA_eql, binA_neq, binA_lss, binA_leq, binA_gtr, binA_geq, unA_not, Bool.not_true, Bool.not_false, convA_int, extA_tuple, List.getElem?_toArray, List.getElem?_cons_zero, List.getElem?_cons_succ, e6]
        have hxy : x = y := Prod.ext hk hv2
        exact ih (pre ++ [x]) pb' (by simpa using he) (by rw [← hb, hxy]; simp)
      · have c2 : (x.2 != y.2) = true := by simp [hv2]
        simp only [c2, lenSl_slice, lenStr_string, str_size, fpureA_some, fnilA_ptr, faddA_ptr, addr_add, Nat.zero_add, Nat.add_zero, fpureQ_k, fpureQ_nilA, fpureQ_addA, fpureQ_pureA, fpureQ_guardA, fpureQ_idxSlA, fpureQ_pickA, freadQ_loadA, freadQ_loadNA, freadQ_b2sA, freadQ_guardA, freadQ_slSlA, freadQ_k, fendA, fallA_one, fstillA_nil, fguardA_tt, fguardA_ff, fguardA_tf, fguardA_ft, fguardA_undef, fpickA_true, fpickA_false, fcondA_true, fcondA_false, binA_add, binA_sub, binA_mul, binA_eql, binA_neq, binA_lss, binA_leq, binA_gtr, binA_geq, unA_not, Bool.not_true, Bool.not_false, convA_int, extA_tuple, List.getElem?_toArray, List.getElem?_cons_zero, List.getElem?_cons_succ]
        exact h2 (hne fun e => hv2 (by rw [e]))
    · simp only [decide_eq_true (show x.1 ≠ y.1 from hk), lenSl_slice, lenStr_string, str_size, fpureA_some, fnilA_ptr, faddA_ptr, addr_add, Nat.zero_add, Nat.add_zero, fpureQ_k, fpureQ_nilA, fpureQ_addA, fpureQ_pureA, fpureQ_guardA, fpureQ_idxSlA, fpureQ_pickA, freadQ_loadA, freadQ_loadNA, freadQ_b2sA, freadQ_guardA, freadQ_slSlA, freadQ_k, fendA, fallA_one, fstillA_nil, fguardA_tt, fguardA_ff, fguardA_tf, fguardA_ft, fguardA_undef, fpickA_true, fpickA_false, fcondA_true, fcondA_false, binA_add, binA_sub, binA_mul, binA_eql, binA_neq, binA_lss, binA_leq, binA_gtr, binA_geq, unA_not, Bool.not_true, Bool.not_false, convA_int, extA_tuple, List.getElem?_toArray, List.getElem?_cons_zero, List.getElem?_cons_succ]
      exact h2 (hne fun e => hk (by rw [e]))
theorem same_spec {v u : Value} {a b : List Itm} (hv : Is w0 h v a) (hu : Is w0 h u b) (hl : a.length ≤ 1000000000) : ACalls prog w0 n_deduplaw10_same [v, u] h fun r h' => r = .bool (decide (a = b)) ∧ h' = h := by
  refine ACalls.of_fit (by simpa using ⟨hv.junk, hu.junk⟩) fun f => c_deduplaw10_same (by simpa using ⟨hv.junk, hu.junk⟩) ?_
  simp only [s_deduplaw10_same, hv.lenv, hu.lenv, lenSl_slice, lenStr_string, str_size, fpureA_some, fnilA_ptr, faddA_ptr, addr_add, Nat.zero_add, Nat.add_zero, fpureQ_k, fpureQ_nilA, fpureQ_addA, fpureQ_pureA, fpureQ_guardA, fpureQ_idxSlA, fpureQ_pickA, freadQ_loadA, freadQ_loadNA, freadQ_b2sA, freadQ_guardA, freadQ_slSlA, freadQ_k, fendA, fallA_one, fstillA_nil, fguardA_tt, fguardA_ff, fguardA_tf, fguardA_ft, fguardA_undef, fpickA_true, fpickA_false, fcondA_true, fcondA_false, binA_add, binA_sub, binA_mul, binA_eql, binA_neq, binA_lss, binA_leq, binA_gtr, binA_geq, unA_not, Bool.not_true, Bool.not_false, convA_int, extA_tuple, List.getElem?_toArray, List.getElem?_cons_zero, List.getElem?_cons_succ]
  by_cases hab : a.length = b.length
  · have c1 : ((a.length : Int) != (b.length : Int)) = false := by simp [hab]
    simp only [c1, lenSl_slice, lenStr_string, str_size, fpureA_some, fnilA_ptr, faddA_ptr, addr_add, Nat.zero_add, Nat.add_zero, fpureQ_k, fpureQ_nilA, fpureQ_addA, fpureQ_pureA, fpureQ_guardA, fpureQ_idxSlA, fpureQ_pickA, freadQ_loadA, freadQ_loadNA, freadQ_b2sA, freadQ_guardA, freadQ_slSlA, freadQ_k, fendA, fallA_one, fstillA_nil, fguardA_tt, fguardA_ff, fguardA_tf, fguardA_ft, fguardA_undef, fpickA_true, fpickA_false, fcondA_true, fcondA_false, binA_add, binA_sub, binA_mul, binA_eql, binA_neq, binA_lss, binA_leq, binA_gtr, binA_geq, unA_not, Bool.not_true, Bool.not_false, convA_int, extA_tuple, List.getElem?_toArray, List.getElem?_cons_zero, List.getElem?_cons_succ]
    refine ⟨a.length + 1, same_loop hv hu hl hab (fun e => ?_) (fun e => ?_) a [] b rfl rfl⟩
    · simp only [retA_iff, oneOf_one]
      exact ⟨by simp, by rw [decide_eq_true e], trivial⟩
    · simp only [retA_iff, oneOf_one]
      exact ⟨by simp, by rw [decide_eq_false e], trivial⟩
  · have c1 : ((a.length : Int) != (b.length : Int)) = true := by simp; omega
    simp only [c1, lenSl_slice, lenStr_string, str_size, fpureA_some, fnilA_ptr, faddA_ptr, addr_add, Nat.zero_add, Nat.add_zero, fpureQ_k, fpureQ_nilA, fpureQ_addA, fpureQ_pureA, fpureQ_guardA, fpureQ_idxSlA, fpureQ_pickA, freadQ_loadA, freadQ_loadNA, freadQ_b2sA, freadQ_guardA, freadQ_slSlA, freadQ_k, fendA, fallA_one, fstillA_nil, fguardA_tt, fguardA_ff, fguardA_tf, fguardA_ft, fguardA_undef, fpickA_true, fpickA_false, fcondA_true, fcondA_false, binA_add, binA_sub, binA_mul, binA_eql, binA_neq, binA_lss, binA_leq, binA_gtr, binA_geq, unA_not, Bool.not_true, Bool.not_false, convA_int, extA_tuple, List.getElem?_toArray, List.getElem?_cons_zero, List.getElem?_cons_succ, retA_iff, oneOf_one]
    exact ⟨by simp, by rw [decide_eq_false (fun e => hab (by rw [e]))], trivial⟩
/-! ### SeqWithout -/
theorem ExtSl.is {v : Value} {l : List Itm} (x : ExtSl w0 2 v l.length (ivs l)) (h : Hp) (f : Fit w0 h) : Is w0 h v l := x.sl' f (ivs_length l)
theorem ExtSl.ks {v : Value} {l : List Key} (x : ExtSl w0 1 v l.length (svsK l)) (h : Hp) (f : Fit w0 h) : Ks w0 h v l := x.sl' f (by rw [svsK_len, Nat.mul_one])
theorem ExtSl.nj {s n : Nat} {v : Value} {ys : List Value} (x : ExtSl w0 s v n ys) : v ≠ junk := by obtain ⟨a, c, e, -⟩ := x.sl; simp [e]
theorem SeqWithout_top {v kx : Value} {l : List Itm} {ks : List Key} {k : Key} (hv : ExtSl w0 2 v l.length (ivs l)) (hk : ExtSl w0 1 kx ks.length (svsK ks)) (hl : l.length ≤ 10000000) (hkl : ks.length ≤ 1000000000) :
    ACalls prog w0 n_deduplaw10_SeqWithout [v, kx, .string (str k)] h fun r h' => r = .bool true := by
  refine ACalls.of_fit (by simpa using ⟨hv.nj, hk.nj⟩) fun f => c_deduplaw10_SeqWithout (by simpa using ⟨hv.nj, hk.nj⟩) ?_
  have hsl := srt_len l
  have hwl : (wth l ks).length ≤ l.length := Nat.le_trans (List.length_filter_le _ _) hsl
  simp only [s_deduplaw10_SeqWithout]
  refine callA_of awake_spec fun r h1 ⟨e, s1⟩ f1 => ?_
  subst e
  simp only [lenSl_slice, lenStr_string, str_size, fpureA_some, fnilA_ptr, faddA_ptr, addr_add, Nat.zero_add, Nat.add_zero, fpureQ_k, fpureQ_nilA, fpureQ_addA, fpureQ_pureA, fpureQ_guardA, fpureQ_idxSlA, fpureQ_pickA, freadQ_loadA, freadQ_loadNA, freadQ_b2sA, freadQ_guardA, freadQ_slSlA, freadQ_k, fendA, fallA_one, fstillA_nil, fguardA_tt, fguardA_ff, fguardA_tf, fguardA_ft, fguardA_undef, fpickA_true, fpickA_false, fcondA_true, fcondA_false, binA_add, binA_sub, binA_mul, binA_eql, binA_neq, binA_lss, binA_leq, binA_gtr, binA_geq, unA_not, Bool.not_true, Bool.not_false, convA_int, extA_tuple, List.getElem?_toArray, List.getElem?_cons_zero, List.getElem?_cons_succ]
  refine callA_of (items_spec (hv.is h1 f1) (by omega)) fun x h2 ⟨S2, g2, s2⟩ f2 => ?_
  refine callA_of (Without_spec g2.sl (hk.ks h2 f2) (by omega) hkl) fun y h3 ⟨S3, g3, s3⟩ f3 => ?_
  refine callA_of (rWithout_spec (hv.is h3 f3) (hk.ks h3 f3) (by omega) hkl) fun z h4 ⟨S4, g4, s4⟩ f4 => ?_
  have g24 : Vec w0 h4 2 x l.length (ivs l) S2 := (g2.frame s3 (by simp)).frame s4 (by simp)
  refine callA_of (same_spec (g3.frame s4 (by simp)).sl g4.sl (by omega)) fun r h5 ⟨e, e'⟩ f5 => ?_
  subst e
  have e2 := e'.symm
  subst e2
  simp only [decide_true, Bool.not_true, lenSl_slice, lenStr_string, str_size, fpureA_some, fnilA_ptr, faddA_ptr, addr_add, Nat.zero_add, Nat.add_zero, fpureQ_k, fpureQ_nilA, fpureQ_addA, fpureQ_pureA, fpureQ_guardA, fpureQ_idxSlA, fpureQ_pickA, freadQ_loadA, freadQ_loadNA, freadQ_b2sA, freadQ_guardA, freadQ_slSlA, freadQ_k, fendA, fallA_one, fstillA_nil, fguardA_tt, fguardA_ff, fguardA_tf, fguardA_ft, fguardA_undef, fpickA_true, fpickA_false, fcondA_true, fcondA_false, binA_add, binA_sub, binA_mul, binA_eql, binA_neq, binA_lss, binA_leq, binA_gtr, binA_geq, unA_not, Bool.not_true, Bool.not_false, convA_int, extA_tuple, List.getElem?_toArray, List.getElem?_cons_zero, List.getElem?_cons_succ]
  refine callA_of (same_spec g24.sl (hv.is _ f5) (by omega)) fun r h6 ⟨e, e'⟩ f6 => ?_
  subst e
  have e2 := e'.symm
  subst e2
  simp only [decide_true, Bool.not_true, lenSl_slice, lenStr_string, str_size, fpureA_some, fnilA_ptr, faddA_ptr, addr_add, Nat.zero_add, Nat.add_zero, fpureQ_k, fpureQ_nilA, fpureQ_addA, fpureQ_pureA, fpureQ_guardA, fpureQ_idxSlA, fpureQ_pickA, freadQ_loadA, freadQ_loadNA, freadQ_b2sA, freadQ_guardA, freadQ_slSlA, freadQ_k, fendA, fallA_one, fstillA_nil, fguardA_tt, fguardA_ff, fguardA_tf, fguardA_ft, fguardA_undef, fpickA_true, fpickA_false, fcondA_true, fcondA_false, binA_add, binA_sub, binA_mul, binA_eql, binA_neq, binA_lss, binA_leq, binA_gtr, binA_geq, unA_not, Bool.not_true, Bool.not_false, convA_int, extA_tuple, List.getElem?_toArray, List.getElem?_cons_zero, List.getElem?_cons_succ]
  refine callA_of (rSortOut_spec (hv.is _ f6) (by omega)) fun z h7 ⟨S7, g7, s7⟩ f7 => ?_
  refine callA_of (items_spec g7.sl (by omega)) fun z2 h8 ⟨S8, g8, s8⟩ f8 => ?_
  refine callA_of (Search_spec g8.sl (by omega)) fun r h9 ⟨e, s9⟩ f9 => ?_
  subst e
  rw [bsK_all (srt_sorted l)]
  simp only [lenSl_slice, lenStr_string, str_size, fpureA_some, fnilA_ptr, faddA_ptr, addr_add, Nat.zero_add, Nat.add_zero, fpureQ_k, fpureQ_nilA, fpureQ_addA, fpureQ_pureA, fpureQ_guardA, fpureQ_idxSlA, fpureQ_pickA, freadQ_loadA, freadQ_loadNA, freadQ_b2sA, freadQ_guardA, freadQ_slSlA, freadQ_k, fendA, fallA_one, fstillA_nil, fguardA_tt, fguardA_ff, fguardA_tf, fguardA_ft, fguardA_undef, fpickA_true, fpickA_false, fcondA_true, fcondA_false, binA_add, binA_sub, binA_mul, binA_eql, binA_neq, binA_lss, binA_leq, binA_gtr, binA_geq, unA_not, Bool.not_true, Bool.not_false, convA_int, extA_tuple, List.getElem?_toArray, List.getElem?_cons_zero, List.getElem?_cons_succ]
  refine callA_of (rFind_spec ((g7.frame s8 (by simp)).frame s9 (by simp)).sl (by omega)) fun r h10 ⟨e, s10⟩ f10 => ?_
  subst e
  have c1 : ((findK (srt l) k : Int) != (findK (srt l) k : Int)) = false := by simp
  simp only [c1, lenSl_slice, lenStr_string, str_size, fpureA_some, fnilA_ptr, faddA_ptr, addr_add, Nat.zero_add, Nat.add_zero, fpureQ_k, fpureQ_nilA, fpureQ_addA, fpureQ_pureA, fpureQ_guardA, fpureQ_idxSlA, fpureQ_pickA, freadQ_loadA, freadQ_loadNA, freadQ_b2sA, freadQ_guardA, freadQ_slSlA, freadQ_k, fendA, fallA_one, fstillA_nil, fguardA_tt, fguardA_ff, fguardA_tf, fguardA_ft, fguardA_undef, fpickA_true, fpickA_false, fcondA_true, fcondA_false, binA_add, binA_sub, binA_mul, binA_eql, binA_neq, binA_lss, binA_leq, binA_gtr, binA_geq, unA_not, Bool.not_true, Bool.not_false, convA_int, extA_tuple, List.getElem?_toArray, List.getElem?_cons_zero, List.getElem?_cons_succ, binBoolA_neq, hasK, bne_self_eq_false, beq_self_eq_true, Bool.not_true]
  have g10 : Vec w0 h10 2 x l.length (ivs l) S2 := ((((g24.frame s7 (by simp)).frame s8 (by simp)).frame s9 (by simp)).frame s10 (by simp))
  refine callA_of (Search_spec g10.sl (by omega)) fun r h11 ⟨e, s11⟩ f11 => ?_
  subst e
  have hrg := (bsK_range l k l.length 0 l.length (Nat.zero_le _) (Nat.le_refl _)).2
  generalize bsK l k l.length 0 l.length = i at *
  have v11 := hv.is h11 f11
  have c2 : decide (0 ≤ (i : Int)) = true := decide_eq_true (by omega)
  have c3 : decide ((i : Int) ≤ (l.length : Int)) = true := decide_eq_true (by omega)
  simp only [lenSl_slice, lenStr_string, str_size, fpureA_some, fnilA_ptr, faddA_ptr, addr_add, Nat.zero_add, Nat.add_zero, fpureQ_k, fpureQ_nilA, fpureQ_addA, fpureQ_pureA, fpureQ_guardA, fpureQ_idxSlA, fpureQ_pickA, freadQ_loadA, freadQ_loadNA, freadQ_b2sA, freadQ_guardA, freadQ_slSlA, freadQ_k, fendA, fallA_one, fstillA_nil, fguardA_tt, fguardA_ff, fguardA_tf, fguardA_ft, fguardA_undef, fpickA_true, fpickA_false, fcondA_true, fcondA_false, binA_add, binA_sub, binA_mul, binA_eql, binA_neq, binA_lss, binA_leq, binA_gtr, binA_geq, unA_not, Bool.not_true, Bool.not_false, convA_int, extA_tuple, List.getElem?_toArray, List.getElem?_cons_zero, List.getElem?_cons_succ, v11.lenv, c2, c3]
  by_cases hi : i < l.length
  · have c4 : decide ((i : Int) < (l.length : Int)) = true := decide_eq_true (by omega)
    have hg : l[i]? = some l[i] := List.getElem?_eq_getElem hi
    simp only [c4, lenSl_slice, lenStr_string, str_size, fpureA_some, fnilA_ptr, faddA_ptr, addr_add, Nat.zero_add, Nat.add_zero, fpureQ_k, fpureQ_nilA, fpureQ_addA, fpureQ_pureA, fpureQ_guardA, fpureQ_idxSlA, fpureQ_pickA, freadQ_loadA, freadQ_loadNA, freadQ_b2sA, freadQ_guardA, freadQ_slSlA, freadQ_k, fendA, fallA_one, fstillA_nil, fguardA_tt, fguardA_ff, fguardA_tf, fguardA_ft, fguardA_undef, fpickA_true, fpickA_false, fcondA_true, fcondA_false, binA_add, binA_sub, binA_mul, binA_eql, binA_neq, binA_lss, binA_leq, binA_gtr, binA_geq, unA_not, Bool.not_true, Bool.not_false, convA_int, extA_tuple, List.getElem?_toArray, List.getElem?_cons_zero, List.getElem?_cons_succ]
    refine v11.fld (o := 0) hi (by omega) (ivs_key hg) ?_
    simp only [s_eql, lenSl_slice, lenStr_string, str_size, fpureA_some, fnilA_ptr, faddA_ptr, addr_add, Nat.zero_add, Nat.add_zero, fpureQ_k, fpureQ_nilA, fpureQ_addA, fpureQ_pureA, fpureQ_guardA, fpureQ_idxSlA, fpureQ_pickA, freadQ_loadA, freadQ_loadNA, freadQ_b2sA, freadQ_guardA, freadQ_slSlA, freadQ_k, fendA, fallA_one, fstillA_nil, fguardA_tt, fguardA_ff, fguardA_tf, fguardA_ft, fguardA_undef, fpickA_true, fpickA_false, fcondA_true, fcondA_false, binA_add, binA_sub, binA_mul, binA_eql, binA_neq, binA_lss, binA_leq, binA_gtr, binA_geq, unA_not, Bool.not_true, Bool.not_false, convA_int, extA_tuple, List.getElem?_toArray, List.getElem?_cons_zero, List.getElem?_cons_succ, binBoolA_eql, isAt, hg, beq_self_eq_true, retA_iff, oneOf_one]
    simp
  · have c4 : decide ((i : Int) < (l.length : Int)) = false := decide_eq_false (by omega)
    simp only [c4, lenSl_slice, lenStr_string, str_size, fpureA_some, fnilA_ptr, faddA_ptr, addr_add, Nat.zero_add, Nat.add_zero, fpureQ_k, fpureQ_nilA, fpureQ_addA, fpureQ_pureA, fpureQ_guardA, fpureQ_idxSlA, fpureQ_pickA, freadQ_loadA, freadQ_loadNA, freadQ_b2sA, freadQ_guardA, freadQ_slSlA, freadQ_k, fendA, fallA_one, fstillA_nil, fguardA_tt, fguardA_ff, fguardA_tf, fguardA_ft, fguardA_undef, fpickA_true, fpickA_false, fcondA_true, fcondA_false, binA_add, binA_sub, binA_mul, binA_eql, binA_neq, binA_lss, binA_leq, binA_gtr, binA_geq, unA_not, Bool.not_true, Bool.not_false, convA_int, extA_tuple, List.getElem?_toArray, List.getElem?_cons_zero, List.getElem?_cons_succ, binBoolA_eql, isAt, List.getElem?_eq_none (show l.length ≤ i by omega), beq_self_eq_true, retA_iff, oneOf_one]
    simp
end
def dItm : Dec (Key × Int) := ⟨iv, fun _ => True, fun p => p.1.length + 2⟩
theorem flat_keys' (l : List Key) : l.flatMap dStr.e = svsK l := by
  induction l with
  | nil => rfl
  | cons b l ih => rw [List.flatMap_cons, ih]; rfl
end Go.Proofs.Ytpdpponbhejlpaa.Ah
