/- LayoutOneOrOther: the walk. -/
import Derived.Test.YtihebhdgjnibfaaYj
set_option linter.unusedVariables false
set_option linter.unusedSimpArgs false
namespace Go.Proofs.Ytihebhdgjnibfaa.Ah
open Go

/-! ### The plain law -/
/-- The other sector has no right superblock of a greater generation. -/
def older (x : Sup) (d : Option Sup) : Prop := ∀ z, d = some z → z.gen ≤ x.gen
theorem chStep_pos {size : Int} {i : Nat} {st : Sup × Int} {x : Sup} (h1 : x.s.sec = size) (h2 : x.gen % 2 = (i : Int)) (h3 : st.2 < 0 ∨ st.1.gen < x.gen) : chStep size i st (some x) = (x, (i : Int)) := if_pos ⟨h1, h2, h3⟩
theorem chStep_neg {size : Int} {i : Nat} {st : Sup × Int} {x : Sup} (h : ¬ (st.2 < 0 ∨ st.1.gen < x.gen)) : chStep size i st (some x) = st := if_neg fun q => h q.2.2
theorem choose_of {size : Int} {a b : Option Sup} {x : Sup} {n : Int} (h : chStep size 1 (chStep size 0 (sup0, -1) a) b = (x, n)) (hn : ¬ n < 0) : choose size a b = (x, n, 0) := by
  unfold choose
  rw [h, if_neg hn]
theorem choose_odd {x y : Sup} {d : Option Sup} (hx : 0 ≤ x.gen) (hodd : x.gen % 2 = 1) (hy : y.gen = x.gen + 1) (hs : y.s = x.s) (ho : older x d) (hd : ∀ z, d = some z → 0 ≤ z.gen) :
    choose x.s.sec d (some x) = (x, 1, 0) ∧ choose x.s.sec (some y) (some x) = (y, 0, 0) := by
  constructor
  · have hb : (chStep x.s.sec 0 (sup0, -1) d).2 < 0 ∨ (chStep x.s.sec 0 (sup0, -1) d).1.gen < x.gen := by
      cases d with
      | none => left; show (-1 : Int) < 0; omega
      | some z =>
        have h1 := ho z rfl
        by_cases hz : z.s.sec = x.s.sec ∧ z.gen % 2 = ((0 : Nat) : Int) ∧ ((-1 : Int) < 0 ∨ sup0.gen < z.gen)
        · have : chStep x.s.sec 0 (sup0, -1) (some z) = (z, ((0 : Nat) : Int)) := if_pos hz
          rw [this]
          right
          have := hz.2.1
          show z.gen < x.gen
          simp at this
          omega
        · have : chStep x.s.sec 0 (sup0, -1) (some z) = (sup0, -1) := if_neg hz
          rw [this]
          left
          show (-1 : Int) < 0
          omega
    exact choose_of (n := 1) (chStep_pos rfl (by show x.gen % 2 = 1; exact hodd) hb) (by omega)
  · have h0 : chStep x.s.sec 0 (sup0, -1) (some y) = (y, ((0 : Nat) : Int)) := chStep_pos (by rw [hs]) (by show y.gen % 2 = 0; omega) (.inl (by show (-1 : Int) < 0; omega))
    refine choose_of (n := 0) ?_ (by omega)
    rw [h0]
    exact chStep_neg (by
      rintro (q | q)
      · exact absurd (show (0 : Int) < 0 from q) (by omega)
      · have q' : y.gen < x.gen := q
        omega)
theorem choose_even {x y : Sup} {d : Option Sup} (hx : 0 ≤ x.gen) (heven : x.gen % 2 = 0) (hy : y.gen = x.gen + 1) (hs : y.s = x.s) (ho : older x d) :
    choose x.s.sec (some x) d = (x, 0, 0) ∧ choose x.s.sec (some x) (some y) = (y, 1, 0) := by
  have h0 : chStep x.s.sec 0 (sup0, -1) (some x) = (x, ((0 : Nat) : Int)) := chStep_pos rfl (by show x.gen % 2 = 0; exact heven) (.inl (by show (-1 : Int) < 0; omega))
  constructor
  · refine choose_of (n := 0) ?_ (by omega)
    rw [h0]
    cases d with
    | none => rfl
    | some z =>
      have h1 := ho z rfl
      exact chStep_neg (by
        rintro (q | q)
        · exact absurd (show (0 : Int) < 0 from q) (by omega)
        · have q' : x.gen < z.gen := q
          omega)
  · refine choose_of (n := 1) ?_ (by omega)
    rw [h0]
    exact chStep_pos (by rw [hs]) (by show y.gen % 2 = 1; omega) (.inr (by show x.gen < y.gen; omega))
section
variable {w0 : World} {h : Hp} {x : Sup}
theorem OneOrOther_top {v : Value} {b : List UInt8} (root : Int) (i : x.In) (hr : i64R root) (ex : ExtSl w0 1 v b.length (b.flatMap dByte.e)) (hb : b.length ≤ 1000000000) :
    ACalls prog w0 n_deduplaw04_LayoutOneOrOther [.agg x.e.toArray, .int .i64 root, v] h fun v h' => v = .bool true := by
  have exb := ex.bytes
  have hj : v ≠ junk := by obtain ⟨a, c, rfl, -⟩ := ex.sl; simp
  refine ACalls.of_fit (by simpa using hj) fun f => c_deduplaw04_LayoutOneOrOther (by simpa using hj) ?_
  simp only [s_deduplaw04_LayoutOneOrOther, boxA_agg, List.toList_toArray, sup0_zero, lenSl_slice, lenStr_string, str_size, fpureA_some, fnilA_ptr, faddA_ptr, addr_add, Nat.zero_add, Nat.add_zero, fpureQ_k, fpureQ_nilA, fpureQ_addA, fpureQ_pureA, fpureQ_guardA, fpureQ_idxSlA, fpureQ_pickA, freadQ_loadA, freadQ_loadNA, freadQ_b2sA, freadQ_guardA, freadQ_slSlA, freadQ_k, fendA, fallA_one, fstillA_nil, fguardA_tt, fguardA_ff, fguardA_tf, fguardA_ft, fguardA_undef, fpickA_true, fpickA_false, fcondA_true, fcondA_false, binA_add, binA_sub, binA_mul, binA_eql, binA_neq, binA_lss, binA_leq, binA_gtr, binA_geq, unA_not, Bool.not_true, Bool.not_false, convA_int, extA_tuple, List.getElem?_toArray, List.getElem?_cons_zero, List.getElem?_cons_succ]
  have hgen := i.gen
  have hB := f.base
  have hq1 : (h.new x.e 12).blk h.next = some x.e := by simp
  have hn1 : h.next < (h.new x.e 12).next := by simp
  generalize h.new x.e 12 = h1 at hq1 hn1 ⊢
  refine callA_of awake_spec fun v1 h2 ⟨e, s2⟩ f2 => ?_
  subst e
  have hq2 := (s2.keep _ hn1 (by simp)).1.trans hq1
  have hn2 : h.next < h2.next := by have := s2.next; omega
  simp only [lenSl_slice, lenStr_string, str_size, fpureA_some, fnilA_ptr, faddA_ptr, addr_add, Nat.zero_add, Nat.add_zero, fpureQ_k, fpureQ_nilA, fpureQ_addA, fpureQ_pureA, fpureQ_guardA, fpureQ_idxSlA, fpureQ_pickA, freadQ_loadA, freadQ_loadNA, freadQ_b2sA, freadQ_guardA, freadQ_slSlA, freadQ_k, fendA, fallA_one, fstillA_nil, fguardA_tt, fguardA_ff, fguardA_tf, fguardA_ft, fguardA_undef, fpickA_true, fpickA_false, fcondA_true, fcondA_false, binA_add, binA_sub, binA_mul, binA_eql, binA_neq, binA_lss, binA_leq, binA_gtr, binA_geq, unA_not, Bool.not_true, Bool.not_false, convA_int, extA_tuple, List.getElem?_toArray, List.getElem?_cons_zero, List.getElem?_cons_succ]
  refine loadNA_whole hB hq2 rfl ?_
  refine callA_of (rCheckSuper_spec i) fun v3 h3 ⟨e, s3⟩ f3 => ?_
  subst e
  have hq3 := (s3.keep _ hn2 (by simp)).1.trans hq2
  have hn3 : h.next < h3.next := by have := s3.next; omega
  by_cases hc' : x.check ≠ 0
  · have z : (x.check != 0) = true := by simp [hc']
    simp only [z, lenSl_slice, lenStr_string, str_size, fpureA_some, fnilA_ptr, faddA_ptr, addr_add, Nat.zero_add, Nat.add_zero, fpureQ_k, fpureQ_nilA, fpureQ_addA, fpureQ_pureA, fpureQ_guardA, fpureQ_idxSlA, fpureQ_pickA, freadQ_loadA, freadQ_loadNA, freadQ_b2sA, freadQ_guardA, freadQ_slSlA, freadQ_k, fendA, fallA_one, fstillA_nil, fguardA_tt, fguardA_ff, fguardA_tf, fguardA_ft, fguardA_undef, fpickA_true, fpickA_false, fcondA_true, fcondA_false, binA_add, binA_sub, binA_mul, binA_eql, binA_neq, binA_lss, binA_leq, binA_gtr, binA_geq, unA_not, Bool.not_true, Bool.not_false, convA_int, extA_tuple, List.getElem?_toArray, List.getElem?_cons_zero, List.getElem?_cons_succ, retA_iff, oneOf_one]
    simp
  have hc : x.check = 0 := by omega
  have z : (x.check != 0) = false := by simp [hc]
  simp only [z, lenSl_slice, lenStr_string, str_size, fpureA_some, fnilA_ptr, faddA_ptr, addr_add, Nat.zero_add, Nat.add_zero, fpureQ_k, fpureQ_nilA, fpureQ_addA, fpureQ_pureA, fpureQ_guardA, fpureQ_idxSlA, fpureQ_pickA, freadQ_loadA, freadQ_loadNA, freadQ_b2sA, freadQ_guardA, freadQ_slSlA, freadQ_k, fendA, fallA_one, fstillA_nil, fguardA_tt, fguardA_ff, fguardA_tf, fguardA_ft, fguardA_undef, fpickA_true, fpickA_false, fcondA_true, fcondA_false, binA_add, binA_sub, binA_mul, binA_eql, binA_neq, binA_lss, binA_leq, binA_gtr, binA_geq, unA_not, Bool.not_true, Bool.not_false, convA_int, extA_tuple, List.getElem?_toArray, List.getElem?_cons_zero, List.getElem?_cons_succ]
  refine loadA_at (v := .int .u64 x.gen) hB hq3 (by rfl) ?_
  by_cases hg' : x.gen = 18446744073709551615
  · have z : (x.gen == 18446744073709551615) = true := by simp [hg']
    simp only [z, lenSl_slice, lenStr_string, str_size, fpureA_some, fnilA_ptr, faddA_ptr, addr_add, Nat.zero_add, Nat.add_zero, fpureQ_k, fpureQ_nilA, fpureQ_addA, fpureQ_pureA, fpureQ_guardA, fpureQ_idxSlA, fpureQ_pickA, freadQ_loadA, freadQ_loadNA, freadQ_b2sA, freadQ_guardA, freadQ_slSlA, freadQ_k, fendA, fallA_one, fstillA_nil, fguardA_tt, fguardA_ff, fguardA_tf, fguardA_ft, fguardA_undef, fpickA_true, fpickA_false, fcondA_true, fcondA_false, binA_add, binA_sub, binA_mul, binA_eql, binA_neq, binA_lss, binA_leq, binA_gtr, binA_geq, unA_not, Bool.not_true, Bool.not_false, convA_int, extA_tuple, List.getElem?_toArray, List.getElem?_cons_zero, List.getElem?_cons_succ, retA_iff, oneOf_one]
    simp
  have z : (x.gen == 18446744073709551615) = false := by simp [hg']
  simp only [z, lenSl_slice, lenStr_string, str_size, fpureA_some, fnilA_ptr, faddA_ptr, addr_add, Nat.zero_add, Nat.add_zero, fpureQ_k, fpureQ_nilA, fpureQ_addA, fpureQ_pureA, fpureQ_guardA, fpureQ_idxSlA, fpureQ_pickA, freadQ_loadA, freadQ_loadNA, freadQ_b2sA, freadQ_guardA, freadQ_slSlA, freadQ_k, fendA, fallA_one, fstillA_nil, fguardA_tt, fguardA_ff, fguardA_tf, fguardA_ft, fguardA_undef, fpickA_true, fpickA_false, fcondA_true, fcondA_false, binA_add, binA_sub, binA_mul, binA_eql, binA_neq, binA_lss, binA_leq, binA_gtr, binA_geq, unA_not, Bool.not_true, Bool.not_false, convA_int, extA_tuple, List.getElem?_toArray, List.getElem?_cons_zero, List.getElem?_cons_succ]
  refine loadNA_whole hB hq3 rfl ?_
  have hXc : ∀ X : Sup, X.e.all isCell = true := fun X => by simp [Sup.e, Shp.e, isCell]
  simp only [newA_iff]
  refine ⟨by simp [sup0, Sup.e, Shp.e], storeN0 (cs := sup0.e) f3.base (by simp) rfl rfl (hXc x) ?_⟩
  rw [put_new]
  have e1 : IntKind.u64.wrap (x.gen + 1) = x.gen + 1 := IntWalk.u64_in _ (by omega)
  have hB3 := f3.base
  try simp only [lenSl_slice, lenStr_string, str_size, fpureA_some, fnilA_ptr, faddA_ptr, addr_add, Nat.zero_add, Nat.add_zero, fpureQ_k, fpureQ_nilA, fpureQ_addA, fpureQ_pureA, fpureQ_guardA, fpureQ_idxSlA, fpureQ_pickA, freadQ_loadA, freadQ_loadNA, freadQ_b2sA, freadQ_guardA, freadQ_slSlA, freadQ_k, fendA, fallA_one, fstillA_nil, fguardA_tt, fguardA_ff, fguardA_tf, fguardA_ft, fguardA_undef, fpickA_true, fpickA_false, fcondA_true, fcondA_false, binA_add, binA_sub, binA_mul, binA_eql, binA_neq, binA_lss, binA_leq, binA_gtr, binA_geq, unA_not, Bool.not_true, Bool.not_false, convA_int, extA_tuple, List.getElem?_toArray, List.getElem?_cons_zero, List.getElem?_cons_succ]
  refine loadA_at (v := .int .u64 x.gen) (cs := x.e) hB3 (by simp) (by rfl) ?_
  simp only [e1, lenSl_slice, lenStr_string, str_size, fpureA_some, fnilA_ptr, faddA_ptr, addr_add, Nat.zero_add, Nat.add_zero, fpureQ_k, fpureQ_nilA, fpureQ_addA, fpureQ_pureA, fpureQ_guardA, fpureQ_idxSlA, fpureQ_pickA, freadQ_loadA, freadQ_loadNA, freadQ_b2sA, freadQ_guardA, freadQ_slSlA, freadQ_k, fendA, fallA_one, fstillA_nil, fguardA_tt, fguardA_ff, fguardA_tf, fguardA_ft, fguardA_undef, fpickA_true, fpickA_false, fcondA_true, fcondA_false, binA_add, binA_sub, binA_mul, binA_eql, binA_neq, binA_lss, binA_leq, binA_gtr, binA_geq, unA_not, Bool.not_true, Bool.not_false, convA_int, extA_tuple, List.getElem?_toArray, List.getElem?_cons_zero, List.getElem?_cons_succ]
  refine storeA_at (cs := x.e) hB3 (by simp) (by simp [Sup.e]) rfl ?_
  refine storeA_at (cs := x.e.set 0 (.int .u64 (x.gen + 1))) hB3 (by simp) (by simp [Sup.e]) rfl ?_
  have hY : (x.e.set 0 (.int .u64 (x.gen + 1))).set 1 (.int .i64 root) = (⟨x.gen + 1, root, x.s⟩ : Sup).e := rfl
  rw [hY]
  have hyg : (⟨x.gen + 1, root, x.s⟩ : Sup).gen = x.gen + 1 := rfl
  have hys : (⟨x.gen + 1, root, x.s⟩ : Sup).s = x.s := rfl
  have iy : (⟨x.gen + 1, root, x.s⟩ : Sup).In := ⟨by show 0 ≤ x.gen + 1 ∧ x.gen + 1 ≤ _; omega, hr, i.s⟩
  generalize (⟨x.gen + 1, root, x.s⟩ : Sup) = Y at hyg hys iy ⊢
  have s4 : Step h3 (((h3.new x.e 12).put h3.next (x.e.set 0 (.int .u64 (x.gen + 1)))).put h3.next Y.e) [] [h3.next] := (((Step.refl h3 [] (by simp)).new _ _).put (p := h3.next) (by simp) _).put (p := h3.next) (by simp) _
  have hq4 : (((h3.new x.e 12).put h3.next (x.e.set 0 (.int .u64 (x.gen + 1)))).put h3.next Y.e).blk h3.next = some Y.e := by simp
  have hn4 : h3.next < (((h3.new x.e 12).put h3.next (x.e.set 0 (.int .u64 (x.gen + 1)))).put h3.next Y.e).next := by simp
  generalize (((h3.new x.e 12).put h3.next (x.e.set 0 (.int .u64 (x.gen + 1)))).put h3.next Y.e) = h4 at s4 hq4 hn4 ⊢
  have hq14 := (s4.keep _ hn3 (by simp)).1.trans hq3
  try simp only [lenSl_slice, lenStr_string, str_size, fpureA_some, fnilA_ptr, faddA_ptr, addr_add, Nat.zero_add, Nat.add_zero, fpureQ_k, fpureQ_nilA, fpureQ_addA, fpureQ_pureA, fpureQ_guardA, fpureQ_idxSlA, fpureQ_pickA, freadQ_loadA, freadQ_loadNA, freadQ_b2sA, freadQ_guardA, freadQ_slSlA, freadQ_k, fendA, fallA_one, fstillA_nil, fguardA_tt, fguardA_ff, fguardA_tf, fguardA_ft, fguardA_undef, fpickA_true, fpickA_false, fcondA_true, fcondA_false, binA_add, binA_sub, binA_mul, binA_eql, binA_neq, binA_lss, binA_leq, binA_gtr, binA_geq, unA_not, Bool.not_true, Bool.not_false, convA_int, extA_tuple, List.getElem?_toArray, List.getElem?_cons_zero, List.getElem?_cons_succ]
  refine loadNA_whole hB3 hq4 rfl ?_
  refine callA_of (rCheckSuper_spec iy) fun v5 h5 ⟨e, s5⟩ f5 => ?_
  subst e
  by_cases hcy' : Y.check ≠ 0
  · have z : (Y.check != 0) = true := by simp [hcy']
    simp only [z, lenSl_slice, lenStr_string, str_size, fpureA_some, fnilA_ptr, faddA_ptr, addr_add, Nat.zero_add, Nat.add_zero, fpureQ_k, fpureQ_nilA, fpureQ_addA, fpureQ_pureA, fpureQ_guardA, fpureQ_idxSlA, fpureQ_pickA, freadQ_loadA, freadQ_loadNA, freadQ_b2sA, freadQ_guardA, freadQ_slSlA, freadQ_k, fendA, fallA_one, fstillA_nil, fguardA_tt, fguardA_ff, fguardA_tf, fguardA_ft, fguardA_undef, fpickA_true, fpickA_false, fcondA_true, fcondA_false, binA_add, binA_sub, binA_mul, binA_eql, binA_neq, binA_lss, binA_leq, binA_gtr, binA_geq, unA_not, Bool.not_true, Bool.not_false, convA_int, extA_tuple, List.getElem?_toArray, List.getElem?_cons_zero, List.getElem?_cons_succ, retA_iff, oneOf_one]
    simp
  have hcy : Y.check = 0 := by omega
  have z : (Y.check != 0) = false := by simp [hcy]
  have hq15 := (s5.keep _ (show h.next < h4.next by omega) (by simp)).1.trans hq14
  have hq45 := (s5.keep _ hn4 (by simp)).1.trans hq4
  have n5 := s5.next
  simp only [z, lenSl_slice, lenStr_string, str_size, fpureA_some, fnilA_ptr, faddA_ptr, addr_add, Nat.zero_add, Nat.add_zero, fpureQ_k, fpureQ_nilA, fpureQ_addA, fpureQ_pureA, fpureQ_guardA, fpureQ_idxSlA, fpureQ_pickA, freadQ_loadA, freadQ_loadNA, freadQ_b2sA, freadQ_guardA, freadQ_slSlA, freadQ_k, fendA, fallA_one, fstillA_nil, fguardA_tt, fguardA_ff, fguardA_tf, fguardA_ft, fguardA_undef, fpickA_true, fpickA_false, fcondA_true, fcondA_false, binA_add, binA_sub, binA_mul, binA_eql, binA_neq, binA_lss, binA_leq, binA_gtr, binA_geq, unA_not, Bool.not_true, Bool.not_false, convA_int, extA_tuple, List.getElem?_toArray, List.getElem?_cons_zero, List.getElem?_cons_succ]
  refine callA_of (rDecodeSuper_spec (exb _ f5) hb) fun v6 h6 ⟨e, s6⟩ f6 => ?_
  subst e
  have n6 := s6.next
  have hq16 := (s6.keep _ (show h.next < h5.next by omega) (by simp)).1.trans hq15
  have hq46 := (s6.keep _ (show h3.next < h5.next by omega) (by simp)).1.trans hq45
  obtain ⟨Z, er, hv, hZ⟩ : ∃ Z er, decV b = .tuple #[.agg Z.e.toArray, .int .i64 er] ∧ ((er = 0 ∧ decB b = some Z) ∨ (er = 40 ∧ decB b = none)) := by
    cases hd : decB b with
    | none => exact ⟨sup0, 40, decV_none hd, .inr ⟨rfl, rfl⟩⟩
    | some X => exact ⟨X, 0, decV_some hd, .inl ⟨rfl, rfl⟩⟩
  rw [hv]
  simp only [lenSl_slice, lenStr_string, str_size, fpureA_some, fnilA_ptr, faddA_ptr, addr_add, Nat.zero_add, Nat.add_zero, fpureQ_k, fpureQ_nilA, fpureQ_addA, fpureQ_pureA, fpureQ_guardA, fpureQ_idxSlA, fpureQ_pickA, freadQ_loadA, freadQ_loadNA, freadQ_b2sA, freadQ_guardA, freadQ_slSlA, freadQ_k, fendA, fallA_one, fstillA_nil, fguardA_tt, fguardA_ff, fguardA_tf, fguardA_ft, fguardA_undef, fpickA_true, fpickA_false, fcondA_true, fcondA_false, binA_add, binA_sub, binA_mul, binA_eql, binA_neq, binA_lss, binA_leq, binA_gtr, binA_geq, unA_not, Bool.not_true, Bool.not_false, convA_int, extA_tuple, List.getElem?_toArray, List.getElem?_cons_zero, List.getElem?_cons_succ, newA_iff]
  refine ⟨by simp [sup0, Sup.e, Shp.e], storeN0 (cs := sup0.e) f6.base (by simp) rfl rfl (hXc Z) ?_⟩
  rw [put_new]
  have s7 : Step h6 (h6.new Z.e 12) [] [h6.next] := (Step.refl h6 [] (by simp)).new _ _
  have hq7 : (h6.new Z.e 12).blk h6.next = some Z.e := by simp
  have hB6 := f6.base
  generalize h6.new Z.e 12 = h7 at s7 hq7 ⊢
  have n7 := s7.next
  have hq17 := (s7.keep _ (show h.next < h6.next by omega) (by simp)).1.trans hq16
  have hq47 := (s7.keep _ (show h3.next < h6.next by omega) (by simp)).1.trans hq46
  rcases hZ with ⟨rfl, hd⟩ | ⟨rfl, hd⟩
  · have hzg := (dec_some hd).1.gen
    have z : ((0 : Int) == 0) = true := rfl
    simp only [z, lenSl_slice, lenStr_string, str_size, fpureA_some, fnilA_ptr, faddA_ptr, addr_add, Nat.zero_add, Nat.add_zero, fpureQ_k, fpureQ_nilA, fpureQ_addA, fpureQ_pureA, fpureQ_guardA, fpureQ_idxSlA, fpureQ_pickA, freadQ_loadA, freadQ_loadNA, freadQ_b2sA, freadQ_guardA, freadQ_slSlA, freadQ_k, fendA, fallA_one, fstillA_nil, fguardA_tt, fguardA_ff, fguardA_tf, fguardA_ft, fguardA_undef, fpickA_true, fpickA_false, fcondA_true, fcondA_false, binA_add, binA_sub, binA_mul, binA_eql, binA_neq, binA_lss, binA_leq, binA_gtr, binA_geq, unA_not, Bool.not_true, Bool.not_false, convA_int, extA_tuple, List.getElem?_toArray, List.getElem?_cons_zero, List.getElem?_cons_succ]
    refine loadA_at (v := .int .u64 Z.gen) hB6 hq7 (by rfl) ?_
    refine loadA_at (v := .int .u64 x.gen) hB hq17 (by rfl) ?_
    by_cases hlt : x.gen < Z.gen
    · have k : decide (x.gen < Z.gen) = true := decide_eq_true hlt
      simp only [k, lenSl_slice, lenStr_string, str_size, fpureA_some, fnilA_ptr, faddA_ptr, addr_add, Nat.zero_add, Nat.add_zero, fpureQ_k, fpureQ_nilA, fpureQ_addA, fpureQ_pureA, fpureQ_guardA, fpureQ_idxSlA, fpureQ_pickA, freadQ_loadA, freadQ_loadNA, freadQ_b2sA, freadQ_guardA, freadQ_slSlA, freadQ_k, fendA, fallA_one, fstillA_nil, fguardA_tt, fguardA_ff, fguardA_tf, fguardA_ft, fguardA_undef, fpickA_true, fpickA_false, fcondA_true, fcondA_false, binA_add, binA_sub, binA_mul, binA_eql, binA_neq, binA_lss, binA_leq, binA_gtr, binA_geq, unA_not, Bool.not_true, Bool.not_false, convA_int, extA_tuple, List.getElem?_toArray, List.getElem?_cons_zero, List.getElem?_cons_succ, retA_iff, oneOf_one]
      simp
    have k : decide (x.gen < Z.gen) = false := decide_eq_false hlt
    have ho : older x (decB b) := fun z hz => by rw [hd] at hz; simp at hz; subst hz; omega
    have hd2 : ∀ z, decB b = some z → 0 ≤ z.gen := fun z hz => by rw [hd] at hz; simp at hz; subst hz; exact hzg.1
    simp only [k, lenSl_slice, lenStr_string, str_size, fpureA_some, fnilA_ptr, faddA_ptr, addr_add, Nat.zero_add, Nat.add_zero, fpureQ_k, fpureQ_nilA, fpureQ_addA, fpureQ_pureA, fpureQ_guardA, fpureQ_idxSlA, fpureQ_pickA, freadQ_loadA, freadQ_loadNA, freadQ_b2sA, freadQ_guardA, freadQ_slSlA, freadQ_k, fendA, fallA_one, fstillA_nil, fguardA_tt, fguardA_ff, fguardA_tf, fguardA_ft, fguardA_undef, fpickA_true, fpickA_false, fcondA_true, fcondA_false, binA_add, binA_sub, binA_mul, binA_eql, binA_neq, binA_lss, binA_leq, binA_gtr, binA_geq, unA_not, Bool.not_true, Bool.not_false, convA_int, extA_tuple, List.getElem?_toArray, List.getElem?_cons_zero, List.getElem?_cons_succ]
    clear hv
    refine loadNA_whole hB hq17 rfl ?_
    refine callA_of (EncodeSuper_spec i) fun v8 h8 ⟨g1, g1'⟩ f8 => ?_
    obtain ⟨q8, e, g8, hq8, s8⟩ := g1 hc
    subst e
    have n8 := s8.next
    have hq18 := (s8.keep _ (show h.next < h7.next by omega) (by simp)).1.trans hq17
    have hq48 := (s8.keep _ (show h3.next < h7.next by omega) (by simp)).1.trans hq47
    try simp only [lenSl_slice, lenStr_string, str_size, fpureA_some, fnilA_ptr, faddA_ptr, addr_add, Nat.zero_add, Nat.add_zero, fpureQ_k, fpureQ_nilA, fpureQ_addA, fpureQ_pureA, fpureQ_guardA, fpureQ_idxSlA, fpureQ_pickA, freadQ_loadA, freadQ_loadNA, freadQ_b2sA, freadQ_guardA, freadQ_slSlA, freadQ_k, fendA, fallA_one, fstillA_nil, fguardA_tt, fguardA_ff, fguardA_tf, fguardA_ft, fguardA_undef, fpickA_true, fpickA_false, fcondA_true, fcondA_false, binA_add, binA_sub, binA_mul, binA_eql, binA_neq, binA_lss, binA_leq, binA_gtr, binA_geq, unA_not, Bool.not_true, Bool.not_false, convA_int, extA_tuple, List.getElem?_toArray, List.getElem?_cons_zero, List.getElem?_cons_succ]
    refine loadNA_whole hB3 hq48 rfl ?_
    refine callA_of (EncodeSuper_spec iy) fun v9 h9 ⟨g2, g2'⟩ f9 => ?_
    obtain ⟨q9, e, g9, hq9, s9⟩ := g2 hcy
    subst e
    have n9 := s9.next
    have hq19 := (s9.keep _ (show h.next < h8.next by omega) (by simp)).1.trans hq18
    have hq49 := (s9.keep _ (show h3.next < h8.next by omega) (by simp)).1.trans hq48
    have g89 := g8.frame s9 (by simp)
    try simp only [lenSl_slice, lenStr_string, str_size, fpureA_some, fnilA_ptr, faddA_ptr, addr_add, Nat.zero_add, Nat.add_zero, fpureQ_k, fpureQ_nilA, fpureQ_addA, fpureQ_pureA, fpureQ_guardA, fpureQ_idxSlA, fpureQ_pickA, freadQ_loadA, freadQ_loadNA, freadQ_b2sA, freadQ_guardA, freadQ_slSlA, freadQ_k, fendA, fallA_one, fstillA_nil, fguardA_tt, fguardA_ff, fguardA_tf, fguardA_ft, fguardA_undef, fpickA_true, fpickA_false, fcondA_true, fcondA_false, binA_add, binA_sub, binA_mul, binA_eql, binA_neq, binA_lss, binA_leq, binA_gtr, binA_geq, unA_not, Bool.not_true, Bool.not_false, convA_int, extA_tuple, List.getElem?_toArray, List.getElem?_cons_zero, List.getElem?_cons_succ]
    refine loadNA_whole hB hq19 rfl ?_
    refine callA_of (Next_spec i) fun v10 h10 ⟨e, s10⟩ f10 => ?_
    subst e
    have n10 := s10.next
    have hq110 := (s10.keep _ (show h.next < h9.next by omega) (by simp)).1.trans hq19
    have hq410 := (s10.keep _ (show h3.next < h9.next by omega) (by simp)).1.trans hq49
    have gx := g89.frame s10 (by simp)
    have gy := g9.frame s10 (by simp)
    have hnx : nextV x.gen = .tuple #[.int .u64 (x.gen + 1), .int .i64 ((x.gen + 1) % 2), .int .i64 0] := by unfold nextV; rw [if_neg hg']
    rw [hnx]
    have zz : ((0 : Int) != 0) = false := rfl
    simp only [zz, lenSl_slice, lenStr_string, str_size, fpureA_some, fnilA_ptr, faddA_ptr, addr_add, Nat.zero_add, Nat.add_zero, fpureQ_k, fpureQ_nilA, fpureQ_addA, fpureQ_pureA, fpureQ_guardA, fpureQ_idxSlA, fpureQ_pickA, freadQ_loadA, freadQ_loadNA, freadQ_b2sA, freadQ_guardA, freadQ_slSlA, freadQ_k, fendA, fallA_one, fstillA_nil, fguardA_tt, fguardA_ff, fguardA_tf, fguardA_ft, fguardA_undef, fpickA_true, fpickA_false, fcondA_true, fcondA_false, binA_add, binA_sub, binA_mul, binA_eql, binA_neq, binA_lss, binA_leq, binA_gtr, binA_geq, unA_not, Bool.not_true, Bool.not_false, convA_int, extA_tuple, List.getElem?_toArray, List.getElem?_cons_zero, List.getElem?_cons_succ]
    refine loadA_at (v := .int .u64 Y.gen) hB3 hq410 (by rfl) ?_
    have zg : (x.gen + 1 != Y.gen) = false := by simp [hyg]
    simp only [zg, lenSl_slice, lenStr_string, str_size, fpureA_some, fnilA_ptr, faddA_ptr, addr_add, Nat.zero_add, Nat.add_zero, fpureQ_k, fpureQ_nilA, fpureQ_addA, fpureQ_pureA, fpureQ_guardA, fpureQ_idxSlA, fpureQ_pickA, freadQ_loadA, freadQ_loadNA, freadQ_b2sA, freadQ_guardA, freadQ_slSlA, freadQ_k, fendA, fallA_one, fstillA_nil, fguardA_tt, fguardA_ff, fguardA_tf, fguardA_ft, fguardA_undef, fpickA_true, fpickA_false, fcondA_true, fcondA_false, binA_add, binA_sub, binA_mul, binA_eql, binA_neq, binA_lss, binA_leq, binA_gtr, binA_geq, unA_not, Bool.not_true, Bool.not_false, convA_int, extA_tuple, List.getElem?_toArray, List.getElem?_cons_zero, List.getElem?_cons_succ]
    refine loadA_at (v := .int .u64 x.gen) hB hq110 (by rfl) ?_
    refine callA_of (Slot_spec x.gen hgen) fun v11 h11 ⟨e, e11⟩ f11 => ?_
    have e11' := e11.symm
    subst e e11'
    have e12 : IntKind.i64.wrap (1 - x.gen % 2) = 1 - x.gen % 2 := IntWalk.i64_in _ (by omega)
    have zs : ((x.gen + 1) % 2 != 1 - x.gen % 2) = false := by
      rw [bne_eq_false_iff_eq]
      omega
    simp only [e12, lenSl_slice, lenStr_string, str_size, fpureA_some, fnilA_ptr, faddA_ptr, addr_add, Nat.zero_add, Nat.add_zero, fpureQ_k, fpureQ_nilA, fpureQ_addA, fpureQ_pureA, fpureQ_guardA, fpureQ_idxSlA, fpureQ_pickA, freadQ_loadA, freadQ_loadNA, freadQ_b2sA, freadQ_guardA, freadQ_slSlA, freadQ_k, fendA, fallA_one, fstillA_nil, fguardA_tt, fguardA_ff, fguardA_tf, fguardA_ft, fguardA_undef, fpickA_true, fpickA_false, fcondA_true, fcondA_false, binA_add, binA_sub, binA_mul, binA_eql, binA_neq, binA_lss, binA_leq, binA_gtr, binA_geq, unA_not, Bool.not_true, Bool.not_false, convA_int, extA_tuple, List.getElem?_toArray, List.getElem?_cons_zero, List.getElem?_cons_succ, zs]
    have hlx := Sup.enc_length hc
    have hly := Sup.enc_length hcy
    have hszx := Sup.sizes hc
    have hszy := Sup.sizes hcy
    have bx : ∀ {hh : Hp}, Step h10 hh [] [] → Bs w0 hh (.slice (some ⟨q8, 0, none⟩) x.s.sec.toNat x.s.sec.toNat) x.enc := by
      intro hh st
      have := (gx.frame st (by simp)).sl
      rw [← hlx] at this ⊢
      exact this
    have bY : ∀ {hh : Hp}, Step h10 hh [] [] → Bs w0 hh (.slice (some ⟨q9, 0, none⟩) Y.s.sec.toNat Y.s.sec.toNat) Y.enc := by
      intro hh st
      have := (gy.frame st (by simp)).sl
      rw [← hly] at this ⊢
      exact this
    have hx1 : x.enc.length ≤ 1000000000 := by omega
    have hy1 : Y.enc.length ≤ 1000000000 := by omega
    have dx := dec_enc i hc
    have dy := dec_enc iy hcy
    have r10 : Step h10 h10 [] [] := Step.refl _ _ (by simp)
    have keep1 : ∀ {hh : Hp}, Step h10 hh [] [] → hh.blk h.next = some x.e ∧ hh.blk h3.next = some Y.e := fun st =>
      ⟨(st.keep _ (by omega) (by simp)).1.trans hq110, (st.keep _ (by omega) (by simp)).1.trans hq410⟩
    by_cases hodd : (x.gen + 1) % 2 = 0
    · have k : ((x.gen + 1) % 2 == 0) = true := by simp [hodd]
      obtain ⟨ch1, ch2⟩ := choose_odd (x := x) (y := Y) (d := decB b) hgen.1 (by omega) hyg hys ho hd2
      simp only [k, lenSl_slice, lenStr_string, str_size, fpureA_some, fnilA_ptr, faddA_ptr, addr_add, Nat.zero_add, Nat.add_zero, fpureQ_k, fpureQ_nilA, fpureQ_addA, fpureQ_pureA, fpureQ_guardA, fpureQ_idxSlA, fpureQ_pickA, freadQ_loadA, freadQ_loadNA, freadQ_b2sA, freadQ_guardA, freadQ_slSlA, freadQ_k, fendA, fallA_one, fstillA_nil, fguardA_tt, fguardA_ff, fguardA_tf, fguardA_ft, fguardA_undef, fpickA_true, fpickA_false, fcondA_true, fcondA_false, binA_add, binA_sub, binA_mul, binA_eql, binA_neq, binA_lss, binA_leq, binA_gtr, binA_geq, unA_not, Bool.not_true, Bool.not_false, convA_int, extA_tuple, List.getElem?_toArray, List.getElem?_cons_zero, List.getElem?_cons_succ]
      refine loadA_at (v := .int .i64 x.s.sec) hB hq110 (by rfl) ?_
      refine callA_of (Choose_spec x.s.sec (exb _ f11) (bx r10) hb hx1) fun v12 h12 ⟨e, s12⟩ f12 => ?_
      subst e
      rw [dx, ch1]
      obtain ⟨k1, k2⟩ := keep1 s12
      simp only [chV, Sup.v, lenSl_slice, lenStr_string, str_size, fpureA_some, fnilA_ptr, faddA_ptr, addr_add, Nat.zero_add, Nat.add_zero, fpureQ_k, fpureQ_nilA, fpureQ_addA, fpureQ_pureA, fpureQ_guardA, fpureQ_idxSlA, fpureQ_pickA, freadQ_loadA, freadQ_loadNA, freadQ_b2sA, freadQ_guardA, freadQ_slSlA, freadQ_k, fendA, fallA_one, fstillA_nil, fguardA_tt, fguardA_ff, fguardA_tf, fguardA_ft, fguardA_undef, fpickA_true, fpickA_false, fcondA_true, fcondA_false, binA_add, binA_sub, binA_mul, binA_eql, binA_neq, binA_lss, binA_leq, binA_gtr, binA_geq, unA_not, Bool.not_true, Bool.not_false, convA_int, extA_tuple, List.getElem?_toArray, List.getElem?_cons_zero, List.getElem?_cons_succ, newA_iff]
      refine ⟨by simp [sup0, Sup.e, Shp.e], storeN0 (cs := sup0.e) f12.base (by simp) rfl rfl (hXc x) ?_⟩
      rw [put_new]
      have s13 : Step h12 (h12.new x.e 12) [] [h12.next] := (Step.refl h12 [] (by simp)).new _ _
      have hq13 : (h12.new x.e 12).blk h12.next = some x.e := by simp
      have hn13 : h12.next < (h12.new x.e 12).next := by simp
      have f13 : Fit w0 (h12.new x.e 12) := f12.new (by simpa using hXc x)
      have hB12 := f12.base
      generalize h12.new x.e 12 = h13 at s13 hq13 hn13 f13 ⊢
      have st13 := s12.after s13 (by simp)
      obtain ⟨k3, k4⟩ := keep1 st13
      try simp only [lenSl_slice, lenStr_string, str_size, fpureA_some, fnilA_ptr, faddA_ptr, addr_add, Nat.zero_add, Nat.add_zero, fpureQ_k, fpureQ_nilA, fpureQ_addA, fpureQ_pureA, fpureQ_guardA, fpureQ_idxSlA, fpureQ_pickA, freadQ_loadA, freadQ_loadNA, freadQ_b2sA, freadQ_guardA, freadQ_slSlA, freadQ_k, fendA, fallA_one, fstillA_nil, fguardA_tt, fguardA_ff, fguardA_tf, fguardA_ft, fguardA_undef, fpickA_true, fpickA_false, fcondA_true, fcondA_false, binA_add, binA_sub, binA_mul, binA_eql, binA_neq, binA_lss, binA_leq, binA_gtr, binA_geq, unA_not, Bool.not_true, Bool.not_false, convA_int, extA_tuple, List.getElem?_toArray, List.getElem?_cons_zero, List.getElem?_cons_succ]
      refine loadA_at (v := .int .i64 x.s.sec) hB k3 (by rfl) ?_
      refine callA_of (Choose_spec x.s.sec (bY st13) (bx st13) hy1 hx1) fun v14 h14 ⟨e, s14⟩ f14 => ?_
      subst e
      rw [dx, dy, ch2]
      have st14 := st13.trans s14
      have hq14' := (s14.keep _ hn13 (by simp)).1.trans hq13
      have n14 := s14.next
      simp only [chV, Sup.v, lenSl_slice, lenStr_string, str_size, fpureA_some, fnilA_ptr, faddA_ptr, addr_add, Nat.zero_add, Nat.add_zero, fpureQ_k, fpureQ_nilA, fpureQ_addA, fpureQ_pureA, fpureQ_guardA, fpureQ_idxSlA, fpureQ_pickA, freadQ_loadA, freadQ_loadNA, freadQ_b2sA, freadQ_guardA, freadQ_slSlA, freadQ_k, fendA, fallA_one, fstillA_nil, fguardA_tt, fguardA_ff, fguardA_tf, fguardA_ft, fguardA_undef, fpickA_true, fpickA_false, fcondA_true, fcondA_false, binA_add, binA_sub, binA_mul, binA_eql, binA_neq, binA_lss, binA_leq, binA_gtr, binA_geq, unA_not, Bool.not_true, Bool.not_false, convA_int, extA_tuple, List.getElem?_toArray, List.getElem?_cons_zero, List.getElem?_cons_succ, newA_iff]
      refine ⟨by simp [sup0, Sup.e, Shp.e], storeN0 (cs := sup0.e) f14.base (by simp) rfl rfl (hXc Y) ?_⟩
      rw [put_new]
      have s15 : Step h14 (h14.new Y.e 12) [] [h14.next] := (Step.refl h14 [] (by simp)).new _ _
      have hq15' : (h14.new Y.e 12).blk h14.next = some Y.e := by simp
      have hB14 := f14.base
      generalize h14.new Y.e 12 = h15 at s15 hq15' ⊢
      have hq135 := (s15.keep _ (show h12.next < h14.next by omega) (by simp)).1.trans hq14'
      obtain ⟨k5, k6⟩ := keep1 (st14.after s15 (by simp))
      have z0 : ((0 : Int) == 0) = true := rfl
      have z1 : ((1 : Int) == 1) = true := rfl
      refine loadNA_whole hB12 hq135 rfl ?_
      refine loadNA_whole hB k5 rfl ?_
      simp only [eqSup w0, z0, z1, lenSl_slice, lenStr_string, str_size, fpureA_some, fnilA_ptr, faddA_ptr, addr_add, Nat.zero_add, Nat.add_zero, fpureQ_k, fpureQ_nilA, fpureQ_addA, fpureQ_pureA, fpureQ_guardA, fpureQ_idxSlA, fpureQ_pickA, freadQ_loadA, freadQ_loadNA, freadQ_b2sA, freadQ_guardA, freadQ_slSlA, freadQ_k, fendA, fallA_one, fstillA_nil, fguardA_tt, fguardA_ff, fguardA_tf, fguardA_ft, fguardA_undef, fpickA_true, fpickA_false, fcondA_true, fcondA_false, binA_add, binA_sub, binA_mul, binA_eql, binA_neq, binA_lss, binA_leq, binA_gtr, binA_geq, unA_not, Bool.not_true, Bool.not_false, convA_int, extA_tuple, List.getElem?_toArray, List.getElem?_cons_zero, List.getElem?_cons_succ]
      refine loadNA_whole hB14 hq15' rfl ?_
      refine loadNA_whole hB3 k6 rfl ?_
      simp only [eqSup w0, z0, z1, lenSl_slice, lenStr_string, str_size, fpureA_some, fnilA_ptr, faddA_ptr, addr_add, Nat.zero_add, Nat.add_zero, fpureQ_k, fpureQ_nilA, fpureQ_addA, fpureQ_pureA, fpureQ_guardA, fpureQ_idxSlA, fpureQ_pickA, freadQ_loadA, freadQ_loadNA, freadQ_b2sA, freadQ_guardA, freadQ_slSlA, freadQ_k, fendA, fallA_one, fstillA_nil, fguardA_tt, fguardA_ff, fguardA_tf, fguardA_ft, fguardA_undef, fpickA_true, fpickA_false, fcondA_true, fcondA_false, binA_add, binA_sub, binA_mul, binA_eql, binA_neq, binA_lss, binA_leq, binA_gtr, binA_geq, unA_not, Bool.not_true, Bool.not_false, convA_int, extA_tuple, List.getElem?_toArray, List.getElem?_cons_zero, List.getElem?_cons_succ, retA_iff, oneOf_one]
      simp
    · have k : ((x.gen + 1) % 2 == 0) = false := by simp [hodd]
      obtain ⟨ch1, ch2⟩ := choose_even (x := x) (y := Y) (d := decB b) hgen.1 (by omega) hyg hys ho
      simp only [k, lenSl_slice, lenStr_string, str_size, fpureA_some, fnilA_ptr, faddA_ptr, addr_add, Nat.zero_add, Nat.add_zero, fpureQ_k, fpureQ_nilA, fpureQ_addA, fpureQ_pureA, fpureQ_guardA, fpureQ_idxSlA, fpureQ_pickA, freadQ_loadA, freadQ_loadNA, freadQ_b2sA, freadQ_guardA, freadQ_slSlA, freadQ_k, fendA, fallA_one, fstillA_nil, fguardA_tt, fguardA_ff, fguardA_tf, fguardA_ft, fguardA_undef, fpickA_true, fpickA_false, fcondA_true, fcondA_false, binA_add, binA_sub, binA_mul, binA_eql, binA_neq, binA_lss, binA_leq, binA_gtr, binA_geq, unA_not, Bool.not_true, Bool.not_false, convA_int, extA_tuple, List.getElem?_toArray, List.getElem?_cons_zero, List.getElem?_cons_succ]
      refine loadA_at (v := .int .i64 x.s.sec) hB hq110 (by rfl) ?_
      refine callA_of (Choose_spec x.s.sec (bx r10) (exb _ f11) hx1 hb) fun v12 h12 ⟨e, s12⟩ f12 => ?_
      subst e
      rw [dx, ch1]
      obtain ⟨k1, k2⟩ := keep1 s12
      simp only [chV, Sup.v, lenSl_slice, lenStr_string, str_size, fpureA_some, fnilA_ptr, faddA_ptr, addr_add, Nat.zero_add, Nat.add_zero, fpureQ_k, fpureQ_nilA, fpureQ_addA, fpureQ_pureA, fpureQ_guardA, fpureQ_idxSlA, fpureQ_pickA, freadQ_loadA, freadQ_loadNA, freadQ_b2sA, freadQ_guardA, freadQ_slSlA, freadQ_k, fendA, fallA_one, fstillA_nil, fguardA_tt, fguardA_ff, fguardA_tf, fguardA_ft, fguardA_undef, fpickA_true, fpickA_false, fcondA_true, fcondA_false, binA_add, binA_sub, binA_mul, binA_eql, binA_neq, binA_lss, binA_leq, binA_gtr, binA_geq, unA_not, Bool.not_true, Bool.not_false, convA_int, extA_tuple, List.getElem?_toArray, List.getElem?_cons_zero, List.getElem?_cons_succ, newA_iff]
      refine ⟨by simp [sup0, Sup.e, Shp.e], storeN0 (cs := sup0.e) f12.base (by simp) rfl rfl (hXc x) ?_⟩
      rw [put_new]
      have s13 : Step h12 (h12.new x.e 12) [] [h12.next] := (Step.refl h12 [] (by simp)).new _ _
      have hq13 : (h12.new x.e 12).blk h12.next = some x.e := by simp
      have hn13 : h12.next < (h12.new x.e 12).next := by simp
      have f13 : Fit w0 (h12.new x.e 12) := f12.new (by simpa using hXc x)
      have hB12 := f12.base
      generalize h12.new x.e 12 = h13 at s13 hq13 hn13 f13 ⊢
      have st13 := s12.after s13 (by simp)
      obtain ⟨k3, k4⟩ := keep1 st13
      try simp only [lenSl_slice, lenStr_string, str_size, fpureA_some, fnilA_ptr, faddA_ptr, addr_add, Nat.zero_add, Nat.add_zero, fpureQ_k, fpureQ_nilA, fpureQ_addA, fpureQ_pureA, fpureQ_guardA, fpureQ_idxSlA, fpureQ_pickA, freadQ_loadA, freadQ_loadNA, freadQ_b2sA, freadQ_guardA, freadQ_slSlA, freadQ_k, fendA, fallA_one, fstillA_nil, fguardA_tt, fguardA_ff, fguardA_tf, fguardA_ft, fguardA_undef, fpickA_true, fpickA_false, fcondA_true, fcondA_false, binA_add, binA_sub, binA_mul, binA_eql, binA_neq, binA_lss, binA_leq, binA_gtr, binA_geq, unA_not, Bool.not_true, Bool.not_false, convA_int, extA_tuple, List.getElem?_toArray, List.getElem?_cons_zero, List.getElem?_cons_succ]
      refine loadA_at (v := .int .i64 x.s.sec) hB k3 (by rfl) ?_
      refine callA_of (Choose_spec x.s.sec (bx st13) (bY st13) hx1 hy1) fun v14 h14 ⟨e, s14⟩ f14 => ?_
      subst e
      rw [dx, dy, ch2]
      have st14 := st13.trans s14
      have hq14' := (s14.keep _ hn13 (by simp)).1.trans hq13
      have n14 := s14.next
      simp only [chV, Sup.v, lenSl_slice, lenStr_string, str_size, fpureA_some, fnilA_ptr, faddA_ptr, addr_add, Nat.zero_add, Nat.add_zero, fpureQ_k, fpureQ_nilA, fpureQ_addA, fpureQ_pureA, fpureQ_guardA, fpureQ_idxSlA, fpureQ_pickA, freadQ_loadA, freadQ_loadNA, freadQ_b2sA, freadQ_guardA, freadQ_slSlA, freadQ_k, fendA, fallA_one, fstillA_nil, fguardA_tt, fguardA_ff, fguardA_tf, fguardA_ft, fguardA_undef, fpickA_true, fpickA_false, fcondA_true, fcondA_false, binA_add, binA_sub, binA_mul, binA_eql, binA_neq, binA_lss, binA_leq, binA_gtr, binA_geq, unA_not, Bool.not_true, Bool.not_false, convA_int, extA_tuple, List.getElem?_toArray, List.getElem?_cons_zero, List.getElem?_cons_succ, newA_iff]
      refine ⟨by simp [sup0, Sup.e, Shp.e], storeN0 (cs := sup0.e) f14.base (by simp) rfl rfl (hXc Y) ?_⟩
      rw [put_new]
      have s15 : Step h14 (h14.new Y.e 12) [] [h14.next] := (Step.refl h14 [] (by simp)).new _ _
      have hq15' : (h14.new Y.e 12).blk h14.next = some Y.e := by simp
      have hB14 := f14.base
      generalize h14.new Y.e 12 = h15 at s15 hq15' ⊢
      have hq135 := (s15.keep _ (show h12.next < h14.next by omega) (by simp)).1.trans hq14'
      obtain ⟨k5, k6⟩ := keep1 (st14.after s15 (by simp))
      have z0 : ((0 : Int) == 0) = true := rfl
      have z1 : ((1 : Int) == 1) = true := rfl
      refine loadNA_whole hB12 hq135 rfl ?_
      refine loadNA_whole hB k5 rfl ?_
      simp only [eqSup w0, z0, z1, lenSl_slice, lenStr_string, str_size, fpureA_some, fnilA_ptr, faddA_ptr, addr_add, Nat.zero_add, Nat.add_zero, fpureQ_k, fpureQ_nilA, fpureQ_addA, fpureQ_pureA, fpureQ_guardA, fpureQ_idxSlA, fpureQ_pickA, freadQ_loadA, freadQ_loadNA, freadQ_b2sA, freadQ_guardA, freadQ_slSlA, freadQ_k, fendA, fallA_one, fstillA_nil, fguardA_tt, fguardA_ff, fguardA_tf, fguardA_ft, fguardA_undef, fpickA_true, fpickA_false, fcondA_true, fcondA_false, binA_add, binA_sub, binA_mul, binA_eql, binA_neq, binA_lss, binA_leq, binA_gtr, binA_geq, unA_not, Bool.not_true, Bool.not_false, convA_int, extA_tuple, List.getElem?_toArray, List.getElem?_cons_zero, List.getElem?_cons_succ]
      refine loadNA_whole hB14 hq15' rfl ?_
      refine loadNA_whole hB3 k6 rfl ?_
      simp only [eqSup w0, z0, z1, lenSl_slice, lenStr_string, str_size, fpureA_some, fnilA_ptr, faddA_ptr, addr_add, Nat.zero_add, Nat.add_zero, fpureQ_k, fpureQ_nilA, fpureQ_addA, fpureQ_pureA, fpureQ_guardA, fpureQ_idxSlA, fpureQ_pickA, freadQ_loadA, freadQ_loadNA, freadQ_b2sA, freadQ_guardA, freadQ_slSlA, freadQ_k, fendA, fallA_one, fstillA_nil, fguardA_tt, fguardA_ff, fguardA_tf, fguardA_ft, fguardA_undef, fpickA_true, fpickA_false, fcondA_true, fcondA_false, binA_add, binA_sub, binA_mul, binA_eql, binA_neq, binA_lss, binA_leq, binA_gtr, binA_geq, unA_not, Bool.not_true, Bool.not_false, convA_int, extA_tuple, List.getElem?_toArray, List.getElem?_cons_zero, List.getElem?_cons_succ, retA_iff, oneOf_one]
      simp
  · have z : ((40 : Int) == 0) = false := by decide
    have ho : older x (decB b) := fun z hz => by rw [hd] at hz; simp at hz
    have hd2 : ∀ z, decB b = some z → 0 ≤ z.gen := fun z hz => by rw [hd] at hz; simp at hz
    simp only [z, lenSl_slice, lenStr_string, str_size, fpureA_some, fnilA_ptr, faddA_ptr, addr_add, Nat.zero_add, Nat.add_zero, fpureQ_k, fpureQ_nilA, fpureQ_addA, fpureQ_pureA, fpureQ_guardA, fpureQ_idxSlA, fpureQ_pickA, freadQ_loadA, freadQ_loadNA, freadQ_b2sA, freadQ_guardA, freadQ_slSlA, freadQ_k, fendA, fallA_one, fstillA_nil, fguardA_tt, fguardA_ff, fguardA_tf, fguardA_ft, fguardA_undef, fpickA_true, fpickA_false, fcondA_true, fcondA_false, binA_add, binA_sub, binA_mul, binA_eql, binA_neq, binA_lss, binA_leq, binA_gtr, binA_geq, unA_not, Bool.not_true, Bool.not_false, convA_int, extA_tuple, List.getElem?_toArray, List.getElem?_cons_zero, List.getElem?_cons_succ]
    clear hv
    refine loadNA_whole hB hq17 rfl ?_
    refine callA_of (EncodeSuper_spec i) fun v8 h8 ⟨g1, g1'⟩ f8 => ?_
    obtain ⟨q8, e, g8, hq8, s8⟩ := g1 hc
    subst e
    have n8 := s8.next
    have hq18 := (s8.keep _ (show h.next < h7.next by omega) (by simp)).1.trans hq17
    have hq48 := (s8.keep _ (show h3.next < h7.next by omega) (by simp)).1.trans hq47
    try simp only [lenSl_slice, lenStr_string, str_size, fpureA_some, fnilA_ptr, faddA_ptr, addr_add, Nat.zero_add, Nat.add_zero, fpureQ_k, fpureQ_nilA, fpureQ_addA, fpureQ_pureA, fpureQ_guardA, fpureQ_idxSlA, fpureQ_pickA, freadQ_loadA, freadQ_loadNA, freadQ_b2sA, freadQ_guardA, freadQ_slSlA, freadQ_k, fendA, fallA_one, fstillA_nil, fguardA_tt, fguardA_ff, fguardA_tf, fguardA_ft, fguardA_undef, fpickA_true, fpickA_false, fcondA_true, fcondA_false, binA_add, binA_sub, binA_mul, binA_eql, binA_neq, binA_lss, binA_leq, binA_gtr, binA_geq, unA_not, Bool.not_true, Bool.not_false, convA_int, extA_tuple, List.getElem?_toArray, List.getElem?_cons_zero, List.getElem?_cons_succ]
    refine loadNA_whole hB3 hq48 rfl ?_
    refine callA_of (EncodeSuper_spec iy) fun v9 h9 ⟨g2, g2'⟩ f9 => ?_
    obtain ⟨q9, e, g9, hq9, s9⟩ := g2 hcy
    subst e
    have n9 := s9.next
    have hq19 := (s9.keep _ (show h.next < h8.next by omega) (by simp)).1.trans hq18
    have hq49 := (s9.keep _ (show h3.next < h8.next by omega) (by simp)).1.trans hq48
    have g89 := g8.frame s9 (by simp)
    try simp only [lenSl_slice, lenStr_string, str_size, fpureA_some, fnilA_ptr, faddA_ptr, addr_add, Nat.zero_add, Nat.add_zero, fpureQ_k, fpureQ_nilA, fpureQ_addA, fpureQ_pureA, fpureQ_guardA, fpureQ_idxSlA, fpureQ_pickA, freadQ_loadA, freadQ_loadNA, freadQ_b2sA, freadQ_guardA, freadQ_slSlA, freadQ_k, fendA, fallA_one, fstillA_nil, fguardA_tt, fguardA_ff, fguardA_tf, fguardA_ft, fguardA_undef, fpickA_true, fpickA_false, fcondA_true, fcondA_false, binA_add, binA_sub, binA_mul, binA_eql, binA_neq, binA_lss, binA_leq, binA_gtr, binA_geq, unA_not, Bool.not_true, Bool.not_false, convA_int, extA_tuple, List.getElem?_toArray, List.getElem?_cons_zero, List.getElem?_cons_succ]
    refine loadNA_whole hB hq19 rfl ?_
    refine callA_of (Next_spec i) fun v10 h10 ⟨e, s10⟩ f10 => ?_
    subst e
    have n10 := s10.next
    have hq110 := (s10.keep _ (show h.next < h9.next by omega) (by simp)).1.trans hq19
    have hq410 := (s10.keep _ (show h3.next < h9.next by omega) (by simp)).1.trans hq49
    have gx := g89.frame s10 (by simp)
    have gy := g9.frame s10 (by simp)
    have hnx : nextV x.gen = .tuple #[.int .u64 (x.gen + 1), .int .i64 ((x.gen + 1) % 2), .int .i64 0] := by unfold nextV; rw [if_neg hg']
    rw [hnx]
    have zz : ((0 : Int) != 0) = false := rfl
    simp only [zz, lenSl_slice, lenStr_string, str_size, fpureA_some, fnilA_ptr, faddA_ptr, addr_add, Nat.zero_add, Nat.add_zero, fpureQ_k, fpureQ_nilA, fpureQ_addA, fpureQ_pureA, fpureQ_guardA, fpureQ_idxSlA, fpureQ_pickA, freadQ_loadA, freadQ_loadNA, freadQ_b2sA, freadQ_guardA, freadQ_slSlA, freadQ_k, fendA, fallA_one, fstillA_nil, fguardA_tt, fguardA_ff, fguardA_tf, fguardA_ft, fguardA_undef, fpickA_true, fpickA_false, fcondA_true, fcondA_false, binA_add, binA_sub, binA_mul, binA_eql, binA_neq, binA_lss, binA_leq, binA_gtr, binA_geq, unA_not, Bool.not_true, Bool.not_false, convA_int, extA_tuple, List.getElem?_toArray, List.getElem?_cons_zero, List.getElem?_cons_succ]
    refine loadA_at (v := .int .u64 Y.gen) hB3 hq410 (by rfl) ?_
    have zg : (x.gen + 1 != Y.gen) = false := by simp [hyg]
    simp only [zg, lenSl_slice, lenStr_string, str_size, fpureA_some, fnilA_ptr, faddA_ptr, addr_add, Nat.zero_add, Nat.add_zero, fpureQ_k, fpureQ_nilA, fpureQ_addA, fpureQ_pureA, fpureQ_guardA, fpureQ_idxSlA, fpureQ_pickA, freadQ_loadA, freadQ_loadNA, freadQ_b2sA, freadQ_guardA, freadQ_slSlA, freadQ_k, fendA, fallA_one, fstillA_nil, fguardA_tt, fguardA_ff, fguardA_tf, fguardA_ft, fguardA_undef, fpickA_true, fpickA_false, fcondA_true, fcondA_false, binA_add, binA_sub, binA_mul, binA_eql, binA_neq, binA_lss, binA_leq, binA_gtr, binA_geq, unA_not, Bool.not_true, Bool.not_false, convA_int, extA_tuple, List.getElem?_toArray, List.getElem?_cons_zero, List.getElem?_cons_succ]
    refine loadA_at (v := .int .u64 x.gen) hB hq110 (by rfl) ?_
    refine callA_of (Slot_spec x.gen hgen) fun v11 h11 ⟨e, e11⟩ f11 => ?_
    have e11' := e11.symm
    subst e e11'
    have e12 : IntKind.i64.wrap (1 - x.gen % 2) = 1 - x.gen % 2 := IntWalk.i64_in _ (by omega)
    have zs : ((x.gen + 1) % 2 != 1 - x.gen % 2) = false := by
      rw [bne_eq_false_iff_eq]
      omega
    simp only [e12, lenSl_slice, lenStr_string, str_size, fpureA_some, fnilA_ptr, faddA_ptr, addr_add, Nat.zero_add, Nat.add_zero, fpureQ_k, fpureQ_nilA, fpureQ_addA, fpureQ_pureA, fpureQ_guardA, fpureQ_idxSlA, fpureQ_pickA, freadQ_loadA, freadQ_loadNA, freadQ_b2sA, freadQ_guardA, freadQ_slSlA, freadQ_k, fendA, fallA_one, fstillA_nil, fguardA_tt, fguardA_ff, fguardA_tf, fguardA_ft, fguardA_undef, fpickA_true, fpickA_false, fcondA_true, fcondA_false, binA_add, binA_sub, binA_mul, binA_eql, binA_neq, binA_lss, binA_leq, binA_gtr, binA_geq, unA_not, Bool.not_true, Bool.not_false, convA_int, extA_tuple, List.getElem?_toArray, List.getElem?_cons_zero, List.getElem?_cons_succ, zs]
    have hlx := Sup.enc_length hc
    have hly := Sup.enc_length hcy
    have hszx := Sup.sizes hc
    have hszy := Sup.sizes hcy
    have bx : ∀ {hh : Hp}, Step h10 hh [] [] → Bs w0 hh (.slice (some ⟨q8, 0, none⟩) x.s.sec.toNat x.s.sec.toNat) x.enc := by
      intro hh st
      have := (gx.frame st (by simp)).sl
      rw [← hlx] at this ⊢
      exact this
    have bY : ∀ {hh : Hp}, Step h10 hh [] [] → Bs w0 hh (.slice (some ⟨q9, 0, none⟩) Y.s.sec.toNat Y.s.sec.toNat) Y.enc := by
      intro hh st
      have := (gy.frame st (by simp)).sl
      rw [← hly] at this ⊢
      exact this
    have hx1 : x.enc.length ≤ 1000000000 := by omega
    have hy1 : Y.enc.length ≤ 1000000000 := by omega
    have dx := dec_enc i hc
    have dy := dec_enc iy hcy
    have r10 : Step h10 h10 [] [] := Step.refl _ _ (by simp)
    have keep1 : ∀ {hh : Hp}, Step h10 hh [] [] → hh.blk h.next = some x.e ∧ hh.blk h3.next = some Y.e := fun st =>
      ⟨(st.keep _ (by omega) (by simp)).1.trans hq110, (st.keep _ (by omega) (by simp)).1.trans hq410⟩
    by_cases hodd : (x.gen + 1) % 2 = 0
    · have k : ((x.gen + 1) % 2 == 0) = true := by simp [hodd]
      obtain ⟨ch1, ch2⟩ := choose_odd (x := x) (y := Y) (d := decB b) hgen.1 (by omega) hyg hys ho hd2
      simp only [k, lenSl_slice, lenStr_string, str_size, fpureA_some, fnilA_ptr, faddA_ptr, addr_add, Nat.zero_add, Nat.add_zero, fpureQ_k, fpureQ_nilA, fpureQ_addA, fpureQ_pureA, fpureQ_guardA, fpureQ_idxSlA, fpureQ_pickA, freadQ_loadA, freadQ_loadNA, freadQ_b2sA, freadQ_guardA, freadQ_slSlA, freadQ_k, fendA, fallA_one, fstillA_nil, fguardA_tt, fguardA_ff, fguardA_tf, fguardA_ft, fguardA_undef, fpickA_true, fpickA_false, fcondA_true, fcondA_false, binA_add, binA_sub, binA_mul, binA_eql, binA_neq, binA_lss, binA_leq, binA_gtr, binA_geq, unA_not, Bool.not_true, Bool.not_false, convA_int, extA_tuple, List.getElem?_toArray, List.getElem?_cons_zero, List.getElem?_cons_succ]
      refine loadA_at (v := .int .i64 x.s.sec) hB hq110 (by rfl) ?_
      refine callA_of (Choose_spec x.s.sec (exb _ f11) (bx r10) hb hx1) fun v12 h12 ⟨e, s12⟩ f12 => ?_
      subst e
      rw [dx, ch1]
      obtain ⟨k1, k2⟩ := keep1 s12
      simp only [chV, Sup.v, lenSl_slice, lenStr_string, str_size, fpureA_some, fnilA_ptr, faddA_ptr, addr_add, Nat.zero_add, Nat.add_zero, fpureQ_k, fpureQ_nilA, fpureQ_addA, fpureQ_pureA, fpureQ_guardA, fpureQ_idxSlA, fpureQ_pickA, freadQ_loadA, freadQ_loadNA, freadQ_b2sA, freadQ_guardA, freadQ_slSlA, freadQ_k, fendA, fallA_one, fstillA_nil, fguardA_tt, fguardA_ff, fguardA_tf, fguardA_ft, fguardA_undef, fpickA_true, fpickA_false, fcondA_true, fcondA_false, binA_add, binA_sub, binA_mul, binA_eql, binA_neq, binA_lss, binA_leq, binA_gtr, binA_geq, unA_not, Bool.not_true, Bool.not_false, convA_int, extA_tuple, List.getElem?_toArray, List.getElem?_cons_zero, List.getElem?_cons_succ, newA_iff]
      refine ⟨by simp [sup0, Sup.e, Shp.e], storeN0 (cs := sup0.e) f12.base (by simp) rfl rfl (hXc x) ?_⟩
      rw [put_new]
      have s13 : Step h12 (h12.new x.e 12) [] [h12.next] := (Step.refl h12 [] (by simp)).new _ _
      have hq13 : (h12.new x.e 12).blk h12.next = some x.e := by simp
      have hn13 : h12.next < (h12.new x.e 12).next := by simp
      have f13 : Fit w0 (h12.new x.e 12) := f12.new (by simpa using hXc x)
      have hB12 := f12.base
      generalize h12.new x.e 12 = h13 at s13 hq13 hn13 f13 ⊢
      have st13 := s12.after s13 (by simp)
      obtain ⟨k3, k4⟩ := keep1 st13
      try simp only [lenSl_slice, lenStr_string, str_size, fpureA_some, fnilA_ptr, faddA_ptr, addr_add, Nat.zero_add, Nat.add_zero, fpureQ_k, fpureQ_nilA, fpureQ_addA, fpureQ_pureA, fpureQ_guardA, fpureQ_idxSlA, fpureQ_pickA, freadQ_loadA, freadQ_loadNA, freadQ_b2sA, freadQ_guardA, freadQ_slSlA, freadQ_k, fendA, fallA_one, fstillA_nil, fguardA_tt, fguardA_ff, fguardA_tf, fguardA_ft, fguardA_undef, fpickA_true, fpickA_false, fcondA_true, fcondA_false, binA_add, binA_sub, binA_mul, binA_eql, binA_neq, binA_lss, binA_leq, binA_gtr, binA_geq, unA_not, Bool.not_true, Bool.not_false, convA_int, extA_tuple, List.getElem?_toArray, List.getElem?_cons_zero, List.getElem?_cons_succ]
      refine loadA_at (v := .int .i64 x.s.sec) hB k3 (by rfl) ?_
      refine callA_of (Choose_spec x.s.sec (bY st13) (bx st13) hy1 hx1) fun v14 h14 ⟨e, s14⟩ f14 => ?_
      subst e
      rw [dx, dy, ch2]
      have st14 := st13.trans s14
      have hq14' := (s14.keep _ hn13 (by simp)).1.trans hq13
      have n14 := s14.next
      simp only [chV, Sup.v, lenSl_slice, lenStr_string, str_size, fpureA_some, fnilA_ptr, faddA_ptr, addr_add, Nat.zero_add, Nat.add_zero, fpureQ_k, fpureQ_nilA, fpureQ_addA, fpureQ_pureA, fpureQ_guardA, fpureQ_idxSlA, fpureQ_pickA, freadQ_loadA, freadQ_loadNA, freadQ_b2sA, freadQ_guardA, freadQ_slSlA, freadQ_k, fendA, fallA_one, fstillA_nil, fguardA_tt, fguardA_ff, fguardA_tf, fguardA_ft, fguardA_undef, fpickA_true, fpickA_false, fcondA_true, fcondA_false, binA_add, binA_sub, binA_mul, binA_eql, binA_neq, binA_lss, binA_leq, binA_gtr, binA_geq, unA_not, Bool.not_true, Bool.not_false, convA_int, extA_tuple, List.getElem?_toArray, List.getElem?_cons_zero, List.getElem?_cons_succ, newA_iff]
      refine ⟨by simp [sup0, Sup.e, Shp.e], storeN0 (cs := sup0.e) f14.base (by simp) rfl rfl (hXc Y) ?_⟩
      rw [put_new]
      have s15 : Step h14 (h14.new Y.e 12) [] [h14.next] := (Step.refl h14 [] (by simp)).new _ _
      have hq15' : (h14.new Y.e 12).blk h14.next = some Y.e := by simp
      have hB14 := f14.base
      generalize h14.new Y.e 12 = h15 at s15 hq15' ⊢
      have hq135 := (s15.keep _ (show h12.next < h14.next by omega) (by simp)).1.trans hq14'
      obtain ⟨k5, k6⟩ := keep1 (st14.after s15 (by simp))
      have z0 : ((0 : Int) == 0) = true := rfl
      have z1 : ((1 : Int) == 1) = true := rfl
      refine loadNA_whole hB12 hq135 rfl ?_
      refine loadNA_whole hB k5 rfl ?_
      simp only [eqSup w0, z0, z1, lenSl_slice, lenStr_string, str_size, fpureA_some, fnilA_ptr, faddA_ptr, addr_add, Nat.zero_add, Nat.add_zero, fpureQ_k, fpureQ_nilA, fpureQ_addA, fpureQ_pureA, fpureQ_guardA, fpureQ_idxSlA, fpureQ_pickA, freadQ_loadA, freadQ_loadNA, freadQ_b2sA, freadQ_guardA, freadQ_slSlA, freadQ_k, fendA, fallA_one, fstillA_nil, fguardA_tt, fguardA_ff, fguardA_tf, fguardA_ft, fguardA_undef, fpickA_true, fpickA_false, fcondA_true, fcondA_false, binA_add, binA_sub, binA_mul, binA_eql, binA_neq, binA_lss, binA_leq, binA_gtr, binA_geq, unA_not, Bool.not_true, Bool.not_false, convA_int, extA_tuple, List.getElem?_toArray, List.getElem?_cons_zero, List.getElem?_cons_succ]
      refine loadNA_whole hB14 hq15' rfl ?_
      refine loadNA_whole hB3 k6 rfl ?_
      simp only [eqSup w0, z0, z1, lenSl_slice, lenStr_string, str_size, fpureA_some, fnilA_ptr, faddA_ptr, addr_add, Nat.zero_add, Nat.add_zero, fpureQ_k, fpureQ_nilA, fpureQ_addA, fpureQ_pureA, fpureQ_guardA, fpureQ_idxSlA, fpureQ_pickA, freadQ_loadA, freadQ_loadNA, freadQ_b2sA, freadQ_guardA, freadQ_slSlA, freadQ_k, fendA, fallA_one, fstillA_nil, fguardA_tt, fguardA_ff, fguardA_tf, fguardA_ft, fguardA_undef, fpickA_true, fpickA_false, fcondA_true, fcondA_false, binA_add, binA_sub, binA_mul, binA_eql, binA_neq, binA_lss, binA_leq, binA_gtr, binA_geq, unA_not, Bool.not_true, Bool.not_false, convA_int, extA_tuple, List.getElem?_toArray, List.getElem?_cons_zero, List.getElem?_cons_succ, retA_iff, oneOf_one]
      simp
    · have k : ((x.gen + 1) % 2 == 0) = false := by simp [hodd]
      obtain ⟨ch1, ch2⟩ := choose_even (x := x) (y := Y) (d := decB b) hgen.1 (by omega) hyg hys ho
      simp only [k, lenSl_slice, lenStr_string, str_size, fpureA_some, fnilA_ptr, faddA_ptr, addr_add, Nat.zero_add, Nat.add_zero, fpureQ_k, fpureQ_nilA, fpureQ_addA, fpureQ_pureA, fpureQ_guardA, fpureQ_idxSlA, fpureQ_pickA, freadQ_loadA, freadQ_loadNA, freadQ_b2sA, freadQ_guardA, freadQ_slSlA, freadQ_k, fendA, fallA_one, fstillA_nil, fguardA_tt, fguardA_ff, fguardA_tf, fguardA_ft, fguardA_undef, fpickA_true, fpickA_false, fcondA_true, fcondA_false, binA_add, binA_sub, binA_mul, binA_eql, binA_neq, binA_lss, binA_leq, binA_gtr, binA_geq, unA_not, Bool.not_true, Bool.not_false, convA_int, extA_tuple, List.getElem?_toArray, List.getElem?_cons_zero, List.getElem?_cons_succ]
      refine loadA_at (v := .int .i64 x.s.sec) hB hq110 (by rfl) ?_
      refine callA_of (Choose_spec x.s.sec (bx r10) (exb _ f11) hx1 hb) fun v12 h12 ⟨e, s12⟩ f12 => ?_
      subst e
      rw [dx, ch1]
      obtain ⟨k1, k2⟩ := keep1 s12
      simp only [chV, Sup.v, lenSl_slice, lenStr_string, str_size, fpureA_some, fnilA_ptr, faddA_ptr, addr_add, Nat.zero_add, Nat.add_zero, fpureQ_k, fpureQ_nilA, fpureQ_addA, fpureQ_pureA, fpureQ_guardA, fpureQ_idxSlA, fpureQ_pickA, freadQ_loadA, freadQ_loadNA, freadQ_b2sA, freadQ_guardA, freadQ_slSlA, freadQ_k, fendA, fallA_one, fstillA_nil, fguardA_tt, fguardA_ff, fguardA_tf, fguardA_ft, fguardA_undef, fpickA_true, fpickA_false, fcondA_true, fcondA_false, binA_add, binA_sub, binA_mul, binA_eql, binA_neq, binA_lss, binA_leq, binA_gtr, binA_geq, unA_not, Bool.not_true, Bool.not_false, convA_int, extA_tuple, List.getElem?_toArray, List.getElem?_cons_zero, List.getElem?_cons_succ, newA_iff]
      refine ⟨by simp [sup0, Sup.e, Shp.e], storeN0 (cs := sup0.e) f12.base (by simp) rfl rfl (hXc x) ?_⟩
      rw [put_new]
      have s13 : Step h12 (h12.new x.e 12) [] [h12.next] := (Step.refl h12 [] (by simp)).new _ _
      have hq13 : (h12.new x.e 12).blk h12.next = some x.e := by simp
      have hn13 : h12.next < (h12.new x.e 12).next := by simp
      have f13 : Fit w0 (h12.new x.e 12) := f12.new (by simpa using hXc x)
      have hB12 := f12.base
      generalize h12.new x.e 12 = h13 at s13 hq13 hn13 f13 ⊢
      have st13 := s12.after s13 (by simp)
      obtain ⟨k3, k4⟩ := keep1 st13
      try simp only [lenSl_slice, lenStr_string, str_size, fpureA_some, fnilA_ptr, faddA_ptr, addr_add, Nat.zero_add, Nat.add_zero, fpureQ_k, fpureQ_nilA, fpureQ_addA, fpureQ_pureA, fpureQ_guardA, fpureQ_idxSlA, fpureQ_pickA, freadQ_loadA, freadQ_loadNA, freadQ_b2sA, freadQ_guardA, freadQ_slSlA, freadQ_k, fendA, fallA_one, fstillA_nil, fguardA_tt, fguardA_ff, fguardA_tf, fguardA_ft, fguardA_undef, fpickA_true, fpickA_false, fcondA_true, fcondA_false, binA_add, binA_sub, binA_mul, binA_eql, binA_neq, binA_lss, binA_leq, binA_gtr, binA_geq, unA_not, Bool.not_true, Bool.not_false, convA_int, extA_tuple, List.getElem?_toArray, List.getElem?_cons_zero, List.getElem?_cons_succ]
      refine loadA_at (v := .int .i64 x.s.sec) hB k3 (by rfl) ?_
      refine callA_of (Choose_spec x.s.sec (bx st13) (bY st13) hx1 hy1) fun v14 h14 ⟨e, s14⟩ f14 => ?_
      subst e
      rw [dx, dy, ch2]
      have st14 := st13.trans s14
      have hq14' := (s14.keep _ hn13 (by simp)).1.trans hq13
      have n14 := s14.next
      simp only [chV, Sup.v, lenSl_slice, lenStr_string, str_size, fpureA_some, fnilA_ptr, faddA_ptr, addr_add, Nat.zero_add, Nat.add_zero, fpureQ_k, fpureQ_nilA, fpureQ_addA, fpureQ_pureA, fpureQ_guardA, fpureQ_idxSlA, fpureQ_pickA, freadQ_loadA, freadQ_loadNA, freadQ_b2sA, freadQ_guardA, freadQ_slSlA, freadQ_k, fendA, fallA_one, fstillA_nil, fguardA_tt, fguardA_ff, fguardA_tf, fguardA_ft, fguardA_undef, fpickA_true, fpickA_false, fcondA_true, fcondA_false, binA_add, binA_sub, binA_mul, binA_eql, binA_neq, binA_lss, binA_leq, binA_gtr, binA_geq, unA_not, Bool.not_true, Bool.not_false, convA_int, extA_tuple, List.getElem?_toArray, List.getElem?_cons_zero, List.getElem?_cons_succ, newA_iff]
      refine ⟨by simp [sup0, Sup.e, Shp.e], storeN0 (cs := sup0.e) f14.base (by simp) rfl rfl (hXc Y) ?_⟩
      rw [put_new]
      have s15 : Step h14 (h14.new Y.e 12) [] [h14.next] := (Step.refl h14 [] (by simp)).new _ _
      have hq15' : (h14.new Y.e 12).blk h14.next = some Y.e := by simp
      have hB14 := f14.base
      generalize h14.new Y.e 12 = h15 at s15 hq15' ⊢
      have hq135 := (s15.keep _ (show h12.next < h14.next by omega) (by simp)).1.trans hq14'
      obtain ⟨k5, k6⟩ := keep1 (st14.after s15 (by simp))
      have z0 : ((0 : Int) == 0) = true := rfl
      have z1 : ((1 : Int) == 1) = true := rfl
      refine loadNA_whole hB12 hq135 rfl ?_
      refine loadNA_whole hB k5 rfl ?_
      simp only [eqSup w0, z0, z1, lenSl_slice, lenStr_string, str_size, fpureA_some, fnilA_ptr, faddA_ptr, addr_add, Nat.zero_add, Nat.add_zero, fpureQ_k, fpureQ_nilA, fpureQ_addA, fpureQ_pureA, fpureQ_guardA, fpureQ_idxSlA, fpureQ_pickA, freadQ_loadA, freadQ_loadNA, freadQ_b2sA, freadQ_guardA, freadQ_slSlA, freadQ_k, fendA, fallA_one, fstillA_nil, fguardA_tt, fguardA_ff, fguardA_tf, fguardA_ft, fguardA_undef, fpickA_true, fpickA_false, fcondA_true, fcondA_false, binA_add, binA_sub, binA_mul, binA_eql, binA_neq, binA_lss, binA_leq, binA_gtr, binA_geq, unA_not, Bool.not_true, Bool.not_false, convA_int, extA_tuple, List.getElem?_toArray, List.getElem?_cons_zero, List.getElem?_cons_succ]
      refine loadNA_whole hB14 hq15' rfl ?_
      refine loadNA_whole hB3 k6 rfl ?_
      simp only [eqSup w0, z0, z1, lenSl_slice, lenStr_string, str_size, fpureA_some, fnilA_ptr, faddA_ptr, addr_add, Nat.zero_add, Nat.add_zero, fpureQ_k, fpureQ_nilA, fpureQ_addA, fpureQ_pureA, fpureQ_guardA, fpureQ_idxSlA, fpureQ_pickA, freadQ_loadA, freadQ_loadNA, freadQ_b2sA, freadQ_guardA, freadQ_slSlA, freadQ_k, fendA, fallA_one, fstillA_nil, fguardA_tt, fguardA_ff, fguardA_tf, fguardA_ft, fguardA_undef, fpickA_true, fpickA_false, fcondA_true, fcondA_false, binA_add, binA_sub, binA_mul, binA_eql, binA_neq, binA_lss, binA_leq, binA_gtr, binA_geq, unA_not, Bool.not_true, Bool.not_false, convA_int, extA_tuple, List.getElem?_toArray, List.getElem?_cons_zero, List.getElem?_cons_succ, retA_iff, oneOf_one]
      simp
end
end Go.Proofs.Ytihebhdgjnibfaa.Ah
