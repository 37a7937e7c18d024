/- Slot, Next, Choose: of both. -/
import Derived.Test.YtihebhdgjnibfaaYi
set_option linter.unusedVariables false
set_option linter.unusedSimpArgs false
namespace Go.Proofs.Ytihebhdgjnibfaa.Ah
open Go

/-- The better of what was chosen so far and this one. -/
def chStep (size : Int) (i : Nat) (st : Sup × Int) (d : Option Sup) : Sup × Int :=
  match d with
  | some x => if x.s.sec = size ∧ x.gen % 2 = (i : Int) ∧ (st.2 < 0 ∨ st.1.gen < x.gen) then (x, (i : Int)) else st
  | none => st
def choose (size : Int) (a b : Option Sup) : Sup × Int × Int :=
  if (chStep size 1 (chStep size 0 (sup0, -1) a) b).2 < 0 then (sup0, 0, 40) else ((chStep size 1 (chStep size 0 (sup0, -1) a) b).1, (chStep size 1 (chStep size 0 (sup0, -1) a) b).2, 0)
def chV (c : Sup × Int × Int) : Value := .tuple #[c.1.v, .int .i64 c.2.1, .int .i64 c.2.2]
def nextV (g : Int) : Value := if g = 18446744073709551615 then .tuple #[.int .u64 0, .int .i64 0, .int .i64 2] else .tuple #[.int .u64 (g + 1), .int .i64 ((g + 1) % 2), .int .i64 0]
section
variable {w0 : World} {h : Hp} {x : Sup}
theorem Slot_spec (g : Int) (hg : 0 ≤ g ∧ g ≤ 18446744073709551615) : ACalls prog w0 n_layout_Slot [.int .u64 g] h fun v h' => v = .int .i64 (g % 2) ∧ h' = h := by
  refine ACalls.of_fit (by simp) fun f => c_layout_Slot (by simp) ?_
  obtain ⟨n, rfl⟩ := Int.eq_ofNat_of_zero_le hg.1
  have e2 : binA .and (.int .u64 (n : Int)) (.int .u64 1) = some (.int .u64 ((n % 2 : Nat) : Int)) := by
    have := binA_and .u64 n 1
    rw [show ((1 : Nat) : Int) = 1 from rfl] at this
    rw [this, Nat.and_one_is_mod, Nat.mod_eq_of_lt (by simp only [IntKind.bits]; omega), IntWalk.u64_in _ (by omega)]
  have e3 : IntKind.i64.wrap ((n % 2 : Nat) : Int) = ((n % 2 : Nat) : Int) := IntWalk.i64_in _ (by omega)
  simp only [s_layout_Slot, e2, lenSl_slice, lenStr_string, str_size, fpureA_some, fnilA_ptr, faddA_ptr, addr_add, Nat.zero_add, Nat.add_zero, fpureQ_k, fpureQ_nilA, fpureQ_addA, fpureQ_pureA, fpureQ_guardA, fpureQ_idxSlA, fpureQ_pickA, freadQ_loadA, freadQ_loadNA, freadQ_b2sA, freadQ_guardA, freadQ_slSlA, freadQ_k, fendA, fallA_one, fstillA_nil, fguardA_tt, fguardA_ff, fguardA_tf, fguardA_ft, fguardA_undef, fpickA_true, fpickA_false, fcondA_true, fcondA_false, binA_add, binA_sub, binA_mul, binA_eql, binA_neq, binA_lss, binA_leq, binA_gtr, binA_geq, unA_not, Bool.not_true, Bool.not_false, convA_int, extA_tuple, List.getElem?_toArray, List.getElem?_cons_zero, List.getElem?_cons_succ, e3, retA_iff, oneOf_one]
  refine ⟨by simp, ?_, by trivial⟩
  congr 1
theorem rSlot_spec (g : Int) (hg : 0 ≤ g ∧ g ≤ 18446744073709551615) : ACalls prog w0 n_dedupref04_Slot [.int .u64 g] h fun v h' => v = .int .i64 (g % 2) ∧ h' = h := by
  refine ACalls.of_fit (by simp) fun f => c_dedupref04_Slot (by simp) ?_
  have e2 : g.tmod 2 = g % 2 := Int.tmod_eq_emod_of_nonneg (by omega)
  have e3 : IntKind.i64.wrap (g % 2) = g % 2 := IntWalk.i64_in _ (by omega)
  simp only [s_dedupref04_Slot]
  rw [binA_rem _ _ _ (by omega)]
  simp only [e2, lenSl_slice, lenStr_string, str_size, fpureA_some, fnilA_ptr, faddA_ptr, addr_add, Nat.zero_add, Nat.add_zero, fpureQ_k, fpureQ_nilA, fpureQ_addA, fpureQ_pureA, fpureQ_guardA, fpureQ_idxSlA, fpureQ_pickA, freadQ_loadA, freadQ_loadNA, freadQ_b2sA, freadQ_guardA, freadQ_slSlA, freadQ_k, fendA, fallA_one, fstillA_nil, fguardA_tt, fguardA_ff, fguardA_tf, fguardA_ft, fguardA_undef, fpickA_true, fpickA_false, fcondA_true, fcondA_false, binA_add, binA_sub, binA_mul, binA_eql, binA_neq, binA_lss, binA_leq, binA_gtr, binA_geq, unA_not, Bool.not_true, Bool.not_false, convA_int, extA_tuple, List.getElem?_toArray, List.getElem?_cons_zero, List.getElem?_cons_succ, e3, retA_iff, oneOf_one]
  simp
theorem Next_spec (i : x.In) : ACalls prog w0 n_layout_Next [x.v] h fun v h' => v = nextV x.gen ∧ Step h h' [] [] := by
  refine ACalls.of_fit (by simpa using x.junk) fun f => c_layout_Next (by simpa using x.junk) ?_
  simp only [s_layout_Next, Sup.v, boxA_agg, List.toList_toArray, lenSl_slice, lenStr_string, str_size, fpureA_some, fnilA_ptr, faddA_ptr, addr_add, Nat.zero_add, Nat.add_zero, fpureQ_k, fpureQ_nilA, fpureQ_addA, fpureQ_pureA, fpureQ_guardA, fpureQ_idxSlA, fpureQ_pickA, freadQ_loadA, freadQ_loadNA, freadQ_b2sA, freadQ_guardA, freadQ_slSlA, freadQ_k, fendA, fallA_one, fstillA_nil, fguardA_tt, fguardA_ff, fguardA_tf, fguardA_ft, fguardA_undef, fpickA_true, fpickA_false, fcondA_true, fcondA_false, binA_add, binA_sub, binA_mul, binA_eql, binA_neq, binA_lss, binA_leq, binA_gtr, binA_geq, unA_not, Bool.not_true, Bool.not_false, convA_int, extA_tuple, List.getElem?_toArray, List.getElem?_cons_zero, List.getElem?_cons_succ]
  have s1 : Step h (h.new x.e 12) [] [] := ((Step.refl h [] (by simp)).new _ _).drop
  have hq1 : (h.new x.e 12).blk h.next = some x.e := by simp
  have hB := f.base
  have hg := i.gen
  generalize h.new x.e 12 = h1 at s1 hq1 ⊢
  refine loadA_at (v := .int .u64 x.gen) hB hq1 (by rfl) ?_
  by_cases h1' : x.gen = 18446744073709551615
  · have c1 : (x.gen == 18446744073709551615) = true := by simp [h1']
    simp only [c1, lenSl_slice, lenStr_string, str_size, fpureA_some, fnilA_ptr, faddA_ptr, addr_add, Nat.zero_add, Nat.add_zero, fpureQ_k, fpureQ_nilA, fpureQ_addA, fpureQ_pureA, fpureQ_guardA, fpureQ_idxSlA, fpureQ_pickA, freadQ_loadA, freadQ_loadNA, freadQ_b2sA, freadQ_guardA, freadQ_slSlA, freadQ_k, fendA, fallA_one, fstillA_nil, fguardA_tt, fguardA_ff, fguardA_tf, fguardA_ft, fguardA_undef, fpickA_true, fpickA_false, fcondA_true, fcondA_false, binA_add, binA_sub, binA_mul, binA_eql, binA_neq, binA_lss, binA_leq, binA_gtr, binA_geq, unA_not, Bool.not_true, Bool.not_false, convA_int, extA_tuple, List.getElem?_toArray, List.getElem?_cons_zero, List.getElem?_cons_succ, retA_iff]
    exact ⟨by simp, by simp [nextV, h1'], s1⟩
  · have c1 : (x.gen == 18446744073709551615) = false := by simp [h1']
    have e1 : IntKind.u64.wrap (x.gen + 1) = x.gen + 1 := IntWalk.u64_in _ (by omega)
    simp only [c1, lenSl_slice, lenStr_string, str_size, fpureA_some, fnilA_ptr, faddA_ptr, addr_add, Nat.zero_add, Nat.add_zero, fpureQ_k, fpureQ_nilA, fpureQ_addA, fpureQ_pureA, fpureQ_guardA, fpureQ_idxSlA, fpureQ_pickA, freadQ_loadA, freadQ_loadNA, freadQ_b2sA, freadQ_guardA, freadQ_slSlA, freadQ_k, fendA, fallA_one, fstillA_nil, fguardA_tt, fguardA_ff, fguardA_tf, fguardA_ft, fguardA_undef, fpickA_true, fpickA_false, fcondA_true, fcondA_false, binA_add, binA_sub, binA_mul, binA_eql, binA_neq, binA_lss, binA_leq, binA_gtr, binA_geq, unA_not, Bool.not_true, Bool.not_false, convA_int, extA_tuple, List.getElem?_toArray, List.getElem?_cons_zero, List.getElem?_cons_succ]
    refine loadA_at (v := .int .u64 x.gen) hB hq1 (by rfl) ?_
    simp only [e1, lenSl_slice, lenStr_string, str_size, fpureA_some, fnilA_ptr, faddA_ptr, addr_add, Nat.zero_add, Nat.add_zero, fpureQ_k, fpureQ_nilA, fpureQ_addA, fpureQ_pureA, fpureQ_guardA, fpureQ_idxSlA, fpureQ_pickA, freadQ_loadA, freadQ_loadNA, freadQ_b2sA, freadQ_guardA, freadQ_slSlA, freadQ_k, fendA, fallA_one, fstillA_nil, fguardA_tt, fguardA_ff, fguardA_tf, fguardA_ft, fguardA_undef, fpickA_true, fpickA_false, fcondA_true, fcondA_false, binA_add, binA_sub, binA_mul, binA_eql, binA_neq, binA_lss, binA_leq, binA_gtr, binA_geq, unA_not, Bool.not_true, Bool.not_false, convA_int, extA_tuple, List.getElem?_toArray, List.getElem?_cons_zero, List.getElem?_cons_succ]
    refine loadA_at (v := .int .u64 x.gen) hB hq1 (by rfl) ?_
    simp only [e1, lenSl_slice, lenStr_string, str_size, fpureA_some, fnilA_ptr, faddA_ptr, addr_add, Nat.zero_add, Nat.add_zero, fpureQ_k, fpureQ_nilA, fpureQ_addA, fpureQ_pureA, fpureQ_guardA, fpureQ_idxSlA, fpureQ_pickA, freadQ_loadA, freadQ_loadNA, freadQ_b2sA, freadQ_guardA, freadQ_slSlA, freadQ_k, fendA, fallA_one, fstillA_nil, fguardA_tt, fguardA_ff, fguardA_tf, fguardA_ft, fguardA_undef, fpickA_true, fpickA_false, fcondA_true, fcondA_false, binA_add, binA_sub, binA_mul, binA_eql, binA_neq, binA_lss, binA_leq, binA_gtr, binA_geq, unA_not, Bool.not_true, Bool.not_false, convA_int, extA_tuple, List.getElem?_toArray, List.getElem?_cons_zero, List.getElem?_cons_succ]
    refine callA_of (Slot_spec (x.gen + 1) (by omega)) fun v h2 ⟨e, e2⟩ f2 => ?_
    subst e e2
    simp only [stillA_iff, allA_one, sameQ_loadA, lenSl_slice, lenStr_string, str_size, fpureA_some, fnilA_ptr, faddA_ptr, addr_add, Nat.zero_add, Nat.add_zero, fpureQ_k, fpureQ_nilA, fpureQ_addA, fpureQ_pureA, fpureQ_guardA, fpureQ_idxSlA, fpureQ_pickA, freadQ_loadA, freadQ_loadNA, freadQ_b2sA, freadQ_guardA, freadQ_slSlA, freadQ_k, fendA, fallA_one, fstillA_nil, fguardA_tt, fguardA_ff, fguardA_tf, fguardA_ft, fguardA_undef, fpickA_true, fpickA_false, fcondA_true, fcondA_false, binA_add, binA_sub, binA_mul, binA_eql, binA_neq, binA_lss, binA_leq, binA_gtr, binA_geq, unA_not, Bool.not_true, Bool.not_false, convA_int, extA_tuple, List.getElem?_toArray, List.getElem?_cons_zero, List.getElem?_cons_succ, retA_iff]
    exact ⟨loadA_at (v := .int .u64 x.gen) hB hq1 (by rfl) rfl, by simp, by simp [nextV, h1'], s1⟩
theorem rNext_spec (i : x.In) : ACalls prog w0 n_dedupref04_Next [x.v] h fun v h' => v = nextV x.gen ∧ Step h h' [] [] := by
  refine ACalls.of_fit (by simpa using x.junk) fun f => c_dedupref04_Next (by simpa using x.junk) ?_
  simp only [s_dedupref04_Next, Sup.v, boxA_agg, List.toList_toArray, lenSl_slice, lenStr_string, str_size, fpureA_some, fnilA_ptr, faddA_ptr, addr_add, Nat.zero_add, Nat.add_zero, fpureQ_k, fpureQ_nilA, fpureQ_addA, fpureQ_pureA, fpureQ_guardA, fpureQ_idxSlA, fpureQ_pickA, freadQ_loadA, freadQ_loadNA, freadQ_b2sA, freadQ_guardA, freadQ_slSlA, freadQ_k, fendA, fallA_one, fstillA_nil, fguardA_tt, fguardA_ff, fguardA_tf, fguardA_ft, fguardA_undef, fpickA_true, fpickA_false, fcondA_true, fcondA_false, binA_add, binA_sub, binA_mul, binA_eql, binA_neq, binA_lss, binA_leq, binA_gtr, binA_geq, unA_not, Bool.not_true, Bool.not_false, convA_int, extA_tuple, List.getElem?_toArray, List.getElem?_cons_zero, List.getElem?_cons_succ]
  have s1 : Step h (h.new x.e 12) [] [] := ((Step.refl h [] (by simp)).new _ _).drop
  have hq1 : (h.new x.e 12).blk h.next = some x.e := by simp
  have hB := f.base
  have hg := i.gen
  generalize h.new x.e 12 = h1 at s1 hq1 ⊢
  refine loadA_at (v := .int .u64 x.gen) hB hq1 (by rfl) ?_
  by_cases h1' : x.gen = 18446744073709551615
  · have c1 : (x.gen == 18446744073709551615) = true := by simp [h1']
    simp only [c1, lenSl_slice, lenStr_string, str_size, fpureA_some, fnilA_ptr, faddA_ptr, addr_add, Nat.zero_add, Nat.add_zero, fpureQ_k, fpureQ_nilA, fpureQ_addA, fpureQ_pureA, fpureQ_guardA, fpureQ_idxSlA, fpureQ_pickA, freadQ_loadA, freadQ_loadNA, freadQ_b2sA, freadQ_guardA, freadQ_slSlA, freadQ_k, fendA, fallA_one, fstillA_nil, fguardA_tt, fguardA_ff, fguardA_tf, fguardA_ft, fguardA_undef, fpickA_true, fpickA_false, fcondA_true, fcondA_false, binA_add, binA_sub, binA_mul, binA_eql, binA_neq, binA_lss, binA_leq, binA_gtr, binA_geq, unA_not, Bool.not_true, Bool.not_false, convA_int, extA_tuple, List.getElem?_toArray, List.getElem?_cons_zero, List.getElem?_cons_succ, retA_iff]
    exact ⟨by simp, by simp [nextV, h1'], s1⟩
  · have c1 : (x.gen == 18446744073709551615) = false := by simp [h1']
    have e1 : IntKind.u64.wrap (x.gen + 1) = x.gen + 1 := IntWalk.u64_in _ (by omega)
    simp only [c1, lenSl_slice, lenStr_string, str_size, fpureA_some, fnilA_ptr, faddA_ptr, addr_add, Nat.zero_add, Nat.add_zero, fpureQ_k, fpureQ_nilA, fpureQ_addA, fpureQ_pureA, fpureQ_guardA, fpureQ_idxSlA, fpureQ_pickA, freadQ_loadA, freadQ_loadNA, freadQ_b2sA, freadQ_guardA, freadQ_slSlA, freadQ_k, fendA, fallA_one, fstillA_nil, fguardA_tt, fguardA_ff, fguardA_tf, fguardA_ft, fguardA_undef, fpickA_true, fpickA_false, fcondA_true, fcondA_false, binA_add, binA_sub, binA_mul, binA_eql, binA_neq, binA_lss, binA_leq, binA_gtr, binA_geq, unA_not, Bool.not_true, Bool.not_false, convA_int, extA_tuple, List.getElem?_toArray, List.getElem?_cons_zero, List.getElem?_cons_succ]
    refine loadA_at (v := .int .u64 x.gen) hB hq1 (by rfl) ?_
    simp only [e1, lenSl_slice, lenStr_string, str_size, fpureA_some, fnilA_ptr, faddA_ptr, addr_add, Nat.zero_add, Nat.add_zero, fpureQ_k, fpureQ_nilA, fpureQ_addA, fpureQ_pureA, fpureQ_guardA, fpureQ_idxSlA, fpureQ_pickA, freadQ_loadA, freadQ_loadNA, freadQ_b2sA, freadQ_guardA, freadQ_slSlA, freadQ_k, fendA, fallA_one, fstillA_nil, fguardA_tt, fguardA_ff, fguardA_tf, fguardA_ft, fguardA_undef, fpickA_true, fpickA_false, fcondA_true, fcondA_false, binA_add, binA_sub, binA_mul, binA_eql, binA_neq, binA_lss, binA_leq, binA_gtr, binA_geq, unA_not, Bool.not_true, Bool.not_false, convA_int, extA_tuple, List.getElem?_toArray, List.getElem?_cons_zero, List.getElem?_cons_succ]
    refine loadA_at (v := .int .u64 x.gen) hB hq1 (by rfl) ?_
    simp only [e1, lenSl_slice, lenStr_string, str_size, fpureA_some, fnilA_ptr, faddA_ptr, addr_add, Nat.zero_add, Nat.add_zero, fpureQ_k, fpureQ_nilA, fpureQ_addA, fpureQ_pureA, fpureQ_guardA, fpureQ_idxSlA, fpureQ_pickA, freadQ_loadA, freadQ_loadNA, freadQ_b2sA, freadQ_guardA, freadQ_slSlA, freadQ_k, fendA, fallA_one, fstillA_nil, fguardA_tt, fguardA_ff, fguardA_tf, fguardA_ft, fguardA_undef, fpickA_true, fpickA_false, fcondA_true, fcondA_false, binA_add, binA_sub, binA_mul, binA_eql, binA_neq, binA_lss, binA_leq, binA_gtr, binA_geq, unA_not, Bool.not_true, Bool.not_false, convA_int, extA_tuple, List.getElem?_toArray, List.getElem?_cons_zero, List.getElem?_cons_succ]
    refine callA_of (rSlot_spec (x.gen + 1) (by omega)) fun v h2 ⟨e, e2⟩ f2 => ?_
    subst e e2
    simp only [stillA_iff, allA_one, sameQ_loadA, lenSl_slice, lenStr_string, str_size, fpureA_some, fnilA_ptr, faddA_ptr, addr_add, Nat.zero_add, Nat.add_zero, fpureQ_k, fpureQ_nilA, fpureQ_addA, fpureQ_pureA, fpureQ_guardA, fpureQ_idxSlA, fpureQ_pickA, freadQ_loadA, freadQ_loadNA, freadQ_b2sA, freadQ_guardA, freadQ_slSlA, freadQ_k, fendA, fallA_one, fstillA_nil, fguardA_tt, fguardA_ff, fguardA_tf, fguardA_ft, fguardA_undef, fpickA_true, fpickA_false, fcondA_true, fcondA_false, binA_add, binA_sub, binA_mul, binA_eql, binA_neq, binA_lss, binA_leq, binA_gtr, binA_geq, unA_not, Bool.not_true, Bool.not_false, convA_int, extA_tuple, List.getElem?_toArray, List.getElem?_cons_zero, List.getElem?_cons_succ, retA_iff]
    exact ⟨loadA_at (v := .int .u64 x.gen) hB hq1 (by rfl) rfl, by simp, by simp [nextV, h1'], s1⟩
theorem sup0_zero : [(Value.int .u64 0), .int .i64 0, .int .i64 0, .int .i64 0, .int .i64 0, .int .i64 0, .int .i64 0, .int .i64 0, .int .i64 0, .int .u64 0, .int .i64 0, .bool false] = sup0.e := rfl
theorem decV_none {l : List UInt8} (h : decB l = none) : decV l = .tuple #[.agg sup0.e.toArray, .int .i64 40] := by simp [decV, h, Sup.v]
theorem decV_some {l : List UInt8} {x : Sup} (h : decB l = some x) : decV l = .tuple #[.agg x.e.toArray, .int .i64 0] := by simp [decV, h, Sup.v]
theorem choose_round {k0 : Value → Value → Value → Hp → Prop} {size : Int} {x6 : Value} {q9 q17 m : Nat} {va vb v : Value} {l : List UInt8} {best : Sup} {at_ : Int} (i : Nat) (hv : [va, vb][i]? = some v) (hi : i < 2) (vl : Bs w0 h v l) (hl : l.length ≤ 1000000000)
    (b9 : h.blk q9 = some best.e) (b17 : h.blk q17 = some [va, vb]) (B9 : w0.heap.size ≤ q9 ∧ q9 < h.next) (B17 : w0.heap.size ≤ q17 ∧ q17 < h.next) (hne : q17 ≠ q9)
    (hK : ∀ h', h'.blk q9 = some (chStep size i (best, at_) (decB l)).1.e → h'.blk q17 = some [va, vb] → Step h h' [q9] [q9] → layout_Choose_L1 prog w0 k0 m (.int .i64 size) x6 (.pointer (some ⟨q9, 0, none⟩)) (.int .i64 (chStep size i (best, at_) (decB l)).2) (.slice (some ⟨q17, 0, none⟩) 2 2) (.int .i64 2) (.int .i64 ((i + 1 : Nat) : Int)) h') :
    layout_Choose_L1 prog w0 k0 (m + 1) (.int .i64 size) x6 (.pointer (some ⟨q9, 0, none⟩)) (.int .i64 at_) (.slice (some ⟨q17, 0, none⟩) 2 2) (.int .i64 2) (.int .i64 (i : Int)) h := by
  have c1 : decide ((i : Int) < 2) = true := decide_eq_true (by omega)
  have e5 : IntKind.i64.wrap ((i : Int) + 1) = ((i + 1 : Nat) : Int) := by rw [IntWalk.i64_in _ (by omega)]; simp
  rw [layout_Choose_L1]
  simp only [layout_Choose_B1, lenSl_slice, lenStr_string, str_size, fpureA_some, fnilA_ptr, faddA_ptr, addr_add, Nat.zero_add, Nat.add_zero, fpureQ_k, fpureQ_nilA, fpureQ_addA, fpureQ_pureA, fpureQ_guardA, fpureQ_idxSlA, fpureQ_pickA, freadQ_loadA, freadQ_loadNA, freadQ_b2sA, freadQ_guardA, freadQ_slSlA, freadQ_k, fendA, fallA_one, fstillA_nil, fguardA_tt, fguardA_ff, fguardA_tf, fguardA_ft, fguardA_undef, fpickA_true, fpickA_false, fcondA_true, fcondA_false, binA_add, binA_sub, binA_mul, binA_eql, binA_neq, binA_lss, binA_leq, binA_gtr, binA_geq, unA_not, Bool.not_true, Bool.not_false, convA_int, extA_tuple, List.getElem?_toArray, List.getElem?_cons_zero, List.getElem?_cons_succ, c1, sup0_zero]
  rw [idxSlA_iff]
  refine ⟨by omega, by omega, ?_⟩
  rw [addr_add, Int.toNat_natCast, Nat.mul_one, Nat.zero_add]
  refine loadA_at B17.1 b17 hv ?_
  refine callA_of (DecodeSuper_spec vl hl) fun v1 h1 ⟨e, s1⟩ f1 => ?_
  have n1 := s1.next
  have b91 := (s1.keep q9 B9.2 (by simp)).1.trans b9
  have b171 := (s1.keep q17 B17.2 (by simp)).1.trans b17
  -- nothing is chosen
  have idle : ∀ {h' : Hp}, Step h h' [] [] → (chStep size i (best, at_) (decB l)) = (best, at_) → layout_Choose_L1 prog w0 k0 m (.int .i64 size) x6 (.pointer (some ⟨q9, 0, none⟩)) (.int .i64 at_) (.slice (some ⟨q17, 0, none⟩) 2 2) (.int .i64 2) (.int .i64 ((i + 1 : Nat) : Int)) h' := by
    intro h' st hc
    have := hK h'
    rw [hc] at this
    exact this ((st.keep q9 B9.2 (by simp)).1.trans b9) ((st.keep q17 B17.2 (by simp)).1.trans b17) (st.idle [q9] (by simpa using B9.2))
  cases hd : decB l with
  | none =>
    rw [decV_none hd] at e
    subst e
    have z : ((40 : Int) != 0) = true := by decide
    simp only [lenSl_slice, lenStr_string, str_size, fpureA_some, fnilA_ptr, faddA_ptr, addr_add, Nat.zero_add, Nat.add_zero, fpureQ_k, fpureQ_nilA, fpureQ_addA, fpureQ_pureA, fpureQ_guardA, fpureQ_idxSlA, fpureQ_pickA, freadQ_loadA, freadQ_loadNA, freadQ_b2sA, freadQ_guardA, freadQ_slSlA, freadQ_k, fendA, fallA_one, fstillA_nil, fguardA_tt, fguardA_ff, fguardA_tf, fguardA_ft, fguardA_undef, fpickA_true, fpickA_false, fcondA_true, fcondA_false, binA_add, binA_sub, binA_mul, binA_eql, binA_neq, binA_lss, binA_leq, binA_gtr, binA_geq, unA_not, Bool.not_true, Bool.not_false, convA_int, extA_tuple, List.getElem?_toArray, List.getElem?_cons_zero, List.getElem?_cons_succ, newA_iff]
    refine ⟨by simp [sup0, Sup.e, Shp.e], storeN0 (cs := sup0.e) f1.base (by simp) rfl rfl (by rfl) ?_⟩
    simp only [z, lenSl_slice, lenStr_string, str_size, fpureA_some, fnilA_ptr, faddA_ptr, addr_add, Nat.zero_add, Nat.add_zero, fpureQ_k, fpureQ_nilA, fpureQ_addA, fpureQ_pureA, fpureQ_guardA, fpureQ_idxSlA, fpureQ_pickA, freadQ_loadA, freadQ_loadNA, freadQ_b2sA, freadQ_guardA, freadQ_slSlA, freadQ_k, fendA, fallA_one, fstillA_nil, fguardA_tt, fguardA_ff, fguardA_tf, fguardA_ft, fguardA_undef, fpickA_true, fpickA_false, fcondA_true, fcondA_false, binA_add, binA_sub, binA_mul, binA_eql, binA_neq, binA_lss, binA_leq, binA_gtr, binA_geq, unA_not, Bool.not_true, Bool.not_false, convA_int, extA_tuple, List.getElem?_toArray, List.getElem?_cons_zero, List.getElem?_cons_succ, e5]
    refine idle ?_ (by rw [hd]; rfl)
    exact (s1.after ((Step.refl h1 [] (by simp)).new _ _) (by simp)).after ((Step.refl _ [h1.next] (by simp)).put (p := h1.next) (by simp) _) (by simp; omega)
  | some x =>
    have hin := (dec_some hd).1
    have hgen := hin.gen
    rw [decV_some hd] at e
    subst e
    simp only [lenSl_slice, lenStr_string, str_size, fpureA_some, fnilA_ptr, faddA_ptr, addr_add, Nat.zero_add, Nat.add_zero, fpureQ_k, fpureQ_nilA, fpureQ_addA, fpureQ_pureA, fpureQ_guardA, fpureQ_idxSlA, fpureQ_pickA, freadQ_loadA, freadQ_loadNA, freadQ_b2sA, freadQ_guardA, freadQ_slSlA, freadQ_k, fendA, fallA_one, fstillA_nil, fguardA_tt, fguardA_ff, fguardA_tf, fguardA_ft, fguardA_undef, fpickA_true, fpickA_false, fcondA_true, fcondA_false, binA_add, binA_sub, binA_mul, binA_eql, binA_neq, binA_lss, binA_leq, binA_gtr, binA_geq, unA_not, Bool.not_true, Bool.not_false, convA_int, extA_tuple, List.getElem?_toArray, List.getElem?_cons_zero, List.getElem?_cons_succ, newA_iff]
    refine ⟨by simp [sup0, Sup.e, Shp.e], storeN0 (cs := sup0.e) f1.base (by simp) rfl rfl (by rfl) ?_⟩
    rw [put_new]
    have s2 : Step h1 (h1.new x.e 12) [] [h1.next] := (Step.refl h1 [] (by simp)).new _ _
    have hq2 : (h1.new x.e 12).blk h1.next = some x.e := by simp
    have hB2 := f1.base
    generalize h1.new x.e 12 = h2 at s2 hq2 ⊢
    have st2 := s1.after s2 (by simp)
    have n2 := s2.next
    have b92 := (s2.keep q9 (by omega) (by simp)).1.trans b91
    have b172 := (s2.keep q17 (by omega) (by simp)).1.trans b171
    simp only [bne_self_eq_false, lenSl_slice, lenStr_string, str_size, fpureA_some, fnilA_ptr, faddA_ptr, addr_add, Nat.zero_add, Nat.add_zero, fpureQ_k, fpureQ_nilA, fpureQ_addA, fpureQ_pureA, fpureQ_guardA, fpureQ_idxSlA, fpureQ_pickA, freadQ_loadA, freadQ_loadNA, freadQ_b2sA, freadQ_guardA, freadQ_slSlA, freadQ_k, fendA, fallA_one, fstillA_nil, fguardA_tt, fguardA_ff, fguardA_tf, fguardA_ft, fguardA_undef, fpickA_true, fpickA_false, fcondA_true, fcondA_false, binA_add, binA_sub, binA_mul, binA_eql, binA_neq, binA_lss, binA_leq, binA_gtr, binA_geq, unA_not, Bool.not_true, Bool.not_false, convA_int, extA_tuple, List.getElem?_toArray, List.getElem?_cons_zero, List.getElem?_cons_succ]
    refine loadA_at (v := .int .i64 x.s.sec) hB2 hq2 (by rfl) ?_
    by_cases k1 : x.s.sec = size
    · have c2 : (x.s.sec != size) = false := by simp [k1]
      simp only [c2, lenSl_slice, lenStr_string, str_size, fpureA_some, fnilA_ptr, faddA_ptr, addr_add, Nat.zero_add, Nat.add_zero, fpureQ_k, fpureQ_nilA, fpureQ_addA, fpureQ_pureA, fpureQ_guardA, fpureQ_idxSlA, fpureQ_pickA, freadQ_loadA, freadQ_loadNA, freadQ_b2sA, freadQ_guardA, freadQ_slSlA, freadQ_k, fendA, fallA_one, fstillA_nil, fguardA_tt, fguardA_ff, fguardA_tf, fguardA_ft, fguardA_undef, fpickA_true, fpickA_false, fcondA_true, fcondA_false, binA_add, binA_sub, binA_mul, binA_eql, binA_neq, binA_lss, binA_leq, binA_gtr, binA_geq, unA_not, Bool.not_true, Bool.not_false, convA_int, extA_tuple, List.getElem?_toArray, List.getElem?_cons_zero, List.getElem?_cons_succ]
      refine loadA_at (v := .int .u64 x.gen) hB2 hq2 (by rfl) ?_
      refine callA_of (Slot_spec x.gen hgen) fun v3 h3 ⟨e, e3⟩ f3 => ?_
      subst e
      have e3' := e3.symm
      subst e3'
      by_cases k2 : x.gen % 2 = (i : Int)
      · have c3 : (x.gen % 2 != (i : Int)) = false := by simp [k2]
        simp only [c3, lenSl_slice, lenStr_string, str_size, fpureA_some, fnilA_ptr, faddA_ptr, addr_add, Nat.zero_add, Nat.add_zero, fpureQ_k, fpureQ_nilA, fpureQ_addA, fpureQ_pureA, fpureQ_guardA, fpureQ_idxSlA, fpureQ_pickA, freadQ_loadA, freadQ_loadNA, freadQ_b2sA, freadQ_guardA, freadQ_slSlA, freadQ_k, fendA, fallA_one, fstillA_nil, fguardA_tt, fguardA_ff, fguardA_tf, fguardA_ft, fguardA_undef, fpickA_true, fpickA_false, fcondA_true, fcondA_false, binA_add, binA_sub, binA_mul, binA_eql, binA_neq, binA_lss, binA_leq, binA_gtr, binA_geq, unA_not, Bool.not_true, Bool.not_false, convA_int, extA_tuple, List.getElem?_toArray, List.getElem?_cons_zero, List.getElem?_cons_succ]
        have take : (st : Step h h2 [] []) → (at_ < 0 ∨ best.gen < x.gen) → (loadNA w0 (.pointer (some ⟨h1.next, 0, none⟩)) 12 fun v54 => storeNA w0 (.pointer (some ⟨q9, 0, none⟩)) v54 12 fun _ => layout_Choose_L1 prog w0 k0 m (.int .i64 size) x6 (.pointer (some ⟨q9, 0, none⟩)) (.int .i64 (i : Int)) (.slice (some ⟨q17, 0, none⟩) 2 2) (.int .i64 2) (.int .i64 ((i + 1 : Nat) : Int))) h2 := by
          intro st hb
          have hch : chStep size i (best, at_) (decB l) = (x, (i : Int)) := by
            rw [hd]
            simp only [chStep]
            rw [if_pos ⟨k1, k2, hb⟩]
          refine loadNA_whole hB2 hq2 rfl ?_
          refine storeN0 B9.1 b92 rfl rfl (by rfl) ?_
          have := hK (h2.put q9 x.e)
          rw [hch] at this
          exact this (by simp) (by simp [hne]; exact b172) ((st.idle [q9] (by simpa using B9.2)).put (p := q9) (by simp) _)
        by_cases k3 : at_ < 0
        · have c4 : decide (at_ < 0) = true := decide_eq_true k3
          simp only [c4, lenSl_slice, lenStr_string, str_size, fpureA_some, fnilA_ptr, faddA_ptr, addr_add, Nat.zero_add, Nat.add_zero, fpureQ_k, fpureQ_nilA, fpureQ_addA, fpureQ_pureA, fpureQ_guardA, fpureQ_idxSlA, fpureQ_pickA, freadQ_loadA, freadQ_loadNA, freadQ_b2sA, freadQ_guardA, freadQ_slSlA, freadQ_k, fendA, fallA_one, fstillA_nil, fguardA_tt, fguardA_ff, fguardA_tf, fguardA_ft, fguardA_undef, fpickA_true, fpickA_false, fcondA_true, fcondA_false, binA_add, binA_sub, binA_mul, binA_eql, binA_neq, binA_lss, binA_leq, binA_gtr, binA_geq, unA_not, Bool.not_true, Bool.not_false, convA_int, extA_tuple, List.getElem?_toArray, List.getElem?_cons_zero, List.getElem?_cons_succ, e5]
          exact take st2 (.inl k3)
        · have c4 : decide (at_ < 0) = false := decide_eq_false k3
          simp only [c4, lenSl_slice, lenStr_string, str_size, fpureA_some, fnilA_ptr, faddA_ptr, addr_add, Nat.zero_add, Nat.add_zero, fpureQ_k, fpureQ_nilA, fpureQ_addA, fpureQ_pureA, fpureQ_guardA, fpureQ_idxSlA, fpureQ_pickA, freadQ_loadA, freadQ_loadNA, freadQ_b2sA, freadQ_guardA, freadQ_slSlA, freadQ_k, fendA, fallA_one, fstillA_nil, fguardA_tt, fguardA_ff, fguardA_tf, fguardA_ft, fguardA_undef, fpickA_true, fpickA_false, fcondA_true, fcondA_false, binA_add, binA_sub, binA_mul, binA_eql, binA_neq, binA_lss, binA_leq, binA_gtr, binA_geq, unA_not, Bool.not_true, Bool.not_false, convA_int, extA_tuple, List.getElem?_toArray, List.getElem?_cons_zero, List.getElem?_cons_succ]
          refine loadA_at (v := .int .u64 x.gen) hB2 hq2 (by rfl) ?_
          refine loadA_at (v := .int .u64 best.gen) B9.1 b92 (by rfl) ?_
          by_cases k4 : best.gen < x.gen
          · have c5 : decide (best.gen < x.gen) = true := decide_eq_true k4
            simp only [c5, lenSl_slice, lenStr_string, str_size, fpureA_some, fnilA_ptr, faddA_ptr, addr_add, Nat.zero_add, Nat.add_zero, fpureQ_k, fpureQ_nilA, fpureQ_addA, fpureQ_pureA, fpureQ_guardA, fpureQ_idxSlA, fpureQ_pickA, freadQ_loadA, freadQ_loadNA, freadQ_b2sA, freadQ_guardA, freadQ_slSlA, freadQ_k, fendA, fallA_one, fstillA_nil, fguardA_tt, fguardA_ff, fguardA_tf, fguardA_ft, fguardA_undef, fpickA_true, fpickA_false, fcondA_true, fcondA_false, binA_add, binA_sub, binA_mul, binA_eql, binA_neq, binA_lss, binA_leq, binA_gtr, binA_geq, unA_not, Bool.not_true, Bool.not_false, convA_int, extA_tuple, List.getElem?_toArray, List.getElem?_cons_zero, List.getElem?_cons_succ, e5]
            exact take st2 (.inr k4)
          · have c5 : decide (best.gen < x.gen) = false := decide_eq_false k4
            simp only [c5, lenSl_slice, lenStr_string, str_size, fpureA_some, fnilA_ptr, faddA_ptr, addr_add, Nat.zero_add, Nat.add_zero, fpureQ_k, fpureQ_nilA, fpureQ_addA, fpureQ_pureA, fpureQ_guardA, fpureQ_idxSlA, fpureQ_pickA, freadQ_loadA, freadQ_loadNA, freadQ_b2sA, freadQ_guardA, freadQ_slSlA, freadQ_k, fendA, fallA_one, fstillA_nil, fguardA_tt, fguardA_ff, fguardA_tf, fguardA_ft, fguardA_undef, fpickA_true, fpickA_false, fcondA_true, fcondA_false, binA_add, binA_sub, binA_mul, binA_eql, binA_neq, binA_lss, binA_leq, binA_gtr, binA_geq, unA_not, Bool.not_true, Bool.not_false, convA_int, extA_tuple, List.getElem?_toArray, List.getElem?_cons_zero, List.getElem?_cons_succ, e5]
            refine idle st2 ?_
            rw [hd]
            simp only [chStep]
            rw [if_neg fun q => by rcases q.2.2 with q | q <;> omega]
      · have c3 : (x.gen % 2 != (i : Int)) = true := by simp [k2]
        simp only [c3, lenSl_slice, lenStr_string, str_size, fpureA_some, fnilA_ptr, faddA_ptr, addr_add, Nat.zero_add, Nat.add_zero, fpureQ_k, fpureQ_nilA, fpureQ_addA, fpureQ_pureA, fpureQ_guardA, fpureQ_idxSlA, fpureQ_pickA, freadQ_loadA, freadQ_loadNA, freadQ_b2sA, freadQ_guardA, freadQ_slSlA, freadQ_k, fendA, fallA_one, fstillA_nil, fguardA_tt, fguardA_ff, fguardA_tf, fguardA_ft, fguardA_undef, fpickA_true, fpickA_false, fcondA_true, fcondA_false, binA_add, binA_sub, binA_mul, binA_eql, binA_neq, binA_lss, binA_leq, binA_gtr, binA_geq, unA_not, Bool.not_true, Bool.not_false, convA_int, extA_tuple, List.getElem?_toArray, List.getElem?_cons_zero, List.getElem?_cons_succ, e5]
        refine idle st2 ?_
        rw [hd]
        simp only [chStep]
        rw [if_neg fun q => k2 q.2.1]
    · have c2 : (x.s.sec != size) = true := by simp [k1]
      simp only [c2, lenSl_slice, lenStr_string, str_size, fpureA_some, fnilA_ptr, faddA_ptr, addr_add, Nat.zero_add, Nat.add_zero, fpureQ_k, fpureQ_nilA, fpureQ_addA, fpureQ_pureA, fpureQ_guardA, fpureQ_idxSlA, fpureQ_pickA, freadQ_loadA, freadQ_loadNA, freadQ_b2sA, freadQ_guardA, freadQ_slSlA, freadQ_k, fendA, fallA_one, fstillA_nil, fguardA_tt, fguardA_ff, fguardA_tf, fguardA_ft, fguardA_undef, fpickA_true, fpickA_false, fcondA_true, fcondA_false, binA_add, binA_sub, binA_mul, binA_eql, binA_neq, binA_lss, binA_leq, binA_gtr, binA_geq, unA_not, Bool.not_true, Bool.not_false, convA_int, extA_tuple, List.getElem?_toArray, List.getElem?_cons_zero, List.getElem?_cons_succ, e5]
      refine idle st2 ?_
      rw [hd]
      simp only [chStep]
      rw [if_neg fun q => k1 q.1]
theorem rchoose_round {k0 : Value → Value → Value → Hp → Prop} {size : Int} {x6 : Value} {q9 q17 m : Nat} {va vb v : Value} {l : List UInt8} {best : Sup} {at_ : Int} (i : Nat) (hv : [va, vb][i]? = some v) (hi : i < 2) (vl : Bs w0 h v l) (hl : l.length ≤ 1000000000)
    (b9 : h.blk q9 = some best.e) (b17 : h.blk q17 = some [va, vb]) (B9 : w0.heap.size ≤ q9 ∧ q9 < h.next) (B17 : w0.heap.size ≤ q17 ∧ q17 < h.next) (hne : q17 ≠ q9)
    (hK : ∀ h', h'.blk q9 = some (chStep size i (best, at_) (decB l)).1.e → h'.blk q17 = some [va, vb] → Step h h' [q9] [q9] → dedupref04_Choose_L1 prog w0 k0 m (.int .i64 size) x6 (.pointer (some ⟨q9, 0, none⟩)) (.int .i64 (chStep size i (best, at_) (decB l)).2) (.slice (some ⟨q17, 0, none⟩) 2 2) (.int .i64 2) (.int .i64 ((i + 1 : Nat) : Int)) h') :
    dedupref04_Choose_L1 prog w0 k0 (m + 1) (.int .i64 size) x6 (.pointer (some ⟨q9, 0, none⟩)) (.int .i64 at_) (.slice (some ⟨q17, 0, none⟩) 2 2) (.int .i64 2) (.int .i64 (i : Int)) h := by
  have c1 : decide ((i : Int) < 2) = true := decide_eq_true (by omega)
  have e5 : IntKind.i64.wrap ((i : Int) + 1) = ((i + 1 : Nat) : Int) := by rw [IntWalk.i64_in _ (by omega)]; simp
  rw [dedupref04_Choose_L1]
  simp only [dedupref04_Choose_B1, lenSl_slice, lenStr_string, str_size, fpureA_some, fnilA_ptr, faddA_ptr, addr_add, Nat.zero_add, Nat.add_zero, fpureQ_k, fpureQ_nilA, fpureQ_addA, fpureQ_pureA, fpureQ_guardA, fpureQ_idxSlA, fpureQ_pickA, freadQ_loadA, freadQ_loadNA, freadQ_b2sA, freadQ_guardA, freadQ_slSlA, freadQ_k, fendA, fallA_one, fstillA_nil, fguardA_tt, fguardA_ff, fguardA_tf, fguardA_ft, fguardA_undef, fpickA_true, fpickA_false, fcondA_true, fcondA_false, binA_add, binA_sub, binA_mul, binA_eql, binA_neq, binA_lss, binA_leq, binA_gtr, binA_geq, unA_not, Bool.not_true, Bool.not_false, convA_int, extA_tuple, List.getElem?_toArray, List.getElem?_cons_zero, List.getElem?_cons_succ, c1, sup0_zero]
  rw [idxSlA_iff]
  refine ⟨by omega, by omega, ?_⟩
  rw [addr_add, Int.toNat_natCast, Nat.mul_one, Nat.zero_add]
  refine loadA_at B17.1 b17 hv ?_
  refine callA_of (rDecodeSuper_spec vl hl) fun v1 h1 ⟨e, s1⟩ f1 => ?_
  have n1 := s1.next
  have b91 := (s1.keep q9 B9.2 (by simp)).1.trans b9
  have b171 := (s1.keep q17 B17.2 (by simp)).1.trans b17
  have idle : ∀ {h' : Hp}, Step h h' [] [] → (chStep size i (best, at_) (decB l)) = (best, at_) → dedupref04_Choose_L1 prog w0 k0 m (.int .i64 size) x6 (.pointer (some ⟨q9, 0, none⟩)) (.int .i64 at_) (.slice (some ⟨q17, 0, none⟩) 2 2) (.int .i64 2) (.int .i64 ((i + 1 : Nat) : Int)) h' := by
    intro h' st hc
    have := hK h'
    rw [hc] at this
    exact this ((st.keep q9 B9.2 (by simp)).1.trans b9) ((st.keep q17 B17.2 (by simp)).1.trans b17) (st.idle [q9] (by simpa using B9.2))
  cases hd : decB l with
  | none =>
    rw [decV_none hd] at e
    subst e
    have z : ((40 : Int) == 0) = false := by decide
    simp only [lenSl_slice, lenStr_string, str_size, fpureA_some, fnilA_ptr, faddA_ptr, addr_add, Nat.zero_add, Nat.add_zero, fpureQ_k, fpureQ_nilA, fpureQ_addA, fpureQ_pureA, fpureQ_guardA, fpureQ_idxSlA, fpureQ_pickA, freadQ_loadA, freadQ_loadNA, freadQ_b2sA, freadQ_guardA, freadQ_slSlA, freadQ_k, fendA, fallA_one, fstillA_nil, fguardA_tt, fguardA_ff, fguardA_tf, fguardA_ft, fguardA_undef, fpickA_true, fpickA_false, fcondA_true, fcondA_false, binA_add, binA_sub, binA_mul, binA_eql, binA_neq, binA_lss, binA_leq, binA_gtr, binA_geq, unA_not, Bool.not_true, Bool.not_false, convA_int, extA_tuple, List.getElem?_toArray, List.getElem?_cons_zero, List.getElem?_cons_succ, newA_iff]
    refine ⟨by simp [sup0, Sup.e, Shp.e], storeN0 (cs := sup0.e) f1.base (by simp) rfl rfl (by rfl) ?_⟩
    simp only [z, lenSl_slice, lenStr_string, str_size, fpureA_some, fnilA_ptr, faddA_ptr, addr_add, Nat.zero_add, Nat.add_zero, fpureQ_k, fpureQ_nilA, fpureQ_addA, fpureQ_pureA, fpureQ_guardA, fpureQ_idxSlA, fpureQ_pickA, freadQ_loadA, freadQ_loadNA, freadQ_b2sA, freadQ_guardA, freadQ_slSlA, freadQ_k, fendA, fallA_one, fstillA_nil, fguardA_tt, fguardA_ff, fguardA_tf, fguardA_ft, fguardA_undef, fpickA_true, fpickA_false, fcondA_true, fcondA_false, binA_add, binA_sub, binA_mul, binA_eql, binA_neq, binA_lss, binA_leq, binA_gtr, binA_geq, unA_not, Bool.not_true, Bool.not_false, convA_int, extA_tuple, List.getElem?_toArray, List.getElem?_cons_zero, List.getElem?_cons_succ, e5]
    refine idle ?_ (by rw [hd]; rfl)
    exact (s1.after ((Step.refl h1 [] (by simp)).new _ _) (by simp)).after ((Step.refl _ [h1.next] (by simp)).put (p := h1.next) (by simp) _) (by simp; omega)
  | some x =>
    have hin := (dec_some hd).1
    have hgen := hin.gen
    rw [decV_some hd] at e
    subst e
    simp only [lenSl_slice, lenStr_string, str_size, fpureA_some, fnilA_ptr, faddA_ptr, addr_add, Nat.zero_add, Nat.add_zero, fpureQ_k, fpureQ_nilA, fpureQ_addA, fpureQ_pureA, fpureQ_guardA, fpureQ_idxSlA, fpureQ_pickA, freadQ_loadA, freadQ_loadNA, freadQ_b2sA, freadQ_guardA, freadQ_slSlA, freadQ_k, fendA, fallA_one, fstillA_nil, fguardA_tt, fguardA_ff, fguardA_tf, fguardA_ft, fguardA_undef, fpickA_true, fpickA_false, fcondA_true, fcondA_false, binA_add, binA_sub, binA_mul, binA_eql, binA_neq, binA_lss, binA_leq, binA_gtr, binA_geq, unA_not, Bool.not_true, Bool.not_false, convA_int, extA_tuple, List.getElem?_toArray, List.getElem?_cons_zero, List.getElem?_cons_succ, newA_iff]
    refine ⟨by simp [sup0, Sup.e, Shp.e], storeN0 (cs := sup0.e) f1.base (by simp) rfl rfl (by rfl) ?_⟩
    rw [put_new]
    have s2 : Step h1 (h1.new x.e 12) [] [h1.next] := (Step.refl h1 [] (by simp)).new _ _
    have hq2 : (h1.new x.e 12).blk h1.next = some x.e := by simp
    have hB2 := f1.base
    generalize h1.new x.e 12 = h2 at s2 hq2 ⊢
    have st2 := s1.after s2 (by simp)
    have n2 := s2.next
    have b92 := (s2.keep q9 (by omega) (by simp)).1.trans b91
    have b172 := (s2.keep q17 (by omega) (by simp)).1.trans b171
    simp only [beq_self_eq_true, lenSl_slice, lenStr_string, str_size, fpureA_some, fnilA_ptr, faddA_ptr, addr_add, Nat.zero_add, Nat.add_zero, fpureQ_k, fpureQ_nilA, fpureQ_addA, fpureQ_pureA, fpureQ_guardA, fpureQ_idxSlA, fpureQ_pickA, freadQ_loadA, freadQ_loadNA, freadQ_b2sA, freadQ_guardA, freadQ_slSlA, freadQ_k, fendA, fallA_one, fstillA_nil, fguardA_tt, fguardA_ff, fguardA_tf, fguardA_ft, fguardA_undef, fpickA_true, fpickA_false, fcondA_true, fcondA_false, binA_add, binA_sub, binA_mul, binA_eql, binA_neq, binA_lss, binA_leq, binA_gtr, binA_geq, unA_not, Bool.not_true, Bool.not_false, convA_int, extA_tuple, List.getElem?_toArray, List.getElem?_cons_zero, List.getElem?_cons_succ]
    refine loadA_at (v := .int .i64 x.s.sec) hB2 hq2 (by rfl) ?_
    by_cases k1 : x.s.sec = size
    · have c2 : (x.s.sec == size) = true := by simp [k1]
      simp only [c2, lenSl_slice, lenStr_string, str_size, fpureA_some, fnilA_ptr, faddA_ptr, addr_add, Nat.zero_add, Nat.add_zero, fpureQ_k, fpureQ_nilA, fpureQ_addA, fpureQ_pureA, fpureQ_guardA, fpureQ_idxSlA, fpureQ_pickA, freadQ_loadA, freadQ_loadNA, freadQ_b2sA, freadQ_guardA, freadQ_slSlA, freadQ_k, fendA, fallA_one, fstillA_nil, fguardA_tt, fguardA_ff, fguardA_tf, fguardA_ft, fguardA_undef, fpickA_true, fpickA_false, fcondA_true, fcondA_false, binA_add, binA_sub, binA_mul, binA_eql, binA_neq, binA_lss, binA_leq, binA_gtr, binA_geq, unA_not, Bool.not_true, Bool.not_false, convA_int, extA_tuple, List.getElem?_toArray, List.getElem?_cons_zero, List.getElem?_cons_succ]
      refine loadA_at (v := .int .u64 x.gen) hB2 hq2 (by rfl) ?_
      refine callA_of (rSlot_spec x.gen hgen) fun v3 h3 ⟨e, e3⟩ f3 => ?_
      subst e
      have e3' := e3.symm
      subst e3'
      by_cases k2 : x.gen % 2 = (i : Int)
      · have c3 : (x.gen % 2 == (i : Int)) = true := by simp [k2]
        simp only [c3, lenSl_slice, lenStr_string, str_size, fpureA_some, fnilA_ptr, faddA_ptr, addr_add, Nat.zero_add, Nat.add_zero, fpureQ_k, fpureQ_nilA, fpureQ_addA, fpureQ_pureA, fpureQ_guardA, fpureQ_idxSlA, fpureQ_pickA, freadQ_loadA, freadQ_loadNA, freadQ_b2sA, freadQ_guardA, freadQ_slSlA, freadQ_k, fendA, fallA_one, fstillA_nil, fguardA_tt, fguardA_ff, fguardA_tf, fguardA_ft, fguardA_undef, fpickA_true, fpickA_false, fcondA_true, fcondA_false, binA_add, binA_sub, binA_mul, binA_eql, binA_neq, binA_lss, binA_leq, binA_gtr, binA_geq, unA_not, Bool.not_true, Bool.not_false, convA_int, extA_tuple, List.getElem?_toArray, List.getElem?_cons_zero, List.getElem?_cons_succ]
        have take : (st : Step h h2 [] []) → (at_ < 0 ∨ best.gen < x.gen) → (loadNA w0 (.pointer (some ⟨h1.next, 0, none⟩)) 12 fun v54 => storeNA w0 (.pointer (some ⟨q9, 0, none⟩)) v54 12 fun _ => dedupref04_Choose_L1 prog w0 k0 m (.int .i64 size) x6 (.pointer (some ⟨q9, 0, none⟩)) (.int .i64 (i : Int)) (.slice (some ⟨q17, 0, none⟩) 2 2) (.int .i64 2) (.int .i64 ((i + 1 : Nat) : Int))) h2 := by
          intro st hb
          have hch : chStep size i (best, at_) (decB l) = (x, (i : Int)) := by
            rw [hd]
            simp only [chStep]
            rw [if_pos ⟨k1, k2, hb⟩]
          refine loadNA_whole hB2 hq2 rfl ?_
          refine storeN0 B9.1 b92 rfl rfl (by rfl) ?_
          have := hK (h2.put q9 x.e)
          rw [hch] at this
          exact this (by simp) (by simp [hne]; exact b172) ((st.idle [q9] (by simpa using B9.2)).put (p := q9) (by simp) _)
        by_cases k3 : at_ < 0
        · have c4 : decide (at_ < 0) = true := decide_eq_true k3
          simp only [c4, lenSl_slice, lenStr_string, str_size, fpureA_some, fnilA_ptr, faddA_ptr, addr_add, Nat.zero_add, Nat.add_zero, fpureQ_k, fpureQ_nilA, fpureQ_addA, fpureQ_pureA, fpureQ_guardA, fpureQ_idxSlA, fpureQ_pickA, freadQ_loadA, freadQ_loadNA, freadQ_b2sA, freadQ_guardA, freadQ_slSlA, freadQ_k, fendA, fallA_one, fstillA_nil, fguardA_tt, fguardA_ff, fguardA_tf, fguardA_ft, fguardA_undef, fpickA_true, fpickA_false, fcondA_true, fcondA_false, binA_add, binA_sub, binA_mul, binA_eql, binA_neq, binA_lss, binA_leq, binA_gtr, binA_geq, unA_not, Bool.not_true, Bool.not_false, convA_int, extA_tuple, List.getElem?_toArray, List.getElem?_cons_zero, List.getElem?_cons_succ, e5]
          exact take st2 (.inl k3)
        · have c4 : decide (at_ < 0) = false := decide_eq_false k3
          simp only [c4, lenSl_slice, lenStr_string, str_size, fpureA_some, fnilA_ptr, faddA_ptr, addr_add, Nat.zero_add, Nat.add_zero, fpureQ_k, fpureQ_nilA, fpureQ_addA, fpureQ_pureA, fpureQ_guardA, fpureQ_idxSlA, fpureQ_pickA, freadQ_loadA, freadQ_loadNA, freadQ_b2sA, freadQ_guardA, freadQ_slSlA, freadQ_k, fendA, fallA_one, fstillA_nil, fguardA_tt, fguardA_ff, fguardA_tf, fguardA_ft, fguardA_undef, fpickA_true, fpickA_false, fcondA_true, fcondA_false, binA_add, binA_sub, binA_mul, binA_eql, binA_neq, binA_lss, binA_leq, binA_gtr, binA_geq, unA_not, Bool.not_true, Bool.not_false, convA_int, extA_tuple, List.getElem?_toArray, List.getElem?_cons_zero, List.getElem?_cons_succ]
          refine loadA_at (v := .int .u64 x.gen) hB2 hq2 (by rfl) ?_
          refine loadA_at (v := .int .u64 best.gen) B9.1 b92 (by rfl) ?_
          by_cases k4 : best.gen < x.gen
          · have c5 : decide (best.gen < x.gen) = true := decide_eq_true k4
            simp only [c5, lenSl_slice, lenStr_string, str_size, fpureA_some, fnilA_ptr, faddA_ptr, addr_add, Nat.zero_add, Nat.add_zero, fpureQ_k, fpureQ_nilA, fpureQ_addA, fpureQ_pureA, fpureQ_guardA, fpureQ_idxSlA, fpureQ_pickA, freadQ_loadA, freadQ_loadNA, freadQ_b2sA, freadQ_guardA, freadQ_slSlA, freadQ_k, fendA, fallA_one, fstillA_nil, fguardA_tt, fguardA_ff, fguardA_tf, fguardA_ft, fguardA_undef, fpickA_true, fpickA_false, fcondA_true, fcondA_false, binA_add, binA_sub, binA_mul, binA_eql, binA_neq, binA_lss, binA_leq, binA_gtr, binA_geq, unA_not, Bool.not_true, Bool.not_false, convA_int, extA_tuple, List.getElem?_toArray, List.getElem?_cons_zero, List.getElem?_cons_succ, e5]
            exact take st2 (.inr k4)
          · have c5 : decide (best.gen < x.gen) = false := decide_eq_false k4
            simp only [c5, lenSl_slice, lenStr_string, str_size, fpureA_some, fnilA_ptr, faddA_ptr, addr_add, Nat.zero_add, Nat.add_zero, fpureQ_k, fpureQ_nilA, fpureQ_addA, fpureQ_pureA, fpureQ_guardA, fpureQ_idxSlA, fpureQ_pickA, freadQ_loadA, freadQ_loadNA, freadQ_b2sA, freadQ_guardA, freadQ_slSlA, freadQ_k, fendA, fallA_one, fstillA_nil, fguardA_tt, fguardA_ff, fguardA_tf, fguardA_ft, fguardA_undef, fpickA_true, fpickA_false, fcondA_true, fcondA_false, binA_add, binA_sub, binA_mul, binA_eql, binA_neq, binA_lss, binA_leq, binA_gtr, binA_geq, unA_not, Bool.not_true, Bool.not_false, convA_int, extA_tuple, List.getElem?_toArray, List.getElem?_cons_zero, List.getElem?_cons_succ, e5]
            refine idle st2 ?_
            rw [hd]
            simp only [chStep]
            rw [if_neg fun q => by rcases q.2.2 with q | q <;> omega]
      · have c3 : (x.gen % 2 == (i : Int)) = false := by simp [k2]
        simp only [c3, lenSl_slice, lenStr_string, str_size, fpureA_some, fnilA_ptr, faddA_ptr, addr_add, Nat.zero_add, Nat.add_zero, fpureQ_k, fpureQ_nilA, fpureQ_addA, fpureQ_pureA, fpureQ_guardA, fpureQ_idxSlA, fpureQ_pickA, freadQ_loadA, freadQ_loadNA, freadQ_b2sA, freadQ_guardA, freadQ_slSlA, freadQ_k, fendA, fallA_one, fstillA_nil, fguardA_tt, fguardA_ff, fguardA_tf, fguardA_ft, fguardA_undef, fpickA_true, fpickA_false, fcondA_true, fcondA_false, binA_add, binA_sub, binA_mul, binA_eql, binA_neq, binA_lss, binA_leq, binA_gtr, binA_geq, unA_not, Bool.not_true, Bool.not_false, convA_int, extA_tuple, List.getElem?_toArray, List.getElem?_cons_zero, List.getElem?_cons_succ, e5]
        refine idle st2 ?_
        rw [hd]
        simp only [chStep]
        rw [if_neg fun q => k2 q.2.1]
    · have c2 : (x.s.sec == size) = false := by simp [k1]
      simp only [c2, lenSl_slice, lenStr_string, str_size, fpureA_some, fnilA_ptr, faddA_ptr, addr_add, Nat.zero_add, Nat.add_zero, fpureQ_k, fpureQ_nilA, fpureQ_addA, fpureQ_pureA, fpureQ_guardA, fpureQ_idxSlA, fpureQ_pickA, freadQ_loadA, freadQ_loadNA, freadQ_b2sA, freadQ_guardA, freadQ_slSlA, freadQ_k, fendA, fallA_one, fstillA_nil, fguardA_tt, fguardA_ff, fguardA_tf, fguardA_ft, fguardA_undef, fpickA_true, fpickA_false, fcondA_true, fcondA_false, binA_add, binA_sub, binA_mul, binA_eql, binA_neq, binA_lss, binA_leq, binA_gtr, binA_geq, unA_not, Bool.not_true, Bool.not_false, convA_int, extA_tuple, List.getElem?_toArray, List.getElem?_cons_zero, List.getElem?_cons_succ, e5]
      refine idle st2 ?_
      rw [hd]
      simp only [chStep]
      rw [if_neg fun q => k1 q.1]
theorem Choose_spec {a b : Value} {la lb : List UInt8} (size : Int) (va : Bs w0 h a la) (vb : Bs w0 h b lb) (hla : la.length ≤ 1000000000) (hlb : lb.length ≤ 1000000000) :
    ACalls prog w0 n_layout_Choose [.int .i64 size, a, b] h fun v h' => v = chV (choose size (decB la) (decB lb)) ∧ Step h h' [] [] := by
  refine ACalls.of_fit (by simpa using ⟨va.junk, vb.junk⟩) fun f => c_layout_Choose (by simpa using ⟨va.junk, vb.junk⟩) ?_
  simp only [s_layout_Choose, sup0_zero, newA_iff]
  refine ⟨by simp [sup0, Sup.e, Shp.e], by simp [sup0, Sup.e, Shp.e], ?_⟩
  have hB := f.base
  have s1 : Step h (h.new sup0.e 12) [] [h.next] := (Step.refl h [] (by simp)).new _ _
  have hq1 : (h.new sup0.e 12).blk h.next = some sup0.e := by simp
  have hn1 : h.next < (h.new sup0.e 12).next := by simp
  generalize h.new sup0.e 12 = h1 at s1 hq1 hn1 ⊢
  have s2 : Step h1 (h1.new sup0.e 12) [] [h1.next] := (Step.refl h1 [] (by simp)).new _ _
  have hq2 : (h1.new sup0.e 12).blk h1.next = some sup0.e := by simp
  have hn2 : h1.next < (h1.new sup0.e 12).next := by simp
  generalize h1.new sup0.e 12 = h2 at s2 hq2 hn2 ⊢
  have hq12 := (s2.keep _ hn1 (by simp)).1.trans hq1
  obtain ⟨aa, ca, rfl⟩ := va.slice
  obtain ⟨ab, cb, rfl⟩ := vb.slice
  have hz : zerosL [(.slice none 0 0 : Value)] 2 = [.slice none 0 0, .slice none 0 0] := rfl
  simp only [hz, bslA_iff, fillA_one, fillA_nil, isCell_slice, true_and, List.set_cons_zero, List.set_cons_succ, List.length_cons, List.length_nil]
  refine ⟨by omega, by omega, ?_⟩
  have s3 : Step h2 (h2.new [(.slice aa la.length ca : Value), .slice ab lb.length cb] 1) [] [h2.next] := (Step.refl h2 [] (by simp)).new _ _
  have hq3 : (h2.new [(.slice aa la.length ca : Value), .slice ab lb.length cb] 1).blk h2.next = some [.slice aa la.length ca, .slice ab lb.length cb] := by simp
  have hn3 : h2.next < (h2.new [(.slice aa la.length ca : Value), .slice ab lb.length cb] 1).next := by simp
  generalize h2.new [(.slice aa la.length ca : Value), .slice ab lb.length cb] 1 = h3 at s3 hq3 hn3 ⊢
  have hq13 := (s3.keep h.next (by omega) (by simp)).1.trans hq12
  have hq23 := (s3.keep h1.next (by omega) (by simp)).1.trans hq2
  have st3 : Step h h3 [] [] := (s1.drop.after s2 (by simp)).after s3 (by simp)
  have va3 : Bs w0 h3 (.slice aa la.length ca) la := Sl.step va f st3 (by simp)
  simp only [lenSl_slice, lenStr_string, str_size, fpureA_some, fnilA_ptr, faddA_ptr, addr_add, Nat.zero_add, Nat.add_zero, fpureQ_k, fpureQ_nilA, fpureQ_addA, fpureQ_pureA, fpureQ_guardA, fpureQ_idxSlA, fpureQ_pickA, freadQ_loadA, freadQ_loadNA, freadQ_b2sA, freadQ_guardA, freadQ_slSlA, freadQ_k, fendA, fallA_one, fstillA_nil, fguardA_tt, fguardA_ff, fguardA_tf, fguardA_ft, fguardA_undef, fpickA_true, fpickA_false, fcondA_true, fcondA_false, binA_add, binA_sub, binA_mul, binA_eql, binA_neq, binA_lss, binA_leq, binA_gtr, binA_geq, unA_not, Bool.not_true, Bool.not_false, convA_int, extA_tuple, List.getElem?_toArray, List.getElem?_cons_zero, List.getElem?_cons_succ]
  refine ⟨3, choose_round 0 rfl (by omega) va3 hla hq23 hq3 ⟨by omega, by omega⟩ ⟨by omega, by omega⟩ (by omega) fun h4 b9 b17 s4 => ?_⟩
  have n4 := s4.next
  have st4 := st3.after s4 (by simp; omega)
  have hq14 := (s4.keep h.next (by omega) (by simp; omega)).1.trans hq13
  have vb4 : Bs w0 h4 (.slice ab lb.length cb) lb := Sl.step vb f st4 (by simp)
  refine choose_round 1 rfl (by omega) vb4 hlb b9 b17 ⟨by omega, by omega⟩ ⟨by omega, by omega⟩ (by omega) fun h5 b9' b17' s5 => ?_
  have n5 := s5.next
  have st5 := st4.after s5 (by simp; omega)
  have hq15 := (s5.keep h.next (by omega) (by simp; omega)).1.trans hq14
  rw [layout_Choose_L1]
  have z2 : decide (((1 + 1 : Nat) : Int) < 2) = false := rfl
  simp only [layout_Choose_B1, lenSl_slice, lenStr_string, str_size, fpureA_some, fnilA_ptr, faddA_ptr, addr_add, Nat.zero_add, Nat.add_zero, fpureQ_k, fpureQ_nilA, fpureQ_addA, fpureQ_pureA, fpureQ_guardA, fpureQ_idxSlA, fpureQ_pickA, freadQ_loadA, freadQ_loadNA, freadQ_b2sA, freadQ_guardA, freadQ_slSlA, freadQ_k, fendA, fallA_one, fstillA_nil, fguardA_tt, fguardA_ff, fguardA_tf, fguardA_ft, fguardA_undef, fpickA_true, fpickA_false, fcondA_true, fcondA_false, binA_add, binA_sub, binA_mul, binA_eql, binA_neq, binA_lss, binA_leq, binA_gtr, binA_geq, unA_not, Bool.not_true, Bool.not_false, convA_int, extA_tuple, List.getElem?_toArray, List.getElem?_cons_zero, List.getElem?_cons_succ, z2, Prod.eta]
  simp only [Prod.eta] at b9'
  unfold choose
  generalize hR : chStep size 1 (chStep size 0 (sup0, -1) (decB la)) (decB lb) = R at b9' ⊢
  by_cases hneg : R.2 < 0
  · have k1 : decide (R.2 < 0) = true := decide_eq_true hneg
    simp only [k1, lenSl_slice, lenStr_string, str_size, fpureA_some, fnilA_ptr, faddA_ptr, addr_add, Nat.zero_add, Nat.add_zero, fpureQ_k, fpureQ_nilA, fpureQ_addA, fpureQ_pureA, fpureQ_guardA, fpureQ_idxSlA, fpureQ_pickA, freadQ_loadA, freadQ_loadNA, freadQ_b2sA, freadQ_guardA, freadQ_slSlA, freadQ_k, fendA, fallA_one, fstillA_nil, fguardA_tt, fguardA_ff, fguardA_tf, fguardA_ft, fguardA_undef, fpickA_true, fpickA_false, fcondA_true, fcondA_false, binA_add, binA_sub, binA_mul, binA_eql, binA_neq, binA_lss, binA_leq, binA_gtr, binA_geq, unA_not, Bool.not_true, Bool.not_false, convA_int, extA_tuple, List.getElem?_toArray, List.getElem?_cons_zero, List.getElem?_cons_succ, buildA_iff, fillA_nil, sup0_zero]
    refine storeN0 hB hq15 rfl rfl (by rfl) (loadNA_whole (cs := sup0.e) hB (by simp) rfl ?_)
    simp only [retA_iff]
    refine ⟨by simp, ?_, st5.after ((Step.refl h5 [h.next] (by simp; omega)).put (p := h.next) (by simp) _) (by simp)⟩
    rw [if_pos hneg]
    simp [chV, Sup.v]
  · have k1 : decide (R.2 < 0) = false := decide_eq_false hneg
    simp only [k1, lenSl_slice, lenStr_string, str_size, fpureA_some, fnilA_ptr, faddA_ptr, addr_add, Nat.zero_add, Nat.add_zero, fpureQ_k, fpureQ_nilA, fpureQ_addA, fpureQ_pureA, fpureQ_guardA, fpureQ_idxSlA, fpureQ_pickA, freadQ_loadA, freadQ_loadNA, freadQ_b2sA, freadQ_guardA, freadQ_slSlA, freadQ_k, fendA, fallA_one, fstillA_nil, fguardA_tt, fguardA_ff, fguardA_tf, fguardA_ft, fguardA_undef, fpickA_true, fpickA_false, fcondA_true, fcondA_false, binA_add, binA_sub, binA_mul, binA_eql, binA_neq, binA_lss, binA_leq, binA_gtr, binA_geq, unA_not, Bool.not_true, Bool.not_false, convA_int, extA_tuple, List.getElem?_toArray, List.getElem?_cons_zero, List.getElem?_cons_succ]
    refine loadNA_whole (by omega) b9' rfl ?_
    refine storeN0 hB hq15 rfl rfl (by rfl) (loadNA_whole (cs := R.1.e) hB (by simp) rfl ?_)
    simp only [retA_iff]
    refine ⟨by simp, ?_, st5.after ((Step.refl h5 [h.next] (by simp; omega)).put (p := h.next) (by simp) _) (by simp)⟩
    rw [if_neg hneg]
    simp [chV, Sup.v]
theorem rChoose_spec {a b : Value} {la lb : List UInt8} (size : Int) (va : Bs w0 h a la) (vb : Bs w0 h b lb) (hla : la.length ≤ 1000000000) (hlb : lb.length ≤ 1000000000) :
    ACalls prog w0 n_dedupref04_Choose [.int .i64 size, a, b] h fun v h' => v = chV (choose size (decB la) (decB lb)) ∧ Step h h' [] [] := by
  refine ACalls.of_fit (by simpa using ⟨va.junk, vb.junk⟩) fun f => c_dedupref04_Choose (by simpa using ⟨va.junk, vb.junk⟩) ?_
  simp only [s_dedupref04_Choose, sup0_zero, newA_iff]
  refine ⟨by simp [sup0, Sup.e, Shp.e], by simp [sup0, Sup.e, Shp.e], ?_⟩
  have hB := f.base
  have s1 : Step h (h.new sup0.e 12) [] [h.next] := (Step.refl h [] (by simp)).new _ _
  have hq1 : (h.new sup0.e 12).blk h.next = some sup0.e := by simp
  have hn1 : h.next < (h.new sup0.e 12).next := by simp
  generalize h.new sup0.e 12 = h1 at s1 hq1 hn1 ⊢
  have s2 : Step h1 (h1.new sup0.e 12) [] [h1.next] := (Step.refl h1 [] (by simp)).new _ _
  have hq2 : (h1.new sup0.e 12).blk h1.next = some sup0.e := by simp
  have hn2 : h1.next < (h1.new sup0.e 12).next := by simp
  generalize h1.new sup0.e 12 = h2 at s2 hq2 hn2 ⊢
  have hq12 := (s2.keep _ hn1 (by simp)).1.trans hq1
  obtain ⟨aa, ca, rfl⟩ := va.slice
  obtain ⟨ab, cb, rfl⟩ := vb.slice
  have hz : zerosL [(.slice none 0 0 : Value)] 2 = [.slice none 0 0, .slice none 0 0] := rfl
  simp only [hz, bslA_iff, fillA_one, fillA_nil, isCell_slice, true_and, List.set_cons_zero, List.set_cons_succ, List.length_cons, List.length_nil]
  refine ⟨by omega, by omega, ?_⟩
  have s3 : Step h2 (h2.new [(.slice aa la.length ca : Value), .slice ab lb.length cb] 1) [] [h2.next] := (Step.refl h2 [] (by simp)).new _ _
  have hq3 : (h2.new [(.slice aa la.length ca : Value), .slice ab lb.length cb] 1).blk h2.next = some [.slice aa la.length ca, .slice ab lb.length cb] := by simp
  have hn3 : h2.next < (h2.new [(.slice aa la.length ca : Value), .slice ab lb.length cb] 1).next := by simp
  generalize h2.new [(.slice aa la.length ca : Value), .slice ab lb.length cb] 1 = h3 at s3 hq3 hn3 ⊢
  have hq13 := (s3.keep h.next (by omega) (by simp)).1.trans hq12
  have hq23 := (s3.keep h1.next (by omega) (by simp)).1.trans hq2
  have st3 : Step h h3 [] [] := (s1.drop.after s2 (by simp)).after s3 (by simp)
  have va3 : Bs w0 h3 (.slice aa la.length ca) la := Sl.step va f st3 (by simp)
  simp only [lenSl_slice, lenStr_string, str_size, fpureA_some, fnilA_ptr, faddA_ptr, addr_add, Nat.zero_add, Nat.add_zero, fpureQ_k, fpureQ_nilA, fpureQ_addA, fpureQ_pureA, fpureQ_guardA, fpureQ_idxSlA, fpureQ_pickA, freadQ_loadA, freadQ_loadNA, freadQ_b2sA, freadQ_guardA, freadQ_slSlA, freadQ_k, fendA, fallA_one, fstillA_nil, fguardA_tt, fguardA_ff, fguardA_tf, fguardA_ft, fguardA_undef, fpickA_true, fpickA_false, fcondA_true, fcondA_false, binA_add, binA_sub, binA_mul, binA_eql, binA_neq, binA_lss, binA_leq, binA_gtr, binA_geq, unA_not, Bool.not_true, Bool.not_false, convA_int, extA_tuple, List.getElem?_toArray, List.getElem?_cons_zero, List.getElem?_cons_succ]
  refine ⟨3, rchoose_round 0 rfl (by omega) va3 hla hq23 hq3 ⟨by omega, by omega⟩ ⟨by omega, by omega⟩ (by omega) fun h4 b9 b17 s4 => ?_⟩
  have n4 := s4.next
  have st4 := st3.after s4 (by simp; omega)
  have hq14 := (s4.keep h.next (by omega) (by simp; omega)).1.trans hq13
  have vb4 : Bs w0 h4 (.slice ab lb.length cb) lb := Sl.step vb f st4 (by simp)
  refine rchoose_round 1 rfl (by omega) vb4 hlb b9 b17 ⟨by omega, by omega⟩ ⟨by omega, by omega⟩ (by omega) fun h5 b9' b17' s5 => ?_
  have n5 := s5.next
  have st5 := st4.after s5 (by simp; omega)
  have hq15 := (s5.keep h.next (by omega) (by simp; omega)).1.trans hq14
  rw [dedupref04_Choose_L1]
  have z2 : decide (((1 + 1 : Nat) : Int) < 2) = false := rfl
  simp only [dedupref04_Choose_B1, lenSl_slice, lenStr_string, str_size, fpureA_some, fnilA_ptr, faddA_ptr, addr_add, Nat.zero_add, Nat.add_zero, fpureQ_k, fpureQ_nilA, fpureQ_addA, fpureQ_pureA, fpureQ_guardA, fpureQ_idxSlA, fpureQ_pickA, freadQ_loadA, freadQ_loadNA, freadQ_b2sA, freadQ_guardA, freadQ_slSlA, freadQ_k, fendA, fallA_one, fstillA_nil, fguardA_tt, fguardA_ff, fguardA_tf, fguardA_ft, fguardA_undef, fpickA_true, fpickA_false, fcondA_true, fcondA_false, binA_add, binA_sub, binA_mul, binA_eql, binA_neq, binA_lss, binA_leq, binA_gtr, binA_geq, unA_not, Bool.not_true, Bool.not_false, convA_int, extA_tuple, List.getElem?_toArray, List.getElem?_cons_zero, List.getElem?_cons_succ, z2, Prod.eta]
  simp only [Prod.eta] at b9'
  unfold choose
  generalize hR : chStep size 1 (chStep size 0 (sup0, -1) (decB la)) (decB lb) = R at b9' ⊢
  by_cases hneg : R.2 < 0
  · have k1 : decide (R.2 < 0) = true := decide_eq_true hneg
    simp only [k1, lenSl_slice, lenStr_string, str_size, fpureA_some, fnilA_ptr, faddA_ptr, addr_add, Nat.zero_add, Nat.add_zero, fpureQ_k, fpureQ_nilA, fpureQ_addA, fpureQ_pureA, fpureQ_guardA, fpureQ_idxSlA, fpureQ_pickA, freadQ_loadA, freadQ_loadNA, freadQ_b2sA, freadQ_guardA, freadQ_slSlA, freadQ_k, fendA, fallA_one, fstillA_nil, fguardA_tt, fguardA_ff, fguardA_tf, fguardA_ft, fguardA_undef, fpickA_true, fpickA_false, fcondA_true, fcondA_false, binA_add, binA_sub, binA_mul, binA_eql, binA_neq, binA_lss, binA_leq, binA_gtr, binA_geq, unA_not, Bool.not_true, Bool.not_false, convA_int, extA_tuple, List.getElem?_toArray, List.getElem?_cons_zero, List.getElem?_cons_succ, buildA_iff, fillA_nil, sup0_zero]
    refine storeN0 hB hq15 rfl rfl (by rfl) (loadNA_whole (cs := sup0.e) hB (by simp) rfl ?_)
    simp only [retA_iff]
    refine ⟨by simp, ?_, st5.after ((Step.refl h5 [h.next] (by simp; omega)).put (p := h.next) (by simp) _) (by simp)⟩
    rw [if_pos hneg]
    simp [chV, Sup.v]
  · have k1 : decide (R.2 < 0) = false := decide_eq_false hneg
    simp only [k1, lenSl_slice, lenStr_string, str_size, fpureA_some, fnilA_ptr, faddA_ptr, addr_add, Nat.zero_add, Nat.add_zero, fpureQ_k, fpureQ_nilA, fpureQ_addA, fpureQ_pureA, fpureQ_guardA, fpureQ_idxSlA, fpureQ_pickA, freadQ_loadA, freadQ_loadNA, freadQ_b2sA, freadQ_guardA, freadQ_slSlA, freadQ_k, fendA, fallA_one, fstillA_nil, fguardA_tt, fguardA_ff, fguardA_tf, fguardA_ft, fguardA_undef, fpickA_true, fpickA_false, fcondA_true, fcondA_false, binA_add, binA_sub, binA_mul, binA_eql, binA_neq, binA_lss, binA_leq, binA_gtr, binA_geq, unA_not, Bool.not_true, Bool.not_false, convA_int, extA_tuple, List.getElem?_toArray, List.getElem?_cons_zero, List.getElem?_cons_succ]
    refine loadNA_whole (by omega) b9' rfl ?_
    refine storeN0 hB hq15 rfl rfl (by rfl) (loadNA_whole (cs := R.1.e) hB (by simp) rfl ?_)
    simp only [retA_iff]
    refine ⟨by simp, ?_, st5.after ((Step.refl h5 [h.next] (by simp; omega)).put (p := h.next) (by simp) _) (by simp)⟩
    rw [if_neg hneg]
    simp [chV, Sup.v]
end
end Go.Proofs.Ytihebhdgjnibfaa.Ah
