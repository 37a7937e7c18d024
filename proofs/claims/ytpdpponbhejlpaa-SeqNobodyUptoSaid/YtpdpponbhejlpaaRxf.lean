/- The document's lists: sorting out, finding, putting, deleting. -/
import Derived.Test.YtpdpponbhejlpaaSxm
import Derived.Test.YtpdpponbhejlpaaSxa
import Derived.Test.YtpdpponbhejlpaaGref10
set_option linter.unusedVariables false
set_option linter.unusedSimpArgs false
namespace Go.Proofs.Ytpdpponbhejlpaa.Ah
open Go
section
variable {w0 : World} {h : Hp}
theorem rsorted_loop {k0 : Value → Hp → Prop} {v : Value} {l : List Itm} {hh : Hp} (hv : Is w0 hh v l) (fh : Fit w0 hh) (hl : l.length ≤ 1000000000)
    (hk : ∀ x' h' S', Vec w0 h' 2 x' (srt l).length (ivs (srt l)) S' → Step hh h' [] S' → k0 x' h') : ∀ (post pre : List Itm) (h1 : Hp) (x3 : Value) (S1 : List Nat), pre ++ post = l → Vec w0 h1 2 x3 (srt pre).length (ivs (srt pre)) S1 → Step hh h1 [] S1 →
      dedupref10_SortOut_L1 prog w0 k0 (post.length + 1) x3 v (.int .i64 (l.length : Int)) (.int .i64 (pre.length : Int)) h1 := by
  intro post
  induction post with
  | nil =>
    intro pre h1 x3 S1 he g st
    have hpre : pre = l := by simpa using he
    subst hpre
    rw [List.length_nil, dedupref10_SortOut_L1]
    simp only [dedupref10_SortOut_B1, lenSl_slice, lenStr_string, str_size, fpureA_some, fnilA_ptr, faddA_ptr, addr_add, Nat.zero_add, Nat.add_zero, fpureQ_k, fpureQ_nilA, fpureQ_addA, fpureQ_pureA, fpureQ_guardA, fpureQ_idxSlA, fpureQ_pickA, freadQ_loadA, freadQ_loadNA, freadQ_b2sA, freadQ_guardA, freadQ_slSlA, freadQ_k, fendA, fallA_one, fstillA_nil, fguardA_tt, fguardA_ff, fguardA_tf, fguardA_ft, fguardA_undef, fpickA_true, fpickA_false, fcondA_true, fcondA_false, binA_add, binA_sub, binA_mul, binA_eql, binA_neq, binA_lss, binA_leq, binA_gtr, binA_geq, unA_not, Bool.not_true, Bool.not_false, convA_int, extA_tuple, List.getElem?_toArray, List.getElem?_cons_zero, List.getElem?_cons_succ, Int.lt_irrefl, decide_false]
    exact hk x3 h1 S1 g st
  | cons x post ih =>
    intro pre h1 x3 S1 he g st
    have hlen : pre.length + (post.length + 1) = l.length := by rw [← he]; simp
    have hg : l[pre.length]? = some x := by rw [← he]; simp
    have c1 : decide ((pre.length : Int) < (l.length : Int)) = true := decide_eq_true (by omega)
    have e6 : IntKind.i64.wrap ((pre.length : Int) + 1) = (((pre ++ [x]).length : Nat) : Int) := by rw [IntWalk.i64_in _ (by omega)]; simp
    have hsl := srt_len pre
    have vs : Is w0 h1 v l := hv.step fh st (by simp)
    have fb := st.base fh.base
    rw [List.length_cons, dedupref10_SortOut_L1]
    simp only [dedupref10_SortOut_B1, lenSl_slice, lenStr_string, str_size, fpureA_some, fnilA_ptr, faddA_ptr, addr_add, Nat.zero_add, Nat.add_zero, fpureQ_k, fpureQ_nilA, fpureQ_addA, fpureQ_pureA, fpureQ_guardA, fpureQ_idxSlA, fpureQ_pickA, freadQ_loadA, freadQ_loadNA, freadQ_b2sA, freadQ_guardA, freadQ_slSlA, freadQ_k, fendA, fallA_one, fstillA_nil, fguardA_tt, fguardA_ff, fguardA_tf, fguardA_ft, fguardA_undef, fpickA_true, fpickA_false, fcondA_true, fcondA_false, binA_add, binA_sub, binA_mul, binA_eql, binA_neq, binA_lss, binA_leq, binA_gtr, binA_geq, unA_not, Bool.not_true, Bool.not_false, convA_int, extA_tuple, List.getElem?_toArray, List.getElem?_cons_zero, List.getElem?_cons_succ, c1]
    refine vs.elem (by omega) (ivs_get hg) ?_
    refine boxN fb rfl rfl (by simp [isCell]) ?_
    have sx : Step h1 (h1.new (iv x) 2) [] [h1.next] := (Step.refl h1 [] (by simp)).new _ _
    have hx : (h1.new (iv x) 2).blk h1.next = some (iv x) := by simp
    have stx : Step hh (h1.new (iv x) 2) [] S1 := st.trans ((sx.less (T := []) (by simp)).keepS fun b hb => (g.lt b hb).2)
    have gx := g.frame sx (by simp)
    have fbx : w0.heap.size ≤ (h1.new (iv x) 2).next := by simp; omega
    generalize hnx : h1.new (iv x) 2 = hx1 at *
    have hwx : w0.heap.size ≤ h1.next := fb
    simp only [gx.sl.lenv, lenSl_slice, lenStr_string, str_size, fpureA_some, fnilA_ptr, faddA_ptr, addr_add, Nat.zero_add, Nat.add_zero, fpureQ_k, fpureQ_nilA, fpureQ_addA, fpureQ_pureA, fpureQ_guardA, fpureQ_idxSlA, fpureQ_pickA, freadQ_loadA, freadQ_loadNA, freadQ_b2sA, freadQ_guardA, freadQ_slSlA, freadQ_k, fendA, fallA_one, fstillA_nil, fguardA_tt, fguardA_ff, fguardA_tf, fguardA_ft, fguardA_undef, fpickA_true, fpickA_false, fcondA_true, fcondA_false, binA_add, binA_sub, binA_mul, binA_eql, binA_neq, binA_lss, binA_leq, binA_gtr, binA_geq, unA_not, Bool.not_true, Bool.not_false, convA_int, extA_tuple, List.getElem?_toArray, List.getElem?_cons_zero, List.getElem?_cons_succ]
    have on : ∀ x4 h4 S4, Vec w0 h4 2 x4 (srt (pre ++ [x])).length (ivs (srt (pre ++ [x]))) S4 → Step hh h4 [] S4 → dedupref10_SortOut_L1 prog w0 k0 (post.length + 1) x4 v (.int .i64 (l.length : Int)) (.int .i64 ((pre ++ [x]).length : Int)) h4 := fun x4 h4 S4 g4 s4 => ih (pre ++ [x]) h4 x4 S4 (by simpa using he) g4 s4
    have push : above (srt pre) x = true → loadNA w0 (.pointer (some ⟨h1.next, 0, none⟩)) 2 (fun v29 => bslA [(0, 2, true, v29)] (zerosL [(.string .empty), (.int .i64 0)] 1) 1 2 fun v30 => appA w0 2 24 x3 v30 fun v31 => dedupref10_SortOut_L1 prog w0 k0 (post.length + 1) v31 v (.int .i64 (l.length : Int)) (.int .i64 (IntKind.i64.wrap ((pre.length : Int) + 1)))) hx1 := by
      intro ha
      refine loadNA_whole hwx hx rfl ?_
      refine appN_vec (by omega) gx.gv rfl rfl (by omega) (by omega) (by omega) fun x' h2 S2 v2 s2 => ?_
      rw [e6]
      have e := srt_snoc pre x
      rw [if_pos ha] at e
      refine on x' h2 S2 ?_ (stx.trans s2)
      rw [e]
      simpa [ivs] using v2
    rcases Nat.eq_zero_or_pos (srt pre).length with h0 | h0
    · have ha : above (srt pre) x = true := by rw [List.eq_nil_of_length_eq_zero h0]; rfl
      have c2 : (((srt pre).length : Int) == 0) = true := by rw [h0]; rfl
      simp only [c2, lenSl_slice, lenStr_string, str_size, fpureA_some, fnilA_ptr, faddA_ptr, addr_add, Nat.zero_add, Nat.add_zero, fpureQ_k, fpureQ_nilA, fpureQ_addA, fpureQ_pureA, fpureQ_guardA, fpureQ_idxSlA, fpureQ_pickA, freadQ_loadA, freadQ_loadNA, freadQ_b2sA, freadQ_guardA, freadQ_slSlA, freadQ_k, fendA, fallA_one, fstillA_nil, fguardA_tt, fguardA_ff, fguardA_tf, fguardA_ft, fguardA_undef, fpickA_true, fpickA_false, fcondA_true, fcondA_false, binA_add, binA_sub, binA_mul, binA_eql, binA_neq, binA_lss, binA_leq, binA_gtr, binA_geq, unA_not, Bool.not_true, Bool.not_false, convA_int, extA_tuple, List.getElem?_toArray, List.getElem?_cons_zero, List.getElem?_cons_succ]
      exact push ha
    · have c2 : (((srt pre).length : Int) == 0) = false := by rw [beq_eq_false_iff_ne]; omega
      obtain ⟨y, hy, hay⟩ := above_last (x := x) h0
      have e5 : IntKind.i64.wrap (((srt pre).length : Int) - 1) = (((srt pre).length - 1 : Nat) : Int) := by rw [IntWalk.i64_in _ (by omega)]; omega
      simp only [c2, lenSl_slice, lenStr_string, str_size, fpureA_some, fnilA_ptr, faddA_ptr, addr_add, Nat.zero_add, Nat.add_zero, fpureQ_k, fpureQ_nilA, fpureQ_addA, fpureQ_pureA, fpureQ_guardA, fpureQ_idxSlA, fpureQ_pickA, freadQ_loadA, freadQ_loadNA, freadQ_b2sA, freadQ_guardA, freadQ_slSlA, freadQ_k, fendA, fallA_one, fstillA_nil, fguardA_tt, fguardA_ff, fguardA_tf, fguardA_ft, fguardA_undef, fpickA_true, fpickA_false, fcondA_true, fcondA_false, binA_add, binA_sub, binA_mul, binA_eql, binA_neq, binA_lss, binA_leq, binA_gtr, binA_geq, unA_not, Bool.not_true, Bool.not_false, convA_int, extA_tuple, List.getElem?_toArray, List.getElem?_cons_zero, List.getElem?_cons_succ, e5]
      refine gx.sl.fld (o := 0) (by omega) (by omega) (ivs_key hy) ?_
      refine loadA_at hwx hx rfl ?_
      simp only [s_lss, lenSl_slice, lenStr_string, str_size, fpureA_some, fnilA_ptr, faddA_ptr, addr_add, Nat.zero_add, Nat.add_zero, fpureQ_k, fpureQ_nilA, fpureQ_addA, fpureQ_pureA, fpureQ_guardA, fpureQ_idxSlA, fpureQ_pickA, freadQ_loadA, freadQ_loadNA, freadQ_b2sA, freadQ_guardA, freadQ_slSlA, freadQ_k, fendA, fallA_one, fstillA_nil, fguardA_tt, fguardA_ff, fguardA_tf, fguardA_ft, fguardA_undef, fpickA_true, fpickA_false, fcondA_true, fcondA_false, binA_add, binA_sub, binA_mul, binA_eql, binA_neq, binA_lss, binA_leq, binA_gtr, binA_geq, unA_not, Bool.not_true, Bool.not_false, convA_int, extA_tuple, List.getElem?_toArray, List.getElem?_cons_zero, List.getElem?_cons_succ, ← hay]
      cases ha : above (srt pre) x with
      | true =>
        simp only [lenSl_slice, lenStr_string, str_size, fpureA_some, fnilA_ptr, faddA_ptr, addr_add, Nat.zero_add, Nat.add_zero, fpureQ_k, fpureQ_nilA, fpureQ_addA, fpureQ_pureA, fpureQ_guardA, fpureQ_idxSlA, fpureQ_pickA, freadQ_loadA, freadQ_loadNA, freadQ_b2sA, freadQ_guardA, freadQ_slSlA, freadQ_k, fendA, fallA_one, fstillA_nil, fguardA_tt, fguardA_ff, fguardA_tf, fguardA_ft, fguardA_undef, fpickA_true, fpickA_false, fcondA_true, fcondA_false, binA_add, binA_sub, binA_mul, binA_eql, binA_neq, binA_lss, binA_leq, binA_gtr, binA_geq, unA_not, Bool.not_true, Bool.not_false, convA_int, extA_tuple, List.getElem?_toArray, List.getElem?_cons_zero, List.getElem?_cons_succ]
        exact push ha
      | false =>
        simp only [lenSl_slice, lenStr_string, str_size, fpureA_some, fnilA_ptr, faddA_ptr, addr_add, Nat.zero_add, Nat.add_zero, fpureQ_k, fpureQ_nilA, fpureQ_addA, fpureQ_pureA, fpureQ_guardA, fpureQ_idxSlA, fpureQ_pickA, freadQ_loadA, freadQ_loadNA, freadQ_b2sA, freadQ_guardA, freadQ_slSlA, freadQ_k, fendA, fallA_one, fstillA_nil, fguardA_tt, fguardA_ff, fguardA_tf, fguardA_ft, fguardA_undef, fpickA_true, fpickA_false, fcondA_true, fcondA_false, binA_add, binA_sub, binA_mul, binA_eql, binA_neq, binA_lss, binA_leq, binA_gtr, binA_geq, unA_not, Bool.not_true, Bool.not_false, convA_int, extA_tuple, List.getElem?_toArray, List.getElem?_cons_zero, List.getElem?_cons_succ, e6]
        have e := srt_snoc pre x
        rw [ha, if_neg (by simp)] at e
        exact on x3 hx1 S1 (by rw [e]; exact gx) stx
theorem rSortOut_spec {v : Value} {l : List Itm} (hv : Is w0 h v l) (hl : l.length ≤ 1000000000) : ACalls prog w0 n_dedupref10_SortOut [v] h fun r h' => ∃ S', Vec w0 h' 2 r (srt l).length (ivs (srt l)) S' ∧ Step h h' [] S' := by
  refine ACalls.of_fit (by simpa using hv.junk) fun f => c_dedupref10_SortOut (by simpa using hv.junk) ?_
  simp only [s_dedupref10_SortOut, hv.lenv, lenSl_slice, lenStr_string, str_size, fpureA_some, fnilA_ptr, faddA_ptr, addr_add, Nat.zero_add, Nat.add_zero, fpureQ_k, fpureQ_nilA, fpureQ_addA, fpureQ_pureA, fpureQ_guardA, fpureQ_idxSlA, fpureQ_pickA, freadQ_loadA, freadQ_loadNA, freadQ_b2sA, freadQ_guardA, freadQ_slSlA, freadQ_k, fendA, fallA_one, fstillA_nil, fguardA_tt, fguardA_ff, fguardA_tf, fguardA_ft, fguardA_undef, fpickA_true, fpickA_false, fcondA_true, fcondA_false, binA_add, binA_sub, binA_mul, binA_eql, binA_neq, binA_lss, binA_leq, binA_gtr, binA_geq, unA_not, Bool.not_true, Bool.not_false, convA_int, extA_tuple, List.getElem?_toArray, List.getElem?_cons_zero, List.getElem?_cons_succ]
  refine ⟨l.length + 1, ?_⟩
  refine rsorted_loop hv f hl (fun x' h' S' g st => ?_) l [] h _ [] rfl .nil (.refl _ _ (by simp))
  simp only [retA_iff, oneOf_one]
  obtain ⟨a, c, e⟩ := g.slice
  exact ⟨by simp [e], S', g, st⟩
theorem rfind_loop {k0 kr : Value → Value → Value → Hp → Prop} {v : Value} {l : List Itm} {k : Key} {hh : Hp} (hv : Is w0 hh v l) (fh : Fit w0 hh) (hl : l.length ≤ 1000000000)
    (h1 : ∀ h', findK l k = l.length → Step hh h' [] [] → k0 v (.int .i64 0) (.bool false) h') (h2 : ∀ h', findK l k < l.length → Step hh h' [] [] → kr v (.int .i64 (findK l k : Int)) (.bool (hasK l k)) h') :
    ∀ (post pre : List Itm) (h1 : Hp), pre ++ post = l → findK l k = pre.length + findK post k → Step hh h1 [] [] →
      dedupref10_Find_L1 prog w0 k0 kr (post.length + 1) v (.string (str k)) (.int .i64 0) (.bool false) v (.int .i64 (l.length : Int)) (.int .i64 (pre.length : Int)) h1 := by
  intro post
  induction post with
  | nil =>
    intro pre h3 he hf st
    have hpre : pre = l := by simpa using he
    subst hpre
    rw [List.length_nil, dedupref10_Find_L1]
    simp only [dedupref10_Find_B1, lenSl_slice, lenStr_string, str_size, fpureA_some, fnilA_ptr, faddA_ptr, addr_add, Nat.zero_add, Nat.add_zero, fpureQ_k, fpureQ_nilA, fpureQ_addA, fpureQ_pureA, fpureQ_guardA, fpureQ_idxSlA, fpureQ_pickA, freadQ_loadA, freadQ_loadNA, freadQ_b2sA, freadQ_guardA, freadQ_slSlA, freadQ_k, fendA, fallA_one, fstillA_nil, fguardA_tt, fguardA_ff, fguardA_tf, fguardA_ft, fguardA_undef, fpickA_true, fpickA_false, fcondA_true, fcondA_false, binA_add, binA_sub, binA_mul, binA_eql, binA_neq, binA_lss, binA_leq, binA_gtr, binA_geq, unA_not, Bool.not_true, Bool.not_false, convA_int, extA_tuple, List.getElem?_toArray, List.getElem?_cons_zero, List.getElem?_cons_succ, Int.lt_irrefl, decide_false]
    exact h1 h3 (by rw [hf]; simp [findK]) st
  | cons x post ih =>
    intro pre h3 he hf st
    have hlen : pre.length + (post.length + 1) = l.length := by rw [← he]; simp
    have hg : l[pre.length]? = some x := by rw [← he]; simp
    have c1 : decide ((pre.length : Int) < (l.length : Int)) = true := decide_eq_true (by omega)
    have e6 : IntKind.i64.wrap ((pre.length : Int) + 1) = (((pre ++ [x]).length : Nat) : Int) := by rw [IntWalk.i64_in _ (by omega)]; simp
    have vs : Is w0 h3 v l := hv.step fh st (by simp)
    have fb := st.base fh.base
    rw [List.length_cons, dedupref10_Find_L1]
    simp only [dedupref10_Find_B1, lenSl_slice, lenStr_string, str_size, fpureA_some, fnilA_ptr, faddA_ptr, addr_add, Nat.zero_add, Nat.add_zero, fpureQ_k, fpureQ_nilA, fpureQ_addA, fpureQ_pureA, fpureQ_guardA, fpureQ_idxSlA, fpureQ_pickA, freadQ_loadA, freadQ_loadNA, freadQ_b2sA, freadQ_guardA, freadQ_slSlA, freadQ_k, fendA, fallA_one, fstillA_nil, fguardA_tt, fguardA_ff, fguardA_tf, fguardA_ft, fguardA_undef, fpickA_true, fpickA_false, fcondA_true, fcondA_false, binA_add, binA_sub, binA_mul, binA_eql, binA_neq, binA_lss, binA_leq, binA_gtr, binA_geq, unA_not, Bool.not_true, Bool.not_false, convA_int, extA_tuple, List.getElem?_toArray, List.getElem?_cons_zero, List.getElem?_cons_succ, c1]
    refine vs.elem (by omega) (ivs_get hg) ?_
    refine boxN fb rfl rfl (by simp [isCell]) ?_
    have sx : Step h3 (h3.new (iv x) 2) [] [h3.next] := (Step.refl h3 [] (by simp)).new _ _
    have hx : (h3.new (iv x) 2).blk h3.next = some (iv x) := by simp
    have stx : Step hh (h3.new (iv x) 2) [] [] := st.trans (sx.less (T := []) (by simp))
    generalize hnx : h3.new (iv x) 2 = hx1 at *
    simp only [lenSl_slice, lenStr_string, str_size, fpureA_some, fnilA_ptr, faddA_ptr, addr_add, Nat.zero_add, Nat.add_zero, fpureQ_k, fpureQ_nilA, fpureQ_addA, fpureQ_pureA, fpureQ_guardA, fpureQ_idxSlA, fpureQ_pickA, freadQ_loadA, freadQ_loadNA, freadQ_b2sA, freadQ_guardA, freadQ_slSlA, freadQ_k, fendA, fallA_one, fstillA_nil, fguardA_tt, fguardA_ff, fguardA_tf, fguardA_ft, fguardA_undef, fpickA_true, fpickA_false, fcondA_true, fcondA_false, binA_add, binA_sub, binA_mul, binA_eql, binA_neq, binA_lss, binA_leq, binA_gtr, binA_geq, unA_not, Bool.not_true, Bool.not_false, convA_int, extA_tuple, List.getElem?_toArray, List.getElem?_cons_zero, List.getElem?_cons_succ]
    refine loadA_at fb hx rfl ?_
    simp only [s_geq, lenSl_slice, lenStr_string, str_size, fpureA_some, fnilA_ptr, faddA_ptr, addr_add, Nat.zero_add, Nat.add_zero, fpureQ_k, fpureQ_nilA, fpureQ_addA, fpureQ_pureA, fpureQ_guardA, fpureQ_idxSlA, fpureQ_pickA, freadQ_loadA, freadQ_loadNA, freadQ_b2sA, freadQ_guardA, freadQ_slSlA, freadQ_k, fendA, fallA_one, fstillA_nil, fguardA_tt, fguardA_ff, fguardA_tf, fguardA_ft, fguardA_undef, fpickA_true, fpickA_false, fcondA_true, fcondA_false, binA_add, binA_sub, binA_mul, binA_eql, binA_neq, binA_lss, binA_leq, binA_gtr, binA_geq, unA_not, Bool.not_true, Bool.not_false, convA_int, extA_tuple, List.getElem?_toArray, List.getElem?_cons_zero, List.getElem?_cons_succ]
    rw [findK] at hf
    cases hb : blt x.1 k with
    | false =>
      simp only [Bool.not_false, lenSl_slice, lenStr_string, str_size, fpureA_some, fnilA_ptr, faddA_ptr, addr_add, Nat.zero_add, Nat.add_zero, fpureQ_k, fpureQ_nilA, fpureQ_addA, fpureQ_pureA, fpureQ_guardA, fpureQ_idxSlA, fpureQ_pickA, freadQ_loadA, freadQ_loadNA, freadQ_b2sA, freadQ_guardA, freadQ_slSlA, freadQ_k, fendA, fallA_one, fstillA_nil, fguardA_tt, fguardA_ff, fguardA_tf, fguardA_ft, fguardA_undef, fpickA_true, fpickA_false, fcondA_true, fcondA_false, binA_add, binA_sub, binA_mul, binA_eql, binA_neq, binA_lss, binA_leq, binA_gtr, binA_geq, unA_not, Bool.not_true, Bool.not_false, convA_int, extA_tuple, List.getElem?_toArray, List.getElem?_cons_zero, List.getElem?_cons_succ]
      rw [hb, if_neg (by simp)] at hf
      refine loadA_at fb hx rfl ?_
      simp only [s_eql, lenSl_slice, lenStr_string, str_size, fpureA_some, fnilA_ptr, faddA_ptr, addr_add, Nat.zero_add, Nat.add_zero, fpureQ_k, fpureQ_nilA, fpureQ_addA, fpureQ_pureA, fpureQ_guardA, fpureQ_idxSlA, fpureQ_pickA, freadQ_loadA, freadQ_loadNA, freadQ_b2sA, freadQ_guardA, freadQ_slSlA, freadQ_k, fendA, fallA_one, fstillA_nil, fguardA_tt, fguardA_ff, fguardA_tf, fguardA_ft, fguardA_undef, fpickA_true, fpickA_false, fcondA_true, fcondA_false, binA_add, binA_sub, binA_mul, binA_eql, binA_neq, binA_lss, binA_leq, binA_gtr, binA_geq, unA_not, Bool.not_true, Bool.not_false, convA_int, extA_tuple, List.getElem?_toArray, List.getElem?_cons_zero, List.getElem?_cons_succ]
      have e1 : findK l k = pre.length := by omega
      have := h2 hx1 (by omega) stx
      rw [e1] at this
      have e2 : hasK l k = decide (x.1 = k) := by unfold hasK isAt; rw [e1, hg]
      rw [e2] at this
      exact this
    | true =>
      simp only [lenSl_slice, lenStr_string, str_size, fpureA_some, fnilA_ptr, faddA_ptr, addr_add, Nat.zero_add, Nat.add_zero, fpureQ_k, fpureQ_nilA, fpureQ_addA, fpureQ_pureA, fpureQ_guardA, fpureQ_idxSlA, fpureQ_pickA, freadQ_loadA, freadQ_loadNA, freadQ_b2sA, freadQ_guardA, freadQ_slSlA, freadQ_k, fendA, fallA_one, fstillA_nil, fguardA_tt, fguardA_ff, fguardA_tf, fguardA_ft, fguardA_undef, fpickA_true, fpickA_false, fcondA_true, fcondA_false, binA_add, binA_sub, binA_mul, binA_eql, binA_neq, binA_lss, binA_leq, binA_gtr, binA_geq, unA_not, Bool.not_true, Bool.not_false, convA_int, extA_tuple, List.getElem?_toArray, List.getElem?_cons_zero, List.getElem?_cons_succ, e6]
      rw [hb, if_pos rfl] at hf
      exact ih (pre ++ [x]) hx1 (by simpa using he) (by rw [hf]; simp; omega) stx
theorem rFind_spec {v : Value} {l : List Itm} {k : Key} (hv : Is w0 h v l) (hl : l.length ≤ 1000000000) : ACalls prog w0 n_dedupref10_Find [v, .string (str k)] h fun r h' => r = .tuple #[.int .i64 (findK l k : Int), .bool (hasK l k)] ∧ Step h h' [] [] := by
  refine ACalls.of_fit (by simpa using hv.junk) fun f => c_dedupref10_Find (by simpa using hv.junk) ?_
  simp only [s_dedupref10_Find, hv.lenv, lenSl_slice, lenStr_string, str_size, fpureA_some, fnilA_ptr, faddA_ptr, addr_add, Nat.zero_add, Nat.add_zero, fpureQ_k, fpureQ_nilA, fpureQ_addA, fpureQ_pureA, fpureQ_guardA, fpureQ_idxSlA, fpureQ_pickA, freadQ_loadA, freadQ_loadNA, freadQ_b2sA, freadQ_guardA, freadQ_slSlA, freadQ_k, fendA, fallA_one, fstillA_nil, fguardA_tt, fguardA_ff, fguardA_tf, fguardA_ft, fguardA_undef, fpickA_true, fpickA_false, fcondA_true, fcondA_false, binA_add, binA_sub, binA_mul, binA_eql, binA_neq, binA_lss, binA_leq, binA_gtr, binA_geq, unA_not, Bool.not_true, Bool.not_false, convA_int, extA_tuple, List.getElem?_toArray, List.getElem?_cons_zero, List.getElem?_cons_succ]
  refine ⟨l.length + 1, ?_⟩
  refine rfind_loop hv f hl (fun h' e st => ?_) (fun h' e st => ?_) l [] h rfl (by simp) (.refl _ _ (by simp))
  · simp only [hv.lenv, lenSl_slice, lenStr_string, str_size, fpureA_some, fnilA_ptr, faddA_ptr, addr_add, Nat.zero_add, Nat.add_zero, fpureQ_k, fpureQ_nilA, fpureQ_addA, fpureQ_pureA, fpureQ_guardA, fpureQ_idxSlA, fpureQ_pickA, freadQ_loadA, freadQ_loadNA, freadQ_b2sA, freadQ_guardA, freadQ_slSlA, freadQ_k, fendA, fallA_one, fstillA_nil, fguardA_tt, fguardA_ff, fguardA_tf, fguardA_ft, fguardA_undef, fpickA_true, fpickA_false, fcondA_true, fcondA_false, binA_add, binA_sub, binA_mul, binA_eql, binA_neq, binA_lss, binA_leq, binA_gtr, binA_geq, unA_not, Bool.not_true, Bool.not_false, convA_int, extA_tuple, List.getElem?_toArray, List.getElem?_cons_zero, List.getElem?_cons_succ, retA_iff, oneOf_two]
    have e2 : hasK l k = false := by unfold hasK isAt; rw [e, List.getElem?_eq_none (Nat.le_refl _)]
    exact ⟨by simp, by rw [e, e2], st⟩
  · simp only [retA_iff, oneOf_two]
    exact ⟨by simp, trivial, st⟩
/-- What a key had. -/
def oldK (l : List Itm) (k : Key) : Itm := if hasK l k = true then (l[findK l k]?).getD ([], 0) else ([], 0)
theorem oldK_get (l : List Itm) (k : Key) : (oldK l k).2 = getK l k := by
  unfold oldK getK
  split
  · cases l[findK l k]? <;> rfl
  · rfl
theorem iv_zero : iv (([], 0) : Itm) = [.string .empty, .int .i64 0] := rfl
theorem rPut_spec {x : Value} {l : List Itm} {k : Key} {v : Int} (hv : Is w0 h x l) (hl : l.length ≤ 100000000) : ACalls prog w0 n_dedupref10_Put [x, .agg (iv (k, v)).toArray] h fun r h' =>
    ∃ y S', r = .tuple #[y, .agg (iv (oldK l k)).toArray, .bool (hasK l k)] ∧ GV w0 h' 2 y (putK l k v).length (ivs (putK l k v)) S' ∧ Step h h' [] S' := by
  refine ACalls.of_fit (by simpa using hv.junk) fun f => c_dedupref10_Put (by simpa using hv.junk) ?_
  simp only [s_dedupref10_Put, boxA_agg]
  have fb := f.base
  have sA : Step h ((h.new (iv (k, v)) 2).new [.string .empty, .int .i64 0] 2) [] [] := (((Step.refl h [] (by simp)).new (iv (k, v)) 2).new [.string .empty, .int .i64 0] 2).less (by simp)
  refine ⟨by simp [isCell], ?_⟩
  have a1 : ((h.new (iv (k, v)) 2).new [.string .empty, .int .i64 0] 2).blk h.next = some (iv (k, v)) := by simp
  have a2 : ((h.new (iv (k, v)) 2).new [.string .empty, .int .i64 0] 2).blk (h.next + 1) = some [.string .empty, .int .i64 0] := by simp
  have a3 : ((h.new (iv (k, v)) 2).new [.string .empty, .int .i64 0] 2).next = h.next + 2 := rfl
  have a4 : (h.new (iv (k, v)) 2).next = h.next + 1 := rfl
  have fA : Fit w0 ((h.new (iv (k, v)) 2).new [.string .empty, .int .i64 0] 2) := (f.new (by simp [iv, isCell])).new (by simp [isCell])
  rw [a4]
  generalize (h.new (iv (k, v)) 2).new [.string .empty, .int .i64 0] 2 = hA at *
  simp only [lenSl_slice, lenStr_string, str_size, fpureA_some, fnilA_ptr, faddA_ptr, addr_add, Nat.zero_add, Nat.add_zero, fpureQ_k, fpureQ_nilA, fpureQ_addA, fpureQ_pureA, fpureQ_guardA, fpureQ_idxSlA, fpureQ_pickA, freadQ_loadA, freadQ_loadNA, freadQ_b2sA, freadQ_guardA, freadQ_slSlA, freadQ_k, fendA, fallA_one, fstillA_nil, fguardA_tt, fguardA_ff, fguardA_tf, fguardA_ft, fguardA_undef, fpickA_true, fpickA_false, fcondA_true, fcondA_false, binA_add, binA_sub, binA_mul, binA_eql, binA_neq, binA_lss, binA_leq, binA_gtr, binA_geq, unA_not, Bool.not_true, Bool.not_false, convA_int, extA_tuple, List.getElem?_toArray, List.getElem?_cons_zero, List.getElem?_cons_succ]
  refine loadA_at fb a1 rfl ?_
  have vA : Is w0 hA x l := hv.step f sA (by simp)
  refine callA_of (rFind_spec vA (by omega)) fun r h1 ⟨e, s1⟩ f1 => ?_
  subst e
  have v1 : Is w0 h1 x l := vA.step fA s1 (by simp)
  have hle := findK_le l k
  have b1 : h1.blk h.next = some (iv (k, v)) := by rw [(s1.keep _ (by omega) (by simp)).1]; exact a1
  have b2 : h1.blk (h.next + 1) = some [.string .empty, .int .i64 0] := by rw [(s1.keep _ (by omega) (by simp)).1]; exact a2
  have n1 := s1.1
  have sA1 := sA.trans s1
  simp only [lenSl_slice, lenStr_string, str_size, fpureA_some, fnilA_ptr, faddA_ptr, addr_add, Nat.zero_add, Nat.add_zero, fpureQ_k, fpureQ_nilA, fpureQ_addA, fpureQ_pureA, fpureQ_guardA, fpureQ_idxSlA, fpureQ_pickA, freadQ_loadA, freadQ_loadNA, freadQ_b2sA, freadQ_guardA, freadQ_slSlA, freadQ_k, fendA, fallA_one, fstillA_nil, fguardA_tt, fguardA_ff, fguardA_tf, fguardA_ft, fguardA_undef, fpickA_true, fpickA_false, fcondA_true, fcondA_false, binA_add, binA_sub, binA_mul, binA_eql, binA_neq, binA_lss, binA_leq, binA_gtr, binA_geq, unA_not, Bool.not_true, Bool.not_false, convA_int, extA_tuple, List.getElem?_toArray, List.getElem?_cons_zero, List.getElem?_cons_succ, bslA_iff, fillA_nil]
  have hz : zerosL [(.string .empty : Value), .int .i64 0] 0 = [] := rfl
  rw [hz]
  have g0 : GV w0 (h1.new [] 2) 2 (.slice (some ⟨h1.next, 0, none⟩) 0 0) 0 [] [h1.next] := GV.new (by omega) rfl (by decide)
  have s2 : Step h1 (h1.new [] 2) [] [h1.next] := (Step.refl h1 [] (by simp)).new _ _
  have v2 : Is w0 (h1.new [] 2) x l := v1.step f1 s2 (by simp)
  have c1 : (h1.new [] 2).blk h.next = some (iv (k, v)) := by rw [(s2.keep _ (by omega) (by simp)).1]; exact b1
  have c2 : (h1.new [] 2).blk (h.next + 1) = some [.string .empty, .int .i64 0] := by rw [(s2.keep _ (by omega) (by simp)).1]; exact b2
  have f2 : Fit w0 (h1.new [] 2) := f1.new (by simp)
  have n2 : h1.next ≤ (h1.new [] 2).next := by simp
  have o2 : ∀ b, b ∈ [h1.next] → h.next + 2 ≤ b := by simp; omega
  generalize h1.new [] 2 = h2 at *
  refine v2.cutN boundA_none boundA_nat (Nat.zero_le _) hle fun x' _ hsb vx => ?_
  have vx' : Sl w0 h2 2 x' (findK l k) (ivs (l.take (findK l k))) := by simpa [ivs_take] using vx
  obtain ⟨ax, cx, ex⟩ := vx'.slice
  refine appA_gv (m := findK l k) (by omega) g0 (by rw [ex]; rfl) vx'.src (by rw [ivs_length]; simp; omega) (by omega) (by omega) (by omega) fun y1 h3 S3 g3 s3 => ?_
  have n3 := s3.1
  have o3 : ∀ b, b ∈ S3 → h.next + 2 ≤ b := fun b hb => by
    rcases (s3.own b hb).2 with q | q
    · exact o2 b q
    · omega
  have s23 : Step h1 h3 [] S3 := s2.trans s3
  have d1 : h3.blk h.next = some (iv (k, v)) := by rw [(s3.keep _ (by omega) (fun q => by have := o2 _ q; omega)).1]; exact c1
  refine loadNA_whole fb d1 rfl ?_
  simp only [Nat.zero_add, List.nil_append] at g3
  refine appN_vec (by omega) g3 rfl rfl (by omega) (by omega) (by omega) fun y2 h4 S4 g4 s4 => ?_
  have s14 : Step h1 h4 [] S4 := s23.trans s4
  have n4 := s14.1
  have v4 : Is w0 h4 x l := v1.step f1 s14 (by simp)
  have e2 : h4.blk (h.next + 1) = some [.string .empty, .int .i64 0] := by rw [(s14.keep _ (by omega) (by simp)).1]; exact b2
  have o4 : ∀ b, b ∈ S4 → h.next + 2 ≤ b := fun b hb => by
    rcases (s14.own b hb).2 with q | q
    · simp at q
    · omega
  have fin : ∀ y5 h5 S5 (ls : List Itm) (u : Itm) (q : Bool), GV w0 h5 2 y5 ls.length (ivs ls) S5 → Step h4 h5 S4 S5 → ls = putK l k v → u = oldK l k → q = hasK l k → storeNA w0 (.pointer (some ⟨h.next + 1, 0, none⟩)) (.agg (iv u).toArray) 2 (fun _ => loadNA w0 (.pointer (some ⟨h.next + 1, 0, none⟩)) 2 fun v5 =>
      retA [y5, v5, .bool q] fun r h' => ∃ y S', r = .tuple #[y, .agg (iv (oldK l k)).toArray, .bool q] ∧ GV w0 h' 2 y (putK l k v).length (ivs (putK l k v)) S' ∧ Step h h' [] S') h5 := by
    intro y5 h5 S5 ls u q g5 s5 e1 e3 e4
    subst e1 e3 e4
    have i2 : h5.blk (h.next + 1) = some [.string .empty, .int .i64 0] := by rw [(s5.keep _ (by omega) (fun q => by have := o4 _ q; omega)).1]; exact e2
    have o5 : h.next + 1 ∉ S5 := fun q => by
      rcases (s5.own _ q).2 with q | q
      · have := o4 _ q; omega
      · omega
    refine storeNA_whole (cs := [.string .empty, .int .i64 0]) (e := iv (oldK l k)) (by omega) i2 rfl rfl ?_
    refine loadNA_whole (cs := iv (oldK l k)) (by omega) (by simp) rfl ?_
    obtain ⟨a5, c5, ey⟩ := g5.slice
    simp only [retA_iff, oneOf_two]
    have s5' : Step h5 (h5.put (h.next + 1) (iv (oldK l k))) [h.next + 1] [h.next + 1] := (Step.refl h5 [h.next + 1] (by have := s5.1; simp; omega)).put (by simp) _
    have sf : Step h h5 [] S5 := sA1.trans (s14.trans s5)
    refine ⟨by simp [ey], y5, S5, rfl, g5.frame s5' (fun b hb q => by simp at q; subst q; exact o5 hb), Nat.le_trans sf.1 s5'.1, fun b hb _ => ?_, fun b hb => ?_, ?_⟩
    · rw [(s5'.keep b (by have := sf.1; omega) (by simp; omega)).1, (s5'.keep b (by have := sf.1; omega) (by simp; omega)).2]
      exact sf.keep b hb (by simp)
    · exact ⟨Nat.lt_of_lt_of_le (sf.own b hb).1 s5'.1, (sf.own b hb).2⟩
    · rw [s5'.lp, sf.lp]
  have hz2 : ([.string .empty, .int .i64 0] : List Value) = iv (([], 0) : Itm) := rfl
  cases hh : hasK l k with
  | true =>
    obtain ⟨u, hu⟩ := hasK_some hh
    have hlt := (List.getElem?_eq_some_iff.1 hu).1
    have e5 : IntKind.i64.wrap ((findK l k : Int) + 1) = ((findK l k + 1 : Nat) : Int) := by rw [IntWalk.i64_in _ (by omega)]; simp
    simp only [lenSl_slice, lenStr_string, str_size, fpureA_some, fnilA_ptr, faddA_ptr, addr_add, Nat.zero_add, Nat.add_zero, fpureQ_k, fpureQ_nilA, fpureQ_addA, fpureQ_pureA, fpureQ_guardA, fpureQ_idxSlA, fpureQ_pickA, freadQ_loadA, freadQ_loadNA, freadQ_b2sA, freadQ_guardA, freadQ_slSlA, freadQ_k, fendA, fallA_one, fstillA_nil, fguardA_tt, fguardA_ff, fguardA_tf, fguardA_ft, fguardA_undef, fpickA_true, fpickA_false, fcondA_true, fcondA_false, binA_add, binA_sub, binA_mul, binA_eql, binA_neq, binA_lss, binA_leq, binA_gtr, binA_geq, unA_not, Bool.not_true, Bool.not_false, convA_int, extA_tuple, List.getElem?_toArray, List.getElem?_cons_zero, List.getElem?_cons_succ, e5, stillA_iff, allA_one]
    refine v4.cutN boundA_nat rfl (by omega) (Nat.le_refl _) fun x6 _ hsb6 vx6 => ?_
    have vx6' : Sl w0 h4 2 x6 (l.length - (findK l k + 1)) (ivs (l.drop (findK l k + 1))) := by
      rw [ivs_take, ivs_drop, List.take_length] at vx6
      exact vx6
    refine v4.place hlt (ivs_get hu) fun pp hpp => ?_
    refine hpp h4 _ v4 ?_
    obtain ⟨a6, c6, ex6⟩ := vx6'.slice
    refine appA_gv (m := l.length - (findK l k + 1)) (by omega) g4.gv (by rw [ex6]; rfl) vx6'.src (by rw [ivs_length]; simp) (by omega) (by omega) (by omega) fun y5 h5 S5 g5 s5 => ?_
    have v5 : Is w0 h5 x l := v1.step f1 (s14.trans s5) (by simp)
    refine ⟨?_, ?_⟩
    · rw [allA_one, sameQ_iff]
      exact hpp h5 _ v5 ⟨rfl, rfl⟩
    have hput : putK l k v = l.take (findK l k) ++ (k, v) :: l.drop (findK l k + 1) := by
      unfold putK
      rw [hh, if_pos rfl, List.set_eq_take_append_cons_drop, if_pos hlt]
    have e1 : ivs (l.take (findK l k)) ++ iv (k, v) ++ ivs (l.drop (findK l k + 1)) = ivs (putK l k v) := by
      rw [hput]; simp [ivs]
    have e2 : findK l k + 1 + (l.length - (findK l k + 1)) = (putK l k v).length := by rw [hput]; simp; omega
    rw [e1, e2] at g5
    exact fin y5 h5 S5 _ (k, u) true g5 s5 rfl (by unfold oldK; rw [hh, hu]; rfl) hh.symm
  | false =>
    simp only [lenSl_slice, lenStr_string, str_size, fpureA_some, fnilA_ptr, faddA_ptr, addr_add, Nat.zero_add, Nat.add_zero, fpureQ_k, fpureQ_nilA, fpureQ_addA, fpureQ_pureA, fpureQ_guardA, fpureQ_idxSlA, fpureQ_pickA, freadQ_loadA, freadQ_loadNA, freadQ_b2sA, freadQ_guardA, freadQ_slSlA, freadQ_k, fendA, fallA_one, fstillA_nil, fguardA_tt, fguardA_ff, fguardA_tf, fguardA_ft, fguardA_undef, fpickA_true, fpickA_false, fcondA_true, fcondA_false, binA_add, binA_sub, binA_mul, binA_eql, binA_neq, binA_lss, binA_leq, binA_gtr, binA_geq, unA_not, Bool.not_true, Bool.not_false, convA_int, extA_tuple, List.getElem?_toArray, List.getElem?_cons_zero, List.getElem?_cons_succ]
    refine v4.cutN boundA_nat rfl (by omega) (Nat.le_refl _) fun x6 _ hsb6 vx6 => ?_
    have vx6' : Sl w0 h4 2 x6 (l.length - findK l k) (ivs (l.drop (findK l k))) := by
      rw [ivs_take, ivs_drop, List.take_length] at vx6
      exact vx6
    obtain ⟨a6, c6, ex6⟩ := vx6'.slice
    refine appA_gv (m := l.length - findK l k) (by omega) g4.gv (by rw [ex6]; rfl) vx6'.src (by rw [ivs_length]; simp) (by omega) (by omega) (by omega) fun y5 h5 S5 g5 s5 => ?_
    simp only [buildA_iff, fillA_nil]
    have hput : putK l k v = l.take (findK l k) ++ (k, v) :: l.drop (findK l k) := by
      unfold putK
      rw [hh, if_neg (by simp)]
    have e1 : ivs (l.take (findK l k)) ++ iv (k, v) ++ ivs (l.drop (findK l k)) = ivs (putK l k v) := by
      rw [hput]; simp [ivs]
    have e2 : findK l k + 1 + (l.length - findK l k) = (putK l k v).length := by rw [hput]; simp; omega
    rw [e1, e2] at g5
    exact fin y5 h5 S5 _ ([], 0) false g5 s5 rfl (by unfold oldK; rw [hh]; rfl) hh.symm
end
section
variable {w0 : World} {h : Hp}
theorem GV.junk {s n : Nat} {x : Value} {cs : List Value} {S : List Nat} (g : GV w0 h s x n cs S) : x ≠ junk := by obtain ⟨a, c, e⟩ := g.slice; simp [e]
theorem rDelete_spec {x : Value} {l : List Itm} {k : Key} (hv : Is w0 h x l) (hl : l.length ≤ 100000000) : ACalls prog w0 n_dedupref10_Delete [x, .string (str k)] h fun r h' =>
    ∃ y, r = .tuple #[y, .agg (iv (oldK l k)).toArray, .bool (hasK l k)] ∧ ((hasK l k = false ∧ y = x ∧ Step h h' [] []) ∨ (hasK l k = true ∧ ∃ S', GV w0 h' 2 y (delK l k).length (ivs (delK l k)) S' ∧ Step h h' [] S')) := by
  refine ACalls.of_fit (by simpa using hv.junk) fun f => c_dedupref10_Delete (by simpa using hv.junk) ?_
  simp only [s_dedupref10_Delete, newA_iff]
  have fb := f.base
  have sA : Step h (h.new [.string .empty, .int .i64 0] 2) [] [] := ((Step.refl h [] (by simp)).new [.string .empty, .int .i64 0] 2).less (by simp)
  refine ⟨by simp [isCell], ?_⟩
  have a2 : (h.new [.string .empty, .int .i64 0] 2).blk h.next = some [.string .empty, .int .i64 0] := by simp
  have a3 : (h.new [.string .empty, .int .i64 0] 2).next = h.next + 1 := rfl
  have fA : Fit w0 (h.new [.string .empty, .int .i64 0] 2) := f.new (by simp [isCell])
  have vA : Is w0 (h.new [.string .empty, .int .i64 0] 2) x l := hv.step f sA (by simp)
  generalize h.new [.string .empty, .int .i64 0] 2 = hA at *
  refine callA_of (rFind_spec vA (by omega)) fun r h1 ⟨e, s1⟩ f1 => ?_
  subst e
  have v1 : Is w0 h1 x l := vA.step fA s1 (by simp)
  have hle := findK_le l k
  have b2 : h1.blk h.next = some [.string .empty, .int .i64 0] := by rw [(s1.keep _ (by omega) (by simp)).1]; exact a2
  have n1 := s1.1
  have sA1 := sA.trans s1
  simp only [lenSl_slice, lenStr_string, str_size, fpureA_some, fnilA_ptr, faddA_ptr, addr_add, Nat.zero_add, Nat.add_zero, fpureQ_k, fpureQ_nilA, fpureQ_addA, fpureQ_pureA, fpureQ_guardA, fpureQ_idxSlA, fpureQ_pickA, freadQ_loadA, freadQ_loadNA, freadQ_b2sA, freadQ_guardA, freadQ_slSlA, freadQ_k, fendA, fallA_one, fstillA_nil, fguardA_tt, fguardA_ff, fguardA_tf, fguardA_ft, fguardA_undef, fpickA_true, fpickA_false, fcondA_true, fcondA_false, binA_add, binA_sub, binA_mul, binA_eql, binA_neq, binA_lss, binA_leq, binA_gtr, binA_geq, unA_not, Bool.not_true, Bool.not_false, convA_int, extA_tuple, List.getElem?_toArray, List.getElem?_cons_zero, List.getElem?_cons_succ]
  cases hh : hasK l k with
  | false =>
    simp only [Bool.not_false, lenSl_slice, lenStr_string, str_size, fpureA_some, fnilA_ptr, faddA_ptr, addr_add, Nat.zero_add, Nat.add_zero, fpureQ_k, fpureQ_nilA, fpureQ_addA, fpureQ_pureA, fpureQ_guardA, fpureQ_idxSlA, fpureQ_pickA, freadQ_loadA, freadQ_loadNA, freadQ_b2sA, freadQ_guardA, freadQ_slSlA, freadQ_k, fendA, fallA_one, fstillA_nil, fguardA_tt, fguardA_ff, fguardA_tf, fguardA_ft, fguardA_undef, fpickA_true, fpickA_false, fcondA_true, fcondA_false, binA_add, binA_sub, binA_mul, binA_eql, binA_neq, binA_lss, binA_leq, binA_gtr, binA_geq, unA_not, Bool.not_true, Bool.not_false, convA_int, extA_tuple, List.getElem?_toArray, List.getElem?_cons_zero, List.getElem?_cons_succ, buildA_iff, fillA_nil]
    refine storeNA_whole (cs := [.string .empty, .int .i64 0]) (e := [.string .empty, .int .i64 0]) fb b2 rfl rfl ?_
    refine loadNA_whole (cs := [.string .empty, .int .i64 0]) fb (by simp) rfl ?_
    simp only [retA_iff, oneOf_two]
    refine ⟨by simpa using hv.junk, x, ?_, .inl ⟨trivial, rfl, ?_⟩⟩
    · unfold oldK; rw [hh]; rfl
    · have s5' : Step h1 (h1.put h.next [.string .empty, .int .i64 0]) [h.next] [h.next] := (Step.refl h1 [h.next] (by simp; omega)).put (by simp) _
      refine ⟨Nat.le_trans sA1.1 s5'.1, fun b hb _ => ?_, by simp, ?_⟩
      · rw [(s5'.keep b (by have := sA1.1; omega) (by simp; omega)).1, (s5'.keep b (by have := sA1.1; omega) (by simp; omega)).2]
        exact sA1.keep b hb (by simp)
      · rw [s5'.lp, sA1.lp]
  | true =>
    obtain ⟨u, hu⟩ := hasK_some hh
    have hlt := (List.getElem?_eq_some_iff.1 hu).1
    have e5 : IntKind.i64.wrap ((findK l k : Int) + 1) = ((findK l k + 1 : Nat) : Int) := by rw [IntWalk.i64_in _ (by omega)]; simp
    simp only [lenSl_slice, lenStr_string, str_size, fpureA_some, fnilA_ptr, faddA_ptr, addr_add, Nat.zero_add, Nat.add_zero, fpureQ_k, fpureQ_nilA, fpureQ_addA, fpureQ_pureA, fpureQ_guardA, fpureQ_idxSlA, fpureQ_pickA, freadQ_loadA, freadQ_loadNA, freadQ_b2sA, freadQ_guardA, freadQ_slSlA, freadQ_k, fendA, fallA_one, fstillA_nil, fguardA_tt, fguardA_ff, fguardA_tf, fguardA_ft, fguardA_undef, fpickA_true, fpickA_false, fcondA_true, fcondA_false, binA_add, binA_sub, binA_mul, binA_eql, binA_neq, binA_lss, binA_leq, binA_gtr, binA_geq, unA_not, Bool.not_true, Bool.not_false, convA_int, extA_tuple, List.getElem?_toArray, List.getElem?_cons_zero, List.getElem?_cons_succ, bslA_iff, fillA_nil]
    have hz : zerosL [(.string .empty : Value), .int .i64 0] 0 = [] := rfl
    rw [hz]
    have g0 : GV w0 (h1.new [] 2) 2 (.slice (some ⟨h1.next, 0, none⟩) 0 0) 0 [] [h1.next] := GV.new (by omega) rfl (by decide)
    have s2 : Step h1 (h1.new [] 2) [] [h1.next] := (Step.refl h1 [] (by simp)).new _ _
    have v2 : Is w0 (h1.new [] 2) x l := v1.step f1 s2 (by simp)
    have c2 : (h1.new [] 2).blk h.next = some [.string .empty, .int .i64 0] := by rw [(s2.keep _ (by omega) (by simp)).1]; exact b2
    have n2 : h1.next ≤ (h1.new [] 2).next := by simp
    have o2 : ∀ b, b ∈ [h1.next] → h.next + 1 ≤ b := by simp; omega
    generalize h1.new [] 2 = h2 at *
    refine v2.cutN boundA_none boundA_nat (Nat.zero_le _) hle fun x' _ hsb vx => ?_
    have vx' : Sl w0 h2 2 x' (findK l k) (ivs (l.take (findK l k))) := by simpa [ivs_take] using vx
    obtain ⟨ax, cx, ex⟩ := vx'.slice
    refine appA_gv (m := findK l k) (by omega) g0 (by rw [ex]; rfl) vx'.src (by rw [ivs_length]; simp; omega) (by omega) (by omega) (by omega) fun y1 h3 S3 g3 s3 => ?_
    have n3 := s3.1
    have o3 : ∀ b, b ∈ S3 → h.next + 1 ≤ b := fun b hb => by
      rcases (s3.own b hb).2 with q | q
      · exact o2 b q
      · omega
    have s13 : Step h1 h3 [] S3 := s2.trans s3
    simp only [Nat.zero_add, List.nil_append] at g3
    have v3 : Is w0 h3 x l := v1.step f1 s13 (by simp)
    have d2 : h3.blk h.next = some [.string .empty, .int .i64 0] := by rw [(s13.keep _ (by omega) (by simp)).1]; exact b2
    simp only [lenSl_slice, lenStr_string, str_size, fpureA_some, fnilA_ptr, faddA_ptr, addr_add, Nat.zero_add, Nat.add_zero, fpureQ_k, fpureQ_nilA, fpureQ_addA, fpureQ_pureA, fpureQ_guardA, fpureQ_idxSlA, fpureQ_pickA, freadQ_loadA, freadQ_loadNA, freadQ_b2sA, freadQ_guardA, freadQ_slSlA, freadQ_k, fendA, fallA_one, fstillA_nil, fguardA_tt, fguardA_ff, fguardA_tf, fguardA_ft, fguardA_undef, fpickA_true, fpickA_false, fcondA_true, fcondA_false, binA_add, binA_sub, binA_mul, binA_eql, binA_neq, binA_lss, binA_leq, binA_gtr, binA_geq, unA_not, Bool.not_true, Bool.not_false, convA_int, extA_tuple, List.getElem?_toArray, List.getElem?_cons_zero, List.getElem?_cons_succ, e5, stillA_iff, allA_one]
    refine v3.cutN boundA_nat rfl (by omega) (Nat.le_refl _) fun x6 _ hsb6 vx6 => ?_
    have vx6' : Sl w0 h3 2 x6 (l.length - (findK l k + 1)) (ivs (l.drop (findK l k + 1))) := by
      rw [ivs_take, ivs_drop, List.take_length] at vx6
      exact vx6
    refine v3.place hlt (ivs_get hu) fun pp hpp => ?_
    refine hpp h3 _ v3 ?_
    obtain ⟨a6, c6, ex6⟩ := vx6'.slice
    refine appA_gv (m := l.length - (findK l k + 1)) (by omega) g3 (by rw [ex6]; rfl) vx6'.src (by rw [ivs_length]; simp) (by omega) (by omega) (by omega) fun y5 h5 S5 g5 s5 => ?_
    have s15 := s13.trans s5
    have v5 : Is w0 h5 x l := v1.step f1 s15 (by simp)
    refine ⟨?_, ?_⟩
    · rw [allA_one, sameQ_iff]
      exact hpp h5 _ v5 ⟨rfl, rfl⟩
    have hdel : delK l k = l.take (findK l k) ++ l.drop (findK l k + 1) := by unfold delK; rw [hh, if_pos rfl]
    have e1 : ivs (l.take (findK l k)) ++ ivs (l.drop (findK l k + 1)) = ivs (delK l k) := by
      rw [hdel]; simp [ivs]
    have e2 : findK l k + (l.length - (findK l k + 1)) = (delK l k).length := by rw [hdel]; simp; omega
    rw [e1, e2] at g5
    have i2 : h5.blk h.next = some [.string .empty, .int .i64 0] := by rw [(s15.keep _ (by omega) (by simp)).1]; exact b2
    have n5 := s15.1
    have o5 : h.next ∉ S5 := fun q => by
      rcases (s5.own _ q).2 with q | q
      · have := o3 _ q; omega
      · omega
    refine storeNA_whole (cs := [.string .empty, .int .i64 0]) (e := iv (k, u)) (by omega) i2 rfl rfl ?_
    refine loadNA_whole (cs := iv (k, u)) (by omega) (by simp) rfl ?_
    simp only [retA_iff, oneOf_two]
    have s5' : Step h5 (h5.put h.next (iv (k, u))) [h.next] [h.next] := (Step.refl h5 [h.next] (by simp; omega)).put (by simp) _
    have sf : Step h h5 [] S5 := sA1.trans s15
    refine ⟨by simpa using g5.junk, y5, by unfold oldK; rw [hh, hu]; rfl, .inr ⟨trivial, S5, g5.frame s5' (fun b hb q => by simp at q; subst q; exact o5 hb), Nat.le_trans sf.1 s5'.1, fun b hb _ => ?_, fun b hb => ?_, ?_⟩⟩
    · rw [(s5'.keep b (by have := sf.1; omega) (by simp; omega)).1, (s5'.keep b (by have := sf.1; omega) (by simp; omega)).2]
      exact sf.keep b hb (by simp)
    · exact ⟨Nat.lt_of_lt_of_le (sf.own b hb).1 s5'.1, (sf.own b hb).2⟩
    · rw [s5'.lp, sf.lp]
/-! ### Without -/
def svsK (ks : List Key) : List Value := ks.map fun t => .string (str t)
theorem svsK_len (ks : List Key) : (svsK ks).length = ks.length := by simp [svsK]
theorem svsK_get {ks : List Key} {i : Nat} {t : Key} (h : ks[i]? = some t) : (svsK ks)[i]? = some (.string (str t)) := by simp [svsK, h]
abbrev Ks (w0 : World) (h : Hp) (x : Value) (ks : List Key) : Prop := Sl w0 h 1 x ks.length (svsK ks)
def wth (l : List Itm) (ks : List Key) : List Itm := (srt l).filter fun x => !decide (x.1 ∈ ks)
theorem index_loop {k0 : Value → Hp → Prop} {kr : Value → Hp → Prop} {v x4 : Value} {ks : List Key} {k : Key} (hv : Ks w0 h v ks) (hl : ks.length ≤ 1000000000) (h1 : k ∉ ks → k0 x4 h) (h2 : ∀ i : Nat, k ∈ ks → kr (.int .i64 (i : Int)) h) : ∀ (post pre : List Key), pre ++ post = ks → k ∉ pre →
      slices_Index_lstring_string_L1 prog w0 k0 kr (post.length + 1) v (.string (str k)) x4 (.int .i64 (ks.length : Int)) (.int .i64 (pre.length : Int)) h := by
  intro post
  induction post with
  | nil =>
    intro pre he hp
    have hpre : pre = ks := by simpa using he
    subst hpre
    rw [List.length_nil, slices_Index_lstring_string_L1]
    simp only [slices_Index_lstring_string_B1, lenSl_slice, lenStr_string, str_size, fpureA_some, fnilA_ptr, faddA_ptr, addr_add, Nat.zero_add, Nat.add_zero, fpureQ_k, fpureQ_nilA, fpureQ_addA, fpureQ_pureA, fpureQ_guardA, fpureQ_idxSlA, fpureQ_pickA, freadQ_loadA, freadQ_loadNA, freadQ_b2sA, freadQ_guardA, freadQ_slSlA, freadQ_k, fendA, fallA_one, fstillA_nil, fguardA_tt, fguardA_ff, fguardA_tf, fguardA_ft, fguardA_undef, fpickA_true, fpickA_false, fcondA_true, fcondA_false, binA_add, binA_sub, binA_mul, binA_eql, binA_neq, binA_lss, binA_leq, binA_gtr, binA_geq, unA_not, Bool.not_true, Bool.not_false, convA_int, extA_tuple, List.getElem?_toArray, List.getElem?_cons_zero, List.getElem?_cons_succ, Int.lt_irrefl, decide_false]
    exact h1 hp
  | cons x post ih =>
    intro pre he hp
    have hlen : pre.length + (post.length + 1) = ks.length := by rw [← he]; simp
    have hg : ks[pre.length]? = some x := by rw [← he]; simp
    have c1 : decide ((pre.length : Int) < (ks.length : Int)) = true := decide_eq_true (by omega)
    have e6 : IntKind.i64.wrap ((pre.length : Int) + 1) = (((pre ++ [x]).length : Nat) : Int) := by rw [IntWalk.i64_in _ (by omega)]; simp
    rw [List.length_cons, slices_Index_lstring_string_L1]
    simp only [slices_Index_lstring_string_B1, lenSl_slice, lenStr_string, str_size, fpureA_some, fnilA_ptr, faddA_ptr, addr_add, Nat.zero_add, Nat.add_zero, fpureQ_k, fpureQ_nilA, fpureQ_addA, fpureQ_pureA, fpureQ_guardA, fpureQ_idxSlA, fpureQ_pickA, freadQ_loadA, freadQ_loadNA, freadQ_b2sA, freadQ_guardA, freadQ_slSlA, freadQ_k, fendA, fallA_one, fstillA_nil, fguardA_tt, fguardA_ff, fguardA_tf, fguardA_ft, fguardA_undef, fpickA_true, fpickA_false, fcondA_true, fcondA_false, binA_add, binA_sub, binA_mul, binA_eql, binA_neq, binA_lss, binA_leq, binA_gtr, binA_geq, unA_not, Bool.not_true, Bool.not_false, convA_int, extA_tuple, List.getElem?_toArray, List.getElem?_cons_zero, List.getElem?_cons_succ, c1]
    refine hv.one (svsK_get hg) ?_
    simp only [s_eql, lenSl_slice, lenStr_string, str_size, fpureA_some, fnilA_ptr, faddA_ptr, addr_add, Nat.zero_add, Nat.add_zero, fpureQ_k, fpureQ_nilA, fpureQ_addA, fpureQ_pureA, fpureQ_guardA, fpureQ_idxSlA, fpureQ_pickA, freadQ_loadA, freadQ_loadNA, freadQ_b2sA, freadQ_guardA, freadQ_slSlA, freadQ_k, fendA, fallA_one, fstillA_nil, fguardA_tt, fguardA_ff, fguardA_tf, fguardA_ft, fguardA_undef, fpickA_true, fpickA_false, fcondA_true, fcondA_false, binA_add, binA_sub, binA_mul, binA_eql, binA_neq, binA_lss, binA_leq, binA_gtr, binA_geq, unA_not, Bool.not_true, Bool.not_false, convA_int, extA_tuple, List.getElem?_toArray, List.getElem?_cons_zero, List.getElem?_cons_succ]
    by_cases hx : k = x
    · simp only [decide_eq_true hx, lenSl_slice, lenStr_string, str_size, fpureA_some, fnilA_ptr, faddA_ptr, addr_add, Nat.zero_add, Nat.add_zero, fpureQ_k, fpureQ_nilA, fpureQ_addA, fpureQ_pureA, fpureQ_guardA, fpureQ_idxSlA, fpureQ_pickA, freadQ_loadA, freadQ_loadNA, freadQ_b2sA, freadQ_guardA, freadQ_slSlA, freadQ_k, fendA, fallA_one, fstillA_nil, fguardA_tt, fguardA_ff, fguardA_tf, fguardA_ft, fguardA_undef, fpickA_true, fpickA_false, fcondA_true, fcondA_false, binA_add, binA_sub, binA_mul, binA_eql, binA_neq, binA_lss, binA_leq, binA_gtr, binA_geq, unA_not, Bool.not_true, Bool.not_false, convA_int, extA_tuple, List.getElem?_toArray, List.getElem?_cons_zero, List.getElem?_cons_succ]
      exact h2 _ (by rw [← he, hx]; simp)
    · simp only [decide_eq_false hx, lenSl_slice, lenStr_string, str_size, fpureA_some, fnilA_ptr, faddA_ptr, addr_add, Nat.zero_add, Nat.add_zero, fpureQ_k, fpureQ_nilA, fpureQ_addA, fpureQ_pureA, fpureQ_guardA, fpureQ_idxSlA, fpureQ_pickA, freadQ_loadA, freadQ_loadNA, freadQ_b2sA, freadQ_guardA, freadQ_slSlA, freadQ_k, fendA, fallA_one, fstillA_nil, fguardA_tt, fguardA_ff, fguardA_tf, fguardA_ft, fguardA_undef, fpickA_true, fpickA_false, fcondA_true, fcondA_false, binA_add, binA_sub, binA_mul, binA_eql, binA_neq, binA_lss, binA_leq, binA_gtr, binA_geq, unA_not, Bool.not_true, Bool.not_false, convA_int, extA_tuple, List.getElem?_toArray, List.getElem?_cons_zero, List.getElem?_cons_succ, e6]
      exact ih (pre ++ [x]) (by simpa using he) (by simp [hp, hx])
theorem Contains_spec {v : Value} {ks : List Key} {k : Key} (hv : Ks w0 h v ks) (hl : ks.length ≤ 1000000000) : ACalls prog w0 n_slices_Contains_lstring_string [v, .string (str k)] h fun r h' => r = .bool (decide (k ∈ ks)) ∧ h' = h := by
  refine ACalls.of_fit (by simpa using hv.junk) fun f => c_slices_Contains_lstring_string (by simpa using hv.junk) ?_
  have hi : ACalls prog w0 n_slices_Index_lstring_string [v, .string (str k)] h fun r h' => (∃ i : Int, r = .int .i64 i ∧ (0 ≤ i ↔ k ∈ ks)) ∧ h' = h := by
    refine ACalls.of_fit (by simpa using hv.junk) fun f => c_slices_Index_lstring_string (by simpa using hv.junk) ?_
    simp only [s_slices_Index_lstring_string, hv.lenv, lenSl_slice, lenStr_string, str_size, fpureA_some, fnilA_ptr, faddA_ptr, addr_add, Nat.zero_add, Nat.add_zero, fpureQ_k, fpureQ_nilA, fpureQ_addA, fpureQ_pureA, fpureQ_guardA, fpureQ_idxSlA, fpureQ_pickA, freadQ_loadA, freadQ_loadNA, freadQ_b2sA, freadQ_guardA, freadQ_slSlA, freadQ_k, fendA, fallA_one, fstillA_nil, fguardA_tt, fguardA_ff, fguardA_tf, fguardA_ft, fguardA_undef, fpickA_true, fpickA_false, fcondA_true, fcondA_false, binA_add, binA_sub, binA_mul, binA_eql, binA_neq, binA_lss, binA_leq, binA_gtr, binA_geq, unA_not, Bool.not_true, Bool.not_false, convA_int, extA_tuple, List.getElem?_toArray, List.getElem?_cons_zero, List.getElem?_cons_succ]
    refine ⟨ks.length + 1, ?_⟩
    refine index_loop hv hl (fun hn => ?_) (fun i hm => ?_) ks [] rfl (by simp)
    · simp only [retA_iff, oneOf_one]
      exact ⟨by simp, ⟨-1, rfl, by constructor <;> intro q; omega; exact absurd q hn⟩, trivial⟩
    · simp only [retA_iff, oneOf_one]
      exact ⟨by simp, ⟨i, rfl, by constructor <;> intro q; exact hm; omega⟩, trivial⟩
  simp only [s_slices_Contains_lstring_string]
  refine callA_of hi fun r h1 ⟨⟨i, e, hj⟩, e'⟩ f1 => ?_
  subst e e'
  simp only [lenSl_slice, lenStr_string, str_size, fpureA_some, fnilA_ptr, faddA_ptr, addr_add, Nat.zero_add, Nat.add_zero, fpureQ_k, fpureQ_nilA, fpureQ_addA, fpureQ_pureA, fpureQ_guardA, fpureQ_idxSlA, fpureQ_pickA, freadQ_loadA, freadQ_loadNA, freadQ_b2sA, freadQ_guardA, freadQ_slSlA, freadQ_k, fendA, fallA_one, fstillA_nil, fguardA_tt, fguardA_ff, fguardA_tf, fguardA_ft, fguardA_undef, fpickA_true, fpickA_false, fcondA_true, fcondA_false, binA_add, binA_sub, binA_mul, binA_eql, binA_neq, binA_lss, binA_leq, binA_gtr, binA_geq, unA_not, Bool.not_true, Bool.not_false, convA_int, extA_tuple, List.getElem?_toArray, List.getElem?_cons_zero, List.getElem?_cons_succ, retA_iff, oneOf_one]
  refine ⟨by simp, ?_, trivial⟩
  congr 1
  by_cases hk : k ∈ ks
  · rw [decide_eq_true hk, decide_eq_true (hj.2 hk)]
  · rw [decide_eq_false hk, decide_eq_false (fun q => hk (hj.1 q))]
theorem wth_snoc (p : List Itm) (x : Itm) (ks : List Key) : (p ++ [x]).filter (fun x => !decide (x.1 ∈ ks)) = p.filter (fun x => !decide (x.1 ∈ ks)) ++ if x.1 ∈ ks then [] else [x] := by
  rw [List.filter_append]
  congr 1
  by_cases hx : x.1 ∈ ks <;> simp [hx]
theorem without_loop {k0 : Value → Hp → Prop} {v kx : Value} {l : List Itm} {ks : List Key} {hh : Hp} {S : List Nat} (hv : Is w0 hh v l) (hk : Ks w0 hh kx ks) (fh : Fit w0 hh) (hS : ∀ b, b ∈ S → b < hh.next) (hl : l.length ≤ 1000000000) (hkl : ks.length ≤ 1000000000)
    (hr : ∀ x' h' S', Vec w0 h' 2 x' (l.filter fun x => !decide (x.1 ∈ ks)).length (ivs (l.filter fun x => !decide (x.1 ∈ ks))) S' → Step hh h' [] S' → k0 x' h') : ∀ (post pre : List Itm) (h1 : Hp) (x5 : Value) (S1 : List Nat), pre ++ post = l →
      Vec w0 h1 2 x5 (pre.filter fun x => !decide (x.1 ∈ ks)).length (ivs (pre.filter fun x => !decide (x.1 ∈ ks))) S1 → Step hh h1 [] S1 →
      seq_Without_string_int_L1 prog w0 k0 (post.length + 1) kx x5 v (.int .i64 (l.length : Int)) (.int .i64 (pre.length : Int)) h1 := by
  intro post
  induction post with
  | nil =>
    intro pre h1 x3 S1 he g st
    have hpre : pre = l := by simpa using he
    subst hpre
    rw [List.length_nil, seq_Without_string_int_L1]
    simp only [seq_Without_string_int_B1, lenSl_slice, lenStr_string, str_size, fpureA_some, fnilA_ptr, faddA_ptr, addr_add, Nat.zero_add, Nat.add_zero, fpureQ_k, fpureQ_nilA, fpureQ_addA, fpureQ_pureA, fpureQ_guardA, fpureQ_idxSlA, fpureQ_pickA, freadQ_loadA, freadQ_loadNA, freadQ_b2sA, freadQ_guardA, freadQ_slSlA, freadQ_k, fendA, fallA_one, fstillA_nil, fguardA_tt, fguardA_ff, fguardA_tf, fguardA_ft, fguardA_undef, fpickA_true, fpickA_false, fcondA_true, fcondA_false, binA_add, binA_sub, binA_mul, binA_eql, binA_neq, binA_lss, binA_leq, binA_gtr, binA_geq, unA_not, Bool.not_true, Bool.not_false, convA_int, extA_tuple, List.getElem?_toArray, List.getElem?_cons_zero, List.getElem?_cons_succ, Int.lt_irrefl, decide_false]
    exact hr x3 h1 S1 g st
  | cons x post ih =>
    intro pre h1 x3 S1 he g st
    have hlen : pre.length + (post.length + 1) = l.length := by rw [← he]; simp
    have hg : l[pre.length]? = some x := by rw [← he]; simp
    have c1 : decide ((pre.length : Int) < (l.length : Int)) = true := decide_eq_true (by omega)
    have e6 : IntKind.i64.wrap ((pre.length : Int) + 1) = (((pre ++ [x]).length : Nat) : Int) := by rw [IntWalk.i64_in _ (by omega)]; simp
    have hfl : (pre.filter fun x => !decide (x.1 ∈ ks)).length ≤ pre.length := List.length_filter_le _ _
    have vs : Is w0 h1 v l := hv.step fh st (by simp)
    have fb := st.base fh.base
    rw [List.length_cons, seq_Without_string_int_L1]
    simp only [seq_Without_string_int_B1, lenSl_slice, lenStr_string, str_size, fpureA_some, fnilA_ptr, faddA_ptr, addr_add, Nat.zero_add, Nat.add_zero, fpureQ_k, fpureQ_nilA, fpureQ_addA, fpureQ_pureA, fpureQ_guardA, fpureQ_idxSlA, fpureQ_pickA, freadQ_loadA, freadQ_loadNA, freadQ_b2sA, freadQ_guardA, freadQ_slSlA, freadQ_k, fendA, fallA_one, fstillA_nil, fguardA_tt, fguardA_ff, fguardA_tf, fguardA_ft, fguardA_undef, fpickA_true, fpickA_false, fcondA_true, fcondA_false, binA_add, binA_sub, binA_mul, binA_eql, binA_neq, binA_lss, binA_leq, binA_gtr, binA_geq, unA_not, Bool.not_true, Bool.not_false, convA_int, extA_tuple, List.getElem?_toArray, List.getElem?_cons_zero, List.getElem?_cons_succ, c1]
    refine vs.elem (by omega) (ivs_get hg) ?_
    refine boxN fb rfl rfl (by simp [isCell]) ?_
    have sx : Step h1 (h1.new (iv x) 2) [] [h1.next] := (Step.refl h1 [] (by simp)).new _ _
    have hx : (h1.new (iv x) 2).blk h1.next = some (iv x) := by simp
    have stx : Step hh (h1.new (iv x) 2) [] S1 := st.trans ((sx.less (T := []) (by simp)).keepS fun b hb => (g.lt b hb).2)
    have gx := g.frame sx (by simp)
    have fbx : w0.heap.size ≤ (h1.new (iv x) 2).next := by simp; omega
    generalize hnx : h1.new (iv x) 2 = hx1 at *
    have kx1 : Ks w0 hx1 kx ks := hk.step fh stx (by simp)
    simp only [lenSl_slice, lenStr_string, str_size, fpureA_some, fnilA_ptr, faddA_ptr, addr_add, Nat.zero_add, Nat.add_zero, fpureQ_k, fpureQ_nilA, fpureQ_addA, fpureQ_pureA, fpureQ_guardA, fpureQ_idxSlA, fpureQ_pickA, freadQ_loadA, freadQ_loadNA, freadQ_b2sA, freadQ_guardA, freadQ_slSlA, freadQ_k, fendA, fallA_one, fstillA_nil, fguardA_tt, fguardA_ff, fguardA_tf, fguardA_ft, fguardA_undef, fpickA_true, fpickA_false, fcondA_true, fcondA_false, binA_add, binA_sub, binA_mul, binA_eql, binA_neq, binA_lss, binA_leq, binA_gtr, binA_geq, unA_not, Bool.not_true, Bool.not_false, convA_int, extA_tuple, List.getElem?_toArray, List.getElem?_cons_zero, List.getElem?_cons_succ]
    refine loadA_at fb hx rfl ?_
    refine callA_of (Contains_spec kx1 hkl) fun r h2 ⟨e, e'⟩ f2 => ?_
    subst e e'
    simp only [lenSl_slice, lenStr_string, str_size, fpureA_some, fnilA_ptr, faddA_ptr, addr_add, Nat.zero_add, Nat.add_zero, fpureQ_k, fpureQ_nilA, fpureQ_addA, fpureQ_pureA, fpureQ_guardA, fpureQ_idxSlA, fpureQ_pickA, freadQ_loadA, freadQ_loadNA, freadQ_b2sA, freadQ_guardA, freadQ_slSlA, freadQ_k, fendA, fallA_one, fstillA_nil, fguardA_tt, fguardA_ff, fguardA_tf, fguardA_ft, fguardA_undef, fpickA_true, fpickA_false, fcondA_true, fcondA_false, binA_add, binA_sub, binA_mul, binA_eql, binA_neq, binA_lss, binA_leq, binA_gtr, binA_geq, unA_not, Bool.not_true, Bool.not_false, convA_int, extA_tuple, List.getElem?_toArray, List.getElem?_cons_zero, List.getElem?_cons_succ]
    have e := wth_snoc pre x ks
    by_cases hm : x.1 ∈ ks
    · rw [if_pos hm, List.append_nil] at e
      simp only [decide_eq_true hm, Bool.not_true, lenSl_slice, lenStr_string, str_size, fpureA_some, fnilA_ptr, faddA_ptr, addr_add, Nat.zero_add, Nat.add_zero, fpureQ_k, fpureQ_nilA, fpureQ_addA, fpureQ_pureA, fpureQ_guardA, fpureQ_idxSlA, fpureQ_pickA, freadQ_loadA, freadQ_loadNA, freadQ_b2sA, freadQ_guardA, freadQ_slSlA, freadQ_k, fendA, fallA_one, fstillA_nil, fguardA_tt, fguardA_ff, fguardA_tf, fguardA_ft, fguardA_undef, fpickA_true, fpickA_false, fcondA_true, fcondA_false, binA_add, binA_sub, binA_mul, binA_eql, binA_neq, binA_lss, binA_leq, binA_gtr, binA_geq, unA_not, Bool.not_true, Bool.not_false, convA_int, extA_tuple, List.getElem?_toArray, List.getElem?_cons_zero, List.getElem?_cons_succ, e6]
      exact ih (pre ++ [x]) h2 x3 S1 (by simpa using he) (by rw [e]; exact gx) stx
    · rw [if_neg hm] at e
      simp only [decide_eq_false hm, Bool.not_false, lenSl_slice, lenStr_string, str_size, fpureA_some, fnilA_ptr, faddA_ptr, addr_add, Nat.zero_add, Nat.add_zero, fpureQ_k, fpureQ_nilA, fpureQ_addA, fpureQ_pureA, fpureQ_guardA, fpureQ_idxSlA, fpureQ_pickA, freadQ_loadA, freadQ_loadNA, freadQ_b2sA, freadQ_guardA, freadQ_slSlA, freadQ_k, fendA, fallA_one, fstillA_nil, fguardA_tt, fguardA_ff, fguardA_tf, fguardA_ft, fguardA_undef, fpickA_true, fpickA_false, fcondA_true, fcondA_false, binA_add, binA_sub, binA_mul, binA_eql, binA_neq, binA_lss, binA_leq, binA_gtr, binA_geq, unA_not, Bool.not_true, Bool.not_false, convA_int, extA_tuple, List.getElem?_toArray, List.getElem?_cons_zero, List.getElem?_cons_succ]
      refine loadNA_whole fb hx rfl ?_
      refine appN_vec (by omega) gx.gv rfl rfl (by omega) (by omega) (by omega) fun x' h3 S3 v3 s3 => ?_
      simp only [e6]
      refine ih (pre ++ [x]) h3 x' S3 (by simpa using he) ?_ (stx.trans s3)
      rw [e]
      simpa [ivs] using v3
theorem Without_spec {v kx : Value} {l : List Itm} {ks : List Key} (hv : Is w0 h v l) (hk : Ks w0 h kx ks) (hl : l.length ≤ 1000000000) (hkl : ks.length ≤ 1000000000) :
    ACalls prog w0 n_seq_Without_string_int [v, kx] h fun r h' => ∃ S', Vec w0 h' 2 r (wth l ks).length (ivs (wth l ks)) S' ∧ Step h h' [] S' := by
  refine ACalls.of_fit (by simpa using ⟨hv.junk, hk.junk⟩) fun f => c_seq_Without_string_int (by simpa using ⟨hv.junk, hk.junk⟩) ?_
  simp only [s_seq_Without_string_int]
  refine callA_of (sorted_spec hv hl) fun r h1 ⟨S1, g1, s1⟩ f1 => ?_
  simp only [g1.sl.lenv, lenSl_slice, lenStr_string, str_size, fpureA_some, fnilA_ptr, faddA_ptr, addr_add, Nat.zero_add, Nat.add_zero, fpureQ_k, fpureQ_nilA, fpureQ_addA, fpureQ_pureA, fpureQ_guardA, fpureQ_idxSlA, fpureQ_pickA, freadQ_loadA, freadQ_loadNA, freadQ_b2sA, freadQ_guardA, freadQ_slSlA, freadQ_k, fendA, fallA_one, fstillA_nil, fguardA_tt, fguardA_ff, fguardA_tf, fguardA_ft, fguardA_undef, fpickA_true, fpickA_false, fcondA_true, fcondA_false, binA_add, binA_sub, binA_mul, binA_eql, binA_neq, binA_lss, binA_leq, binA_gtr, binA_geq, unA_not, Bool.not_true, Bool.not_false, convA_int, extA_tuple, List.getElem?_toArray, List.getElem?_cons_zero, List.getElem?_cons_succ]
  have hsl := srt_len l
  refine ⟨(srt l).length + 1, without_loop g1.sl (hk.step f s1 (by simp)) f1 (fun b hb => (g1.lt b hb).2) (by omega) hkl (fun x' h' S' g st => ?_) (srt l) [] h1 _ [] rfl .nil (.refl _ _ (by simp))⟩
  simp only [retA_iff, oneOf_one]
  exact ⟨by simpa using g.gv.junk, S', g, (s1.less (by simp)).trans st⟩
/-- One after the other is held against the key. -/
theorem rwithout_inner {k2 : Value → Value → Value → Value → Value → Value → Value → Hp → Prop} {kx x5 x12 x13 x14 : Value} {q : Nat} {x : Itm} {ks : List Key} (hk : Ks w0 h kx ks) (hq : w0.heap.size ≤ q) (hb : h.blk q = some (iv x)) (hl : ks.length ≤ 1000000000)
    (hr : k2 kx x5 (.pointer (some ⟨q, 0, none⟩)) (.bool (decide (x.1 ∈ ks))) x12 x13 x14 h) : ∀ (post pre : List Key), pre ++ post = ks →
      dedupref10_Without_L2 prog w0 k2 (post.length + 1) kx x5 (.pointer (some ⟨q, 0, none⟩)) (.bool (decide (x.1 ∈ pre))) x12 x13 x14 kx (.int .i64 (ks.length : Int)) (.int .i64 (pre.length : Int)) h := by
  intro post
  induction post with
  | nil =>
    intro pre he
    have hpre : pre = ks := by simpa using he
    subst hpre
    rw [List.length_nil, dedupref10_Without_L2]
    simp only [dedupref10_Without_B2, lenSl_slice, lenStr_string, str_size, fpureA_some, fnilA_ptr, faddA_ptr, addr_add, Nat.zero_add, Nat.add_zero, fpureQ_k, fpureQ_nilA, fpureQ_addA, fpureQ_pureA, fpureQ_guardA, fpureQ_idxSlA, fpureQ_pickA, freadQ_loadA, freadQ_loadNA, freadQ_b2sA, freadQ_guardA, freadQ_slSlA, freadQ_k, fendA, fallA_one, fstillA_nil, fguardA_tt, fguardA_ff, fguardA_tf, fguardA_ft, fguardA_undef, fpickA_true, fpickA_false, fcondA_true, fcondA_false, binA_add, binA_sub, binA_mul, binA_eql, binA_neq, binA_lss, binA_leq, binA_gtr, binA_geq, unA_not, Bool.not_true, Bool.not_false, convA_int, extA_tuple, List.getElem?_toArray, List.getElem?_cons_zero, List.getElem?_cons_succ, Int.lt_irrefl, decide_false]
    exact hr
  | cons y post ih =>
    intro pre he
    have hlen : pre.length + (post.length + 1) = ks.length := by rw [← he]; simp
    have hg : ks[pre.length]? = some y := by rw [← he]; simp
    have c1 : decide ((pre.length : Int) < (ks.length : Int)) = true := decide_eq_true (by omega)
    have e6 : IntKind.i64.wrap ((pre.length : Int) + 1) = (((pre ++ [y]).length : Nat) : Int) := by rw [IntWalk.i64_in _ (by omega)]; simp
    have := ih (pre ++ [y]) (by simpa using he)
    rw [List.length_cons, dedupref10_Without_L2]
    simp only [dedupref10_Without_B2, lenSl_slice, lenStr_string, str_size, fpureA_some, fnilA_ptr, faddA_ptr, addr_add, Nat.zero_add, Nat.add_zero, fpureQ_k, fpureQ_nilA, fpureQ_addA, fpureQ_pureA, fpureQ_guardA, fpureQ_idxSlA, fpureQ_pickA, freadQ_loadA, freadQ_loadNA, freadQ_b2sA, freadQ_guardA, freadQ_slSlA, freadQ_k, fendA, fallA_one, fstillA_nil, fguardA_tt, fguardA_ff, fguardA_tf, fguardA_ft, fguardA_undef, fpickA_true, fpickA_false, fcondA_true, fcondA_false, binA_add, binA_sub, binA_mul, binA_eql, binA_neq, binA_lss, binA_leq, binA_gtr, binA_geq, unA_not, Bool.not_true, Bool.not_false, convA_int, extA_tuple, List.getElem?_toArray, List.getElem?_cons_zero, List.getElem?_cons_succ, c1]
    refine hk.one (svsK_get hg) ?_
    by_cases hm : x.1 ∈ pre
    · rw [decide_eq_true hm]
      rw [decide_eq_true (by simp [hm])] at this
      simp only [lenSl_slice, lenStr_string, str_size, fpureA_some, fnilA_ptr, faddA_ptr, addr_add, Nat.zero_add, Nat.add_zero, fpureQ_k, fpureQ_nilA, fpureQ_addA, fpureQ_pureA, fpureQ_guardA, fpureQ_idxSlA, fpureQ_pickA, freadQ_loadA, freadQ_loadNA, freadQ_b2sA, freadQ_guardA, freadQ_slSlA, freadQ_k, fendA, fallA_one, fstillA_nil, fguardA_tt, fguardA_ff, fguardA_tf, fguardA_ft, fguardA_undef, fpickA_true, fpickA_false, fcondA_true, fcondA_false, binA_add, binA_sub, binA_mul, binA_eql, binA_neq, binA_lss, binA_leq, binA_gtr, binA_geq, unA_not, Bool.not_true, Bool.not_false, convA_int, extA_tuple, List.getElem?_toArray, List.getElem?_cons_zero, List.getElem?_cons_succ, e6]
      exact this
    · rw [decide_eq_false hm]
      simp only [lenSl_slice, lenStr_string, str_size, fpureA_some, fnilA_ptr, faddA_ptr, addr_add, Nat.zero_add, Nat.add_zero, fpureQ_k, fpureQ_nilA, fpureQ_addA, fpureQ_pureA, fpureQ_guardA, fpureQ_idxSlA, fpureQ_pickA, freadQ_loadA, freadQ_loadNA, freadQ_b2sA, freadQ_guardA, freadQ_slSlA, freadQ_k, fendA, fallA_one, fstillA_nil, fguardA_tt, fguardA_ff, fguardA_tf, fguardA_ft, fguardA_undef, fpickA_true, fpickA_false, fcondA_true, fcondA_false, binA_add, binA_sub, binA_mul, binA_eql, binA_neq, binA_lss, binA_leq, binA_gtr, binA_geq, unA_not, Bool.not_true, Bool.not_false, convA_int, extA_tuple, List.getElem?_toArray, List.getElem?_cons_zero, List.getElem?_cons_succ]
      refine loadA_at hq hb rfl ?_
      simp only [s_eql, lenSl_slice, lenStr_string, str_size, fpureA_some, fnilA_ptr, faddA_ptr, addr_add, Nat.zero_add, Nat.add_zero, fpureQ_k, fpureQ_nilA, fpureQ_addA, fpureQ_pureA, fpureQ_guardA, fpureQ_idxSlA, fpureQ_pickA, freadQ_loadA, freadQ_loadNA, freadQ_b2sA, freadQ_guardA, freadQ_slSlA, freadQ_k, fendA, fallA_one, fstillA_nil, fguardA_tt, fguardA_ff, fguardA_tf, fguardA_ft, fguardA_undef, fpickA_true, fpickA_false, fcondA_true, fcondA_false, binA_add, binA_sub, binA_mul, binA_eql, binA_neq, binA_lss, binA_leq, binA_gtr, binA_geq, unA_not, Bool.not_true, Bool.not_false, convA_int, extA_tuple, List.getElem?_toArray, List.getElem?_cons_zero, List.getElem?_cons_succ, e6]
      have e : decide (y = x.1) = decide (x.1 ∈ pre ++ [y]) := by
        by_cases e : y = x.1
        · simp [e]
        · have : ¬ x.1 = y := fun q => e q.symm
          simp [e, hm, this]
      rw [e]
      exact this
theorem rwithout_loop {k0 : Value → Hp → Prop} {v kx : Value} {l : List Itm} {ks : List Key} {hh : Hp} (hv : Is w0 hh v l) (hk : Ks w0 hh kx ks) (fh : Fit w0 hh) (hl : l.length ≤ 1000000000) (hkl : ks.length ≤ 1000000000)
    (hr : ∀ x' h' S', Vec w0 h' 2 x' (l.filter fun x => !decide (x.1 ∈ ks)).length (ivs (l.filter fun x => !decide (x.1 ∈ ks))) S' → Step hh h' [] S' → k0 x' h') : ∀ (post pre : List Itm) (h1 : Hp) (x5 : Value) (S1 : List Nat), pre ++ post = l →
      Vec w0 h1 2 x5 (pre.filter fun x => !decide (x.1 ∈ ks)).length (ivs (pre.filter fun x => !decide (x.1 ∈ ks))) S1 → Step hh h1 [] S1 →
      dedupref10_Without_L1 prog w0 k0 (post.length + 1) kx x5 v (.int .i64 (l.length : Int)) (.int .i64 (pre.length : Int)) h1 := by
  intro post
  induction post with
  | nil =>
    intro pre h1 x3 S1 he g st
    have hpre : pre = l := by simpa using he
    subst hpre
    rw [List.length_nil, dedupref10_Without_L1]
    simp only [dedupref10_Without_B1, lenSl_slice, lenStr_string, str_size, fpureA_some, fnilA_ptr, faddA_ptr, addr_add, Nat.zero_add, Nat.add_zero, fpureQ_k, fpureQ_nilA, fpureQ_addA, fpureQ_pureA, fpureQ_guardA, fpureQ_idxSlA, fpureQ_pickA, freadQ_loadA, freadQ_loadNA, freadQ_b2sA, freadQ_guardA, freadQ_slSlA, freadQ_k, fendA, fallA_one, fstillA_nil, fguardA_tt, fguardA_ff, fguardA_tf, fguardA_ft, fguardA_undef, fpickA_true, fpickA_false, fcondA_true, fcondA_false, binA_add, binA_sub, binA_mul, binA_eql, binA_neq, binA_lss, binA_leq, binA_gtr, binA_geq, unA_not, Bool.not_true, Bool.not_false, convA_int, extA_tuple, List.getElem?_toArray, List.getElem?_cons_zero, List.getElem?_cons_succ, Int.lt_irrefl, decide_false]
    exact hr x3 h1 S1 g st
  | cons x post ih =>
    intro pre h1 x3 S1 he g st
    have hlen : pre.length + (post.length + 1) = l.length := by rw [← he]; simp
    have hg : l[pre.length]? = some x := by rw [← he]; simp
    have c1 : decide ((pre.length : Int) < (l.length : Int)) = true := decide_eq_true (by omega)
    have e6 : IntKind.i64.wrap ((pre.length : Int) + 1) = (((pre ++ [x]).length : Nat) : Int) := by rw [IntWalk.i64_in _ (by omega)]; simp
    have hfl : (pre.filter fun x => !decide (x.1 ∈ ks)).length ≤ pre.length := List.length_filter_le _ _
    have vs : Is w0 h1 v l := hv.step fh st (by simp)
    have fb := st.base fh.base
    rw [List.length_cons, dedupref10_Without_L1]
    simp only [dedupref10_Without_B1, lenSl_slice, lenStr_string, str_size, fpureA_some, fnilA_ptr, faddA_ptr, addr_add, Nat.zero_add, Nat.add_zero, fpureQ_k, fpureQ_nilA, fpureQ_addA, fpureQ_pureA, fpureQ_guardA, fpureQ_idxSlA, fpureQ_pickA, freadQ_loadA, freadQ_loadNA, freadQ_b2sA, freadQ_guardA, freadQ_slSlA, freadQ_k, fendA, fallA_one, fstillA_nil, fguardA_tt, fguardA_ff, fguardA_tf, fguardA_ft, fguardA_undef, fpickA_true, fpickA_false, fcondA_true, fcondA_false, binA_add, binA_sub, binA_mul, binA_eql, binA_neq, binA_lss, binA_leq, binA_gtr, binA_geq, unA_not, Bool.not_true, Bool.not_false, convA_int, extA_tuple, List.getElem?_toArray, List.getElem?_cons_zero, List.getElem?_cons_succ, c1]
    refine vs.elem (by omega) (ivs_get hg) ?_
    refine boxN fb rfl rfl (by simp [isCell]) ?_
    have sx : Step h1 (h1.new (iv x) 2) [] [h1.next] := (Step.refl h1 [] (by simp)).new _ _
    have hx : (h1.new (iv x) 2).blk h1.next = some (iv x) := by simp
    have stx : Step hh (h1.new (iv x) 2) [] S1 := st.trans ((sx.less (T := []) (by simp)).keepS fun b hb => (g.lt b hb).2)
    have gx := g.frame sx (by simp)
    have fbx : w0.heap.size ≤ (h1.new (iv x) 2).next := by simp; omega
    generalize hnx : h1.new (iv x) 2 = hx1 at *
    have kx1 : Ks w0 hx1 kx ks := hk.step fh stx (by simp)
    simp only [kx1.lenv, lenSl_slice, lenStr_string, str_size, fpureA_some, fnilA_ptr, faddA_ptr, addr_add, Nat.zero_add, Nat.add_zero, fpureQ_k, fpureQ_nilA, fpureQ_addA, fpureQ_pureA, fpureQ_guardA, fpureQ_idxSlA, fpureQ_pickA, freadQ_loadA, freadQ_loadNA, freadQ_b2sA, freadQ_guardA, freadQ_slSlA, freadQ_k, fendA, fallA_one, fstillA_nil, fguardA_tt, fguardA_ff, fguardA_tf, fguardA_ft, fguardA_undef, fpickA_true, fpickA_false, fcondA_true, fcondA_false, binA_add, binA_sub, binA_mul, binA_eql, binA_neq, binA_lss, binA_leq, binA_gtr, binA_geq, unA_not, Bool.not_true, Bool.not_false, convA_int, extA_tuple, List.getElem?_toArray, List.getElem?_cons_zero, List.getElem?_cons_succ]
    refine ⟨ks.length + 1, rwithout_inner kx1 fb hx hkl ?_ ks [] rfl⟩
    simp only [lenSl_slice, lenStr_string, str_size, fpureA_some, fnilA_ptr, faddA_ptr, addr_add, Nat.zero_add, Nat.add_zero, fpureQ_k, fpureQ_nilA, fpureQ_addA, fpureQ_pureA, fpureQ_guardA, fpureQ_idxSlA, fpureQ_pickA, freadQ_loadA, freadQ_loadNA, freadQ_b2sA, freadQ_guardA, freadQ_slSlA, freadQ_k, fendA, fallA_one, fstillA_nil, fguardA_tt, fguardA_ff, fguardA_tf, fguardA_ft, fguardA_undef, fpickA_true, fpickA_false, fcondA_true, fcondA_false, binA_add, binA_sub, binA_mul, binA_eql, binA_neq, binA_lss, binA_leq, binA_gtr, binA_geq, unA_not, Bool.not_true, Bool.not_false, convA_int, extA_tuple, List.getElem?_toArray, List.getElem?_cons_zero, List.getElem?_cons_succ]
    have e := wth_snoc pre x ks
    by_cases hm : x.1 ∈ ks
    · rw [if_pos hm, List.append_nil] at e
      simp only [decide_eq_true hm, Bool.not_true, lenSl_slice, lenStr_string, str_size, fpureA_some, fnilA_ptr, faddA_ptr, addr_add, Nat.zero_add, Nat.add_zero, fpureQ_k, fpureQ_nilA, fpureQ_addA, fpureQ_pureA, fpureQ_guardA, fpureQ_idxSlA, fpureQ_pickA, freadQ_loadA, freadQ_loadNA, freadQ_b2sA, freadQ_guardA, freadQ_slSlA, freadQ_k, fendA, fallA_one, fstillA_nil, fguardA_tt, fguardA_ff, fguardA_tf, fguardA_ft, fguardA_undef, fpickA_true, fpickA_false, fcondA_true, fcondA_false, binA_add, binA_sub, binA_mul, binA_eql, binA_neq, binA_lss, binA_leq, binA_gtr, binA_geq, unA_not, Bool.not_true, Bool.not_false, convA_int, extA_tuple, List.getElem?_toArray, List.getElem?_cons_zero, List.getElem?_cons_succ, e6]
      exact ih (pre ++ [x]) hx1 x3 S1 (by simpa using he) (by rw [e]; exact gx) stx
    · rw [if_neg hm] at e
      simp only [decide_eq_false hm, Bool.not_false, lenSl_slice, lenStr_string, str_size, fpureA_some, fnilA_ptr, faddA_ptr, addr_add, Nat.zero_add, Nat.add_zero, fpureQ_k, fpureQ_nilA, fpureQ_addA, fpureQ_pureA, fpureQ_guardA, fpureQ_idxSlA, fpureQ_pickA, freadQ_loadA, freadQ_loadNA, freadQ_b2sA, freadQ_guardA, freadQ_slSlA, freadQ_k, fendA, fallA_one, fstillA_nil, fguardA_tt, fguardA_ff, fguardA_tf, fguardA_ft, fguardA_undef, fpickA_true, fpickA_false, fcondA_true, fcondA_false, binA_add, binA_sub, binA_mul, binA_eql, binA_neq, binA_lss, binA_leq, binA_gtr, binA_geq, unA_not, Bool.not_true, Bool.not_false, convA_int, extA_tuple, List.getElem?_toArray, List.getElem?_cons_zero, List.getElem?_cons_succ]
      refine loadNA_whole fb hx rfl ?_
      refine appN_vec (by omega) gx.gv rfl rfl (by omega) (by omega) (by omega) fun x' h3 S3 v3 s3 => ?_
      simp only [e6]
      refine ih (pre ++ [x]) h3 x' S3 (by simpa using he) ?_ (stx.trans s3)
      rw [e]
      simpa [ivs] using v3
theorem rWithout_spec {v kx : Value} {l : List Itm} {ks : List Key} (hv : Is w0 h v l) (hk : Ks w0 h kx ks) (hl : l.length ≤ 1000000000) (hkl : ks.length ≤ 1000000000) :
    ACalls prog w0 n_dedupref10_Without [v, kx] h fun r h' => ∃ S', Vec w0 h' 2 r (wth l ks).length (ivs (wth l ks)) S' ∧ Step h h' [] S' := by
  refine ACalls.of_fit (by simpa using ⟨hv.junk, hk.junk⟩) fun f => c_dedupref10_Without (by simpa using ⟨hv.junk, hk.junk⟩) ?_
  simp only [s_dedupref10_Without]
  refine callA_of (rSortOut_spec hv hl) fun r h1 ⟨S1, g1, s1⟩ f1 => ?_
  simp only [g1.sl.lenv, lenSl_slice, lenStr_string, str_size, fpureA_some, fnilA_ptr, faddA_ptr, addr_add, Nat.zero_add, Nat.add_zero, fpureQ_k, fpureQ_nilA, fpureQ_addA, fpureQ_pureA, fpureQ_guardA, fpureQ_idxSlA, fpureQ_pickA, freadQ_loadA, freadQ_loadNA, freadQ_b2sA, freadQ_guardA, freadQ_slSlA, freadQ_k, fendA, fallA_one, fstillA_nil, fguardA_tt, fguardA_ff, fguardA_tf, fguardA_ft, fguardA_undef, fpickA_true, fpickA_false, fcondA_true, fcondA_false, binA_add, binA_sub, binA_mul, binA_eql, binA_neq, binA_lss, binA_leq, binA_gtr, binA_geq, unA_not, Bool.not_true, Bool.not_false, convA_int, extA_tuple, List.getElem?_toArray, List.getElem?_cons_zero, List.getElem?_cons_succ]
  have hsl := srt_len l
  refine ⟨(srt l).length + 1, rwithout_loop g1.sl (hk.step f s1 (by simp)) f1 (by omega) hkl (fun x' h' S' g st => ?_) (srt l) [] h1 _ [] rfl .nil (.refl _ _ (by simp))⟩
  simp only [retA_iff, oneOf_one]
  exact ⟨by simpa using g.gv.junk, S', g, (s1.less (by simp)).trans st⟩
end
theorem hasK_iff {l : List Itm} (s : Srt l) (k : Key) : hasK l k = true ↔ ∃ o, o ∈ l ∧ o.1 = k := by
  constructor
  · intro h
    obtain ⟨v, hv⟩ := hasK_some h
    exact ⟨_, List.mem_of_getElem? hv, rfl⟩
  · rintro ⟨o, ho, rfl⟩
    obtain ⟨j, hj⟩ := List.getElem?_of_mem ho
    have hjl := (List.getElem?_eq_some_iff.1 hj).1
    have hle : findK l o.1 ≤ j := by
      rcases Nat.lt_or_ge j (findK l o.1) with q | q
      · have := findK_below l o.1 j o q hj
        rw [blt_irrefl] at this
        cases this
      · exact q
    have hf : l[findK l o.1]? = some l[findK l o.1] := List.getElem?_eq_getElem (by omega)
    have h1 := findK_at l o.1 _ hf
    unfold hasK isAt
    rw [hf]
    simp only [decide_eq_true_eq]
    rcases Nat.lt_or_eq_of_le hle with q | q
    · have := List.pairwise_iff_getElem.1 s (findK l o.1) j (by omega) hjl q
      have e : l[j] = o := (List.getElem?_eq_some_iff.1 hj).2
      rw [e, h1] at this
      cases this
    · have e : l[j] = o := (List.getElem?_eq_some_iff.1 hj).2
      have : l[findK l o.1] = l[j] := by congr 1
      rw [this, e]
theorem hasK_not {l : List Itm} (s : Srt l) (k : Key) : hasK l k = false ↔ ∀ o, o ∈ l → o.1 ≠ k := by
  constructor
  · intro h o ho e
    have := (hasK_iff s k).2 ⟨o, ho, e⟩
    rw [h] at this
    cases this
  · intro h
    cases e : hasK l k with
    | false => rfl
    | true =>
      obtain ⟨o, ho, e⟩ := (hasK_iff s k).1 e
      exact absurd e (h o ho)
theorem take_lt {l : List Itm} {k : Key} {x : Itm} (h : x ∈ l.take (findK l k)) : blt x.1 k = true := by
  obtain ⟨i, hi⟩ := List.getElem?_of_mem h
  rw [List.getElem?_take] at hi
  split at hi
  · rename_i q
    exact findK_below l k i x q hi
  · cases hi
theorem drop_ge {l : List Itm} (s : Srt l) {k : Key} {x : Itm} {i : Nat} (hi : findK l k ≤ i) (h : x ∈ l.drop i) : blt x.1 k = false := by
  obtain ⟨j, hj⟩ := List.getElem?_of_mem h
  rw [List.getElem?_drop] at hj
  exact s.above (by omega) hj
theorem drop_gt {l : List Itm} (s : Srt l) {k : Key} (hn : hasK l k = false) {x : Itm} (h : x ∈ l.drop (findK l k)) : blt k x.1 = true := by
  rcases blt_or (drop_ge s (Nat.le_refl _) h) with e | e
  · exact absurd e ((hasK_not s k).1 hn x (List.mem_of_mem_drop h))
  · exact e
theorem drop_gt' {l : List Itm} (s : Srt l) {k : Key} (hn : hasK l k = true) {x : Itm} (h : x ∈ l.drop (findK l k + 1)) : blt k x.1 = true := by
  obtain ⟨v, hv⟩ := hasK_some hn
  obtain ⟨j, hj⟩ := List.getElem?_of_mem h
  rw [List.getElem?_drop] at hj
  obtain ⟨h1, e1⟩ := List.getElem?_eq_some_iff.1 hv
  obtain ⟨h2, e2⟩ := List.getElem?_eq_some_iff.1 hj
  have := List.pairwise_iff_getElem.1 s _ _ h1 h2 (by omega)
  rw [e1, e2] at this
  exact this
theorem putK_eq (l : List Itm) (k : Key) (v : Int) : putK l k v = l.take (findK l k) ++ (k, v) :: l.drop (if hasK l k = true then findK l k + 1 else findK l k) := by
  unfold putK
  split
  · rename_i h
    obtain ⟨u, hu⟩ := hasK_some h
    rw [List.set_eq_take_append_cons_drop, if_pos (List.getElem?_eq_some_iff.1 hu).1]
  · rfl
theorem putK_srt {l : List Itm} (s : Srt l) (k : Key) (v : Int) : Srt (putK l k v) := by
  rw [putK_eq]
  have s1 : Srt (l.take (findK l k)) := List.Pairwise.sublist (List.take_sublist _ _) s
  have s2 : ∀ i, Srt (l.drop i) := fun i => List.Pairwise.sublist (List.drop_sublist _ _) s
  have hgt : ∀ x, x ∈ l.drop (if hasK l k = true then findK l k + 1 else findK l k) → blt k x.1 = true := by
    intro x hx
    cases h : hasK l k with
    | true => rw [h, if_pos rfl] at hx; exact drop_gt' s h hx
    | false => rw [h, if_neg (by simp)] at hx; exact drop_gt s h hx
  refine List.pairwise_append.2 ⟨s1, List.pairwise_cons.2 ⟨fun x hx => hgt x hx, s2 _⟩, fun a ha b hb => ?_⟩
  rcases List.mem_cons.1 hb with rfl | hb
  · exact take_lt ha
  · exact blt_trans (take_lt ha) (hgt b hb)
theorem delK_srt {l : List Itm} (s : Srt l) (k : Key) : Srt (delK l k) := by
  unfold delK
  split
  · rename_i h
    refine List.pairwise_append.2 ⟨List.Pairwise.sublist (List.take_sublist _ _) s, List.Pairwise.sublist (List.drop_sublist _ _) s, fun a ha b hb => ?_⟩
    exact blt_trans (take_lt ha) (drop_gt' s h hb)
  · exact s
theorem putK_len (l : List Itm) (k : Key) (v : Int) : (putK l k v).length ≤ l.length + 1 := by
  unfold putK
  have := findK_le l k
  split
  · simp
  · simp; omega
theorem delK_len (l : List Itm) (k : Key) : (delK l k).length ≤ l.length := by
  unfold delK
  split
  · simp; omega
  · exact Nat.le_refl _
theorem putK_mem {l : List Itm} {k : Key} (hn : hasK l k = false) (v : Int) (x : Itm) : x ∈ putK l k v ↔ x = (k, v) ∨ x ∈ l := by
  unfold putK
  rw [hn, if_neg (by simp)]
  conv => rhs; rw [← List.take_append_drop (findK l k) l]
  simp only [List.mem_append, List.mem_cons]
  constructor
  · rintro (q | q | q)
    · exact .inr (.inl q)
    · exact .inl q
    · exact .inr (.inr q)
  · rintro (q | q | q)
    · exact .inr (.inl q)
    · exact .inl q
    · exact .inr (.inr q)
/-! ### Merging -/
structure RInv (ls : List (List Itm)) (n j : Nat) (out : List Itm) : Prop where
  srt : Srt out
  sub : ∀ x, x ∈ out → First ls x
  all : ∀ (m : Nat) (l' : List Itm) y, m < n → ls[m]? = some l' → y ∈ l' → ∃ o, o ∈ out ∧ o.1 = y.1
  now : ∀ (l' : List Itm) y, ls[n]? = some l' → y ∈ l'.take j → ∃ o, o ∈ out ∧ o.1 = y.1
theorem RInv.skip {ls : List (List Itm)} {n j : Nat} {out l : List Itm} {x : Itm} (i : RInv ls n j out) (hl : ls[n]? = some l) (hx : l[j]? = some x) (h : hasK out x.1 = true) : RInv ls n (j + 1) out :=
  ⟨i.srt, i.sub, i.all, fun l' y h1 h2 => by
    rw [hl] at h1
    cases h1
    rw [List.take_add_one, hx] at h2
    rcases List.mem_append.1 h2 with q | q
    · exact i.now l y hl q
    · simp at q
      subst q
      exact (hasK_iff i.srt _).1 h⟩
theorem RInv.put {ls : List (List Itm)} {n j : Nat} {out l : List Itm} {x : Itm} (i : RInv ls n j out) (hl : ls[n]? = some l) (hx : l[j]? = some x) (h : hasK out x.1 = false) : RInv ls n (j + 1) (putK out x.1 x.2) := by
  have hm := fun y => putK_mem h x.2 y
  refine ⟨putK_srt i.srt _ _, fun y hy => ?_, fun m l' y h1 h2 h3 => ?_, fun l' y h1 h2 => ?_⟩
  · rcases (hm y).1 hy with rfl | q
    · refine ⟨n, l, hl, List.mem_of_getElem? hx, fun m l' hmn hl' w hw e => ?_⟩
      obtain ⟨o, ho, e'⟩ := i.all m l' w hmn hl' hw
      exact (hasK_not i.srt _).1 h o ho (by rw [e']; exact e)
    · exact i.sub y q
  · obtain ⟨o, ho, e⟩ := i.all m l' y h1 h2 h3
    exact ⟨o, (hm o).2 (.inr ho), e⟩
  · rw [hl] at h1
    cases h1
    rw [List.take_add_one, hx] at h2
    rcases List.mem_append.1 h2 with q | q
    · obtain ⟨o, ho, e⟩ := i.now l y hl q
      exact ⟨o, (hm o).2 (.inr ho), e⟩
    · simp at q
      subst q
      exact ⟨(y.1, y.2), (hm _).2 (.inl rfl), rfl⟩
theorem RInv.next {ls : List (List Itm)} {n : Nat} {out l : List Itm} (i : RInv ls n l.length out) (hl : ls[n]? = some l) : RInv ls (n + 1) 0 out :=
  ⟨i.srt, i.sub, fun m l' y h1 h2 h3 => by
    rcases Nat.lt_or_ge m n with q | q
    · exact i.all m l' y q h2 h3
    · have : m = n := by omega
      subst this
      rw [hl] at h2
      cases h2
      exact i.now l y hl (by rw [List.take_length]; exact h3), fun l' y _ h2 => by simp at h2⟩
theorem RInv.done {ls : List (List Itm)} {out : List Itm} (i : RInv ls ls.length 0 out) : IsM ls out :=
  ⟨i.srt, i.sub, fun m l' y h1 h2 => i.all m l' y (List.getElem?_eq_some_iff.1 h1).1 h1 h2⟩
section
variable {w0 : World} {h : Hp}
theorem rmerge_inner {k2 : Value → Value → Value → Value → Hp → Prop} {v x10 x11 x12 : Value} {ha : Hp} {S0 : List Nat} {ls : List (List Itm)} {n T : Nat} {l : List Itm} (hv : Is w0 ha v l) (fa : Fit w0 ha) (hd : ∀ b, b ∈ sblk v → b ∉ S0) (hl : l.length ≤ 100000000) (hT : T ≤ 10000000) (hln : ls[n]? = some l)
    (hr : ∀ x' h' out S', GV w0 h' 2 x' out.length (ivs out) S' → RInv ls n l.length out → out.length ≤ T → Step ha h' S0 S' → Fit w0 h' → k2 x' x10 x11 x12 h') : ∀ (post pre : List Itm) (h1 : Hp) (x3 : Value) (S1 : List Nat) (out : List Itm), pre ++ post = l → Fit w0 h1 →
      GV w0 h1 2 x3 out.length (ivs out) S1 → RInv ls n pre.length out → out.length + post.length ≤ T → Step ha h1 S0 S1 →
      dedupref10_Merge_L2 prog w0 k2 (post.length + 1) x3 x10 x11 x12 v (.int .i64 (l.length : Int)) (.int .i64 (pre.length : Int)) h1 := by
  intro post
  induction post with
  | nil =>
    intro pre h1 x3 S1 out he f1 g i ho st
    have hpre : pre = l := by simpa using he
    subst hpre
    rw [List.length_nil, dedupref10_Merge_L2]
    simp only [dedupref10_Merge_B2, lenSl_slice, lenStr_string, str_size, fpureA_some, fnilA_ptr, faddA_ptr, addr_add, Nat.zero_add, Nat.add_zero, fpureQ_k, fpureQ_nilA, fpureQ_addA, fpureQ_pureA, fpureQ_guardA, fpureQ_idxSlA, fpureQ_pickA, freadQ_loadA, freadQ_loadNA, freadQ_b2sA, freadQ_guardA, freadQ_slSlA, freadQ_k, fendA, fallA_one, fstillA_nil, fguardA_tt, fguardA_ff, fguardA_tf, fguardA_ft, fguardA_undef, fpickA_true, fpickA_false, fcondA_true, fcondA_false, binA_add, binA_sub, binA_mul, binA_eql, binA_neq, binA_lss, binA_leq, binA_gtr, binA_geq, unA_not, Bool.not_true, Bool.not_false, convA_int, extA_tuple, List.getElem?_toArray, List.getElem?_cons_zero, List.getElem?_cons_succ, Int.lt_irrefl, decide_false]
    exact hr x3 h1 out S1 g i (by simpa using ho) st f1
  | cons x post ih =>
    intro pre h1 x3 S1 out he f1 g i ho st
    have hlen : pre.length + (post.length + 1) = l.length := by rw [← he]; simp
    have hg : l[pre.length]? = some x := by rw [← he]; simp
    have c1 : decide ((pre.length : Int) < (l.length : Int)) = true := decide_eq_true (by omega)
    have e6 : IntKind.i64.wrap ((pre.length : Int) + 1) = (((pre ++ [x]).length : Nat) : Int) := by rw [IntWalk.i64_in _ (by omega)]; simp
    simp only [List.length_cons] at ho
    have vs : Is w0 h1 v l := hv.step fa st hd
    have fb := f1.base
    rw [List.length_cons, dedupref10_Merge_L2]
    simp only [dedupref10_Merge_B2, lenSl_slice, lenStr_string, str_size, fpureA_some, fnilA_ptr, faddA_ptr, addr_add, Nat.zero_add, Nat.add_zero, fpureQ_k, fpureQ_nilA, fpureQ_addA, fpureQ_pureA, fpureQ_guardA, fpureQ_idxSlA, fpureQ_pickA, freadQ_loadA, freadQ_loadNA, freadQ_b2sA, freadQ_guardA, freadQ_slSlA, freadQ_k, fendA, fallA_one, fstillA_nil, fguardA_tt, fguardA_ff, fguardA_tf, fguardA_ft, fguardA_undef, fpickA_true, fpickA_false, fcondA_true, fcondA_false, binA_add, binA_sub, binA_mul, binA_eql, binA_neq, binA_lss, binA_leq, binA_gtr, binA_geq, unA_not, Bool.not_true, Bool.not_false, convA_int, extA_tuple, List.getElem?_toArray, List.getElem?_cons_zero, List.getElem?_cons_succ, c1]
    refine vs.elem (by omega) (ivs_get hg) ?_
    refine boxN fb rfl rfl (by simp [isCell]) ?_
    have sx : Step h1 (h1.new (iv x) 2) [] [h1.next] := (Step.refl h1 [] (by simp)).new _ _
    have hx : (h1.new (iv x) 2).blk h1.next = some (iv x) := by simp
    have hS1 := fun b hb => (g.lt b hb).2
    have stx : Step ha (h1.new (iv x) 2) S0 S1 := st.trans ((sx.less (T := []) (by simp)).keepS hS1)
    have gx := g.frame sx (by simp)
    have fx : Fit w0 (h1.new (iv x) 2) := f1.new (by simp [iv, isCell])
    have hqx : h1.next < (h1.new (iv x) 2).next := by simp
    generalize hnx : h1.new (iv x) 2 = hx1 at *
    simp only [lenSl_slice, lenStr_string, str_size, fpureA_some, fnilA_ptr, faddA_ptr, addr_add, Nat.zero_add, Nat.add_zero, fpureQ_k, fpureQ_nilA, fpureQ_addA, fpureQ_pureA, fpureQ_guardA, fpureQ_idxSlA, fpureQ_pickA, freadQ_loadA, freadQ_loadNA, freadQ_b2sA, freadQ_guardA, freadQ_slSlA, freadQ_k, fendA, fallA_one, fstillA_nil, fguardA_tt, fguardA_ff, fguardA_tf, fguardA_ft, fguardA_undef, fpickA_true, fpickA_false, fcondA_true, fcondA_false, binA_add, binA_sub, binA_mul, binA_eql, binA_neq, binA_lss, binA_leq, binA_gtr, binA_geq, unA_not, Bool.not_true, Bool.not_false, convA_int, extA_tuple, List.getElem?_toArray, List.getElem?_cons_zero, List.getElem?_cons_succ]
    refine loadA_at fb hx rfl ?_
    refine callA_of (rFind_spec gx.sl (by omega)) fun r h2 ⟨e, s2⟩ f2 => ?_
    subst e
    have g2 := gx.frame s2 (by simp)
    have st2 : Step ha h2 S0 S1 := stx.trans (s2.keepS fun b hb => (gx.lt b hb).2)
    have hx2 : h2.blk h1.next = some (iv x) := by rw [(s2.keep _ hqx (by simp)).1]; exact hx
    simp only [lenSl_slice, lenStr_string, str_size, fpureA_some, fnilA_ptr, faddA_ptr, addr_add, Nat.zero_add, Nat.add_zero, fpureQ_k, fpureQ_nilA, fpureQ_addA, fpureQ_pureA, fpureQ_guardA, fpureQ_idxSlA, fpureQ_pickA, freadQ_loadA, freadQ_loadNA, freadQ_b2sA, freadQ_guardA, freadQ_slSlA, freadQ_k, fendA, fallA_one, fstillA_nil, fguardA_tt, fguardA_ff, fguardA_tf, fguardA_ft, fguardA_undef, fpickA_true, fpickA_false, fcondA_true, fcondA_false, binA_add, binA_sub, binA_mul, binA_eql, binA_neq, binA_lss, binA_leq, binA_gtr, binA_geq, unA_not, Bool.not_true, Bool.not_false, convA_int, extA_tuple, List.getElem?_toArray, List.getElem?_cons_zero, List.getElem?_cons_succ]
    cases hh : hasK out x.1 with
    | true =>
      simp only [Bool.not_true, lenSl_slice, lenStr_string, str_size, fpureA_some, fnilA_ptr, faddA_ptr, addr_add, Nat.zero_add, Nat.add_zero, fpureQ_k, fpureQ_nilA, fpureQ_addA, fpureQ_pureA, fpureQ_guardA, fpureQ_idxSlA, fpureQ_pickA, freadQ_loadA, freadQ_loadNA, freadQ_b2sA, freadQ_guardA, freadQ_slSlA, freadQ_k, fendA, fallA_one, fstillA_nil, fguardA_tt, fguardA_ff, fguardA_tf, fguardA_ft, fguardA_undef, fpickA_true, fpickA_false, fcondA_true, fcondA_false, binA_add, binA_sub, binA_mul, binA_eql, binA_neq, binA_lss, binA_leq, binA_gtr, binA_geq, unA_not, Bool.not_true, Bool.not_false, convA_int, extA_tuple, List.getElem?_toArray, List.getElem?_cons_zero, List.getElem?_cons_succ, e6]
      exact ih (pre ++ [x]) h2 x3 S1 out (by simpa using he) f2 g2 (by simpa using i.skip hln hg hh) (by omega) st2
    | false =>
      simp only [Bool.not_false, lenSl_slice, lenStr_string, str_size, fpureA_some, fnilA_ptr, faddA_ptr, addr_add, Nat.zero_add, Nat.add_zero, fpureQ_k, fpureQ_nilA, fpureQ_addA, fpureQ_pureA, fpureQ_guardA, fpureQ_idxSlA, fpureQ_pickA, freadQ_loadA, freadQ_loadNA, freadQ_b2sA, freadQ_guardA, freadQ_slSlA, freadQ_k, fendA, fallA_one, fstillA_nil, fguardA_tt, fguardA_ff, fguardA_tf, fguardA_ft, fguardA_undef, fpickA_true, fpickA_false, fcondA_true, fcondA_false, binA_add, binA_sub, binA_mul, binA_eql, binA_neq, binA_lss, binA_leq, binA_gtr, binA_geq, unA_not, Bool.not_true, Bool.not_false, convA_int, extA_tuple, List.getElem?_toArray, List.getElem?_cons_zero, List.getElem?_cons_succ]
      refine loadNA_whole fb hx2 rfl ?_
      refine callA_of (rPut_spec (k := x.1) (v := x.2) g2.sl (by omega)) fun r h3 ⟨y, S3, e, g3, s3⟩ f3 => ?_
      subst e
      simp only [lenSl_slice, lenStr_string, str_size, fpureA_some, fnilA_ptr, faddA_ptr, addr_add, Nat.zero_add, Nat.add_zero, fpureQ_k, fpureQ_nilA, fpureQ_addA, fpureQ_pureA, fpureQ_guardA, fpureQ_idxSlA, fpureQ_pickA, freadQ_loadA, freadQ_loadNA, freadQ_b2sA, freadQ_guardA, freadQ_slSlA, freadQ_k, fendA, fallA_one, fstillA_nil, fguardA_tt, fguardA_ff, fguardA_tf, fguardA_ft, fguardA_undef, fpickA_true, fpickA_false, fcondA_true, fcondA_false, binA_add, binA_sub, binA_mul, binA_eql, binA_neq, binA_lss, binA_leq, binA_gtr, binA_geq, unA_not, Bool.not_true, Bool.not_false, convA_int, extA_tuple, List.getElem?_toArray, List.getElem?_cons_zero, List.getElem?_cons_succ, e6]
      have hpl := putK_len out x.1 x.2
      exact ih (pre ++ [x]) h3 y S3 _ (by simpa using he) f3 g3 (by simpa using i.put hln hg hh) (by omega) ((st2.less (T := []) (by simp)).trans s3)
theorem rmerge_loop {k0 : Value → Hp → Prop} {v : Value} {ps : List (Value × List Itm)} {hh : Hp} {ls : List (List Itm)} (hv : Ls w0 hh v ps) (fh : Fit w0 hh) (hls : ls = ps.map fun q => srt q.2) (hl : ps.length ≤ 1000000) (hl2 : (ps.map fun q => q.2.length).sum ≤ 10000000)
    (hk : ∀ x' h' out S', GV w0 h' 2 x' out.length (ivs out) S' → RInv ls ps.length 0 out → out.length ≤ (ps.map fun q => q.2.length).sum → Step hh h' [] S' → Fit w0 h' → k0 x' h') :
    ∀ (post pre : List (Value × List Itm)) (h1 : Hp) (x3 : Value) (S1 : List Nat) (out : List Itm), pre ++ post = ps → Fit w0 h1 → GV w0 h1 2 x3 out.length (ivs out) S1 → RInv ls pre.length 0 out → out.length ≤ (pre.map fun q => q.2.length).sum → Step hh h1 [] S1 →
      dedupref10_Merge_L1 prog w0 k0 (post.length + 1) x3 v (.int .i64 (ps.length : Int)) (.int .i64 (pre.length : Int)) h1 := by
  intro post
  induction post with
  | nil =>
    intro pre h1 x3 S1 out he f1 g i ho st
    have hpre : pre = ps := by simpa using he
    subst hpre
    rw [List.length_nil, dedupref10_Merge_L1]
    simp only [dedupref10_Merge_B1, lenSl_slice, lenStr_string, str_size, fpureA_some, fnilA_ptr, faddA_ptr, addr_add, Nat.zero_add, Nat.add_zero, fpureQ_k, fpureQ_nilA, fpureQ_addA, fpureQ_pureA, fpureQ_guardA, fpureQ_idxSlA, fpureQ_pickA, freadQ_loadA, freadQ_loadNA, freadQ_b2sA, freadQ_guardA, freadQ_slSlA, freadQ_k, fendA, fallA_one, fstillA_nil, fguardA_tt, fguardA_ff, fguardA_tf, fguardA_ft, fguardA_undef, fpickA_true, fpickA_false, fcondA_true, fcondA_false, binA_add, binA_sub, binA_mul, binA_eql, binA_neq, binA_lss, binA_leq, binA_gtr, binA_geq, unA_not, Bool.not_true, Bool.not_false, convA_int, extA_tuple, List.getElem?_toArray, List.getElem?_cons_zero, List.getElem?_cons_succ, Int.lt_irrefl, decide_false]
    exact hk x3 h1 out S1 g i ho st f1
  | cons z post ih =>
    intro pre h1 x3 S1 out he f1 g i ho st
    have hlen : pre.length + (post.length + 1) = ps.length := by rw [← he]; simp
    have hg : ps[pre.length]? = some z := by rw [← he]; simp
    have hzm : z ∈ ps := List.mem_of_getElem? hg
    have hzl := bulk_mem (fun q : Value × List Itm => q.2.length) hzm
    have c1 : decide ((pre.length : Int) < (ps.length : Int)) = true := decide_eq_true (by omega)
    have e6 : IntKind.i64.wrap ((pre.length : Int) + 1) = (((pre ++ [z]).length : Nat) : Int) := by rw [IntWalk.i64_in _ (by omega)]; simp
    have vs := hv.step fh st
    have hsum1 : ((pre ++ [z]).map fun q => q.2.length).sum = (pre.map fun q => q.2.length).sum + z.2.length := by simp
    have hsum2 : (ps.map fun q => q.2.length).sum = (pre.map fun q => q.2.length).sum + z.2.length + (post.map fun q => q.2.length).sum := by rw [← he]; simp; omega
    have hln : ls[pre.length]? = some (srt z.2) := by rw [hls, List.getElem?_map, hg]; rfl
    have hsl := srt_len z.2
    rw [List.length_cons, dedupref10_Merge_L1]
    simp only [dedupref10_Merge_B1, lenSl_slice, lenStr_string, str_size, fpureA_some, fnilA_ptr, faddA_ptr, addr_add, Nat.zero_add, Nat.add_zero, fpureQ_k, fpureQ_nilA, fpureQ_addA, fpureQ_pureA, fpureQ_guardA, fpureQ_idxSlA, fpureQ_pickA, freadQ_loadA, freadQ_loadNA, freadQ_b2sA, freadQ_guardA, freadQ_slSlA, freadQ_k, fendA, fallA_one, fstillA_nil, fguardA_tt, fguardA_ff, fguardA_tf, fguardA_ft, fguardA_undef, fpickA_true, fpickA_false, fcondA_true, fcondA_false, binA_add, binA_sub, binA_mul, binA_eql, binA_neq, binA_lss, binA_leq, binA_gtr, binA_geq, unA_not, Bool.not_true, Bool.not_false, convA_int, extA_tuple, List.getElem?_toArray, List.getElem?_cons_zero, List.getElem?_cons_succ, c1]
    refine vs.1.one (u := z.1) (by rw [List.getElem?_map, hg]; rfl) ?_
    refine callA_of (rSortOut_spec (vs.2 z hzm) (by omega)) fun r h2 ⟨S2, g2, s2⟩ f2 => ?_
    have gx := g.frame s2 (by simp)
    simp only [g2.sl.lenv, lenSl_slice, lenStr_string, str_size, fpureA_some, fnilA_ptr, faddA_ptr, addr_add, Nat.zero_add, Nat.add_zero, fpureQ_k, fpureQ_nilA, fpureQ_addA, fpureQ_pureA, fpureQ_guardA, fpureQ_idxSlA, fpureQ_pickA, freadQ_loadA, freadQ_loadNA, freadQ_b2sA, freadQ_guardA, freadQ_slSlA, freadQ_k, fendA, fallA_one, fstillA_nil, fguardA_tt, fguardA_ff, fguardA_tf, fguardA_ft, fguardA_undef, fpickA_true, fpickA_false, fcondA_true, fcondA_false, binA_add, binA_sub, binA_mul, binA_eql, binA_neq, binA_lss, binA_leq, binA_gtr, binA_geq, unA_not, Bool.not_true, Bool.not_false, convA_int, extA_tuple, List.getElem?_toArray, List.getElem?_cons_zero, List.getElem?_cons_succ]
    have hS1 := fun b hb => (g.lt b hb).2
    have st2 : Step hh h2 [] S1 := st.trans ((s2.less (T := []) (by simp)).keepS hS1)
    -- the anchor: the list that is gone over does not turn; what is out does
    have hxS : ∀ b, b ∈ S1 → b < h2.next := fun b hb => (gx.lt b hb).2
    refine ⟨(srt z.2).length + 1, rmerge_inner (ha := h2) (S0 := S1) (T := (pre.map fun q => q.2.length).sum + z.2.length) g2.sl f2 ?_ (by omega) (by omega) hln (fun x' h' out' S' g' i' ho' st' f' => ?_) (srt z.2) [] h2 x3 S1 out rfl f2 gx i (by omega) gx.refl⟩
    · rw [g2.sblk_eq]
      intro b hb hb1
      have := hS1 b hb1
      rcases (s2.own b hb).2 with q | q
      · simp at q
      · omega
    · simp only [lenSl_slice, lenStr_string, str_size, fpureA_some, fnilA_ptr, faddA_ptr, addr_add, Nat.zero_add, Nat.add_zero, fpureQ_k, fpureQ_nilA, fpureQ_addA, fpureQ_pureA, fpureQ_guardA, fpureQ_idxSlA, fpureQ_pickA, freadQ_loadA, freadQ_loadNA, freadQ_b2sA, freadQ_guardA, freadQ_slSlA, freadQ_k, fendA, fallA_one, fstillA_nil, fguardA_tt, fguardA_ff, fguardA_tf, fguardA_ft, fguardA_undef, fpickA_true, fpickA_false, fcondA_true, fcondA_false, binA_add, binA_sub, binA_mul, binA_eql, binA_neq, binA_lss, binA_leq, binA_gtr, binA_geq, unA_not, Bool.not_true, Bool.not_false, convA_int, extA_tuple, List.getElem?_toArray, List.getElem?_cons_zero, List.getElem?_cons_succ, e6]
      exact ih (pre ++ [z]) h' x' S' out' (by simpa using he) f' g' (by simpa using i'.next hln) (by rw [hsum1]; exact ho') (st2.trans st')
theorem rMerge_spec {v : Value} {ps : List (Value × List Itm)} (hv : Ls w0 h v ps) (hl : ps.length ≤ 1000000) (hl2 : (ps.map fun q => q.2.length).sum ≤ 10000000) :
    ACalls prog w0 n_dedupref10_Merge [v] h fun r h' => ∃ out S', IsM (ps.map fun q => srt q.2) out ∧ out.length ≤ (ps.map fun q => q.2.length).sum ∧ GV w0 h' 2 r out.length (ivs out) S' ∧ Step h h' [] S' := by
  refine ACalls.of_fit (by simpa using hv.1.junk) fun f => c_dedupref10_Merge (by simpa using hv.1.junk) ?_
  simp only [s_dedupref10_Merge, hv.1.lenv, lenSl_slice, lenStr_string, str_size, fpureA_some, fnilA_ptr, faddA_ptr, addr_add, Nat.zero_add, Nat.add_zero, fpureQ_k, fpureQ_nilA, fpureQ_addA, fpureQ_pureA, fpureQ_guardA, fpureQ_idxSlA, fpureQ_pickA, freadQ_loadA, freadQ_loadNA, freadQ_b2sA, freadQ_guardA, freadQ_slSlA, freadQ_k, fendA, fallA_one, fstillA_nil, fguardA_tt, fguardA_ff, fguardA_tf, fguardA_ft, fguardA_undef, fpickA_true, fpickA_false, fcondA_true, fcondA_false, binA_add, binA_sub, binA_mul, binA_eql, binA_neq, binA_lss, binA_leq, binA_gtr, binA_geq, unA_not, Bool.not_true, Bool.not_false, convA_int, extA_tuple, List.getElem?_toArray, List.getElem?_cons_zero, List.getElem?_cons_succ]
  refine ⟨ps.length + 1, rmerge_loop (ls := ps.map fun q => srt q.2) hv f rfl hl hl2 (fun x' h' out S' g i ho st f' => ?_) ps [] h _ [] [] rfl f (.inl .nil) ⟨List.Pairwise.nil, by simp, fun m l' y hm => by simp at hm, fun l' y _ hy => by simp at hy⟩ (by simp) (.refl _ _ (by simp))⟩
  simp only [retA_iff, oneOf_one]
  refine ⟨by simpa using g.junk, out, S', ?_, ho, g, st⟩
  have : ps.length = (ps.map fun q => srt q.2).length := by simp
  rw [this] at i
  exact i.done
end
end Go.Proofs.Ytpdpponbhejlpaa.Ah
