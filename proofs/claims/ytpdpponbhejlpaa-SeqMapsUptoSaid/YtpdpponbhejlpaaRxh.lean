/- The document's Sort. -/
import Derived.Test.YtpdpponbhejlpaaRxb
set_option linter.unusedVariables false
set_option linter.unusedSimpArgs false
namespace Go.Proofs.Ytpdpponbhejlpaa.Ah
open Go
def ints (l : List Int) : List Value := l.map fun n => .int .i64 n
theorem ints_len (l : List Int) : (ints l).length = l.length := by simp [ints]
theorem ints_get {l : List Int} {i : Nat} {n : Int} (h : l[i]? = some n) : (ints l)[i]? = some (.int .i64 n) := by simp [ints, h]
theorem ints_append (a b : List Int) : ints (a ++ b) = ints a ++ ints b := by simp [ints]
theorem ints_take (l : List Int) (i : Nat) : (ints l).take i = ints (l.take i) := by simp [ints]
theorem ints_drop (l : List Int) (i : Nat) : (ints l).drop i = ints (l.drop i) := by simp [ints]
abbrev Ns (w0 : World) (h : Hp) (x : Value) (l : List Int) : Prop := Sl w0 h 1 x l.length (ints l)
def atI (n : Int) (out : List Int) : Nat → Nat
  | 0 => 0
  | i + 1 => match out[i]? with
    | some y => if n < y then atI n out i else i + 1
    | none => i + 1
def insI (out : List Int) (n : Int) : List Int := out.take (atI n out out.length) ++ n :: out.drop (atI n out out.length)
def sortI (l : List Int) : List Int := l.foldl insI []
theorem atI_le (n : Int) (out : List Int) : ∀ i, atI n out i ≤ i
  | 0 => Nat.le_refl _
  | i + 1 => by
    rw [atI]
    split
    · split
      · exact Nat.le_succ_of_le (atI_le n out i)
      · exact Nat.le_refl _
    · exact Nat.le_refl _
theorem atI_above (n : Int) (out : List Int) : ∀ i j y, atI n out i ≤ j → j < i → out[j]? = some y → n < y
  | 0, _, _, _, h, _ => by omega
  | i + 1, j, y, h1, h2, hy => by
    rw [atI] at h1
    split at h1
    · rename_i z hz
      split at h1
      · rename_i hlt
        rcases Nat.lt_or_ge j i with q | q
        · exact atI_above n out i j y h1 q hy
        · have : j = i := by omega
          subst this
          rw [hz] at hy
          cases hy
          exact hlt
      · omega
    · omega
theorem atI_below (n : Int) (out : List Int) : ∀ i y, i ≤ out.length → 0 < atI n out i → out[atI n out i - 1]? = some y → y ≤ n
  | 0, _, _, h, _ => by simp [atI] at h
  | i + 1, y, hi, h, hy => by
    have hz : out[i]? = some out[i] := List.getElem?_eq_getElem (by omega)
    by_cases hlt : n < out[i]
    · have e : atI n out (i + 1) = atI n out i := by rw [atI, hz]; simp [hlt]
      rw [e] at h hy
      exact atI_below n out i y (by omega) h hy
    · have e : atI n out (i + 1) = i + 1 := by rw [atI, hz]; simp [hlt]
      rw [e] at hy
      simp only [Nat.add_sub_cancel] at hy
      rw [hz] at hy
      cases hy
      omega
abbrev Ris (l : List Int) : Prop := l.Pairwise (· ≤ ·)
theorem insI_perm (out : List Int) (n : Int) : (insI out n).Perm (n :: out) := by
  unfold insI
  have := List.perm_middle (a := n) (l₁ := out.take (atI n out out.length)) (l₂ := out.drop (atI n out out.length))
  rwa [List.take_append_drop] at this
theorem insI_ris {out : List Int} (s : Ris out) (n : Int) : Ris (insI out n) := by
  unfold insI
  have hle := atI_le n out out.length
  have hd : ∀ y, y ∈ out.drop (atI n out out.length) → n < y := by
    intro y hy
    obtain ⟨j, hj⟩ := List.getElem?_of_mem hy
    rw [List.getElem?_drop] at hj
    have := (List.getElem?_eq_some_iff.1 hj).1
    exact atI_above n out out.length _ y (by omega) this hj
  have ht : ∀ y, y ∈ out.take (atI n out out.length) → y ≤ n := by
    intro y hy
    obtain ⟨j, hj⟩ := List.getElem?_of_mem hy
    rw [List.getElem?_take] at hj
    split at hj
    · rename_i hja
      have hz : out[atI n out out.length - 1]? = some out[atI n out out.length - 1] := List.getElem?_eq_getElem (by omega)
      have hb := atI_below n out out.length _ (Nat.le_refl _) (by omega) hz
      obtain ⟨h1, h2⟩ := List.getElem?_eq_some_iff.1 hj
      rcases Nat.lt_or_eq_of_le (show j ≤ atI n out out.length - 1 by omega) with q | q
      · have := List.pairwise_iff_getElem.1 s j _ h1 (by omega) q
        omega
      · have hj2 : out[j]? = some y := hj
        rw [q, hz] at hj2
        cases hj2
        exact hb
    · cases hj
  refine List.pairwise_append.2 ⟨List.Pairwise.sublist (List.take_sublist _ _) s, List.pairwise_cons.2 ⟨fun y hy => by have := hd y hy; omega, List.Pairwise.sublist (List.drop_sublist _ _) s⟩, fun a ha b hb => ?_⟩
  have := ht a ha
  rcases List.mem_cons.1 hb with rfl | hb
  · exact this
  · have := hd b hb; omega
theorem insI_len (out : List Int) (n : Int) : (insI out n).length = out.length + 1 := by rw [(insI_perm out n).length_eq]; rfl
theorem sortI_perm (l : List Int) : (sortI l).Perm l := by
  have : ∀ (l acc : List Int), (l.foldl insI acc).Perm (acc ++ l) := by
    intro l
    induction l with
    | nil => intro acc; simp
    | cons n l ih =>
      intro acc
      refine (ih (insI acc n)).trans ?_
      exact ((insI_perm acc n).append_right l).trans List.perm_middle.symm
  simpa [sortI] using this l []
theorem sortI_ris (l : List Int) : Ris (sortI l) := by
  have : ∀ (l acc : List Int), Ris acc → Ris (l.foldl insI acc) := by
    intro l
    induction l with
    | nil => intro acc h; exact h
    | cons n l ih => intro acc h; exact ih _ (insI_ris h n)
  exact this l [] List.Pairwise.nil
section
variable {w0 : World} {h h' : Hp}
theorem sort_inner {k2 : Value → Value → Value → Value → Value → Value → Hp → Prop} {x3 x8 x9 x10 : Value} {out : List Int} {n : Int} (v : Ns w0 h x3 out) (hl : out.length ≤ 1000000000) (hk : k2 x3 (.int .i64 n) (.int .i64 (atI n out out.length : Int)) x8 x9 x10 h) : ∀ (i : Nat), i ≤ out.length → atI n out i = atI n out out.length →
      dedupref10_Sort_L2 prog w0 k2 (i + 1) x3 (.int .i64 n) (.int .i64 (i : Int)) x8 x9 x10 h := by
  intro i
  induction i with
  | zero =>
    intro _ e
    rw [dedupref10_Sort_L2]
    have c1 : decide ((0 : Int) < ((0 : Nat) : Int)) = false := rfl
    simp only [dedupref10_Sort_B2, lenSl_slice, lenStr_string, str_size, fpureA_some, fnilA_ptr, faddA_ptr, addr_add, Nat.zero_add, Nat.add_zero, fpureQ_k, fpureQ_nilA, fpureQ_addA, fpureQ_pureA, fpureQ_guardA, fpureQ_idxSlA, fpureQ_pickA, freadQ_loadA, freadQ_loadNA, freadQ_b2sA, freadQ_guardA, freadQ_slSlA, freadQ_k, fendA, fallA_one, fstillA_nil, fguardA_tt, fguardA_ff, fguardA_tf, fguardA_ft, fguardA_undef, fpickA_true, fpickA_false, fcondA_true, fcondA_false, binA_add, binA_sub, binA_mul, binA_eql, binA_neq, binA_lss, binA_leq, binA_gtr, binA_geq, unA_not, Bool.not_true, Bool.not_false, convA_int, extA_tuple, List.getElem?_toArray, List.getElem?_cons_zero, List.getElem?_cons_succ, c1]
    rw [← e] at hk
    exact hk
  | succ i ih =>
    intro hi e
    have c1 : decide ((0 : Int) < ((i + 1 : Nat) : Int)) = true := decide_eq_true (by omega)
    have e5 : IntKind.i64.wrap (((i + 1 : Nat) : Int) - 1) = (i : Int) := by rw [IntWalk.i64_in _ (by omega)]; omega
    have hz : out[i]? = some out[i] := List.getElem?_eq_getElem (by omega)
    rw [dedupref10_Sort_L2]
    simp only [dedupref10_Sort_B2, lenSl_slice, lenStr_string, str_size, fpureA_some, fnilA_ptr, faddA_ptr, addr_add, Nat.zero_add, Nat.add_zero, fpureQ_k, fpureQ_nilA, fpureQ_addA, fpureQ_pureA, fpureQ_guardA, fpureQ_idxSlA, fpureQ_pickA, freadQ_loadA, freadQ_loadNA, freadQ_b2sA, freadQ_guardA, freadQ_slSlA, freadQ_k, fendA, fallA_one, fstillA_nil, fguardA_tt, fguardA_ff, fguardA_tf, fguardA_ft, fguardA_undef, fpickA_true, fpickA_false, fcondA_true, fcondA_false, binA_add, binA_sub, binA_mul, binA_eql, binA_neq, binA_lss, binA_leq, binA_gtr, binA_geq, unA_not, Bool.not_true, Bool.not_false, convA_int, extA_tuple, List.getElem?_toArray, List.getElem?_cons_zero, List.getElem?_cons_succ, c1, e5]
    refine v.one (ints_get hz) ?_
    by_cases hlt : n < out[i]
    · have e2 : atI n out (i + 1) = atI n out i := by rw [atI, hz]; simp [hlt]
      simp only [decide_eq_true hlt, lenSl_slice, lenStr_string, str_size, fpureA_some, fnilA_ptr, faddA_ptr, addr_add, Nat.zero_add, Nat.add_zero, fpureQ_k, fpureQ_nilA, fpureQ_addA, fpureQ_pureA, fpureQ_guardA, fpureQ_idxSlA, fpureQ_pickA, freadQ_loadA, freadQ_loadNA, freadQ_b2sA, freadQ_guardA, freadQ_slSlA, freadQ_k, fendA, fallA_one, fstillA_nil, fguardA_tt, fguardA_ff, fguardA_tf, fguardA_ft, fguardA_undef, fpickA_true, fpickA_false, fcondA_true, fcondA_false, binA_add, binA_sub, binA_mul, binA_eql, binA_neq, binA_lss, binA_leq, binA_gtr, binA_geq, unA_not, Bool.not_true, Bool.not_false, convA_int, extA_tuple, List.getElem?_toArray, List.getElem?_cons_zero, List.getElem?_cons_succ]
      exact ih (by omega) (by rw [← e2]; exact e)
    · have e2 : atI n out (i + 1) = i + 1 := by rw [atI, hz]; simp [hlt]
      simp only [decide_eq_false hlt, lenSl_slice, lenStr_string, str_size, fpureA_some, fnilA_ptr, faddA_ptr, addr_add, Nat.zero_add, Nat.add_zero, fpureQ_k, fpureQ_nilA, fpureQ_addA, fpureQ_pureA, fpureQ_guardA, fpureQ_idxSlA, fpureQ_pickA, freadQ_loadA, freadQ_loadNA, freadQ_b2sA, freadQ_guardA, freadQ_slSlA, freadQ_k, fendA, fallA_one, fstillA_nil, fguardA_tt, fguardA_ff, fguardA_tf, fguardA_ft, fguardA_undef, fpickA_true, fpickA_false, fcondA_true, fcondA_false, binA_add, binA_sub, binA_mul, binA_eql, binA_neq, binA_lss, binA_leq, binA_gtr, binA_geq, unA_not, Bool.not_true, Bool.not_false, convA_int, extA_tuple, List.getElem?_toArray, List.getElem?_cons_zero, List.getElem?_cons_succ]
      rw [← e, e2] at hk
      exact hk
theorem sort_loop {k0 : Value → Hp → Prop} {v : Value} {l : List Int} {hh : Hp} (hv : Ns w0 hh v l) (fh : Fit w0 hh) (hl : l.length ≤ 100000000)
    (hk : ∀ x' h' S', GV w0 h' 1 x' (sortI l).length (ints (sortI l)) S' → Step hh h' [] S' → k0 x' h') : ∀ (post pre : List Int) (h1 : Hp) (x3 : Value) (S1 : List Nat), pre ++ post = l → (sortI pre).length = pre.length → GV w0 h1 1 x3 (sortI pre).length (ints (sortI pre)) S1 → Step hh h1 [] S1 →
      dedupref10_Sort_L1 prog w0 k0 (post.length + 1) x3 v (.int .i64 (l.length : Int)) (.int .i64 (pre.length : Int)) h1 := by
  intro post
  induction post with
  | nil =>
    intro pre h1 x3 S1 he hsl g st
    have hpre : pre = l := by simpa using he
    subst hpre
    rw [List.length_nil, dedupref10_Sort_L1]
    simp only [dedupref10_Sort_B1, lenSl_slice, lenStr_string, str_size, fpureA_some, fnilA_ptr, faddA_ptr, addr_add, Nat.zero_add, Nat.add_zero, fpureQ_k, fpureQ_nilA, fpureQ_addA, fpureQ_pureA, fpureQ_guardA, fpureQ_idxSlA, fpureQ_pickA, freadQ_loadA, freadQ_loadNA, freadQ_b2sA, freadQ_guardA, freadQ_slSlA, freadQ_k, fendA, fallA_one, fstillA_nil, fguardA_tt, fguardA_ff, fguardA_tf, fguardA_ft, fguardA_undef, fpickA_true, fpickA_false, fcondA_true, fcondA_false, binA_add, binA_sub, binA_mul, binA_eql, binA_neq, binA_lss, binA_leq, binA_gtr, binA_geq, unA_not, Bool.not_true, Bool.not_false, convA_int, extA_tuple, List.getElem?_toArray, List.getElem?_cons_zero, List.getElem?_cons_succ, Int.lt_irrefl, decide_false]
    exact hk x3 h1 S1 g st
  | cons n post ih =>
    intro pre h1 x3 S1 he hsl g st
    have hlen : pre.length + (post.length + 1) = l.length := by rw [← he]; simp
    have hg : l[pre.length]? = some n := by rw [← he]; simp
    have c1 : decide ((pre.length : Int) < (l.length : Int)) = true := decide_eq_true (by omega)
    have e6 : IntKind.i64.wrap ((pre.length : Int) + 1) = (((pre ++ [n]).length : Nat) : Int) := by rw [IntWalk.i64_in _ (by omega)]; simp
    have vs : Ns w0 h1 v l := hv.step fh st (by simp)
    have fb := st.base fh.base
    have esort : sortI (pre ++ [n]) = insI (sortI pre) n := by simp [sortI]
    have elen : (sortI (pre ++ [n])).length = (pre ++ [n]).length := by rw [esort, insI_len, hsl]; simp
    rw [List.length_cons, dedupref10_Sort_L1]
    simp only [dedupref10_Sort_B1, lenSl_slice, lenStr_string, str_size, fpureA_some, fnilA_ptr, faddA_ptr, addr_add, Nat.zero_add, Nat.add_zero, fpureQ_k, fpureQ_nilA, fpureQ_addA, fpureQ_pureA, fpureQ_guardA, fpureQ_idxSlA, fpureQ_pickA, freadQ_loadA, freadQ_loadNA, freadQ_b2sA, freadQ_guardA, freadQ_slSlA, freadQ_k, fendA, fallA_one, fstillA_nil, fguardA_tt, fguardA_ff, fguardA_tf, fguardA_ft, fguardA_undef, fpickA_true, fpickA_false, fcondA_true, fcondA_false, binA_add, binA_sub, binA_mul, binA_eql, binA_neq, binA_lss, binA_leq, binA_gtr, binA_geq, unA_not, Bool.not_true, Bool.not_false, convA_int, extA_tuple, List.getElem?_toArray, List.getElem?_cons_zero, List.getElem?_cons_succ, c1]
    refine vs.one (ints_get hg) ?_
    simp only [g.sl.lenv, lenSl_slice, lenStr_string, str_size, fpureA_some, fnilA_ptr, faddA_ptr, addr_add, Nat.zero_add, Nat.add_zero, fpureQ_k, fpureQ_nilA, fpureQ_addA, fpureQ_pureA, fpureQ_guardA, fpureQ_idxSlA, fpureQ_pickA, freadQ_loadA, freadQ_loadNA, freadQ_b2sA, freadQ_guardA, freadQ_slSlA, freadQ_k, fendA, fallA_one, fstillA_nil, fguardA_tt, fguardA_ff, fguardA_tf, fguardA_ft, fguardA_undef, fpickA_true, fpickA_false, fcondA_true, fcondA_false, binA_add, binA_sub, binA_mul, binA_eql, binA_neq, binA_lss, binA_leq, binA_gtr, binA_geq, unA_not, Bool.not_true, Bool.not_false, convA_int, extA_tuple, List.getElem?_toArray, List.getElem?_cons_zero, List.getElem?_cons_succ]
    refine ⟨_, sort_inner g.sl (by omega) ?_ (sortI pre).length (Nat.le_refl _) rfl⟩
    have hle := atI_le n (sortI pre) (sortI pre).length
    generalize hat : atI n (sortI pre) (sortI pre).length = at_ at *
    generalize hso : sortI pre = out at *
    have hz : zerosL [(.int .i64 0 : Value)] 0 = [] := rfl
    simp only [lenSl_slice, lenStr_string, str_size, fpureA_some, fnilA_ptr, faddA_ptr, addr_add, Nat.zero_add, Nat.add_zero, fpureQ_k, fpureQ_nilA, fpureQ_addA, fpureQ_pureA, fpureQ_guardA, fpureQ_idxSlA, fpureQ_pickA, freadQ_loadA, freadQ_loadNA, freadQ_b2sA, freadQ_guardA, freadQ_slSlA, freadQ_k, fendA, fallA_one, fstillA_nil, fguardA_tt, fguardA_ff, fguardA_tf, fguardA_ft, fguardA_undef, fpickA_true, fpickA_false, fcondA_true, fcondA_false, binA_add, binA_sub, binA_mul, binA_eql, binA_neq, binA_lss, binA_leq, binA_gtr, binA_geq, unA_not, Bool.not_true, Bool.not_false, convA_int, extA_tuple, List.getElem?_toArray, List.getElem?_cons_zero, List.getElem?_cons_succ, bslA_iff, fillA_nil, hz]
    have hS1 := fun b hb => (g.lt b hb).2
    have g0 : GV w0 (h1.new [] 1) 1 (.slice (some ⟨h1.next, 0, none⟩) 0 0) 0 [] [h1.next] := GV.new fb rfl (by decide)
    have s2 : Step h1 (h1.new [] 1) [] [h1.next] := (Step.refl h1 [] (by simp)).new _ _
    have g2 := g.frame s2 (by simp)
    have n2 : (h1.new [] 1).next = h1.next + 1 := rfl
    generalize hq1 : h1.next = q1 at *
    generalize h1.new [] 1 = h2 at *
    refine g2.sl.cutN boundA_none boundA_nat (Nat.zero_le _) hle fun x' _ _ vx => ?_
    have vx' : Ns w0 h2 x' (out.take at_) := by
      have e : (out.take at_).length = at_ := by simp; omega
      unfold Ns
      rw [e]
      simpa [ints_take] using vx
    obtain ⟨ax, cx, ex⟩ := vx'.slice
    have elt : (out.take at_).length = at_ := by simp; omega
    refine appA_gv (m := at_) (by omega) g0 (by rw [ex, elt]; rfl) (elt ▸ vx'.src) (by rw [ints_len]; omega) (by omega) (by omega) (by omega) fun y1 h3 S3 g3 s3 => ?_
    have ap : ∀ b, b ∈ S1 → b ∉ [q1] := fun b hb e => by simp at e; have := hS1 b hb; omega
    have g33 := g2.frame s3 ap
    have hS2 := fun b hb => (g2.lt b hb).2
    have ap3 : ∀ b, b ∈ S1 → b ∉ S3 := apart_step s3 ap hS2
    simp only [Nat.zero_add, List.nil_append] at g3
    refine g33.sl.cutN boundA_nat rfl hle (Nat.le_refl _) fun x6 e6' _ vx6 => ?_
    -- one cell is laid
    have n3 := s3.1
    have s4 : Step h3 (h3.new [.int .i64 n] 1) [] [h3.next] := (Step.refl h3 [] (by simp)).new _ _
    have hz1 : zerosL [(.int .i64 0 : Value)] 1 = [.int .i64 0] := rfl
    simp only [bslA_iff, hz1, fillA_one, fillA_nil, List.set_cons_zero, allA_one, stillA_iff, sameQ_slSlA]
    refine ⟨rfl, by simp, ?_, ?_⟩
    · exact (g33.frame s4 (by simp)).sl.cutN boundA_nat rfl hle (Nat.le_refl _) fun x7 e7 _ _ => e7.trans e6'.symm
    have g44 := g33.frame s4 (by simp)
    have g4 := g3.frame s4 (by simp)
    have hsrc : Src w0.heap.size (h3.new [.int .i64 n] 1) 1 (.slice (some ⟨h3.next, 0, none⟩) 1 1) 1 [.int .i64 n] := src_new (by omega) (by simp)
    have n4 : (h3.new [.int .i64 n] 1).next = h3.next + 1 := rfl
    have vx64 : Sl w0 (h3.new [.int .i64 n] 1) 1 x6 (out.length - at_) (((ints out).take (out.length * 1)).drop (at_ * 1)) := by
      have := (g44.sl.cut_sl hle (Nat.le_refl _)).1
      rw [e6']
      exact this
    generalize hq3 : h3.next = q3 at *
    generalize h3.new [.int .i64 n] 1 = h4 at *
    refine appA_gv (m := 1) (by omega) g4 rfl hsrc (by simp) (by omega) (by omega) (by omega) fun y2 h5 S5 g5 s5 => ?_
    have hS4 := fun b hb => (g44.lt b hb).2
    have ap4 : ∀ b, b ∈ S1 → b ∉ S3 := ap3
    have g55 := g44.frame s5 ap4
    simp only [stillA_iff, allA_one, sameQ_slSlA]
    refine ⟨?_, ?_⟩
    · exact g55.sl.cutN boundA_nat rfl hle (Nat.le_refl _) fun x7 e7 _ _ => e7.trans e6'.symm
    have vx65 : Sl w0 h5 1 x6 (out.length - at_) (((ints out).take (out.length * 1)).drop (at_ * 1)) := by
      have := (g55.sl.cut_sl hle (Nat.le_refl _)).1
      rw [e6']
      exact this
    obtain ⟨a6, c6, ex6⟩ := vx65.slice
    refine appA_gv (m := out.length - at_) (by have := s5.1; omega) g5 (by rw [ex6]; rfl) vx65.src (by simp [ints_len]) (by omega) (by omega) (by omega) fun y3 h6 S6 g6 s6 => ?_
    simp only [lenSl_slice, lenStr_string, str_size, fpureA_some, fnilA_ptr, faddA_ptr, addr_add, Nat.zero_add, Nat.add_zero, fpureQ_k, fpureQ_nilA, fpureQ_addA, fpureQ_pureA, fpureQ_guardA, fpureQ_idxSlA, fpureQ_pickA, freadQ_loadA, freadQ_loadNA, freadQ_b2sA, freadQ_guardA, freadQ_slSlA, freadQ_k, fendA, fallA_one, fstillA_nil, fguardA_tt, fguardA_ff, fguardA_tf, fguardA_ft, fguardA_undef, fpickA_true, fpickA_false, fcondA_true, fcondA_false, binA_add, binA_sub, binA_mul, binA_eql, binA_neq, binA_lss, binA_leq, binA_gtr, binA_geq, unA_not, Bool.not_true, Bool.not_false, convA_int, extA_tuple, List.getElem?_toArray, List.getElem?_cons_zero, List.getElem?_cons_succ, e6]
    have hins : insI out n = out.take at_ ++ n :: out.drop at_ := by unfold insI; rw [hat]
    have e1 : ints (out.take at_) ++ [.int .i64 n] ++ ((ints out).take (out.length * 1)).drop (at_ * 1) = ints (insI out n) := by
      rw [hins, Nat.mul_one, Nat.mul_one, ints_take, List.take_length, ints_drop, ints_append]
      simp [ints]
    have e2 : at_ + 1 + (out.length - at_) = (insI out n).length := by rw [insI_len]; omega
    rw [e1, e2] at g6
    refine ih (pre ++ [n]) h6 y3 S6 (by simpa using he) elen (by rw [esort]; exact g6) ?_
    have t1 : Step hh h1 [] [] := st.less (by simp)
    exact t1.trans ((s2.trans s3).trans ((s4.less (T := []) (by simp)).keepS (fun b hb => (g3.lt b hb).2) |>.trans (s5.trans s6)))
theorem rSort_spec {v : Value} {l : List Int} (hv : Ns w0 h v l) (hl : l.length ≤ 100000000) : ACalls prog w0 n_dedupref10_Sort [v] h fun r h' => ∃ S', GV w0 h' 1 r (sortI l).length (ints (sortI l)) S' ∧ Step h h' [] S' := by
  refine ACalls.of_fit (by simpa using hv.junk) fun f => c_dedupref10_Sort (by simpa using hv.junk) ?_
  simp only [s_dedupref10_Sort, hv.lenv, lenSl_slice, lenStr_string, str_size, fpureA_some, fnilA_ptr, faddA_ptr, addr_add, Nat.zero_add, Nat.add_zero, fpureQ_k, fpureQ_nilA, fpureQ_addA, fpureQ_pureA, fpureQ_guardA, fpureQ_idxSlA, fpureQ_pickA, freadQ_loadA, freadQ_loadNA, freadQ_b2sA, freadQ_guardA, freadQ_slSlA, freadQ_k, fendA, fallA_one, fstillA_nil, fguardA_tt, fguardA_ff, fguardA_tf, fguardA_ft, fguardA_undef, fpickA_true, fpickA_false, fcondA_true, fcondA_false, binA_add, binA_sub, binA_mul, binA_eql, binA_neq, binA_lss, binA_leq, binA_gtr, binA_geq, unA_not, Bool.not_true, Bool.not_false, convA_int, extA_tuple, List.getElem?_toArray, List.getElem?_cons_zero, List.getElem?_cons_succ]
  refine ⟨l.length + 1, sort_loop hv f hl (fun x' h' S' g st => ?_) l [] h _ [] rfl rfl (.inl .nil) (.refl _ _ (by simp))⟩
  simp only [retA_iff, oneOf_one]
  exact ⟨by simpa using g.junk, S', g, st⟩
end
theorem bbn_f : binBoolA .neq (.bool false) (.bool false) = some (.bool false) := rfl
theorem bbn_t : binBoolA .neq (.bool true) (.bool true) = some (.bool false) := rfl
theorem flat_ints (l : List Int) : l.flatMap (dInt .i64).e = ints l := by
  induction l with
  | nil => rfl
  | cons b l ih => rw [List.flatMap_cons, ih]; rfl
theorem flat_keys (l : List Key) : l.flatMap dStr.e = svsK l := by
  induction l with
  | nil => rfl
  | cons b l ih => rw [List.flatMap_cons, ih]; rfl
theorem Ris.head {l : List Int} (s : Ris l) {a b : Int} (ha : l[0]? = some a) (hb : b ∈ l) : a ≤ b := by
  cases l with
  | nil => simp at ha
  | cons x l =>
    simp at ha
    subst ha
    rcases List.mem_cons.1 hb with rfl | hb
    · exact Int.le_refl _
    · exact (List.pairwise_cons.1 s).1 b hb
section
variable {w0 : World} {h h' : Hp}
theorem GV.sb {s n : Nat} {x : Value} {cs : List Value} {S : List Nat} (v : GV w0 h s x n cs S) : sblk x = S := by
  rcases v with v | ⟨q, rfl, rfl, -⟩
  · exact v.sblk_eq
  · rfl
theorem ExtSl.ns {v : Value} {l : List Int} (x : ExtSl w0 1 v l.length (ints l)) (h : Hp) (f : Fit w0 h) : Ns w0 h v l := x.sl' f (by rw [ints_len, Nat.mul_one])
/-- The two of them hold the same. -/
structure HQ (w0 : World) (h : Hp) (p : Nat) (x : Value) (xs inn : List Int) (S : List Nat) : Prop where
  m : Hp_int w0 h p xs S
  v : Ns w0 h x inn
  lt : ∀ b, b ∈ sblk x → b < h.next
  ap : ∀ b, b ∈ sblk x → b ∉ S
  pm : xs.Perm inn
  ris : Ris inn
theorem HQ.least {p : Nat} {x : Value} {xs inn : List Int} {S : List Nat} (q : HQ w0 h p x xs inn S) {r : Int} (hr : xs[0]? = some r) : inn[0]? = some r := by
  have hl := q.pm.length_eq
  have h0 := (List.getElem?_eq_some_iff.1 hr).1
  have ha : inn[0]? = some inn[0] := List.getElem?_eq_getElem (by omega)
  have h1 := q.ris.head ha (q.pm.mem_iff.1 (List.mem_of_getElem? hr))
  have h2 := q.m.2.min ord_int hr (q.pm.mem_iff.2 (List.mem_of_getElem? ha))
  simp [ltI] at h2
  have : inn[0] = r := by omega
  rw [ha, this]
theorem heaps_loop {k0 kr : Value → Value → Value → Hp → Prop} {v x2 : Value} {l : List Int} {p : Nat} (hv : ExtSl w0 1 v l.length (ints l)) (hl : l.length ≤ 10000000)
    (hk : ∀ h' x4 xs inn S, HQ w0 h' p x4 xs inn S → Fit w0 h' → k0 x2 (ptr p) x4 h') : ∀ (post pre : List Int) (h1 : Hp) (x4 : Value) (xs inn : List Int) (S : List Nat), pre ++ post = l → HQ w0 h1 p x4 xs inn S → Fit w0 h1 → inn.length ≤ pre.length →
      deduplaw10_SeqHeaps_L1 prog w0 k0 kr (post.length + 1) x2 (ptr p) x4 v (.int .i64 (l.length : Int)) (.int .i64 (pre.length : Int)) h1 := by
  intro post
  induction post with
  | nil =>
    intro pre h1 x4 xs inn S he q f1 hil
    have hpre : pre = l := by simpa using he
    subst hpre
    rw [List.length_nil, deduplaw10_SeqHeaps_L1]
    simp only [deduplaw10_SeqHeaps_B1, lenSl_slice, lenStr_string, str_size, fpureA_some, fnilA_ptr, faddA_ptr, addr_add, Nat.zero_add, Nat.add_zero, fpureQ_k, fpureQ_nilA, fpureQ_addA, fpureQ_pureA, fpureQ_guardA, fpureQ_idxSlA, fpureQ_pickA, freadQ_loadA, freadQ_loadNA, freadQ_b2sA, freadQ_guardA, freadQ_slSlA, freadQ_k, fendA, fallA_one, fstillA_nil, fguardA_tt, fguardA_ff, fguardA_tf, fguardA_ft, fguardA_undef, fpickA_true, fpickA_false, fcondA_true, fcondA_false, binA_add, binA_sub, binA_mul, binA_eql, binA_neq, binA_lss, binA_leq, binA_gtr, binA_geq, unA_not, Bool.not_true, Bool.not_false, convA_int, extA_tuple, List.getElem?_toArray, List.getElem?_cons_zero, List.getElem?_cons_succ, Int.lt_irrefl, decide_false]
    exact hk h1 x4 xs inn S q f1
  | cons n post ih =>
    intro pre h1 x4 xs inn S he q f1 hil
    have hlen : pre.length + (post.length + 1) = l.length := by rw [← he]; simp
    have hg : l[pre.length]? = some n := by rw [← he]; simp
    have c1 : decide ((pre.length : Int) < (l.length : Int)) = true := decide_eq_true (by omega)
    have e6 : IntKind.i64.wrap ((pre.length : Int) + 1) = (((pre ++ [n]).length : Nat) : Int) := by rw [IntWalk.i64_in _ (by omega)]; simp
    have hxl := q.pm.length_eq
    have on : ∀ h2 x4 xs inn S, HQ w0 h2 p x4 xs inn S → Fit w0 h2 → inn.length ≤ pre.length + 1 → deduplaw10_SeqHeaps_L1 prog w0 k0 kr (post.length + 1) x2 (ptr p) x4 v (.int .i64 (l.length : Int)) (.int .i64 ((pre ++ [n]).length : Int)) h2 := fun h2 x4 xs inn S q2 f2 hi2 => ih (pre ++ [n]) h2 x4 xs inn S (by simpa using he) q2 f2 (by simpa using hi2)
    rw [List.length_cons, deduplaw10_SeqHeaps_L1]
    simp only [deduplaw10_SeqHeaps_B1, lenSl_slice, lenStr_string, str_size, fpureA_some, fnilA_ptr, faddA_ptr, addr_add, Nat.zero_add, Nat.add_zero, fpureQ_k, fpureQ_nilA, fpureQ_addA, fpureQ_pureA, fpureQ_guardA, fpureQ_idxSlA, fpureQ_pickA, freadQ_loadA, freadQ_loadNA, freadQ_b2sA, freadQ_guardA, freadQ_slSlA, freadQ_k, fendA, fallA_one, fstillA_nil, fguardA_tt, fguardA_ff, fguardA_tf, fguardA_ft, fguardA_undef, fpickA_true, fpickA_false, fcondA_true, fcondA_false, binA_add, binA_sub, binA_mul, binA_eql, binA_neq, binA_lss, binA_leq, binA_gtr, binA_geq, unA_not, Bool.not_true, Bool.not_false, convA_int, extA_tuple, List.getElem?_toArray, List.getElem?_cons_zero, List.getElem?_cons_succ, c1]
    refine (hv.ns h1 f1).one (ints_get hg) ?_
    by_cases k1 : n = 1099511627776
    · have c2 : (n == 1099511627776) = true := by simp [k1]
      simp only [c2, lenSl_slice, lenStr_string, str_size, fpureA_some, fnilA_ptr, faddA_ptr, addr_add, Nat.zero_add, Nat.add_zero, fpureQ_k, fpureQ_nilA, fpureQ_addA, fpureQ_pureA, fpureQ_guardA, fpureQ_idxSlA, fpureQ_pickA, freadQ_loadA, freadQ_loadNA, freadQ_b2sA, freadQ_guardA, freadQ_slSlA, freadQ_k, fendA, fallA_one, fstillA_nil, fguardA_tt, fguardA_ff, fguardA_tf, fguardA_ft, fguardA_undef, fpickA_true, fpickA_false, fcondA_true, fcondA_false, binA_add, binA_sub, binA_mul, binA_eql, binA_neq, binA_lss, binA_leq, binA_gtr, binA_geq, unA_not, Bool.not_true, Bool.not_false, convA_int, extA_tuple, List.getElem?_toArray, List.getElem?_cons_zero, List.getElem?_cons_succ]
      refine callA_of (Pop_int q.m (by omega)) fun _ h2 ⟨p1, p2⟩ f2 => ?_
      cases xs with
      | nil =>
        obtain ⟨e, e'⟩ := p1 rfl
        subst e e'
        have hi0 : inn = [] := List.eq_nil_of_length_eq_zero (by rw [← hxl]; rfl)
        subst hi0
        have c3 : decide ((0 : Int) < (([] : List Int).length : Int)) = false := rfl
        simp only [q.v.lenv, c3, bbn_f, bbn_t, lenSl_slice, lenStr_string, str_size, fpureA_some, fnilA_ptr, faddA_ptr, addr_add, Nat.zero_add, Nat.add_zero, fpureQ_k, fpureQ_nilA, fpureQ_addA, fpureQ_pureA, fpureQ_guardA, fpureQ_idxSlA, fpureQ_pickA, freadQ_loadA, freadQ_loadNA, freadQ_b2sA, freadQ_guardA, freadQ_slSlA, freadQ_k, fendA, fallA_one, fstillA_nil, fguardA_tt, fguardA_ff, fguardA_tf, fguardA_ft, fguardA_undef, fpickA_true, fpickA_false, fcondA_true, fcondA_false, binA_add, binA_sub, binA_mul, binA_eql, binA_neq, binA_lss, binA_leq, binA_gtr, binA_geq, unA_not, Bool.not_true, Bool.not_false, convA_int, extA_tuple, List.getElem?_toArray, List.getElem?_cons_zero, List.getElem?_cons_succ, bne_self_eq_false, Bool.not_false, e6]
        exact on h2 x4 [] [] S q f2 (by simp)
      | cons r xs =>
        obtain ⟨e, S2, m2, s2⟩ := p2 r rfl
        subst e
        have hi := q.least (r := r) rfl
        obtain ⟨inn', rfl⟩ : ∃ inn', inn = r :: inn' := by
          cases inn with
          | nil => simp at hi
          | cons a b => simp at hi; subst hi; exact ⟨b, rfl⟩
        have c3 : decide ((0 : Int) < ((r :: inn').length : Int)) = true := decide_eq_true (by simp)
        have v2 : Ns w0 h2 x4 (r :: inn') := q.v.stepL q.lt s2 q.ap
        simp only [v2.lenv, c3, bbn_f, bbn_t, lenSl_slice, lenStr_string, str_size, fpureA_some, fnilA_ptr, faddA_ptr, addr_add, Nat.zero_add, Nat.add_zero, fpureQ_k, fpureQ_nilA, fpureQ_addA, fpureQ_pureA, fpureQ_guardA, fpureQ_idxSlA, fpureQ_pickA, freadQ_loadA, freadQ_loadNA, freadQ_b2sA, freadQ_guardA, freadQ_slSlA, freadQ_k, fendA, fallA_one, fstillA_nil, fguardA_tt, fguardA_ff, fguardA_tf, fguardA_ft, fguardA_undef, fpickA_true, fpickA_false, fcondA_true, fcondA_false, binA_add, binA_sub, binA_mul, binA_eql, binA_neq, binA_lss, binA_leq, binA_gtr, binA_geq, unA_not, Bool.not_true, Bool.not_false, convA_int, extA_tuple, List.getElem?_toArray, List.getElem?_cons_zero, List.getElem?_cons_succ, bne_self_eq_false, Bool.not_true]
        refine v2.one (i := 0) (u := .int .i64 r) rfl ?_
        simp only [lenSl_slice, lenStr_string, str_size, fpureA_some, fnilA_ptr, faddA_ptr, addr_add, Nat.zero_add, Nat.add_zero, fpureQ_k, fpureQ_nilA, fpureQ_addA, fpureQ_pureA, fpureQ_guardA, fpureQ_idxSlA, fpureQ_pickA, freadQ_loadA, freadQ_loadNA, freadQ_b2sA, freadQ_guardA, freadQ_slSlA, freadQ_k, fendA, fallA_one, fstillA_nil, fguardA_tt, fguardA_ff, fguardA_tf, fguardA_ft, fguardA_undef, fpickA_true, fpickA_false, fcondA_true, fcondA_false, binA_add, binA_sub, binA_mul, binA_eql, binA_neq, binA_lss, binA_leq, binA_gtr, binA_geq, unA_not, Bool.not_true, Bool.not_false, convA_int, extA_tuple, List.getElem?_toArray, List.getElem?_cons_zero, List.getElem?_cons_succ, bne_self_eq_false, e6]
        refine v2.cutN (lo := 1) (hi := (r :: inn').length) rfl rfl (by simp) (Nat.le_refl _) fun x' _ hsb vx => ?_
        have hpp := pop_perm (lt := ltI) (xs := r :: xs) rfl
        refine on h2 x' (popL ltI (r :: xs)) inn' S2 ⟨m2, ?_, fun b hb => ?_, fun b hb hS => ?_, (List.perm_cons r).1 (hpp.trans q.pm), (List.pairwise_cons.1 q.ris).2⟩ f2 (by simp at hil; omega)
        · rw [Nat.mul_one, Nat.mul_one, ints_take, List.take_length, ints_drop] at vx
          simpa using vx
        · rw [hsb] at hb
          exact Nat.lt_of_lt_of_le (q.lt b hb) s2.1
        · rw [hsb] at hb
          rcases (s2.own b hS).2 with e | e
          · exact q.ap b hb e
          · have := q.lt b hb; omega
    · have c2 : (n == 1099511627776) = false := by simp [k1]
      simp only [c2, lenSl_slice, lenStr_string, str_size, fpureA_some, fnilA_ptr, faddA_ptr, addr_add, Nat.zero_add, Nat.add_zero, fpureQ_k, fpureQ_nilA, fpureQ_addA, fpureQ_pureA, fpureQ_guardA, fpureQ_idxSlA, fpureQ_pickA, freadQ_loadA, freadQ_loadNA, freadQ_b2sA, freadQ_guardA, freadQ_slSlA, freadQ_k, fendA, fallA_one, fstillA_nil, fguardA_tt, fguardA_ff, fguardA_tf, fguardA_ft, fguardA_undef, fpickA_true, fpickA_false, fcondA_true, fcondA_false, binA_add, binA_sub, binA_mul, binA_eql, binA_neq, binA_lss, binA_leq, binA_gtr, binA_geq, unA_not, Bool.not_true, Bool.not_false, convA_int, extA_tuple, List.getElem?_toArray, List.getElem?_cons_zero, List.getElem?_cons_succ]
      by_cases k2 : n = 1099511627777
      · have c4 : (n == 1099511627777) = true := by simp [k2]
        simp only [c4, lenSl_slice, lenStr_string, str_size, fpureA_some, fnilA_ptr, faddA_ptr, addr_add, Nat.zero_add, Nat.add_zero, fpureQ_k, fpureQ_nilA, fpureQ_addA, fpureQ_pureA, fpureQ_guardA, fpureQ_idxSlA, fpureQ_pickA, freadQ_loadA, freadQ_loadNA, freadQ_b2sA, freadQ_guardA, freadQ_slSlA, freadQ_k, fendA, fallA_one, fstillA_nil, fguardA_tt, fguardA_ff, fguardA_tf, fguardA_ft, fguardA_undef, fpickA_true, fpickA_false, fcondA_true, fcondA_false, binA_add, binA_sub, binA_mul, binA_eql, binA_neq, binA_lss, binA_leq, binA_gtr, binA_geq, unA_not, Bool.not_true, Bool.not_false, convA_int, extA_tuple, List.getElem?_toArray, List.getElem?_cons_zero, List.getElem?_cons_succ]
        refine callA_of (Least_int q.m) fun _ h2 ⟨p1, p2, e⟩ f2 => ?_
        subst e
        cases xs with
        | nil =>
          have e := p1 rfl
          subst e
          have hi0 : inn = [] := List.eq_nil_of_length_eq_zero (by rw [← hxl]; rfl)
          subst hi0
          have c3 : decide ((0 : Int) < (([] : List Int).length : Int)) = false := rfl
          simp only [q.v.lenv, c3, bbn_f, bbn_t, lenSl_slice, lenStr_string, str_size, fpureA_some, fnilA_ptr, faddA_ptr, addr_add, Nat.zero_add, Nat.add_zero, fpureQ_k, fpureQ_nilA, fpureQ_addA, fpureQ_pureA, fpureQ_guardA, fpureQ_idxSlA, fpureQ_pickA, freadQ_loadA, freadQ_loadNA, freadQ_b2sA, freadQ_guardA, freadQ_slSlA, freadQ_k, fendA, fallA_one, fstillA_nil, fguardA_tt, fguardA_ff, fguardA_tf, fguardA_ft, fguardA_undef, fpickA_true, fpickA_false, fcondA_true, fcondA_false, binA_add, binA_sub, binA_mul, binA_eql, binA_neq, binA_lss, binA_leq, binA_gtr, binA_geq, unA_not, Bool.not_true, Bool.not_false, convA_int, extA_tuple, List.getElem?_toArray, List.getElem?_cons_zero, List.getElem?_cons_succ, bne_self_eq_false, Bool.not_false]
          refine callA_of (Len_int q.m) fun _ h3 ⟨e, e'⟩ f3 => ?_
          subst e e'
          simp only [q.v.lenv, lenSl_slice, lenStr_string, str_size, fpureA_some, fnilA_ptr, faddA_ptr, addr_add, Nat.zero_add, Nat.add_zero, fpureQ_k, fpureQ_nilA, fpureQ_addA, fpureQ_pureA, fpureQ_guardA, fpureQ_idxSlA, fpureQ_pickA, freadQ_loadA, freadQ_loadNA, freadQ_b2sA, freadQ_guardA, freadQ_slSlA, freadQ_k, fendA, fallA_one, fstillA_nil, fguardA_tt, fguardA_ff, fguardA_tf, fguardA_ft, fguardA_undef, fpickA_true, fpickA_false, fcondA_true, fcondA_false, binA_add, binA_sub, binA_mul, binA_eql, binA_neq, binA_lss, binA_leq, binA_gtr, binA_geq, unA_not, Bool.not_true, Bool.not_false, convA_int, extA_tuple, List.getElem?_toArray, List.getElem?_cons_zero, List.getElem?_cons_succ, bne_self_eq_false, e6]
          exact on h3 x4 [] [] S q f3 (by simp)
        | cons r xs =>
          have e := p2 r rfl
          subst e
          have hi := q.least (r := r) rfl
          obtain ⟨inn', rfl⟩ : ∃ inn', inn = r :: inn' := by
            cases inn with
            | nil => simp at hi
            | cons a b => simp at hi; subst hi; exact ⟨b, rfl⟩
          have c3 : decide ((0 : Int) < ((r :: inn').length : Int)) = true := decide_eq_true (by simp)
          simp only [q.v.lenv, c3, bbn_f, bbn_t, lenSl_slice, lenStr_string, str_size, fpureA_some, fnilA_ptr, faddA_ptr, addr_add, Nat.zero_add, Nat.add_zero, fpureQ_k, fpureQ_nilA, fpureQ_addA, fpureQ_pureA, fpureQ_guardA, fpureQ_idxSlA, fpureQ_pickA, freadQ_loadA, freadQ_loadNA, freadQ_b2sA, freadQ_guardA, freadQ_slSlA, freadQ_k, fendA, fallA_one, fstillA_nil, fguardA_tt, fguardA_ff, fguardA_tf, fguardA_ft, fguardA_undef, fpickA_true, fpickA_false, fcondA_true, fcondA_false, binA_add, binA_sub, binA_mul, binA_eql, binA_neq, binA_lss, binA_leq, binA_gtr, binA_geq, unA_not, Bool.not_true, Bool.not_false, convA_int, extA_tuple, List.getElem?_toArray, List.getElem?_cons_zero, List.getElem?_cons_succ, bne_self_eq_false, Bool.not_true]
          refine q.v.one (i := 0) (u := .int .i64 r) rfl ?_
          simp only [lenSl_slice, lenStr_string, str_size, fpureA_some, fnilA_ptr, faddA_ptr, addr_add, Nat.zero_add, Nat.add_zero, fpureQ_k, fpureQ_nilA, fpureQ_addA, fpureQ_pureA, fpureQ_guardA, fpureQ_idxSlA, fpureQ_pickA, freadQ_loadA, freadQ_loadNA, freadQ_b2sA, freadQ_guardA, freadQ_slSlA, freadQ_k, fendA, fallA_one, fstillA_nil, fguardA_tt, fguardA_ff, fguardA_tf, fguardA_ft, fguardA_undef, fpickA_true, fpickA_false, fcondA_true, fcondA_false, binA_add, binA_sub, binA_mul, binA_eql, binA_neq, binA_lss, binA_leq, binA_gtr, binA_geq, unA_not, Bool.not_true, Bool.not_false, convA_int, extA_tuple, List.getElem?_toArray, List.getElem?_cons_zero, List.getElem?_cons_succ, bne_self_eq_false]
          refine callA_of (Len_int q.m) fun _ h3 ⟨e, e'⟩ f3 => ?_
          subst e e'
          have e8 : ((r :: xs).length : Int) = ((r :: inn').length : Int) := by rw [hxl]
          simp only [q.v.lenv, e8, lenSl_slice, lenStr_string, str_size, fpureA_some, fnilA_ptr, faddA_ptr, addr_add, Nat.zero_add, Nat.add_zero, fpureQ_k, fpureQ_nilA, fpureQ_addA, fpureQ_pureA, fpureQ_guardA, fpureQ_idxSlA, fpureQ_pickA, freadQ_loadA, freadQ_loadNA, freadQ_b2sA, freadQ_guardA, freadQ_slSlA, freadQ_k, fendA, fallA_one, fstillA_nil, fguardA_tt, fguardA_ff, fguardA_tf, fguardA_ft, fguardA_undef, fpickA_true, fpickA_false, fcondA_true, fcondA_false, binA_add, binA_sub, binA_mul, binA_eql, binA_neq, binA_lss, binA_leq, binA_gtr, binA_geq, unA_not, Bool.not_true, Bool.not_false, convA_int, extA_tuple, List.getElem?_toArray, List.getElem?_cons_zero, List.getElem?_cons_succ, bne_self_eq_false, e6]
          exact on h3 x4 _ _ S q f3 (by omega)
      · have c4 : (n == 1099511627777) = false := by simp [k2]
        simp only [c4, lenSl_slice, lenStr_string, str_size, fpureA_some, fnilA_ptr, faddA_ptr, addr_add, Nat.zero_add, Nat.add_zero, fpureQ_k, fpureQ_nilA, fpureQ_addA, fpureQ_pureA, fpureQ_guardA, fpureQ_idxSlA, fpureQ_pickA, freadQ_loadA, freadQ_loadNA, freadQ_b2sA, freadQ_guardA, freadQ_slSlA, freadQ_k, fendA, fallA_one, fstillA_nil, fguardA_tt, fguardA_ff, fguardA_tf, fguardA_ft, fguardA_undef, fpickA_true, fpickA_false, fcondA_true, fcondA_false, binA_add, binA_sub, binA_mul, binA_eql, binA_neq, binA_lss, binA_leq, binA_gtr, binA_geq, unA_not, Bool.not_true, Bool.not_false, convA_int, extA_tuple, List.getElem?_toArray, List.getElem?_cons_zero, List.getElem?_cons_succ]
        refine callA_of (Push_int q.m n (by omega)) fun _ h2 ⟨S2, m2, s2⟩ f2 => ?_
        have v2 : Ns w0 h2 x4 inn := q.v.stepL q.lt s2 q.ap
        refine app_new (n := inn.length) f2 v2 (by omega) (by omega) (by omega) fun x5 h3 S3 g3 _ s3 _ => ?_
        have fb3 := s3.base f2.base
        refine app1_vec (by omega) g3 rfl (by omega) (by omega) fun x6 h4 S4 g4 s4 => ?_
        have e1 : ints inn ++ [.int .i64 n] = ints (inn ++ [n]) := by simp [ints]
        have e2 : inn.length + 1 = (inn ++ [n]).length := by simp
        rw [e1, e2] at g4
        refine callA_of (rSort_spec g4.sl (by simp; omega)) fun x7 h5 ⟨S5, g5, s5⟩ f5 => ?_
        simp only [e6]
        have st : Step h2 h5 [] S5 := ((s3.trans s4).less (T := []) (by simp)).trans s5
        have hpi : (sortI (inn ++ [n])).Perm (inn ++ [n]) := sortI_perm _
        have hl7 := hpi.length_eq
        refine on h5 x7 (pushL ltI xs n) (sortI (inn ++ [n])) S2 ⟨m2.frame st (by simp), g5.sl, fun b hb => ?_, fun b hb hS => ?_, ?_, sortI_ris _⟩ f5 (by rw [hl7]; simp; omega)
        · rw [g5.sb] at hb; exact (g5.lt b hb).2
        · rw [g5.sb] at hb
          have := (m2.1.lt b hS).2
          rcases (st.own b hb).2 with e | e
          · simp at e
          · omega
        · exact (push_perm xs n).trans ((q.pm.cons n).trans ((List.perm_append_comm (l₁ := [n])).trans hpi.symm))
theorem SeqHeaps_top {v : Value} {l : List Int} (hv : ExtSl w0 1 v l.length (ints l)) (hl : l.length ≤ 10000000) : ACalls prog w0 n_deduplaw10_SeqHeaps [v] h fun r h' => r = .bool true := by
  refine ACalls.of_fit (by simpa using hv.nj) fun f => c_deduplaw10_SeqHeaps (by simpa using hv.nj) ?_
  simp only [s_deduplaw10_SeqHeaps]
  refine callA_of NewHeap_int fun r h1 ⟨e, m1, s1⟩ f1 => ?_
  subst e
  refine callA_of awake_spec fun r h2 ⟨e, s2⟩ f2 => ?_
  subst e
  have m2 := m1.frame s2 (by simp)
  generalize h.next = p at *
  have c0 : ∀ p, binPtrA .eql (ptr p) (.pointer none) = some (.bool false) := fun p => rfl
  simp only [Bool.not_true, c0, lenSl_slice, lenStr_string, str_size, fpureA_some, fnilA_ptr, faddA_ptr, addr_add, Nat.zero_add, Nat.add_zero, fpureQ_k, fpureQ_nilA, fpureQ_addA, fpureQ_pureA, fpureQ_guardA, fpureQ_idxSlA, fpureQ_pickA, freadQ_loadA, freadQ_loadNA, freadQ_b2sA, freadQ_guardA, freadQ_slSlA, freadQ_k, fendA, fallA_one, fstillA_nil, fguardA_tt, fguardA_ff, fguardA_tf, fguardA_ft, fguardA_undef, fpickA_true, fpickA_false, fcondA_true, fcondA_false, binA_add, binA_sub, binA_mul, binA_eql, binA_neq, binA_lss, binA_leq, binA_gtr, binA_geq, unA_not, Bool.not_true, Bool.not_false, convA_int, extA_tuple, List.getElem?_toArray, List.getElem?_cons_zero, List.getElem?_cons_succ, (hv.ns h2 f2).lenv]
  refine ⟨l.length + 1, heaps_loop hv hl (fun h4 x4 xs inn S q f4 => ?_) l [] h2 _ [] [] [p] rfl ⟨m2, Sl.nil, by simp [sblk], by simp [sblk], .refl _, List.Pairwise.nil⟩ f2 (by simp)⟩
  refine callA_of (Len_int q.m) fun _ h6 ⟨e, e'⟩ f6 => ?_
  subst e e'
  have e8 : (xs.length : Int) = (inn.length : Int) := by rw [q.pm.length_eq]
  simp only [q.v.lenv, e8, lenSl_slice, lenStr_string, str_size, fpureA_some, fnilA_ptr, faddA_ptr, addr_add, Nat.zero_add, Nat.add_zero, fpureQ_k, fpureQ_nilA, fpureQ_addA, fpureQ_pureA, fpureQ_guardA, fpureQ_idxSlA, fpureQ_pickA, freadQ_loadA, freadQ_loadNA, freadQ_b2sA, freadQ_guardA, freadQ_slSlA, freadQ_k, fendA, fallA_one, fstillA_nil, fguardA_tt, fguardA_ff, fguardA_tf, fguardA_ft, fguardA_undef, fpickA_true, fpickA_false, fcondA_true, fcondA_false, binA_add, binA_sub, binA_mul, binA_eql, binA_neq, binA_lss, binA_leq, binA_gtr, binA_geq, unA_not, Bool.not_true, Bool.not_false, convA_int, extA_tuple, List.getElem?_toArray, List.getElem?_cons_zero, List.getElem?_cons_succ, beq_self_eq_true, retA_iff, oneOf_one]
  simp
end
end Go.Proofs.Ytpdpponbhejlpaa.Ah
