/- PackForks: the walk. -/
import Derived.Test.YtfhamcobfpmgbaaLplays
set_option linter.unusedVariables false
set_option linter.unusedSimpArgs false
namespace Go.Proofs.Ytfhamcobfpmgbaa.Ah
open Go

section
variable {w0 : World} {p x q y : Nat} {sa sb : PS} {Sp Sx R Sq Sy Rq : List Nat}
theorem Rf.disj {h : Hp} {st : PS} {S R : List Nat} (w : Rf w0 h p st S R) : ∀ c, c ∈ S → c ∉ R := by
  obtain ⟨xc, xl, vs, B, w, rfl⟩ := w
  intro c hc
  rcases List.mem_cons.1 hc with rfl | hc
  · exact w.pr
  · exact w.br c hc
/-- Two pairs, apart from each other. -/
structure Two (w0 : World) (h : Hp) (p x : Nat) (sa : PS) (Sp Sx R : List Nat) (q y : Nat) (sb : PS) (Sq Sy Rq : List Nat) : Prop where
  a : Both w0 h p x sa Sp Sx R
  b : Both w0 h q y sb Sq Sy Rq
  ab : ∀ c, c ∈ Sq ++ (Sy ++ Rq) → c ∉ Sp ++ Sx
  ba : ∀ c, c ∈ Sp ++ (Sx ++ R) → c ∉ Sq ++ Sy
theorem Two.swap {h : Hp} (t : Two w0 h p x sa Sp Sx R q y sb Sq Sy Rq) : Two w0 h q y sb Sq Sy Rq p x sa Sp Sx R := ⟨t.b, t.a, t.ba, t.ab⟩
theorem Two.left {h h' : Hp} {st' : PS} (t : Two w0 h p x sa Sp Sx R q y sb Sq Sy Rq) (a : After w0 h h' p x st' Sp Sx R) : ∃ Sp' Sx' R', Two w0 h' p x st' Sp' Sx' R' q y sb Sq Sy Rq := by
  obtain ⟨Sp', Sx', R', b', s, hR⟩ := a
  obtain ⟨b2, d2⟩ := t.b.apart s t.ab
  refine ⟨Sp', Sx', R', b', b2, d2, fun c hc he => ?_⟩
  have hlt := t.b.lts c he
  have hin : c ∈ Sp ++ (Sx ++ R) := by
    rcases List.mem_append.1 hc with e | e
    · rcases (s.own c (by simp [e])).2 with g | g
      · rcases List.mem_append.1 g with g | g <;> simp [g]
      · omega
    · rcases List.mem_append.1 e with e | e
      · rcases (s.own c (by simp [e])).2 with g | g
        · rcases List.mem_append.1 g with g | g <;> simp [g]
        · omega
      · rcases hR c e with g | g
        · simp [g]
        · omega
  exact t.ba c hin he
theorem Two.frame {h h' : Hp} (t : Two w0 h p x sa Sp Sx R q y sb Sq Sy Rq) {T : List Nat} (s : Step h h' [] T) : Two w0 h' p x sa Sp Sx R q y sb Sq Sy Rq :=
  ⟨t.a.frame s (by simp) (by simp) (by simp), t.b.frame s (by simp) (by simp) (by simp), t.ab, t.ba⟩
theorem pforks_loop1 {k0 kr : Value → Value → Value → Value → Hp → Prop} {v x3 x8 : Value} {os : List POp} (hx : ExtSl w0 5 v os.length (os.flatMap POp.e)) (hok : ∀ o, o ∈ os → (dPOp w0).ok o ∧ o.bs.length ≤ 1000000000) (hos : os.length ≤ 1000000000) : ∀ (post pre : List POp) (h : Hp) (st : PS) (Sp Sx R : List Nat), pre ++ post = os → Fit w0 h → Both w0 h p x st Sp Sx R → st.Ok →
    (∀ h' st' Sp' Sx' R', Fit w0 h' → Both w0 h' p x st' Sp' Sx' R' → st'.Ok → k0 x3 x8 (ptr p) (ptr x) h') →
    deduplaw13_PackForks_L1 prog w0 k0 kr (post.length + 1) v x3 x8 (ptr p) (ptr x) (.int .i64 (pre.length : Int)) h := by
  obtain ⟨a, c, hv, hn, hc⟩ := hx.sl
  intro post
  induction post with
  | nil =>
    intro pre h st Sp Sx R he f w o hk
    have hpre : pre = os := by simpa using he
    rw [deduplaw13_PackForks_L1, hv]
    simp only [deduplaw13_PackForks_B1, lenSl_slice, lenStr_string, str_size, fpureA_some, fnilA_ptr, faddA_ptr, addr_add, Nat.zero_add, Nat.add_zero, fpureQ_k, fpureQ_nilA, fpureQ_addA, fpureQ_pureA, fpureQ_guardA, fpureQ_idxSlA, fpureQ_pickA, freadQ_loadA, freadQ_loadNA, freadQ_b2sA, freadQ_guardA, freadQ_slSlA, freadQ_k, fendA, fallA_one, fstillA_nil, fguardA_tt, fguardA_ff, fguardA_tf, fguardA_ft, fguardA_undef, fpickA_true, fpickA_false, fcondA_true, fcondA_false, binA_add, binA_sub, binA_mul, binA_eql, binA_neq, binA_lss, binA_leq, binA_gtr, binA_geq, unA_not, Bool.not_true, Bool.not_false, convA_int, extA_tuple, List.getElem?_toArray, List.getElem?_cons_zero, List.getElem?_cons_succ, hpre, Int.lt_irrefl, decide_false]
    exact hk h st Sp Sx R f w o
  | cons o1 post ih =>
    intro pre h st Sp Sx R he f w o hk
    have hlen : pre.length + (post.length + 1) = os.length := by rw [← he]; simp
    have ho : o1 ∈ os := by rw [← he]; simp
    obtain ⟨hop, hbl⟩ := hok o1 ho
    have c1 : decide ((pre.length : Int) < (os.length : Int)) = true := decide_eq_true (by omega)
    have e5 : IntKind.i64.wrap ((pre.length : Int) + 1) = ((pre.length + 1 : Nat) : Int) := by rw [IntWalk.i64_in _ (by omega)]; simp
    have hyl := flat_len (e := POp.e) (s := 5) (fun _ => rfl) os
    rw [List.length_cons, deduplaw13_PackForks_L1]
    rw [hv] at hx ih ⊢
    have on : ∀ h' st' Sp' Sx' R', Fit w0 h' → Both w0 h' p x st' Sp' Sx' R' → st'.Ok → deduplaw13_PackForks_L1 prog w0 k0 kr (post.length + 1) (.slice a os.length c) x3 x8 (ptr p) (ptr x) (.int .i64 ((pre.length + 1 : Nat) : Int)) h' := by
      intro h' st' Sp' Sx' R' f' w' o'
      have := ih (pre ++ [o1]) h' st' Sp' Sx' R' (by simpa using he) f' w' o' hk
      simpa using this
    simp only [deduplaw13_PackForks_B1, lenSl_slice, lenStr_string, str_size, fpureA_some, fnilA_ptr, faddA_ptr, addr_add, Nat.zero_add, Nat.add_zero, fpureQ_k, fpureQ_nilA, fpureQ_addA, fpureQ_pureA, fpureQ_guardA, fpureQ_idxSlA, fpureQ_pickA, freadQ_loadA, freadQ_loadNA, freadQ_b2sA, freadQ_guardA, freadQ_slSlA, freadQ_k, fendA, fallA_one, fstillA_nil, fguardA_tt, fguardA_ff, fguardA_tf, fguardA_ft, fguardA_undef, fpickA_true, fpickA_false, fcondA_true, fcondA_false, binA_add, binA_sub, binA_mul, binA_eql, binA_neq, binA_lss, binA_leq, binA_gtr, binA_geq, unA_not, Bool.not_true, Bool.not_false, convA_int, extA_tuple, List.getElem?_toArray, List.getElem?_cons_zero, List.getElem?_cons_succ, c1]
    refine ext_idx hx f (by omega) (by omega) hyl fun b o0 hb ld => ?_
    simp only [lenSl_slice, lenStr_string, str_size, fpureA_some, fnilA_ptr, faddA_ptr, addr_add, Nat.zero_add, Nat.add_zero, fpureQ_k, fpureQ_nilA, fpureQ_addA, fpureQ_pureA, fpureQ_guardA, fpureQ_idxSlA, fpureQ_pickA, freadQ_loadA, freadQ_loadNA, freadQ_b2sA, freadQ_guardA, freadQ_slSlA, freadQ_k, fendA, fallA_one, fstillA_nil, fguardA_tt, fguardA_ff, fguardA_tf, fguardA_ft, fguardA_undef, fpickA_true, fpickA_false, fcondA_true, fcondA_false, binA_add, binA_sub, binA_mul, binA_eql, binA_neq, binA_lss, binA_leq, binA_gtr, binA_geq, unA_not, Bool.not_true, Bool.not_false, convA_int, extA_tuple, List.getElem?_toArray, List.getElem?_cons_zero, List.getElem?_cons_succ]
    refine ld h 0 (.int .i64 o1.k) _ f (by omega) (by rw [pop_get he 0 (by omega)]; rfl) ?_
    simp only [lenSl_slice, lenStr_string, str_size, fpureA_some, fnilA_ptr, faddA_ptr, addr_add, Nat.zero_add, Nat.add_zero, fpureQ_k, fpureQ_nilA, fpureQ_addA, fpureQ_pureA, fpureQ_guardA, fpureQ_idxSlA, fpureQ_pickA, freadQ_loadA, freadQ_loadNA, freadQ_b2sA, freadQ_guardA, freadQ_slSlA, freadQ_k, fendA, fallA_one, fstillA_nil, fguardA_tt, fguardA_ff, fguardA_tf, fguardA_ft, fguardA_undef, fpickA_true, fpickA_false, fcondA_true, fcondA_false, binA_add, binA_sub, binA_mul, binA_eql, binA_neq, binA_lss, binA_leq, binA_gtr, binA_geq, unA_not, Bool.not_true, Bool.not_false, convA_int, extA_tuple, List.getElem?_toArray, List.getElem?_cons_zero, List.getElem?_cons_succ, e5]
    by_cases k9 : o1.k = 9
    · have c2 : (o1.k != 9) = false := by simp [k9]
      simp only [c2, lenSl_slice, lenStr_string, str_size, fpureA_some, fnilA_ptr, faddA_ptr, addr_add, Nat.zero_add, Nat.add_zero, fpureQ_k, fpureQ_nilA, fpureQ_addA, fpureQ_pureA, fpureQ_guardA, fpureQ_idxSlA, fpureQ_pickA, freadQ_loadA, freadQ_loadNA, freadQ_b2sA, freadQ_guardA, freadQ_slSlA, freadQ_k, fendA, fallA_one, fstillA_nil, fguardA_tt, fguardA_ff, fguardA_tf, fguardA_ft, fguardA_undef, fpickA_true, fpickA_false, fcondA_true, fcondA_false, binA_add, binA_sub, binA_mul, binA_eql, binA_neq, binA_lss, binA_leq, binA_gtr, binA_geq, unA_not, Bool.not_true, Bool.not_false, convA_int, extA_tuple, List.getElem?_toArray, List.getElem?_cons_zero, List.getElem?_cons_succ]
      exact on h st _ _ _ f w o
    have c2 : (o1.k != 9) = true := by simp [k9]
    simp only [c2, lenSl_slice, lenStr_string, str_size, fpureA_some, fnilA_ptr, faddA_ptr, addr_add, Nat.zero_add, Nat.add_zero, fpureQ_k, fpureQ_nilA, fpureQ_addA, fpureQ_pureA, fpureQ_guardA, fpureQ_idxSlA, fpureQ_pickA, freadQ_loadA, freadQ_loadNA, freadQ_b2sA, freadQ_guardA, freadQ_slSlA, freadQ_k, fendA, fallA_one, fstillA_nil, fguardA_tt, fguardA_ff, fguardA_tf, fguardA_ft, fguardA_undef, fpickA_true, fpickA_false, fcondA_true, fcondA_false, binA_add, binA_sub, binA_mul, binA_eql, binA_neq, binA_lss, binA_leq, binA_gtr, binA_geq, unA_not, Bool.not_true, Bool.not_false, convA_int, extA_tuple, List.getElem?_toArray, List.getElem?_cons_zero, List.getElem?_cons_succ]
    refine ext_idxN hx f (by omega) (by omega) hyl fun b o0 hb ldn => ?_
    refine ldn h _ f ?_
    rw [pop_whole he]
    refine callA_of (step_spec w o o1 hop hbl) fun v6 h6 ⟨e, Sp', Sx', R', b6, z1, z2⟩ f6 => ?_
    subst e
    simp only [lenSl_slice, lenStr_string, str_size, fpureA_some, fnilA_ptr, faddA_ptr, addr_add, Nat.zero_add, Nat.add_zero, fpureQ_k, fpureQ_nilA, fpureQ_addA, fpureQ_pureA, fpureQ_guardA, fpureQ_idxSlA, fpureQ_pickA, freadQ_loadA, freadQ_loadNA, freadQ_b2sA, freadQ_guardA, freadQ_slSlA, freadQ_k, fendA, fallA_one, fstillA_nil, fguardA_tt, fguardA_ff, fguardA_tf, fguardA_ft, fguardA_undef, fpickA_true, fpickA_false, fcondA_true, fcondA_false, binA_add, binA_sub, binA_mul, binA_eql, binA_neq, binA_lss, binA_leq, binA_gtr, binA_geq, unA_not, Bool.not_true, Bool.not_false, convA_int, extA_tuple, List.getElem?_toArray, List.getElem?_cons_zero, List.getElem?_cons_succ]
    exact on h6 _ _ _ _ f6 b6 (o.doit o1)
theorem prem2 {k : Nat} : binA .rem (.int .i64 (k : Int)) (.int .i64 2) = some (.int .i64 ((k % 2 : Nat) : Int)) := by
  rw [binA_rem _ _ _ (by omega)]
  have h1 : ((k : Int)).tmod 2 = ((k % 2 : Nat) : Int) := by
    rw [Int.tmod_eq_emod_of_nonneg (by omega)]; simp
  rw [h1]
theorem pforks_loop2 {k2 kr : Value → Value → Value → Value → Value → Hp → Prop} {v x8 : Value} {os : List POp} (hx : ExtSl w0 5 v os.length (os.flatMap POp.e)) (hok : ∀ o, o ∈ os → (dPOp w0).ok o ∧ o.bs.length ≤ 1000000000) (hos : os.length ≤ 1000000000) : ∀ (post pre : List POp) (h : Hp) (sa sb : PS) (Sp Sx R Sq Sy Rq : List Nat), pre ++ post = os → Fit w0 h → Two w0 h p x sa Sp Sx R q y sb Sq Sy Rq → sa.Ok → sb.Ok →
    (∀ h' sa sb Sp Sx R Sq Sy Rq, Fit w0 h' → Two w0 h' p x sa Sp Sx R q y sb Sq Sy Rq → sa.Ok → sb.Ok → k2 x8 (ptr p) (ptr x) (ptr q) (ptr y) h') →
    deduplaw13_PackForks_L2 prog w0 k2 kr (post.length + 1) v x8 (ptr p) (ptr x) (ptr q) (ptr y) (.int .i64 (pre.length : Int)) h := by
  obtain ⟨a, c, hv, hn, hc⟩ := hx.sl
  intro post
  induction post with
  | nil =>
    intro pre h sa sb Sp Sx R Sq Sy Rq he f w oa ob hk
    have hpre : pre = os := by simpa using he
    rw [deduplaw13_PackForks_L2, hv]
    simp only [deduplaw13_PackForks_B2, lenSl_slice, lenStr_string, str_size, fpureA_some, fnilA_ptr, faddA_ptr, addr_add, Nat.zero_add, Nat.add_zero, fpureQ_k, fpureQ_nilA, fpureQ_addA, fpureQ_pureA, fpureQ_guardA, fpureQ_idxSlA, fpureQ_pickA, freadQ_loadA, freadQ_loadNA, freadQ_b2sA, freadQ_guardA, freadQ_slSlA, freadQ_k, fendA, fallA_one, fstillA_nil, fguardA_tt, fguardA_ff, fguardA_tf, fguardA_ft, fguardA_undef, fpickA_true, fpickA_false, fcondA_true, fcondA_false, binA_add, binA_sub, binA_mul, binA_eql, binA_neq, binA_lss, binA_leq, binA_gtr, binA_geq, unA_not, Bool.not_true, Bool.not_false, convA_int, extA_tuple, List.getElem?_toArray, List.getElem?_cons_zero, List.getElem?_cons_succ, hpre, Int.lt_irrefl, decide_false]
    exact hk h sa sb Sp Sx R Sq Sy Rq f w oa ob
  | cons o1 post ih =>
    intro pre h sa sb Sp Sx R Sq Sy Rq he f w oa ob hk
    have hlen : pre.length + (post.length + 1) = os.length := by rw [← he]; simp
    have ho : o1 ∈ os := by rw [← he]; simp
    obtain ⟨hop, hbl⟩ := hok o1 ho
    have c1 : decide ((pre.length : Int) < (os.length : Int)) = true := decide_eq_true (by omega)
    have e5 : IntKind.i64.wrap ((pre.length : Int) + 1) = ((pre.length + 1 : Nat) : Int) := by rw [IntWalk.i64_in _ (by omega)]; simp
    have hyl := flat_len (e := POp.e) (s := 5) (fun _ => rfl) os
    have er : binA .rem (.int .i64 (pre.length : Int)) (.int .i64 2) = some (.int .i64 ((pre.length % 2 : Nat) : Int)) := prem2
    rw [List.length_cons, deduplaw13_PackForks_L2]
    rw [hv] at hx ih ⊢
    have on : ∀ h' sa sb Sp Sx R Sq Sy Rq, Fit w0 h' → Two w0 h' p x sa Sp Sx R q y sb Sq Sy Rq → sa.Ok → sb.Ok → deduplaw13_PackForks_L2 prog w0 k2 kr (post.length + 1) (.slice a os.length c) x8 (ptr p) (ptr x) (ptr q) (ptr y) (.int .i64 ((pre.length + 1 : Nat) : Int)) h' := by
      intro h' sa sb Sp Sx R Sq Sy Rq f' w' oa' ob'
      have := ih (pre ++ [o1]) h' sa sb Sp Sx R Sq Sy Rq (by simpa using he) f' w' oa' ob' hk
      simpa using this
    simp only [deduplaw13_PackForks_B2, lenSl_slice, lenStr_string, str_size, fpureA_some, fnilA_ptr, faddA_ptr, addr_add, Nat.zero_add, Nat.add_zero, fpureQ_k, fpureQ_nilA, fpureQ_addA, fpureQ_pureA, fpureQ_guardA, fpureQ_idxSlA, fpureQ_pickA, freadQ_loadA, freadQ_loadNA, freadQ_b2sA, freadQ_guardA, freadQ_slSlA, freadQ_k, fendA, fallA_one, fstillA_nil, fguardA_tt, fguardA_ff, fguardA_tf, fguardA_ft, fguardA_undef, fpickA_true, fpickA_false, fcondA_true, fcondA_false, binA_add, binA_sub, binA_mul, binA_eql, binA_neq, binA_lss, binA_leq, binA_gtr, binA_geq, unA_not, Bool.not_true, Bool.not_false, convA_int, extA_tuple, List.getElem?_toArray, List.getElem?_cons_zero, List.getElem?_cons_succ, c1]
    refine ext_idx hx f (by omega) (by omega) hyl fun b o0 hb ld => ?_
    simp only [lenSl_slice, lenStr_string, str_size, fpureA_some, fnilA_ptr, faddA_ptr, addr_add, Nat.zero_add, Nat.add_zero, fpureQ_k, fpureQ_nilA, fpureQ_addA, fpureQ_pureA, fpureQ_guardA, fpureQ_idxSlA, fpureQ_pickA, freadQ_loadA, freadQ_loadNA, freadQ_b2sA, freadQ_guardA, freadQ_slSlA, freadQ_k, fendA, fallA_one, fstillA_nil, fguardA_tt, fguardA_ff, fguardA_tf, fguardA_ft, fguardA_undef, fpickA_true, fpickA_false, fcondA_true, fcondA_false, binA_add, binA_sub, binA_mul, binA_eql, binA_neq, binA_lss, binA_leq, binA_gtr, binA_geq, unA_not, Bool.not_true, Bool.not_false, convA_int, extA_tuple, List.getElem?_toArray, List.getElem?_cons_zero, List.getElem?_cons_succ]
    refine ld h 0 (.int .i64 o1.k) _ f (by omega) (by rw [pop_get he 0 (by omega)]; rfl) ?_
    simp only [lenSl_slice, lenStr_string, str_size, fpureA_some, fnilA_ptr, faddA_ptr, addr_add, Nat.zero_add, Nat.add_zero, fpureQ_k, fpureQ_nilA, fpureQ_addA, fpureQ_pureA, fpureQ_guardA, fpureQ_idxSlA, fpureQ_pickA, freadQ_loadA, freadQ_loadNA, freadQ_b2sA, freadQ_guardA, freadQ_slSlA, freadQ_k, fendA, fallA_one, fstillA_nil, fguardA_tt, fguardA_ff, fguardA_tf, fguardA_ft, fguardA_undef, fpickA_true, fpickA_false, fcondA_true, fcondA_false, binA_add, binA_sub, binA_mul, binA_eql, binA_neq, binA_lss, binA_leq, binA_gtr, binA_geq, unA_not, Bool.not_true, Bool.not_false, convA_int, extA_tuple, List.getElem?_toArray, List.getElem?_cons_zero, List.getElem?_cons_succ, e5, er]
    by_cases k9 : o1.k = 9
    · have c2 : (o1.k == 9) = true := by simp [k9]
      simp only [c2, lenSl_slice, lenStr_string, str_size, fpureA_some, fnilA_ptr, faddA_ptr, addr_add, Nat.zero_add, Nat.add_zero, fpureQ_k, fpureQ_nilA, fpureQ_addA, fpureQ_pureA, fpureQ_guardA, fpureQ_idxSlA, fpureQ_pickA, freadQ_loadA, freadQ_loadNA, freadQ_b2sA, freadQ_guardA, freadQ_slSlA, freadQ_k, fendA, fallA_one, fstillA_nil, fguardA_tt, fguardA_ff, fguardA_tf, fguardA_ft, fguardA_undef, fpickA_true, fpickA_false, fcondA_true, fcondA_false, binA_add, binA_sub, binA_mul, binA_eql, binA_neq, binA_lss, binA_leq, binA_gtr, binA_geq, unA_not, Bool.not_true, Bool.not_false, convA_int, extA_tuple, List.getElem?_toArray, List.getElem?_cons_zero, List.getElem?_cons_succ]
      exact on h _ _ _ _ _ _ _ _ f w oa ob
    have c2 : (o1.k == 9) = false := by simp [k9]
    simp only [c2, lenSl_slice, lenStr_string, str_size, fpureA_some, fnilA_ptr, faddA_ptr, addr_add, Nat.zero_add, Nat.add_zero, fpureQ_k, fpureQ_nilA, fpureQ_addA, fpureQ_pureA, fpureQ_guardA, fpureQ_idxSlA, fpureQ_pickA, freadQ_loadA, freadQ_loadNA, freadQ_b2sA, freadQ_guardA, freadQ_slSlA, freadQ_k, fendA, fallA_one, fstillA_nil, fguardA_tt, fguardA_ff, fguardA_tf, fguardA_ft, fguardA_undef, fpickA_true, fpickA_false, fcondA_true, fcondA_false, binA_add, binA_sub, binA_mul, binA_eql, binA_neq, binA_lss, binA_leq, binA_gtr, binA_geq, unA_not, Bool.not_true, Bool.not_false, convA_int, extA_tuple, List.getElem?_toArray, List.getElem?_cons_zero, List.getElem?_cons_succ]
    by_cases hm : pre.length % 2 = 1
    · have c3 : (((pre.length % 2 : Nat) : Int) == 0) = false := by rw [hm]; rfl
      have c4 : (((pre.length % 2 : Nat) : Int) == 1) = true := by rw [hm]; rfl
      simp only [c3, lenSl_slice, lenStr_string, str_size, fpureA_some, fnilA_ptr, faddA_ptr, addr_add, Nat.zero_add, Nat.add_zero, fpureQ_k, fpureQ_nilA, fpureQ_addA, fpureQ_pureA, fpureQ_guardA, fpureQ_idxSlA, fpureQ_pickA, freadQ_loadA, freadQ_loadNA, freadQ_b2sA, freadQ_guardA, freadQ_slSlA, freadQ_k, fendA, fallA_one, fstillA_nil, fguardA_tt, fguardA_ff, fguardA_tf, fguardA_ft, fguardA_undef, fpickA_true, fpickA_false, fcondA_true, fcondA_false, binA_add, binA_sub, binA_mul, binA_eql, binA_neq, binA_lss, binA_leq, binA_gtr, binA_geq, unA_not, Bool.not_true, Bool.not_false, convA_int, extA_tuple, List.getElem?_toArray, List.getElem?_cons_zero, List.getElem?_cons_succ, er, c4]
      refine ext_idxN hx f (by omega) (by omega) hyl fun b o0 hb ldn => ?_
      refine ldn h _ f ?_
      rw [pop_whole he]
      refine callA_of (step_spec w.b ob o1 hop hbl) fun v6 h6 ⟨e, a6⟩ f6 => ?_
      subst e
      obtain ⟨S1, S2, S3, w6⟩ := w.swap.left a6
      simp only [lenSl_slice, lenStr_string, str_size, fpureA_some, fnilA_ptr, faddA_ptr, addr_add, Nat.zero_add, Nat.add_zero, fpureQ_k, fpureQ_nilA, fpureQ_addA, fpureQ_pureA, fpureQ_guardA, fpureQ_idxSlA, fpureQ_pickA, freadQ_loadA, freadQ_loadNA, freadQ_b2sA, freadQ_guardA, freadQ_slSlA, freadQ_k, fendA, fallA_one, fstillA_nil, fguardA_tt, fguardA_ff, fguardA_tf, fguardA_ft, fguardA_undef, fpickA_true, fpickA_false, fcondA_true, fcondA_false, binA_add, binA_sub, binA_mul, binA_eql, binA_neq, binA_lss, binA_leq, binA_gtr, binA_geq, unA_not, Bool.not_true, Bool.not_false, convA_int, extA_tuple, List.getElem?_toArray, List.getElem?_cons_zero, List.getElem?_cons_succ]
      exact on h6 _ _ _ _ _ _ _ _ f6 w6.swap oa (ob.doit o1)
    · have h0 : pre.length % 2 = 0 := by omega
      have c3 : (((pre.length % 2 : Nat) : Int) == 0) = true := by rw [h0]; rfl
      have c4 : (((pre.length % 2 : Nat) : Int) == 1) = false := by rw [h0]; rfl
      simp only [c3, lenSl_slice, lenStr_string, str_size, fpureA_some, fnilA_ptr, faddA_ptr, addr_add, Nat.zero_add, Nat.add_zero, fpureQ_k, fpureQ_nilA, fpureQ_addA, fpureQ_pureA, fpureQ_guardA, fpureQ_idxSlA, fpureQ_pickA, freadQ_loadA, freadQ_loadNA, freadQ_b2sA, freadQ_guardA, freadQ_slSlA, freadQ_k, fendA, fallA_one, fstillA_nil, fguardA_tt, fguardA_ff, fguardA_tf, fguardA_ft, fguardA_undef, fpickA_true, fpickA_false, fcondA_true, fcondA_false, binA_add, binA_sub, binA_mul, binA_eql, binA_neq, binA_lss, binA_leq, binA_gtr, binA_geq, unA_not, Bool.not_true, Bool.not_false, convA_int, extA_tuple, List.getElem?_toArray, List.getElem?_cons_zero, List.getElem?_cons_succ]
      refine ext_idxN hx f (by omega) (by omega) hyl fun b o0 hb ldn => ?_
      refine ldn h _ f ?_
      rw [pop_whole he]
      refine callA_of (step_spec w.a oa o1 hop hbl) fun v6 h6 ⟨e, a6⟩ f6 => ?_
      subst e
      obtain ⟨S1, S2, S3, w6⟩ := w.left a6
      simp only [lenSl_slice, lenStr_string, str_size, fpureA_some, fnilA_ptr, faddA_ptr, addr_add, Nat.zero_add, Nat.add_zero, fpureQ_k, fpureQ_nilA, fpureQ_addA, fpureQ_pureA, fpureQ_guardA, fpureQ_idxSlA, fpureQ_pickA, freadQ_loadA, freadQ_loadNA, freadQ_b2sA, freadQ_guardA, freadQ_slSlA, freadQ_k, fendA, fallA_one, fstillA_nil, fguardA_tt, fguardA_ff, fguardA_tf, fguardA_ft, fguardA_undef, fpickA_true, fpickA_false, fcondA_true, fcondA_false, binA_add, binA_sub, binA_mul, binA_eql, binA_neq, binA_lss, binA_leq, binA_gtr, binA_geq, unA_not, Bool.not_true, Bool.not_false, convA_int, extA_tuple, List.getElem?_toArray, List.getElem?_cons_zero, List.getElem?_cons_succ, er, c4]
      exact on h6 _ _ _ _ _ _ _ _ f6 w6 (oa.doit o1) ob
/-- PackForks: true. -/
theorem PackForks_top {h : Hp} (n s : Int) (hn : -9223372036854775808 ≤ n ∧ n ≤ 9223372036854775807) {v u : Value} {os ms : List POp} (hx : ExtSl w0 5 v os.length (os.flatMap POp.e)) (hok : ∀ o, o ∈ os → (dPOp w0).ok o ∧ o.bs.length ≤ 1000000000) (hos : os.length ≤ 1000000000)
    (hy : ExtSl w0 5 u ms.length (ms.flatMap POp.e)) (hok2 : ∀ o, o ∈ ms → (dPOp w0).ok o ∧ o.bs.length ≤ 1000000000) (hms : ms.length ≤ 1000000000) :
    ACalls prog w0 n_deduplaw13_PackForks [.int .i64 n, .int .i64 s, v, u] h fun r h' => r = .bool true := by
  obtain ⟨av, cv, hv, -⟩ := hx.sl
  obtain ⟨au, cu, hu, -⟩ := hy.sl
  refine ACalls.of_fit (by rw [hv, hu]; simp) fun f => c_deduplaw13_PackForks (by rw [hv, hu]; simp) ?_
  simp only [s_deduplaw13_PackForks]
  refine callA_of lives_spec fun v1 h1 ⟨e, s1⟩ f1 => ?_
  subst e
  simp only [lenSl_slice, lenStr_string, str_size, fpureA_some, fnilA_ptr, faddA_ptr, addr_add, Nat.zero_add, Nat.add_zero, fpureQ_k, fpureQ_nilA, fpureQ_addA, fpureQ_pureA, fpureQ_guardA, fpureQ_idxSlA, fpureQ_pickA, freadQ_loadA, freadQ_loadNA, freadQ_b2sA, freadQ_guardA, freadQ_slSlA, freadQ_k, fendA, fallA_one, fstillA_nil, fguardA_tt, fguardA_ff, fguardA_tf, fguardA_ft, fguardA_undef, fpickA_true, fpickA_false, fcondA_true, fcondA_false, binA_add, binA_sub, binA_mul, binA_eql, binA_neq, binA_lss, binA_leq, binA_gtr, binA_geq, unA_not, Bool.not_true, Bool.not_false, convA_int, extA_tuple, List.getElem?_toArray, List.getElem?_cons_zero, List.getElem?_cons_succ]
  refine callA_of (pNew_spec n s 7 hn (by omega)) fun v2 h2 ⟨gt, gf⟩ f2 => ?_
  cases hj : pfits n s with
  | false =>
    obtain ⟨e, e2⟩ := gf hj
    subst e e2
    simp only [lenSl_slice, lenStr_string, str_size, fpureA_some, fnilA_ptr, faddA_ptr, addr_add, Nat.zero_add, Nat.add_zero, fpureQ_k, fpureQ_nilA, fpureQ_addA, fpureQ_pureA, fpureQ_guardA, fpureQ_idxSlA, fpureQ_pickA, freadQ_loadA, freadQ_loadNA, freadQ_b2sA, freadQ_guardA, freadQ_slSlA, freadQ_k, fendA, fallA_one, fstillA_nil, fguardA_tt, fguardA_ff, fguardA_tf, fguardA_ft, fguardA_undef, fpickA_true, fpickA_false, fcondA_true, fcondA_false, binA_add, binA_sub, binA_mul, binA_eql, binA_neq, binA_lss, binA_leq, binA_gtr, binA_geq, unA_not, Bool.not_true, Bool.not_false, convA_int, extA_tuple, List.getElem?_toArray, List.getElem?_cons_zero, List.getElem?_cons_succ]
    refine callA_of (xNew_spec n s 7 hn) fun v3 h3 ⟨gt3, gf3⟩ f3 => ?_
    obtain ⟨e, e3⟩ := gf3 hj
    subst e e3
    simp only [lenSl_slice, lenStr_string, str_size, fpureA_some, fnilA_ptr, faddA_ptr, addr_add, Nat.zero_add, Nat.add_zero, fpureQ_k, fpureQ_nilA, fpureQ_addA, fpureQ_pureA, fpureQ_guardA, fpureQ_idxSlA, fpureQ_pickA, freadQ_loadA, freadQ_loadNA, freadQ_b2sA, freadQ_guardA, freadQ_slSlA, freadQ_k, fendA, fallA_one, fstillA_nil, fguardA_tt, fguardA_ff, fguardA_tf, fguardA_ft, fguardA_undef, fpickA_true, fpickA_false, fcondA_true, fcondA_false, binA_add, binA_sub, binA_mul, binA_eql, binA_neq, binA_lss, binA_leq, binA_gtr, binA_geq, unA_not, Bool.not_true, Bool.not_false, convA_int, extA_tuple, List.getElem?_toArray, List.getElem?_cons_zero, List.getElem?_cons_succ, bne_self_eq_false, binPtrA_eql0, binBoolA_neq, beq_self_eq_true, retA_iff, oneOf_one]
    simp
  | true =>
    obtain ⟨p, Sp, e, w2, s2⟩ := gt hj
    subst e
    simp only [lenSl_slice, lenStr_string, str_size, fpureA_some, fnilA_ptr, faddA_ptr, addr_add, Nat.zero_add, Nat.add_zero, fpureQ_k, fpureQ_nilA, fpureQ_addA, fpureQ_pureA, fpureQ_guardA, fpureQ_idxSlA, fpureQ_pickA, freadQ_loadA, freadQ_loadNA, freadQ_b2sA, freadQ_guardA, freadQ_slSlA, freadQ_k, fendA, fallA_one, fstillA_nil, fguardA_tt, fguardA_ff, fguardA_tf, fguardA_ft, fguardA_undef, fpickA_true, fpickA_false, fcondA_true, fcondA_false, binA_add, binA_sub, binA_mul, binA_eql, binA_neq, binA_lss, binA_leq, binA_gtr, binA_geq, unA_not, Bool.not_true, Bool.not_false, convA_int, extA_tuple, List.getElem?_toArray, List.getElem?_cons_zero, List.getElem?_cons_succ]
    refine callA_of (xNew_spec n s 7 hn) fun v3 h3 ⟨gt3, gf3⟩ f3 => ?_
    obtain ⟨x, Sx, e, w3, s3⟩ := gt3 hj
    subst e
    have o0 := PS.Ok.new (id := 7) hj (by omega)
    have B0 : Both w0 h3 p x (PS.new n s 7) Sp Sx [] := ⟨w2.frame s3 (by simp), w3, fun c hc he => by
      have := (w2.lts c hc).2
      rcases (s3.own c he).2 with g | g
      · simp at g
      · omega, by simp⟩
    simp only [lenSl_slice, lenStr_string, str_size, fpureA_some, fnilA_ptr, faddA_ptr, addr_add, Nat.zero_add, Nat.add_zero, fpureQ_k, fpureQ_nilA, fpureQ_addA, fpureQ_pureA, fpureQ_guardA, fpureQ_idxSlA, fpureQ_pickA, freadQ_loadA, freadQ_loadNA, freadQ_b2sA, freadQ_guardA, freadQ_slSlA, freadQ_k, fendA, fallA_one, fstillA_nil, fguardA_tt, fguardA_ff, fguardA_tf, fguardA_ft, fguardA_undef, fpickA_true, fpickA_false, fcondA_true, fcondA_false, binA_add, binA_sub, binA_mul, binA_eql, binA_neq, binA_lss, binA_leq, binA_gtr, binA_geq, unA_not, Bool.not_true, Bool.not_false, convA_int, extA_tuple, List.getElem?_toArray, List.getElem?_cons_zero, List.getElem?_cons_succ, bne_self_eq_false, binPtr_ptr, binBoolA_neq, beq_self_eq_true]
    refine ⟨os.length + 1, pforks_loop1 hx hok hos os [] h3 _ _ _ _ rfl f3 B0 o0 fun h4 st S4 X4 R4 f4 w4 o4 => ?_⟩
    refine callA_of (pFork_spec w4.pk o4) fun v5 h5 ⟨q, S5, e, w5, d5, s5⟩ f5 => ?_
    subst e
    have b5 := w4.frame s5 (by simp) (by simp) (by simp)
    refine callA_of (xFork_spec b5.rf o4) fun v6 h6 ⟨y, S6, R6, e, w6, d6, r6, s6⟩ f6 => ?_
    subst e
    have b6 := b5.frame s6 (by simp) (by simp) (by simp)
    have h45 := s5.next
    have l5 : ∀ c, c ∈ S5 → c < h5.next := fun c hc => (w5.lts c hc).2
    have l4 : ∀ c, c ∈ S4 ++ X4 → c < h4.next := w4.lts
    have lr : ∀ c, c ∈ R4 → c < h4.next := fun c hc => (w4.rf.ltr c hc).2
    have B6 : Both w0 h6 q y st S5 S6 R6 := ⟨w5.frame s6 (by simp), w6, fun c hc he => by have := d6 c he; have := l5 c hc; omega, fun c hc he => by
      rcases r6 c he with g | g
      · have := d5 c hc; have := lr c g; omega
      · have := l5 c hc; omega⟩
    have T6 : Two w0 h6 p x st S4 X4 R4 q y st S5 S6 R6 := ⟨b6, B6, fun c hc he => by
      have := l4 c he
      rcases List.mem_append.1 hc with e | e
      · have := d5 c e; omega
      · rcases List.mem_append.1 e with e | e
        · have := d6 c e; omega
        · rcases r6 c e with g | g
          · rcases List.mem_append.1 he with k | k
            · exact w4.d2 c k g
            · exact w4.rf.disj c k g
          · omega, fun c hc he => by
      have h4c : c < h4.next := by
        rcases List.mem_append.1 hc with e | e
        · exact l4 c (by simp [e])
        · rcases List.mem_append.1 e with e | e
          · exact l4 c (by simp [e])
          · exact lr c e
      rcases List.mem_append.1 he with e | e
      · have := d5 c e; omega
      · have := d6 c e; omega⟩
    simp only [lenSl_slice, lenStr_string, str_size, fpureA_some, fnilA_ptr, faddA_ptr, addr_add, Nat.zero_add, Nat.add_zero, fpureQ_k, fpureQ_nilA, fpureQ_addA, fpureQ_pureA, fpureQ_guardA, fpureQ_idxSlA, fpureQ_pickA, freadQ_loadA, freadQ_loadNA, freadQ_b2sA, freadQ_guardA, freadQ_slSlA, freadQ_k, fendA, fallA_one, fstillA_nil, fguardA_tt, fguardA_ff, fguardA_tf, fguardA_ft, fguardA_undef, fpickA_true, fpickA_false, fcondA_true, fcondA_false, binA_add, binA_sub, binA_mul, binA_eql, binA_neq, binA_lss, binA_leq, binA_gtr, binA_geq, unA_not, Bool.not_true, Bool.not_false, convA_int, extA_tuple, List.getElem?_toArray, List.getElem?_cons_zero, List.getElem?_cons_succ, binPtr_ptr]
    refine ⟨ms.length + 1, pforks_loop2 hy hok2 hms ms [] h6 st st _ _ _ _ _ _ rfl f6 T6 o4 o4 fun h7 sa sb A1 A2 A3 B1 B2 B3 f7 w7 oA oB => ?_⟩
    refine both_image w7.a oA fun h8 f8 s8 => ?_
    have w8 := w7.frame s8
    simp only [lenSl_slice, lenStr_string, str_size, fpureA_some, fnilA_ptr, faddA_ptr, addr_add, Nat.zero_add, Nat.add_zero, fpureQ_k, fpureQ_nilA, fpureQ_addA, fpureQ_pureA, fpureQ_guardA, fpureQ_idxSlA, fpureQ_pickA, freadQ_loadA, freadQ_loadNA, freadQ_b2sA, freadQ_guardA, freadQ_slSlA, freadQ_k, fendA, fallA_one, fstillA_nil, fguardA_tt, fguardA_ff, fguardA_tf, fguardA_ft, fguardA_undef, fpickA_true, fpickA_false, fcondA_true, fcondA_false, binA_add, binA_sub, binA_mul, binA_eql, binA_neq, binA_lss, binA_leq, binA_gtr, binA_geq, unA_not, Bool.not_true, Bool.not_false, convA_int, extA_tuple, List.getElem?_toArray, List.getElem?_cons_zero, List.getElem?_cons_succ]
    refine both_image w8.b oB fun h9 f9 s9 => ?_
    have w9 := w8.frame s9
    simp only [lenSl_slice, lenStr_string, str_size, fpureA_some, fnilA_ptr, faddA_ptr, addr_add, Nat.zero_add, Nat.add_zero, fpureQ_k, fpureQ_nilA, fpureQ_addA, fpureQ_pureA, fpureQ_guardA, fpureQ_idxSlA, fpureQ_pickA, freadQ_loadA, freadQ_loadNA, freadQ_b2sA, freadQ_guardA, freadQ_slSlA, freadQ_k, fendA, fallA_one, fstillA_nil, fguardA_tt, fguardA_ff, fguardA_tf, fguardA_ft, fguardA_undef, fpickA_true, fpickA_false, fcondA_true, fcondA_false, binA_add, binA_sub, binA_mul, binA_eql, binA_neq, binA_lss, binA_leq, binA_gtr, binA_geq, unA_not, Bool.not_true, Bool.not_false, convA_int, extA_tuple, List.getElem?_toArray, List.getElem?_cons_zero, List.getElem?_cons_succ]
    refine both_take w9.a oA fun h10 f10 a10 => ?_
    obtain ⟨S1, S2, S3, w10⟩ := w9.left a10
    simp only [lenSl_slice, lenStr_string, str_size, fpureA_some, fnilA_ptr, faddA_ptr, addr_add, Nat.zero_add, Nat.add_zero, fpureQ_k, fpureQ_nilA, fpureQ_addA, fpureQ_pureA, fpureQ_guardA, fpureQ_idxSlA, fpureQ_pickA, freadQ_loadA, freadQ_loadNA, freadQ_b2sA, freadQ_guardA, freadQ_slSlA, freadQ_k, fendA, fallA_one, fstillA_nil, fguardA_tt, fguardA_ff, fguardA_tf, fguardA_ft, fguardA_undef, fpickA_true, fpickA_false, fcondA_true, fcondA_false, binA_add, binA_sub, binA_mul, binA_eql, binA_neq, binA_lss, binA_leq, binA_gtr, binA_geq, unA_not, Bool.not_true, Bool.not_false, convA_int, extA_tuple, List.getElem?_toArray, List.getElem?_cons_zero, List.getElem?_cons_succ]
    refine both_take w10.b oB fun h11 f11 a11 => ?_
    simp
end
end Go.Proofs.Ytfhamcobfpmgbaa.Ah
