/- JournalForks: the walk. -/
import Derived.Test.YtiakadkooclelaaJl
set_option linter.unusedVariables false
set_option linter.unusedSimpArgs false
namespace Go.Proofs.Ytiakadkooclelaa.Ah
open Go

structure JOp where
  kind : Int
  s : List UInt8
def JOp.e (o : JOp) : List Value := [.int .i64 o.kind, .string (str o.s)]
def dJOp : Dec JOp := ⟨JOp.e, fun o => True, fun o => o.s.length + 1⟩
/-- A writer of the program and one of the document's, that hold the same. -/
def Pair (w0 : World) (h : Hp) (p q : Nat) (st : JS) (S : List Nat) : Prop := ∃ S1 T1, Jw w0 h p st S1 ∧ Jw w0 h q st T1 ∧ (∀ b, b ∈ T1 → b ∉ S1) ∧ S = S1 ++ T1
section
variable {w0 : World} {h h' : Hp} {p q : Nat} {st : JS} {S : List Nat}
theorem Pair.lt (w : Pair w0 h p q st S) : ∀ b, b ∈ S → w0.heap.size ≤ b ∧ b < h.next := by
  obtain ⟨S1, T1, a, b, d, rfl⟩ := w
  intro i hi
  rcases List.mem_append.1 hi with e | e
  · exact a.lt i e
  · exact b.lt i e
theorem Pair.frame (w : Pair w0 h p q st S) {T T' : List Nat} (s : Step h h' T T') (hd : ∀ b, b ∈ S → b ∉ T) : Pair w0 h' p q st S := by
  obtain ⟨S1, T1, a, b, d, rfl⟩ := w
  exact ⟨S1, T1, a.frame s fun b hb => hd b (by simp [hb]), b.frame s fun b hb => hd b (by simp [hb]), d, rfl⟩
theorem Pair.refl (w : Pair w0 h p q st S) : Step h h S S := .refl _ _ fun b hb => (w.lt b hb).2
/-- Something is done to the one, then to the other. -/
theorem Pair.steps {S1 T1 S2 T2 : List Nat} {h2 : Hp} {st' : JS} (d : ∀ b, b ∈ T1 → b ∉ S1) (a : ∀ b, b ∈ S1 → b < h.next) (b : ∀ b, b ∈ T1 → b < h.next) (s1 : Step h h' S1 S2) (w1 : Jw w0 h' p st' S2) (s2 : Step h' h2 T1 T2) (w2 : Jw w0 h2 q st' T2) : Pair w0 h2 p q st' (S2 ++ T2) ∧ Step h h2 (S1 ++ T1) (S2 ++ T2) := by
  have d1 : ∀ b, b ∈ T1 → b ∉ S2 := apart_step s1 d b
  have d2 : ∀ b, b ∈ S2 → b ∉ T2 := apart_step s2 (fun b hb he => d1 b he hb) (fun b hb => (w1.lt b hb).2)
  refine ⟨⟨S2, T2, w1.frame s2 fun b hb he => d1 b he hb, w2, fun b hb he => d2 b he hb, rfl⟩, ?_⟩
  refine (s1.wide (T := S1 ++ T1) (T' := S2 ++ T1) (fun b hb => by simp [hb]) (fun c hc => ?_)).trans (s2.wide (T := S2 ++ T1) (T' := S2 ++ T2) (fun b hb => by simp [hb]) (fun c hc => ?_))
  · rcases List.mem_append.1 hc with e | e
    · exact .inl e
    · exact .inr ⟨by simp [e], b c e⟩
  · rcases List.mem_append.1 hc with e | e
    · exact .inr ⟨by simp [e], (w1.lt c e).2⟩
    · exact .inl e
theorem pair_append {K : Value → Value → Hp → Prop} {G : List (Hp → Prop)} {l : List UInt8} (w : Pair w0 h p q st S) (o : st.Ok) (hl : l.length ≤ 1000000000) (hG : ∀ h1, Fit w0 h1 → allA G h1)
    (hK : ∀ h' S', Fit w0 h' → Pair w0 h' p q (st.append l).2 S' → Step h h' S S' → K (.int .i64 (st.append l).1) (.int .i64 (st.append l).1) h') :
    callA prog w0 n_journal_Writer_Append [ptr p, .string (str l)] (fun v => stillA G (callA prog w0 n_dedupref07_Writer_Append [ptr q, .string (str l)] fun u => K v u)) h := by
  obtain ⟨S1, T1, a, b, d, rfl⟩ := w
  refine callA_of (Append_spec a o l hl) fun v h1 ⟨e, S2, w1, s1⟩ f1 => ?_
  subst e
  refine ⟨hG h1 f1, ?_⟩
  refine callA_of (xAppend_spec (b.frame s1 d) o l hl) fun v h2 ⟨e, T2, w2, s2⟩ f2 => ?_
  subst e
  obtain ⟨P, s⟩ := Pair.steps d (fun b hb => (a.lt b hb).2) (fun c hc => (b.lt c hc).2) s1 w1 s2 w2
  exact hK h2 _ f2 P s
theorem pair_take {K : Value → Hp → Prop} (w : Pair w0 h p q st S) (o : st.Ok) (hK : ∀ h', Fit w0 h' → Pair w0 h' p q st.take S → Step h h' S S → K (.bool true) h') :
    callA prog w0 n_journal_Writer_Take [ptr p] (fun v => callA prog w0 n_dedupref07_Writer_Take [ptr q] fun u => callA prog w0 n_deduplaw07_sameSectors [v, u] K) h := by
  obtain ⟨S1, T1, a, b, d, rfl⟩ := w
  refine callA_of (Take_spec a o) fun v h1 ⟨SO, w1, v1, d1, s1⟩ f1 => ?_
  have bf := b.frame s1 d
  refine callA_of (xTake_spec bf o) fun u h2 ⟨TO, w2, v2, d2, s2⟩ f2 => ?_
  have hT1 : ∀ c, c ∈ SO → c ∉ T1 := fun c hc he => by have := d1 c hc; have := (b.lt c he).2; omega
  have v1f := v1.frame s2 hT1
  refine callA_of (sameSectors_eq v1f v2 (by have := o.secs_len; omega) (fun r hr => by have := o.secs r hr; have := o.size; omega)) fun v h3 ⟨e, e3⟩ f3 => ?_
  subst e e3
  obtain ⟨P, s⟩ := Pair.steps d (fun b hb => (a.lt b hb).2) (fun c hc => (b.lt c hc).2) (s1.less (T := S1) (fun b hb => by simp [hb])) w1 (s2.less (T := T1) (fun b hb => by simp [hb])) w2
  exact hK h3 f3 P s
theorem pair_left {K : Value → Value → Hp → Prop} (w : Pair w0 h p q st S) (o : st.Ok) (hK : Fit w0 h → K (.int .i64 st.left) (.int .i64 st.left) h) :
    callA prog w0 n_journal_Writer_Left [ptr p] (fun v => callA prog w0 n_dedupref07_Writer_Left [ptr q] fun u => K v u) h := by
  obtain ⟨S1, T1, a, b, d, rfl⟩ := w
  refine callA_of (Left_spec a o) fun v h1 ⟨e, e1⟩ f1 => ?_
  subst e e1
  refine callA_of (xLeft_spec b o) fun v h2 ⟨e, e1⟩ f2 => ?_
  subst e e1
  exact hK f2
theorem jop_get {os pre post : List JOp} {o : JOp} (he : pre ++ o :: post = os) (j : Nat) (hj : j < 2) : (os.flatMap JOp.e)[pre.length * 2 + j]? = o.e[j]? :=
  flat_get (e := JOp.e) (s := 2) (fun _ => rfl) (by rw [← he]; simp) hj

theorem forks_loop1 {k0 kr : Value → Value → Value → Value → Hp → Prop} {v x4 x10 : Value} {os : List JOp} (hx : ExtSl w0 2 v os.length (os.flatMap JOp.e)) (hok : ∀ o, o ∈ os → o.s.length ≤ 1000000000) (hos : os.length ≤ 1000000000) : ∀ (post pre : List JOp) (h : Hp) (st : JS) (S : List Nat), pre ++ post = os → Fit w0 h → Pair w0 h p q st S → st.Ok →
    (∀ h' st' S', Fit w0 h' → Pair w0 h' p q st' S' → st'.Ok → k0 x4 x10 (ptr p) (ptr q) h') →
    deduplaw07_JournalForks_L1 prog w0 k0 kr (post.length + 1) v x4 x10 (ptr p) (ptr q) (.int .i64 (pre.length : Int)) h := by
  obtain ⟨a, c, hv, hn, hc⟩ := hx.sl
  intro post
  induction post with
  | nil =>
    intro pre h st S he f w o hk
    have hpre : pre = os := by simpa using he
    rw [deduplaw07_JournalForks_L1, hv]
    simp only [deduplaw07_JournalForks_B1, lenSl_slice, lenStr_string, str_size, fpureA_some, fnilA_ptr, faddA_ptr, addr_add, Nat.zero_add, Nat.add_zero, fpureQ_k, fpureQ_nilA, fpureQ_addA, fpureQ_pureA, fpureQ_guardA, fpureQ_idxSlA, fpureQ_pickA, freadQ_loadA, freadQ_loadNA, freadQ_b2sA, freadQ_guardA, freadQ_slSlA, freadQ_k, fendA, fallA_one, fstillA_nil, fguardA_tt, fguardA_ff, fguardA_tf, fguardA_ft, fguardA_undef, fpickA_true, fpickA_false, fcondA_true, fcondA_false, binA_add, binA_sub, binA_mul, binA_eql, binA_neq, binA_lss, binA_leq, binA_gtr, binA_geq, unA_not, Bool.not_true, Bool.not_false, convA_int, extA_tuple, List.getElem?_toArray, List.getElem?_cons_zero, List.getElem?_cons_succ, hpre, Int.lt_irrefl, decide_false]
    exact hk h st S f w o
  | cons o1 post ih =>
    intro pre h st S he f w o hk
    have hlen : pre.length + (post.length + 1) = os.length := by rw [← he]; simp
    have ho : o1 ∈ os := by rw [← he]; simp
    have c1 : decide ((pre.length : Int) < (os.length : Int)) = true := decide_eq_true (by omega)
    have e5 : IntKind.i64.wrap ((pre.length : Int) + 1) = ((pre.length + 1 : Nat) : Int) := by rw [IntWalk.i64_in _ (by omega)]; simp
    have hyl := flat_len (e := JOp.e) (s := 2) (fun _ => rfl) os
    rw [List.length_cons, deduplaw07_JournalForks_L1]
    rw [hv] at hx ih ⊢
    simp only [deduplaw07_JournalForks_B1, lenSl_slice, lenStr_string, str_size, fpureA_some, fnilA_ptr, faddA_ptr, addr_add, Nat.zero_add, Nat.add_zero, fpureQ_k, fpureQ_nilA, fpureQ_addA, fpureQ_pureA, fpureQ_guardA, fpureQ_idxSlA, fpureQ_pickA, freadQ_loadA, freadQ_loadNA, freadQ_b2sA, freadQ_guardA, freadQ_slSlA, freadQ_k, fendA, fallA_one, fstillA_nil, fguardA_tt, fguardA_ff, fguardA_tf, fguardA_ft, fguardA_undef, fpickA_true, fpickA_false, fcondA_true, fcondA_false, binA_add, binA_sub, binA_mul, binA_eql, binA_neq, binA_lss, binA_leq, binA_gtr, binA_geq, unA_not, Bool.not_true, Bool.not_false, convA_int, extA_tuple, List.getElem?_toArray, List.getElem?_cons_zero, List.getElem?_cons_succ, c1]
    refine ext_idx hx f (by omega) (by omega) hyl fun b o0 hb ld => ?_
    simp only [lenSl_slice, lenStr_string, str_size, fpureA_some, fnilA_ptr, faddA_ptr, addr_add, Nat.zero_add, Nat.add_zero, fpureQ_k, fpureQ_nilA, fpureQ_addA, fpureQ_pureA, fpureQ_guardA, fpureQ_idxSlA, fpureQ_pickA, freadQ_loadA, freadQ_loadNA, freadQ_b2sA, freadQ_guardA, freadQ_slSlA, freadQ_k, fendA, fallA_one, fstillA_nil, fguardA_tt, fguardA_ff, fguardA_tf, fguardA_ft, fguardA_undef, fpickA_true, fpickA_false, fcondA_true, fcondA_false, binA_add, binA_sub, binA_mul, binA_eql, binA_neq, binA_lss, binA_leq, binA_gtr, binA_geq, unA_not, Bool.not_true, Bool.not_false, convA_int, extA_tuple, List.getElem?_toArray, List.getElem?_cons_zero, List.getElem?_cons_succ]
    refine ld h 1 (.string (str o1.s)) _ f (by omega) (by rw [jop_get he 1 (by omega)]; rfl) ?_
    refine ext_idx hx f (by omega) (by omega) hyl fun b2 o2 hb2 ld2 => ?_
    simp only [lenSl_slice, lenStr_string, str_size, fpureA_some, fnilA_ptr, faddA_ptr, addr_add, Nat.zero_add, Nat.add_zero, fpureQ_k, fpureQ_nilA, fpureQ_addA, fpureQ_pureA, fpureQ_guardA, fpureQ_idxSlA, fpureQ_pickA, freadQ_loadA, freadQ_loadNA, freadQ_b2sA, freadQ_guardA, freadQ_slSlA, freadQ_k, fendA, fallA_one, fstillA_nil, fguardA_tt, fguardA_ff, fguardA_tf, fguardA_ft, fguardA_undef, fpickA_true, fpickA_false, fcondA_true, fcondA_false, binA_add, binA_sub, binA_mul, binA_eql, binA_neq, binA_lss, binA_leq, binA_gtr, binA_geq, unA_not, Bool.not_true, Bool.not_false, convA_int, extA_tuple, List.getElem?_toArray, List.getElem?_cons_zero, List.getElem?_cons_succ]
    refine ld2 h 1 (.string (str o1.s)) _ f (by omega) (by rw [jop_get he 1 (by omega)]; rfl) ?_
    refine pair_append (K := fun v61 v68 => pureA (binA .neq v61 v68) fun v69 => condA v69 (kr x4 (.bool false) (ptr p) (ptr q)) (deduplaw07_JournalForks_L1 prog w0 k0 kr (post.length + 1) (.slice a os.length c) x4 x10 (ptr p) (ptr q) (.int .i64 (IntKind.i64.wrap ((pre.length : Int) + 1))))) w o (hok o1 ho) (fun h1 f1 => ?_) (fun h' S' f' w' s' => ?_)
    · simp only [allA_one, sameQ_loadA]
      exact ld2 h1 1 (.string (str o1.s)) _ f1 (by omega) (by rw [jop_get he 1 (by omega)]; rfl) rfl
    · simp only [lenSl_slice, lenStr_string, str_size, fpureA_some, fnilA_ptr, faddA_ptr, addr_add, Nat.zero_add, Nat.add_zero, fpureQ_k, fpureQ_nilA, fpureQ_addA, fpureQ_pureA, fpureQ_guardA, fpureQ_idxSlA, fpureQ_pickA, freadQ_loadA, freadQ_loadNA, freadQ_b2sA, freadQ_guardA, freadQ_slSlA, freadQ_k, fendA, fallA_one, fstillA_nil, fguardA_tt, fguardA_ff, fguardA_tf, fguardA_ft, fguardA_undef, fpickA_true, fpickA_false, fcondA_true, fcondA_false, binA_add, binA_sub, binA_mul, binA_eql, binA_neq, binA_lss, binA_leq, binA_gtr, binA_geq, unA_not, Bool.not_true, Bool.not_false, convA_int, extA_tuple, List.getElem?_toArray, List.getElem?_cons_zero, List.getElem?_cons_succ, bne_self_eq_false, e5]
      have := ih (pre ++ [o1]) h' (st.append o1.s).2 S' (by simpa using he) f' w' (o.append _) hk
      simpa using this
theorem forks_loop2 {k2 kr : Value → Value → Value → Value → Value → Hp → Prop} {p2 q2 : Nat} {v x10 : Value} {os : List JOp} (hx : ExtSl w0 2 v os.length (os.flatMap JOp.e)) (hok : ∀ o, o ∈ os → o.s.length ≤ 1000000000) (hos : os.length ≤ 1000000000) : ∀ (post pre : List JOp) (h : Hp) (st st2 : JS) (S S2 : List Nat), pre ++ post = os → Fit w0 h → Pair w0 h p q st S → Pair w0 h p2 q2 st2 S2 → (∀ b, b ∈ S2 → b ∉ S) → st.Ok → st2.Ok →
    (∀ h' st st2 S S2, Fit w0 h' → Pair w0 h' p q st S → Pair w0 h' p2 q2 st2 S2 → (∀ b, b ∈ S2 → b ∉ S) → st.Ok → st2.Ok → k2 x10 (ptr p) (ptr q) (ptr p2) (ptr q2) h') →
    deduplaw07_JournalForks_L2 prog w0 k2 kr (post.length + 1) v x10 (ptr p) (ptr q) (ptr p2) (ptr q2) (.int .i64 (pre.length : Int)) h := by
  obtain ⟨a, c, hv, hn, hc⟩ := hx.sl
  intro post
  induction post with
  | nil =>
    intro pre h st st2 S S2 he f w w2 d o o2 hk
    have hpre : pre = os := by simpa using he
    rw [deduplaw07_JournalForks_L2, hv]
    simp only [deduplaw07_JournalForks_B2, lenSl_slice, lenStr_string, str_size, fpureA_some, fnilA_ptr, faddA_ptr, addr_add, Nat.zero_add, Nat.add_zero, fpureQ_k, fpureQ_nilA, fpureQ_addA, fpureQ_pureA, fpureQ_guardA, fpureQ_idxSlA, fpureQ_pickA, freadQ_loadA, freadQ_loadNA, freadQ_b2sA, freadQ_guardA, freadQ_slSlA, freadQ_k, fendA, fallA_one, fstillA_nil, fguardA_tt, fguardA_ff, fguardA_tf, fguardA_ft, fguardA_undef, fpickA_true, fpickA_false, fcondA_true, fcondA_false, binA_add, binA_sub, binA_mul, binA_eql, binA_neq, binA_lss, binA_leq, binA_gtr, binA_geq, unA_not, Bool.not_true, Bool.not_false, convA_int, extA_tuple, List.getElem?_toArray, List.getElem?_cons_zero, List.getElem?_cons_succ, hpre, Int.lt_irrefl, decide_false]
    exact hk h st st2 S S2 f w w2 d o o2
  | cons o1 post ih =>
    intro pre h st st2 S S2 he f w w2 d o o2 hk
    have hlen : pre.length + (post.length + 1) = os.length := by rw [← he]; simp
    have ho : o1 ∈ os := by rw [← he]; simp
    have c1 : decide ((pre.length : Int) < (os.length : Int)) = true := decide_eq_true (by omega)
    have e5 : IntKind.i64.wrap ((pre.length : Int) + 1) = ((pre.length + 1 : Nat) : Int) := by rw [IntWalk.i64_in _ (by omega)]; simp
    have hyl := flat_len (e := JOp.e) (s := 2) (fun _ => rfl) os
    have er : binA .rem (.int .i64 (pre.length : Int)) (.int .i64 2) = some (.int .i64 ((pre.length % 2 : Nat) : Int)) := rem2
    rw [List.length_cons, deduplaw07_JournalForks_L2]
    rw [hv] at hx ih ⊢
    simp only [deduplaw07_JournalForks_B2, lenSl_slice, lenStr_string, str_size, fpureA_some, fnilA_ptr, faddA_ptr, addr_add, Nat.zero_add, Nat.add_zero, fpureQ_k, fpureQ_nilA, fpureQ_addA, fpureQ_pureA, fpureQ_guardA, fpureQ_idxSlA, fpureQ_pickA, freadQ_loadA, freadQ_loadNA, freadQ_b2sA, freadQ_guardA, freadQ_slSlA, freadQ_k, fendA, fallA_one, fstillA_nil, fguardA_tt, fguardA_ff, fguardA_tf, fguardA_ft, fguardA_undef, fpickA_true, fpickA_false, fcondA_true, fcondA_false, binA_add, binA_sub, binA_mul, binA_eql, binA_neq, binA_lss, binA_leq, binA_gtr, binA_geq, unA_not, Bool.not_true, Bool.not_false, convA_int, extA_tuple, List.getElem?_toArray, List.getElem?_cons_zero, List.getElem?_cons_succ, c1, er, e5]
    -- on, whatever was done
    have onA : ∀ h' st' S', Fit w0 h' → Pair w0 h' p q st' S' → st'.Ok → Step h h' S S' → deduplaw07_JournalForks_L2 prog w0 k2 kr (post.length + 1) (.slice a os.length c) x10 (ptr p) (ptr q) (ptr p2) (ptr q2) (.int .i64 ((pre.length + 1 : Nat) : Int)) h' := by
      intro h' st' S' f' w' o' s'
      have := ih (pre ++ [o1]) h' st' st2 S' S2 (by simpa using he) f' w' (w2.frame s' d) (apart_step s' d fun b hb => (w2.lt b hb).2) o' o2 hk
      simpa using this
    have onB : ∀ h' st' S', Fit w0 h' → Pair w0 h' p2 q2 st' S' → st'.Ok → Step h h' S2 S' → deduplaw07_JournalForks_L2 prog w0 k2 kr (post.length + 1) (.slice a os.length c) x10 (ptr p) (ptr q) (ptr p2) (ptr q2) (.int .i64 ((pre.length + 1 : Nat) : Int)) h' := by
      intro h' st' S' f' w' o' s'
      have d' := apart_step s' (fun b hb he => d b he hb) fun b hb => (w.lt b hb).2
      have := ih (pre ++ [o1]) h' st st' S S' (by simpa using he) f' (w.frame s' fun b hb he => d b he hb) w' (fun b hb he => d' b he hb) o o' hk
      simpa using this
    have app : ∀ {u1 u2 : Nat} {sa : JS} {SA : List Nat}, Pair w0 h u1 u2 sa SA → sa.Ok → (∀ h' st' S', Fit w0 h' → Pair w0 h' u1 u2 st' S' → st'.Ok → Step h h' SA S' → deduplaw07_JournalForks_L2 prog w0 k2 kr (post.length + 1) (.slice a os.length c) x10 (ptr p) (ptr q) (ptr p2) (ptr q2) (.int .i64 ((pre.length + 1 : Nat) : Int)) h') →
        idxSlA 2 (.slice a os.length c) (.int .i64 (pre.length : Int)) (fun v104 => addA v104 1 fun v105 => loadA w0 v105 fun v106 => idxSlA 2 (.slice a os.length c) (.int .i64 (pre.length : Int)) fun v111 => addA v111 1 fun v112 => loadA w0 v112 fun v113 =>
          callA prog w0 n_journal_Writer_Append [ptr u1, v106] fun v107 => stillA [(sameQ (loadA w0 v112) v113)] (callA prog w0 n_dedupref07_Writer_Append [ptr u2, v113] fun v114 => pureA (binA .neq v107 v114) fun v115 => condA v115 (kr (.bool false) (ptr p) (ptr q) (ptr p2) (ptr q2)) (deduplaw07_JournalForks_L2 prog w0 k2 kr (post.length + 1) (.slice a os.length c) x10 (ptr p) (ptr q) (ptr p2) (ptr q2) (.int .i64 ((pre.length + 1 : Nat) : Int))))) h := by
      intro u1 u2 sa SA wA oA on
      refine ext_idx hx f (by omega) (by omega) hyl fun b o0 hb ld => ?_
      simp only [lenSl_slice, lenStr_string, str_size, fpureA_some, fnilA_ptr, faddA_ptr, addr_add, Nat.zero_add, Nat.add_zero, fpureQ_k, fpureQ_nilA, fpureQ_addA, fpureQ_pureA, fpureQ_guardA, fpureQ_idxSlA, fpureQ_pickA, freadQ_loadA, freadQ_loadNA, freadQ_b2sA, freadQ_guardA, freadQ_slSlA, freadQ_k, fendA, fallA_one, fstillA_nil, fguardA_tt, fguardA_ff, fguardA_tf, fguardA_ft, fguardA_undef, fpickA_true, fpickA_false, fcondA_true, fcondA_false, binA_add, binA_sub, binA_mul, binA_eql, binA_neq, binA_lss, binA_leq, binA_gtr, binA_geq, unA_not, Bool.not_true, Bool.not_false, convA_int, extA_tuple, List.getElem?_toArray, List.getElem?_cons_zero, List.getElem?_cons_succ]
      refine ld h 1 (.string (str o1.s)) _ f (by omega) (by rw [jop_get he 1 (by omega)]; rfl) ?_
      refine ext_idx hx f (by omega) (by omega) hyl fun b2 o2 hb2 ld2 => ?_
      simp only [lenSl_slice, lenStr_string, str_size, fpureA_some, fnilA_ptr, faddA_ptr, addr_add, Nat.zero_add, Nat.add_zero, fpureQ_k, fpureQ_nilA, fpureQ_addA, fpureQ_pureA, fpureQ_guardA, fpureQ_idxSlA, fpureQ_pickA, freadQ_loadA, freadQ_loadNA, freadQ_b2sA, freadQ_guardA, freadQ_slSlA, freadQ_k, fendA, fallA_one, fstillA_nil, fguardA_tt, fguardA_ff, fguardA_tf, fguardA_ft, fguardA_undef, fpickA_true, fpickA_false, fcondA_true, fcondA_false, binA_add, binA_sub, binA_mul, binA_eql, binA_neq, binA_lss, binA_leq, binA_gtr, binA_geq, unA_not, Bool.not_true, Bool.not_false, convA_int, extA_tuple, List.getElem?_toArray, List.getElem?_cons_zero, List.getElem?_cons_succ]
      refine ld2 h 1 (.string (str o1.s)) _ f (by omega) (by rw [jop_get he 1 (by omega)]; rfl) ?_
      refine pair_append (K := fun v107 v114 => pureA (binA .neq v107 v114) fun v115 => condA v115 (kr (.bool false) (ptr p) (ptr q) (ptr p2) (ptr q2)) (deduplaw07_JournalForks_L2 prog w0 k2 kr (post.length + 1) (.slice a os.length c) x10 (ptr p) (ptr q) (ptr p2) (ptr q2) (.int .i64 ((pre.length + 1 : Nat) : Int)))) wA oA (hok o1 ho) (fun h1 f1 => ?_) (fun h' S' f' w' s' => ?_)
      · simp only [allA_one, sameQ_loadA]
        exact ld2 h1 1 (.string (str o1.s)) _ f1 (by omega) (by rw [jop_get he 1 (by omega)]; rfl) rfl
      · simp only [lenSl_slice, lenStr_string, str_size, fpureA_some, fnilA_ptr, faddA_ptr, addr_add, Nat.zero_add, Nat.add_zero, fpureQ_k, fpureQ_nilA, fpureQ_addA, fpureQ_pureA, fpureQ_guardA, fpureQ_idxSlA, fpureQ_pickA, freadQ_loadA, freadQ_loadNA, freadQ_b2sA, freadQ_guardA, freadQ_slSlA, freadQ_k, fendA, fallA_one, fstillA_nil, fguardA_tt, fguardA_ff, fguardA_tf, fguardA_ft, fguardA_undef, fpickA_true, fpickA_false, fcondA_true, fcondA_false, binA_add, binA_sub, binA_mul, binA_eql, binA_neq, binA_lss, binA_leq, binA_gtr, binA_geq, unA_not, Bool.not_true, Bool.not_false, convA_int, extA_tuple, List.getElem?_toArray, List.getElem?_cons_zero, List.getElem?_cons_succ, bne_self_eq_false]
        exact on h' _ S' f' w' (oA.append _) s'
    have tak : ∀ {u1 u2 : Nat} {sa : JS} {SA : List Nat}, Pair w0 h u1 u2 sa SA → sa.Ok → (∀ h' st' S', Fit w0 h' → Pair w0 h' u1 u2 st' S' → st'.Ok → Step h h' SA S' → deduplaw07_JournalForks_L2 prog w0 k2 kr (post.length + 1) (.slice a os.length c) x10 (ptr p) (ptr q) (ptr p2) (ptr q2) (.int .i64 ((pre.length + 1 : Nat) : Int)) h') →
        callA prog w0 n_journal_Writer_Take [ptr u1] (fun v96 => callA prog w0 n_dedupref07_Writer_Take [ptr u2] fun v98 => callA prog w0 n_deduplaw07_sameSectors [v96, v98] fun v99 => pureA (unA .not v99) fun v100 => condA v100 (kr (.bool false) (ptr p) (ptr q) (ptr p2) (ptr q2)) (deduplaw07_JournalForks_L2 prog w0 k2 kr (post.length + 1) (.slice a os.length c) x10 (ptr p) (ptr q) (ptr p2) (ptr q2) (.int .i64 ((pre.length + 1 : Nat) : Int)))) h := by
      intro u1 u2 sa SA wA oA on
      refine pair_take wA oA fun h' f' w' s' => ?_
      simp only [lenSl_slice, lenStr_string, str_size, fpureA_some, fnilA_ptr, faddA_ptr, addr_add, Nat.zero_add, Nat.add_zero, fpureQ_k, fpureQ_nilA, fpureQ_addA, fpureQ_pureA, fpureQ_guardA, fpureQ_idxSlA, fpureQ_pickA, freadQ_loadA, freadQ_loadNA, freadQ_b2sA, freadQ_guardA, freadQ_slSlA, freadQ_k, fendA, fallA_one, fstillA_nil, fguardA_tt, fguardA_ff, fguardA_tf, fguardA_ft, fguardA_undef, fpickA_true, fpickA_false, fcondA_true, fcondA_false, binA_add, binA_sub, binA_mul, binA_eql, binA_neq, binA_lss, binA_leq, binA_gtr, binA_geq, unA_not, Bool.not_true, Bool.not_false, convA_int, extA_tuple, List.getElem?_toArray, List.getElem?_cons_zero, List.getElem?_cons_succ]
      exact on h' _ SA f' w' oA.take s'
    have one : ∀ {u1 u2 : Nat} {sa : JS} {SA : List Nat}, Pair w0 h u1 u2 sa SA → sa.Ok → (∀ h' st' S', Fit w0 h' → Pair w0 h' u1 u2 st' S' → st'.Ok → Step h h' SA S' → deduplaw07_JournalForks_L2 prog w0 k2 kr (post.length + 1) (.slice a os.length c) x10 (ptr p) (ptr q) (ptr p2) (ptr q2) (.int .i64 ((pre.length + 1 : Nat) : Int)) h') →
        idxSlA 2 (.slice a os.length c) (.int .i64 (pre.length : Int)) (fun v91 => addA v91 0 fun v92 => loadA w0 v92 fun v93 => pureA (binA .eql v93 (.int .i64 3)) fun v94 => condA v94 (
          callA prog w0 n_journal_Writer_Take [ptr u1] fun v96 => callA prog w0 n_dedupref07_Writer_Take [ptr u2] fun v98 => callA prog w0 n_deduplaw07_sameSectors [v96, v98] fun v99 => pureA (unA .not v99) fun v100 => condA v100 (kr (.bool false) (ptr p) (ptr q) (ptr p2) (ptr q2)) (deduplaw07_JournalForks_L2 prog w0 k2 kr (post.length + 1) (.slice a os.length c) x10 (ptr p) (ptr q) (ptr p2) (ptr q2) (.int .i64 ((pre.length + 1 : Nat) : Int)))) (
          idxSlA 2 (.slice a os.length c) (.int .i64 (pre.length : Int)) fun v104 => addA v104 1 fun v105 => loadA w0 v105 fun v106 => idxSlA 2 (.slice a os.length c) (.int .i64 (pre.length : Int)) fun v111 => addA v111 1 fun v112 => loadA w0 v112 fun v113 =>
          callA prog w0 n_journal_Writer_Append [ptr u1, v106] fun v107 => stillA [(sameQ (loadA w0 v112) v113)] (callA prog w0 n_dedupref07_Writer_Append [ptr u2, v113] fun v114 => pureA (binA .neq v107 v114) fun v115 => condA v115 (kr (.bool false) (ptr p) (ptr q) (ptr p2) (ptr q2)) (deduplaw07_JournalForks_L2 prog w0 k2 kr (post.length + 1) (.slice a os.length c) x10 (ptr p) (ptr q) (ptr p2) (ptr q2) (.int .i64 ((pre.length + 1 : Nat) : Int)))))) h := by
      intro u1 u2 sa SA wA oA on
      refine ext_idx hx f (by omega) (by omega) hyl fun b o0 hb ld => ?_
      simp only [addA_ptr, addr_add]
      refine ld h 0 (.int .i64 o1.kind) _ f (by omega) (by rw [jop_get he 0 (by omega)]; rfl) ?_
      simp only [binA_eql, pureA_some, condA_bool]
      exact ⟨fun _ => tak wA oA on, fun _ => app wA oA on⟩
    by_cases hm : pre.length % 2 = 1
    · have c2 : (((pre.length % 2 : Nat) : Int) == 1) = true := by rw [hm]; rfl
      simp only [c2, fcondA_true]
      exact one w2 o2 onB
    · have c2 : (((pre.length % 2 : Nat) : Int) == 1) = false := by
        have : pre.length % 2 = 0 := by omega
        rw [this]; rfl
      simp only [c2, fcondA_false]
      exact one w o onA
theorem JournalForks_spec (n s : Int) (g : Nat) (hn : -9223372036854775808 ≤ n ∧ n ≤ 9223372036854775807) (hg : g < 18446744073709551616) {v u : Value} {os ms : List JOp} (hx : ExtSl w0 2 v os.length (os.flatMap JOp.e)) (hy : ExtSl w0 2 u ms.length (ms.flatMap JOp.e)) (hok : ∀ o, o ∈ os → o.s.length ≤ 1000000000) (hok2 : ∀ o, o ∈ ms → o.s.length ≤ 1000000000) (hos : os.length ≤ 1000000000) (hms : ms.length ≤ 1000000000) :
    ACalls prog w0 n_deduplaw07_JournalForks [.int .i64 n, .int .i64 s, .int .u64 g, v, u] h fun v h' => v = .bool true := by
  obtain ⟨av, cv, hv, -⟩ := hx.sl
  obtain ⟨au, cu, hu, -⟩ := hy.sl
  refine ACalls.of_fit (by rw [hv, hu]; simp) fun f => c_deduplaw07_JournalForks (by rw [hv, hu]; simp) ?_
  simp only [s_deduplaw07_JournalForks]
  refine callA_of lives_spec fun v1 h1 ⟨e, s1⟩ f1 => ?_
  subst e
  simp only [lenSl_slice, lenStr_string, str_size, fpureA_some, fnilA_ptr, faddA_ptr, addr_add, Nat.zero_add, Nat.add_zero, fpureQ_k, fpureQ_nilA, fpureQ_addA, fpureQ_pureA, fpureQ_guardA, fpureQ_idxSlA, fpureQ_pickA, freadQ_loadA, freadQ_loadNA, freadQ_b2sA, freadQ_guardA, freadQ_slSlA, freadQ_k, fendA, fallA_one, fstillA_nil, fguardA_tt, fguardA_ff, fguardA_tf, fguardA_ft, fguardA_undef, fpickA_true, fpickA_false, fcondA_true, fcondA_false, binA_add, binA_sub, binA_mul, binA_eql, binA_neq, binA_lss, binA_leq, binA_gtr, binA_geq, unA_not, Bool.not_true, Bool.not_false, convA_int, extA_tuple, List.getElem?_toArray, List.getElem?_cons_zero, List.getElem?_cons_succ]
  refine callA_of (JNew_spec n s g hn) fun v2 h2 ⟨gt, gf⟩ f2 => ?_
  cases hj : jok n s with
  | false =>
    obtain ⟨e, e2⟩ := gf hj
    subst e e2
    simp only [lenSl_slice, lenStr_string, str_size, fpureA_some, fnilA_ptr, faddA_ptr, addr_add, Nat.zero_add, Nat.add_zero, fpureQ_k, fpureQ_nilA, fpureQ_addA, fpureQ_pureA, fpureQ_guardA, fpureQ_idxSlA, fpureQ_pickA, freadQ_loadA, freadQ_loadNA, freadQ_b2sA, freadQ_guardA, freadQ_slSlA, freadQ_k, fendA, fallA_one, fstillA_nil, fguardA_tt, fguardA_ff, fguardA_tf, fguardA_ft, fguardA_undef, fpickA_true, fpickA_false, fcondA_true, fcondA_false, binA_add, binA_sub, binA_mul, binA_eql, binA_neq, binA_lss, binA_leq, binA_gtr, binA_geq, unA_not, Bool.not_true, Bool.not_false, convA_int, extA_tuple, List.getElem?_toArray, List.getElem?_cons_zero, List.getElem?_cons_succ]
    refine callA_of (xNew_spec n s g hn) fun v3 h3 ⟨gt3, gf3⟩ f3 => ?_
    obtain ⟨e, e3⟩ := gf3 hj
    subst e e3
    simp only [lenSl_slice, lenStr_string, str_size, fpureA_some, fnilA_ptr, faddA_ptr, addr_add, Nat.zero_add, Nat.add_zero, fpureQ_k, fpureQ_nilA, fpureQ_addA, fpureQ_pureA, fpureQ_guardA, fpureQ_idxSlA, fpureQ_pickA, freadQ_loadA, freadQ_loadNA, freadQ_b2sA, freadQ_guardA, freadQ_slSlA, freadQ_k, fendA, fallA_one, fstillA_nil, fguardA_tt, fguardA_ff, fguardA_tf, fguardA_ft, fguardA_undef, fpickA_true, fpickA_false, fcondA_true, fcondA_false, binA_add, binA_sub, binA_mul, binA_eql, binA_neq, binA_lss, binA_leq, binA_gtr, binA_geq, unA_not, Bool.not_true, Bool.not_false, convA_int, extA_tuple, List.getElem?_toArray, List.getElem?_cons_zero, List.getElem?_cons_succ, bne_self_eq_false, binPtrA_eql0, binBoolA_neq, beq_self_eq_true, retA_iff, oneOf_one]
    simp
  | true =>
    obtain ⟨e, w2, s2⟩ := gt hj
    subst e
    simp only [lenSl_slice, lenStr_string, str_size, fpureA_some, fnilA_ptr, faddA_ptr, addr_add, Nat.zero_add, Nat.add_zero, fpureQ_k, fpureQ_nilA, fpureQ_addA, fpureQ_pureA, fpureQ_guardA, fpureQ_idxSlA, fpureQ_pickA, freadQ_loadA, freadQ_loadNA, freadQ_b2sA, freadQ_guardA, freadQ_slSlA, freadQ_k, fendA, fallA_one, fstillA_nil, fguardA_tt, fguardA_ff, fguardA_tf, fguardA_ft, fguardA_undef, fpickA_true, fpickA_false, fcondA_true, fcondA_false, binA_add, binA_sub, binA_mul, binA_eql, binA_neq, binA_lss, binA_leq, binA_gtr, binA_geq, unA_not, Bool.not_true, Bool.not_false, convA_int, extA_tuple, List.getElem?_toArray, List.getElem?_cons_zero, List.getElem?_cons_succ]
    refine callA_of (xNew_spec n s g hn) fun v3 h3 ⟨gt3, gf3⟩ f3 => ?_
    obtain ⟨e, w3, s3⟩ := gt3 hj
    subst e
    have o0 : JS.Ok ⟨n.toNat, s.toNat, g, [], 0, 0⟩ := JS.Ok.new hj hg
    have hne : h1.next < h2.next := (w2.lt _ w2.mem).2
    have P0 : Pair w0 h3 h1.next h2.next ⟨n.toNat, s.toNat, g, [], 0, 0⟩ ([h1.next] ++ [h2.next]) := ⟨[h1.next], [h2.next], w2.frame s3 (by simp), w3, by simp; omega, rfl⟩
    simp only [lenSl_slice, lenStr_string, str_size, fpureA_some, fnilA_ptr, faddA_ptr, addr_add, Nat.zero_add, Nat.add_zero, fpureQ_k, fpureQ_nilA, fpureQ_addA, fpureQ_pureA, fpureQ_guardA, fpureQ_idxSlA, fpureQ_pickA, freadQ_loadA, freadQ_loadNA, freadQ_b2sA, freadQ_guardA, freadQ_slSlA, freadQ_k, fendA, fallA_one, fstillA_nil, fguardA_tt, fguardA_ff, fguardA_tf, fguardA_ft, fguardA_undef, fpickA_true, fpickA_false, fcondA_true, fcondA_false, binA_add, binA_sub, binA_mul, binA_eql, binA_neq, binA_lss, binA_leq, binA_gtr, binA_geq, unA_not, Bool.not_true, Bool.not_false, convA_int, extA_tuple, List.getElem?_toArray, List.getElem?_cons_zero, List.getElem?_cons_succ, bne_self_eq_false, binPtr_ptr, binBoolA_neq, beq_self_eq_true]
    refine ⟨os.length + 1, forks_loop1 hx hok hos os [] h3 _ _ rfl f3 P0 o0 fun h4 st S4 f4 w4 o4 => ?_⟩
    have w4' := w4
    obtain ⟨S41, T41, wa, wb, d4, rfl⟩ := w4
    refine callA_of (Fork_spec wa o4) fun v5 h5 ⟨p2, S5, e, w5, d5, s5⟩ f5 => ?_
    subst e
    have wb5 := wb.frame s5 (by simp)
    refine callA_of (xFork_spec wb5 o4) fun v6 h6 ⟨q2, S6, e, w6, d6, s6⟩ f6 => ?_
    subst e
    have P5 : Pair w0 h6 p2 q2 st (S5 ++ S6) := ⟨S5, S6, w5.frame s6 (by simp), w6, fun b hb he => by have := d6 b hb; have := (w5.lt b he).2; omega, rfl⟩
    have P4 : Pair w0 h6 h1.next h2.next st (S41 ++ T41) := (w4'.frame s5 (by simp)).frame s6 (by simp)
    have d56 : ∀ b, b ∈ S5 ++ S6 → b ∉ S41 ++ T41 := fun b hb he => by
      have h7 := (w4'.lt b he).2
      rcases List.mem_append.1 hb with e | e
      · have := d5 b e; omega
      · have := d6 b e; have := s5.next; omega
    simp only [lenSl_slice, lenStr_string, str_size, fpureA_some, fnilA_ptr, faddA_ptr, addr_add, Nat.zero_add, Nat.add_zero, fpureQ_k, fpureQ_nilA, fpureQ_addA, fpureQ_pureA, fpureQ_guardA, fpureQ_idxSlA, fpureQ_pickA, freadQ_loadA, freadQ_loadNA, freadQ_b2sA, freadQ_guardA, freadQ_slSlA, freadQ_k, fendA, fallA_one, fstillA_nil, fguardA_tt, fguardA_ff, fguardA_tf, fguardA_ft, fguardA_undef, fpickA_true, fpickA_false, fcondA_true, fcondA_false, binA_add, binA_sub, binA_mul, binA_eql, binA_neq, binA_lss, binA_leq, binA_gtr, binA_geq, unA_not, Bool.not_true, Bool.not_false, convA_int, extA_tuple, List.getElem?_toArray, List.getElem?_cons_zero, List.getElem?_cons_succ, binPtr_ptr]
    refine ⟨ms.length + 1, forks_loop2 hy hok2 hms ms [] h6 st st _ _ rfl f6 P4 P5 d56 o4 o4 fun h7 sa sb SA SB f7 wA wB dAB oA oB => ?_⟩
    refine pair_left (K := fun v117 v119 => _) wA oA fun _ => ?_
    simp only [lenSl_slice, lenStr_string, str_size, fpureA_some, fnilA_ptr, faddA_ptr, addr_add, Nat.zero_add, Nat.add_zero, fpureQ_k, fpureQ_nilA, fpureQ_addA, fpureQ_pureA, fpureQ_guardA, fpureQ_idxSlA, fpureQ_pickA, freadQ_loadA, freadQ_loadNA, freadQ_b2sA, freadQ_guardA, freadQ_slSlA, freadQ_k, fendA, fallA_one, fstillA_nil, fguardA_tt, fguardA_ff, fguardA_tf, fguardA_ft, fguardA_undef, fpickA_true, fpickA_false, fcondA_true, fcondA_false, binA_add, binA_sub, binA_mul, binA_eql, binA_neq, binA_lss, binA_leq, binA_gtr, binA_geq, unA_not, Bool.not_true, Bool.not_false, convA_int, extA_tuple, List.getElem?_toArray, List.getElem?_cons_zero, List.getElem?_cons_succ, beq_self_eq_true]
    refine pair_left (K := fun v123 v125 => _) wB oB fun _ => ?_
    simp only [lenSl_slice, lenStr_string, str_size, fpureA_some, fnilA_ptr, faddA_ptr, addr_add, Nat.zero_add, Nat.add_zero, fpureQ_k, fpureQ_nilA, fpureQ_addA, fpureQ_pureA, fpureQ_guardA, fpureQ_idxSlA, fpureQ_pickA, freadQ_loadA, freadQ_loadNA, freadQ_b2sA, freadQ_guardA, freadQ_slSlA, freadQ_k, fendA, fallA_one, fstillA_nil, fguardA_tt, fguardA_ff, fguardA_tf, fguardA_ft, fguardA_undef, fpickA_true, fpickA_false, fcondA_true, fcondA_false, binA_add, binA_sub, binA_mul, binA_eql, binA_neq, binA_lss, binA_leq, binA_gtr, binA_geq, unA_not, Bool.not_true, Bool.not_false, convA_int, extA_tuple, List.getElem?_toArray, List.getElem?_cons_zero, List.getElem?_cons_succ, beq_self_eq_true]
    refine pair_take wA oA fun h8 f8 w8 s8 => ?_
    simp only [lenSl_slice, lenStr_string, str_size, fpureA_some, fnilA_ptr, faddA_ptr, addr_add, Nat.zero_add, Nat.add_zero, fpureQ_k, fpureQ_nilA, fpureQ_addA, fpureQ_pureA, fpureQ_guardA, fpureQ_idxSlA, fpureQ_pickA, freadQ_loadA, freadQ_loadNA, freadQ_b2sA, freadQ_guardA, freadQ_slSlA, freadQ_k, fendA, fallA_one, fstillA_nil, fguardA_tt, fguardA_ff, fguardA_tf, fguardA_ft, fguardA_undef, fpickA_true, fpickA_false, fcondA_true, fcondA_false, binA_add, binA_sub, binA_mul, binA_eql, binA_neq, binA_lss, binA_leq, binA_gtr, binA_geq, unA_not, Bool.not_true, Bool.not_false, convA_int, extA_tuple, List.getElem?_toArray, List.getElem?_cons_zero, List.getElem?_cons_succ]
    refine pair_take (wB.frame s8 dAB) oB fun h9 f9 w9 s9 => ?_
    simp
end
end Go.Proofs.Ytiakadkooclelaa.Ah
