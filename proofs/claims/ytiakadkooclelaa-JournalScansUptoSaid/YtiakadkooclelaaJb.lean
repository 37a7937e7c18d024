/- journal.Writer: Append, whole. -/
import Derived.Test.YtiakadkooclelaaJa
set_option linter.unusedVariables false
set_option linter.unusedSimpArgs false
namespace Go.Proofs.Ytiakadkooclelaa.Ah
open Go

section
variable {w0 : World} {q p : Nat} {k1 : Value → Hp → Prop}
theorem append_loop : ∀ (n : Nat) (rem : List UInt8) (fuel : Nat) (st : JS) (h : Hp) (x5 : Value) (S : List Nat), rem.length ≤ n → 2 * rem.length + 1 ≤ fuel → rem.length ≤ 1000000 → Jw w0 h p st S → (488 ≤ st.room ∧ st.room ≤ 4072) → (512 ≤ st.size ∧ st.size ≤ 4096) → Buf w0 h x5 rem q → q ∉ S →
    st.taken ≤ st.rooms.length → (∀ r, r ∈ st.rooms → r.length ≤ st.room) → (pushAll st.room st.taken st.rooms rem).length ≤ 1000000 →
    (∀ h' S', Jw w0 h' p { st with rooms := pushAll st.room st.taken st.rooms rem } S' → Step h h' S S' → k1 (ptr p) h') →
    journal_Writer_Append_L1 prog w0 k1 fuel (ptr p) x5 h := by
  intro n
  induction n with
  | zero =>
    intro rem fuel st h x5 S hn hf hl w hro hsz b hq ht hrm hN hk
    have : rem = [] := List.eq_nil_of_length_eq_zero (by omega)
    subst this
    obtain ⟨m, rfl⟩ : ∃ m, fuel = m + 1 := ⟨fuel - 1, by omega⟩
    obtain ⟨a, c, rfl⟩ := b.slice
    rw [journal_Writer_Append_L1]
    simp only [journal_Writer_Append_B1, lenSl_slice, pureA_some, binA_gtr, List.length_nil, show decide ((0 : Int) < ((0 : Nat) : Int)) = false from rfl, condA_false]
    exact hk h S w w.refl
  | succ n ih =>
    intro rem fuel st h x5 S hn hf hl w hro hsz b hq ht hrm hN hk
    by_cases hne : rem = []
    · subst hne
      exact ih [] fuel st h x5 S (by simp) hf hl w hro hsz b hq ht hrm hN hk
    have hpos : 0 < rem.length := List.length_pos_iff.2 hne
    have hml := pushAll_len (room := st.room) (taken := st.taken) rem st.rooms
    -- a chunk, and on
    have step : ∀ (m : Nat) (st : JS) (h : Hp) (x5 : Value) (S : List Nat) (fs : List (List UInt8)) (r : List UInt8), 2 * rem.length ≤ m + 1 → Jw w0 h p st S → (488 ≤ st.room ∧ st.room ≤ 4072) → (512 ≤ st.size ∧ st.size ≤ 4096) → Buf w0 h x5 rem q → q ∉ S → st.rooms = fs ++ [r] → st.taken ≤ fs.length → r.length < st.room →
        (∀ r, r ∈ st.rooms → r.length ≤ st.room) → (pushAll st.room st.taken st.rooms rem).length ≤ 1000000 →
        (∀ h' S', Jw w0 h' p { st with rooms := pushAll st.room st.taken st.rooms rem } S' → Step h h' S S' → k1 (ptr p) h') → journal_Writer_Append_L1 prog w0 k1 (m + 1) (ptr p) x5 h := by
      intro m st h x5 S fs r hm w hro hsz b hq hrs ht hr hrm hN hk
      obtain ⟨j, hj⟩ : ∃ j, j = min rem.length (st.room - r.length) := ⟨_, rfl⟩
      have hj0 : 0 < j := by omega
      have hpa : pushAll st.room st.taken st.rooms rem = pushAll st.room st.taken (fs ++ [r ++ rem.take j]) (rem.drop j) := by
        conv => lhs; rw [← List.take_append_drop j rem]
        rw [pushAll_append, hrs, pushAll_chunk (by omega) _ _ (by simp; omega)]
      have hml := pushAll_len (room := st.room) (taken := st.taken) rem st.rooms
      rw [hrs] at hml
      simp at hml
      rw [hrs] at hN
      refine chunk_step w hro hsz b hq hne hl hrs ht hr (by omega) fun x5' h' S' w' b' hq' s' => ?_
      rw [← hj] at w' b'
      refine ih (rem.drop j) m _ h' x5' S' (by simp; omega) (by simp; omega) (by simp; omega) w' hro hsz b' hq' (by simp; omega) ?_ ?_ (fun h2 S2 w2 s2 => hk h2 S2 ?_ (s'.trans s2))
      · intro x hx
        simp only [List.mem_append, List.mem_singleton] at hx
        rcases hx with e | e
        · exact hrm x (by rw [hrs]; simp [e])
        · subst e; simp only [JS.room] at *; simp; omega
      · rw [hrs] at hpa
        show (pushAll st.room st.taken (fs ++ [r ++ rem.take j]) (rem.drop j)).length ≤ _
        rw [← hpa]; exact hN
      · rw [hpa]; exact w2
    by_cases ho : st.rooms.length = st.taken ∨ ∃ fs r, st.rooms = fs ++ [r] ∧ r.length = st.room
    · obtain ⟨m, rfl⟩ : ∃ m, fuel = m + 1 + 1 := ⟨fuel - 2, by omega⟩
      have hpo : pushAll st.room st.taken st.rooms rem = pushAll st.room st.taken (st.rooms ++ [[]]) rem := by
        obtain ⟨b0, l, rfl⟩ := List.exists_cons_of_ne_nil hne
        exact pushAll_open (by omega) ht ho l
      refine open_step w hsz b hq hne hl ht ho (by omega) fun h' S' w' b' hq' s' => ?_
      refine step m { st with rooms := st.rooms ++ [[]] } h' x5 S' st.rooms [] (by omega) w' hro hsz b' hq' rfl ht (by show 0 < st.room; omega) ?_ ?_ (fun h2 S2 w2 s2 => hk h2 S2 ?_ (s'.trans s2))
      · intro x hx
        simp only [List.mem_append, List.mem_singleton] at hx
        rcases hx with e | e
        · exact hrm x e
        · subst e; simp
      · show (pushAll st.room st.taken (st.rooms ++ [[]]) rem).length ≤ _
        rw [← hpo]; exact hN
      · rw [hpo]; exact w2
    · obtain ⟨m, rfl⟩ : ∃ m, fuel = m + 1 := ⟨fuel - 1, by omega⟩
      have h1 : ¬ st.rooms.length = st.taken := fun e => ho (.inl e)
      rcases List.eq_nil_or_concat st.rooms with e | ⟨fs, r, hrs⟩
      · rw [e] at h1 ht; simp at h1 ht; omega
      · rw [List.concat_eq_append] at hrs
        have hr1 := hrm r (by rw [hrs]; simp)
        have hr2 : r.length ≠ st.room := fun e => ho (.inr ⟨fs, r, hrs, e⟩)
        have hl2 : st.rooms.length = fs.length + 1 := by rw [hrs]; simp
        exact step m st h x5 S fs r (by omega) w hro hsz b hq hrs (by omega) (by omega) hrm hN hk
theorem Append_spec {h : Hp} {st : JS} {S : List Nat} (w : Jw w0 h p st S) (o : st.Ok) (l : List UInt8) (hl : l.length ≤ 1000000000) :
    ACalls prog w0 n_journal_Writer_Append [ptr p, .string (str l)] h fun v h' => v = .int .i64 (st.append l).1 ∧ ∃ S', Jw w0 h' p (st.append l).2 S' ∧ Step h h' S S' := by
  refine ACalls.of_fit (by simp [ptr]) fun f => c_journal_Writer_Append (by simp [ptr]) ?_
  refine callA_of (made_spec w o) fun v h1 ⟨e, e1⟩ f1 => ?_
  subst e e1
  simp only [lenSl_slice, lenStr_string, str_size, fpureA_some, fnilA_ptr, faddA_ptr, addr_add, Nat.zero_add, Nat.add_zero, fpureQ_k, fpureQ_nilA, fpureQ_addA, fpureQ_pureA, fpureQ_guardA, fpureQ_idxSlA, fpureQ_pickA, freadQ_loadA, freadQ_loadNA, freadQ_b2sA, freadQ_guardA, freadQ_slSlA, freadQ_k, fendA, fallA_one, fstillA_nil, fguardA_tt, fguardA_ff, fguardA_tf, fguardA_ft, fguardA_undef, fpickA_true, fpickA_false, fcondA_true, fcondA_false, binA_add, binA_sub, binA_mul, binA_eql, binA_neq, binA_lss, binA_leq, binA_gtr, binA_geq, unA_not, Bool.not_true, Bool.not_false, convA_int, extA_tuple, List.getElem?_toArray, List.getElem?_cons_zero, List.getElem?_cons_succ]
  by_cases h1 : 65536 < l.length
  · have c1 : decide ((65536 : Int) < (l.length : Int)) = true := decide_eq_true (by omega)
    have ha : st.append l = (3, st) := by simp [JS.append, h1]
    simp only [c1, fcondA_true, retA_iff, oneOf_one, ha]
    exact ⟨by simp, by trivial, S, w, w.refl⟩
  have c1 : decide ((65536 : Int) < (l.length : Int)) = false := decide_eq_false (by omega)
  have e1 : IntKind.i64.wrap ((l.length : Int) + 4) = (l.length : Int) + 4 := IntWalk.i64_in _ (by omega)
  simp only [lenSl_slice, lenStr_string, str_size, fpureA_some, fnilA_ptr, faddA_ptr, addr_add, Nat.zero_add, Nat.add_zero, fpureQ_k, fpureQ_nilA, fpureQ_addA, fpureQ_pureA, fpureQ_guardA, fpureQ_idxSlA, fpureQ_pickA, freadQ_loadA, freadQ_loadNA, freadQ_b2sA, freadQ_guardA, freadQ_slSlA, freadQ_k, fendA, fallA_one, fstillA_nil, fguardA_tt, fguardA_ff, fguardA_tf, fguardA_ft, fguardA_undef, fpickA_true, fpickA_false, fcondA_true, fcondA_false, binA_add, binA_sub, binA_mul, binA_eql, binA_neq, binA_lss, binA_leq, binA_gtr, binA_geq, unA_not, Bool.not_true, Bool.not_false, convA_int, extA_tuple, List.getElem?_toArray, List.getElem?_cons_zero, List.getElem?_cons_succ, c1, e1]
  refine callA_of (free_spec w o) fun v h2 ⟨e, e1⟩ f2 => ?_
  subst e e1
  by_cases h2' : st.free < l.length + 4
  · have c2 : decide (st.free < (l.length : Int) + 4) = true := decide_eq_true h2'
    have ha : st.append l = (2, st) := by simp [JS.append, h1, h2']
    simp only [lenSl_slice, lenStr_string, str_size, fpureA_some, fnilA_ptr, faddA_ptr, addr_add, Nat.zero_add, Nat.add_zero, fpureQ_k, fpureQ_nilA, fpureQ_addA, fpureQ_pureA, fpureQ_guardA, fpureQ_idxSlA, fpureQ_pickA, freadQ_loadA, freadQ_loadNA, freadQ_b2sA, freadQ_guardA, freadQ_slSlA, freadQ_k, fendA, fallA_one, fstillA_nil, fguardA_tt, fguardA_ff, fguardA_tf, fguardA_ft, fguardA_undef, fpickA_true, fpickA_false, fcondA_true, fcondA_false, binA_add, binA_sub, binA_mul, binA_eql, binA_neq, binA_lss, binA_leq, binA_gtr, binA_geq, unA_not, Bool.not_true, Bool.not_false, convA_int, extA_tuple, List.getElem?_toArray, List.getElem?_cons_zero, List.getElem?_cons_succ, c2, retA_iff, oneOf_one, ha]
    exact ⟨by simp, by trivial, S, w, w.refl⟩
  have c2 : decide (st.free < (l.length : Int) + 4) = false := decide_eq_false h2'
  have ha : st.append l = (0, { st with rooms := pushAll st.room st.taken st.rooms (be 4 l.length ++ l), cnt := IntKind.i64.wrap (st.cnt + 1) }) := by simp [JS.append, h1, h2']
  have hok := o.append l
  rw [ha] at hok ⊢
  simp only [lenSl_slice, lenStr_string, str_size, fpureA_some, fnilA_ptr, faddA_ptr, addr_add, Nat.zero_add, Nat.add_zero, fpureQ_k, fpureQ_nilA, fpureQ_addA, fpureQ_pureA, fpureQ_guardA, fpureQ_idxSlA, fpureQ_pickA, freadQ_loadA, freadQ_loadNA, freadQ_b2sA, freadQ_guardA, freadQ_slSlA, freadQ_k, fendA, fallA_one, fstillA_nil, fguardA_tt, fguardA_ff, fguardA_tf, fguardA_ft, fguardA_undef, fpickA_true, fpickA_false, fcondA_true, fcondA_false, binA_add, binA_sub, binA_mul, binA_eql, binA_neq, binA_lss, binA_leq, binA_gtr, binA_geq, unA_not, Bool.not_true, Bool.not_false, convA_int, extA_tuple, List.getElem?_toArray, List.getElem?_cons_zero, List.getElem?_cons_succ, c2]
  refine callA_of (number_spec l.length) fun v h3 ⟨e, e3⟩ f3 => ?_
  subst e e3
  have s1 : Step h2 (h2.new (bvs (be 4 l.length)) 1) S S := (w.refl.new _ _).less (fun b hb => by simp [hb])
  have w1 := w.frame ((Step.refl h2 [] (by simp)).new (bvs (be 4 l.length)) 1) (by simp)
  have fin : ∀ (x5 : Value) (h4 : Hp) (q : Nat) (S4 : List Nat), Jw w0 h4 p st S4 → Step h2 h4 S S4 → Buf w0 h4 x5 (be 4 l.length ++ l) q → q ∉ S4 →
      journal_Writer_Append_E1 prog w0 (fun y0 => nilA y0 fun v101 => addA v101 5 fun v102 => loadA w0 v102 fun v103 => pureA (binA .add v103 (.int .i64 1)) fun v104 => nilA y0 fun v105 => addA v105 5 fun v106 => storeA w0 v106 v104 fun _ => retA [(.int .i64 0)] fun v h' => v = .int .i64 0 ∧ ∃ S', Jw w0 h' p { st with rooms := pushAll st.room st.taken st.rooms (be 4 l.length ++ l), cnt := IntKind.i64.wrap (st.cnt + 1) } S' ∧ Step h2 h' S S') (ptr p) x5 h4 := by
    intro x5 h4 q S4 w4 s4 b4 hq4
    have hbound := hok.len
    have hse := o.sectors
    refine ⟨2 * (be 4 l.length ++ l).length + 1, append_loop _ _ _ st h4 x5 S4 (Nat.le_refl _) (Nat.le_refl _) (by simp; omega) w4 o.room o.size b4 hq4 o.good.1 o.good.2.1 (by simp only at hbound; omega) fun h5 S5 w5 s5 => ?_⟩
    obtain ⟨x, T, hb, hB, hlt, vv, hp, rfl⟩ := w5
    simp only [ptr, lenSl_slice, lenStr_string, str_size, fpureA_some, fnilA_ptr, faddA_ptr, addr_add, Nat.zero_add, Nat.add_zero, fpureQ_k, fpureQ_nilA, fpureQ_addA, fpureQ_pureA, fpureQ_guardA, fpureQ_idxSlA, fpureQ_pickA, freadQ_loadA, freadQ_loadNA, freadQ_b2sA, freadQ_guardA, freadQ_slSlA, freadQ_k, fendA, fallA_one, fstillA_nil, fguardA_tt, fguardA_ff, fguardA_tf, fguardA_ft, fguardA_undef, fpickA_true, fpickA_false, fcondA_true, fcondA_false, binA_add, binA_sub, binA_mul, binA_eql, binA_neq, binA_lss, binA_leq, binA_gtr, binA_geq, unA_not, Bool.not_true, Bool.not_false, convA_int, extA_tuple, List.getElem?_toArray, List.getElem?_cons_zero, List.getElem?_cons_succ]
    refine loadA_at hB hb (by rfl) ?_
    simp only [lenSl_slice, lenStr_string, str_size, fpureA_some, fnilA_ptr, faddA_ptr, addr_add, Nat.zero_add, Nat.add_zero, fpureQ_k, fpureQ_nilA, fpureQ_addA, fpureQ_pureA, fpureQ_guardA, fpureQ_idxSlA, fpureQ_pickA, freadQ_loadA, freadQ_loadNA, freadQ_b2sA, freadQ_guardA, freadQ_slSlA, freadQ_k, fendA, fallA_one, fstillA_nil, fguardA_tt, fguardA_ff, fguardA_tf, fguardA_ft, fguardA_undef, fpickA_true, fpickA_false, fcondA_true, fcondA_false, binA_add, binA_sub, binA_mul, binA_eql, binA_neq, binA_lss, binA_leq, binA_gtr, binA_geq, unA_not, Bool.not_true, Bool.not_false, convA_int, extA_tuple, List.getElem?_toArray, List.getElem?_cons_zero, List.getElem?_cons_succ]
    rw [storeA_own]
    refine ⟨_, hB, hb, by simp, rfl, ?_⟩
    simp only [retA_iff, oneOf_one]
    exact ⟨by simp, by trivial, p :: T, ⟨x, T, by simp, hB, by simpa using hlt, vv.put hp _, hp, rfl⟩, ((s4.trans s5).put (by simp) _)⟩
  have hfit := f3.base
  simp only [fnilA_ptr] at *
  refine ⟨l.length, by simp, fun h0 => ⟨⟨_, _, _, rfl⟩, ?_⟩, fun hpos => ⟨4, bvs (be 4 l.length), bvs l, h2.new (bvs (be 4 l.length)) 1, ?_, ?_, by omega, by omega, ?_⟩⟩
  · have hl0 : l = [] := List.eq_nil_of_length_eq_zero h0
    subst hl0
    have := fin (.slice (some ⟨h2.next, 0, none⟩) 4 4) (h2.new (bvs (be 4 0)) 1) h2.next S w1 s1 (.inr ⟨be 4 0, 0, 4, by simp, f2.base, by simp, by simp, by simp, by simp [be], .inr ⟨by simp, by decide⟩⟩) (fun e => by have := (w.lt _ e).2; omega)
    simpa [ptr] using this
  · simp only [Dst]
    refine ⟨trivial, .inr ⟨by omega, by simp [List.take_of_length_le], fun hlt => by have := f2.base; omega⟩, ?_⟩
    rw [if_neg (by have := f2.base; omega), if_neg (by decide), if_pos (by omega)]
    trivial
  · have := src_string (h := h2.new (bvs (be 4 l.length)) 1) w0.heap.size (str l)
    simpa using this
  · have w4 := w1.frame ((Step.refl (h2.new (bvs (be 4 l.length)) 1) [] (by simp)).new (bvs (be 4 l.length) ++ bvs l) 1) (by simp)
    have s4 := ((s1.trans (w1.refl)).new (bvs (be 4 l.length) ++ bvs l) 1).less (T := S) (fun b hb => by simp [hb])
    have := fin (.slice (some ⟨(h2.new (bvs (be 4 l.length)) 1).next, 0, none⟩) (4 + l.length) ucap) _ (h2.new (bvs (be 4 l.length)) 1).next S w4 s4 (.inr ⟨be 4 l.length ++ l, 0, ucap, by simp, hfit, by simp, by simp, by simp, by simp [be], .inl ⟨rfl, by simp⟩⟩) (fun e => by have := (w.lt _ e).2; simp at this; omega)
    simpa [ptr] using this
end
end Go.Proofs.Ytiakadkooclelaa.Ah
