/- journal.Writer: New, Left, Records. -/
import Derived.Test.YtiakadkooclelaaJm
import Derived.Test.YtiakadkooclelaaGjournal
import Derived.Test.YtiakadkooclelaaGsl
import Derived.Test.YtiakadkooclelaaKa
set_option linter.unusedVariables false
set_option linter.unusedSimpArgs false
namespace Go.Proofs.Ytiakadkooclelaa.Ah
open Go

/-- Sectors may be so long, and there may be so many. -/
def jsize (n : Int) : Bool := decide (n = 512) || decide (n = 1024) || decide (n = 2048) || decide (n = 4096)
def jok (n s : Int) : Bool := jsize n && decide (1 ≤ s) && decide (s ≤ 4096)
theorem pow_all : (List.range 4097).all (fun n => decide (n < 512) || (((n &&& (n - 1)) == 0) == jsize n)) = true := by decide +kernel
theorem pow_one {n : Nat} (h1 : 512 ≤ n) (h2 : n ≤ 4096) : ((n &&& (n - 1)) == 0) = jsize n := by
  have := List.all_eq_true.1 pow_all n (by simp; omega)
  simp only [Bool.or_eq_true, decide_eq_true_eq] at this
  rcases this with h | h
  · omega
  · simpa using h
theorem jsize_range {n : Int} (h : jsize n = true) : 512 ≤ n ∧ n ≤ 4096 := by
  simp only [jsize, Bool.or_eq_true, decide_eq_true_eq] at h
  omega
theorem sizeRight_spec {w0 : World} {h : Hp} (n : Int) (hn : -9223372036854775808 ≤ n ∧ n ≤ 9223372036854775807) : ACalls prog w0 n_journal_sizeRight [.int .i64 n] h fun v h' => v = .bool (jsize n) ∧ h' = h := by
  refine ACalls.of_fit (by simp) fun f => c_journal_sizeRight (by simp) ?_
  simp only [s_journal_sizeRight, binA_geq, pureA_some]
  by_cases h1 : 512 ≤ n
  · by_cases h2 : n ≤ 4096
    · obtain ⟨k, rfl⟩ := Int.eq_ofNat_of_zero_le (show 0 ≤ n by omega)
      have c1 : decide ((512 : Int) ≤ (k : Int)) = true := decide_eq_true h1
      have c2 : decide ((k : Int) ≤ 4096) = true := decide_eq_true h2
      have e1 : IntKind.i64.wrap ((k : Int) - 1) = ((k - 1 : Nat) : Int) := by rw [IntWalk.i64_in _ (by omega)]; omega
      have h3 := pow_one (n := k) (by omega) (by omega)
      have hlt : k &&& (k - 1) ≤ k := Nat.and_le_left
      have e2 : binA .and (.int .i64 (k : Int)) (.int .i64 ((k - 1 : Nat) : Int)) = some (.int .i64 ((k &&& (k - 1) : Nat) : Int)) := by
        rw [binA_and, Nat.mod_eq_of_lt (by simp only [IntKind.bits]; omega), IntWalk.i64_in _ (by omega)]
      have e3 : (((k &&& (k - 1) : Nat) : Int) == 0) = jsize (k : Int) := by
        rw [← h3]
        by_cases hz : k &&& (k - 1) = 0
        · rw [hz]; rfl
        · have : ((k &&& (k - 1) : Nat) : Int) ≠ 0 := by omega
          rw [beq_eq_false_iff_ne.2 this, beq_eq_false_iff_ne.2 hz]
      simp only [c1, guardA_tt, binA_leq, pureA_some, c2, pickA_true, binA_sub, e1, e2, binA_eql, e3, retA_iff, oneOf_one]
      simp
    · have c1 : decide ((512 : Int) ≤ n) = true := decide_eq_true h1
      have c2 : decide (n ≤ 4096) = false := decide_eq_false h2
      have c3 : jsize n = false := by
        cases e : jsize n with
        | false => rfl
        | true => exact absurd (jsize_range e).2 h2
      simp only [c1, guardA_tt, binA_leq, pureA_some, c2, pickA_true, guardA_ft, guardA_undef, pickA_false, retA_iff, oneOf_one, c3]
      simp
  · have c1 : decide ((512 : Int) ≤ n) = false := decide_eq_false h1
    have c3 : jsize n = false := by
      cases e : jsize n with
      | false => rfl
      | true => exact absurd (jsize_range e).1 h1
    simp only [c1, guardA_ft, guardA_undef, pickA_false, retA_iff, oneOf_one, c3]
    simp

/-- What a writer holds, as it lies. -/
def Jw (w0 : World) (h : Hp) (p : Nat) (st : JS) (S : List Nat) : Prop :=
  ∃ x T, h.blk p = some [.int .i64 st.size, .int .i64 st.sectors, .int .u64 st.gen, x, .int .i64 st.taken, .int .i64 st.cnt] ∧ w0.heap.size ≤ p ∧ p < h.next ∧ VVec w0 h x st.rooms T ∧ p ∉ T ∧ S = p :: T
theorem Jw.lt {w0 : World} {h : Hp} {p : Nat} {st : JS} {S : List Nat} (w : Jw w0 h p st S) : ∀ b, b ∈ S → w0.heap.size ≤ b ∧ b < h.next := by
  obtain ⟨x, T, a, b, c, d, e, rfl⟩ := w
  intro i hi
  rcases List.mem_cons.1 hi with rfl | hi
  · exact ⟨b, c⟩
  · exact d.lt i hi
theorem Jw.frame {w0 : World} {h h' : Hp} {p : Nat} {st : JS} {S T T' : List Nat} (w : Jw w0 h p st S) (s : Step h h' T T') (hd : ∀ b, b ∈ S → b ∉ T) : Jw w0 h' p st S := by
  obtain ⟨x, U, a, b, c, d, e, rfl⟩ := w
  exact ⟨x, U, by rw [(s.2 p c (hd p (by simp))).1]; exact a, b, by have := s.1; omega, d.frame s (fun i hi => hd i (by simp [hi])), e, rfl⟩
theorem Jw.refl {w0 : World} {h : Hp} {p : Nat} {st : JS} {S : List Nat} (w : Jw w0 h p st S) : Step h h S S := Step.refl _ _ fun b hb => (w.lt b hb).2
theorem Jw.mem {w0 : World} {h : Hp} {p : Nat} {st : JS} {S : List Nat} (w : Jw w0 h p st S) : p ∈ S := by
  obtain ⟨x, U, a, b, c, d, e, rfl⟩ := w; simp

theorem JNew_spec {w0 : World} {h : Hp} (n s : Int) (g : Nat) (hn : -9223372036854775808 ≤ n ∧ n ≤ 9223372036854775807) :
    ACalls prog w0 n_journal_New [.int .i64 n, .int .i64 s, .int .u64 g] h fun v h' =>
      (jok n s = true → v = .tuple #[ptr h.next, .int .i64 0] ∧ Jw w0 h' h.next ⟨n.toNat, s.toNat, g, [], 0, 0⟩ [h.next] ∧ Step h h' [] [h.next]) ∧ (jok n s = false → v = .tuple #[.pointer none, .int .i64 1] ∧ h' = h) := by
  refine ACalls.of_fit (by simp) fun f => c_journal_New (by simp) ?_
  refine callA_of (sizeRight_spec n hn) fun v hh ⟨e, e1⟩ f1 => ?_
  subst e e1
  cases hs : jsize n with
  | false =>
    simp only [unA_not, Bool.not_false, pureA_some, guardA_tf, pickA_true, guardA_undef, condA_true, retA_iff]
    simp [jok, hs]
  | true =>
    have hr := jsize_range hs
    simp only [unA_not, Bool.not_true, pureA_some, guardA_ff, binA_lss, pickA_false]
    by_cases h1 : s < 1
    · have c1 : decide (s < 1) = true := decide_eq_true h1
      have c2 : jok n s = false := by simp [jok]; omega
      simp only [c1, guardA_tf, guardA_undef, pickA_true, condA_true, retA_iff, c2]
      simp
    · have c1 : decide (s < 1) = false := decide_eq_false h1
      simp only [c1, guardA_ff, binA_gtr, pureA_some, pickA_false]
      by_cases h2 : 4096 < s
      · have c2 : decide ((4096 : Int) < s) = true := decide_eq_true h2
        have c3 : jok n s = false := by simp [jok]; omega
        simp only [c2, condA_true, retA_iff, c3]
        simp
      · have c2 : decide ((4096 : Int) < s) = false := decide_eq_false h2
        have c3 : jok n s = true := by simp [jok, hs]; omega
        simp only [c2, condA_false, buildA_iff, fillA_one, fillA_nil, isCell_int, true_and, List.set_cons_zero, List.set_cons_succ, List.length_cons, List.length_nil, boxA_agg, List.toList_toArray, retA_iff, c3]
        refine ⟨by omega, by omega, by omega, by simp, fun _ => ⟨by simp [ptr], ?_, (Step.refl hh [] (by simp)).new _ _⟩, by simp⟩
        have e1 : ((n.toNat : Nat) : Int) = n := Int.toNat_of_nonneg (by omega)
        have e2 : ((s.toNat : Nat) : Int) = s := Int.toNat_of_nonneg (by omega)
        refine ⟨.slice none 0 0, [], ?_, f.base, by simp, .nil, by simp, rfl⟩
        simp only [e1, e2]
        simp
section
variable {w0 : World} {h : Hp} {p : Nat} {st : JS} {S : List Nat}
theorem made_spec (w : Jw w0 h p st S) (o : st.Ok) : ACalls prog w0 n_journal_Writer_made [ptr p] h fun v h' => v = .bool true ∧ h' = h := by
  refine ACalls.of_fit (by simp [ptr]) fun f => c_journal_Writer_made (by simp [ptr]) ?_
  obtain ⟨x, T, a, b, c, -⟩ := w
  have := o.size
  simp [s_journal_Writer_made, ptr, a, Nat.not_lt.2 b]
  omega
theorem made_nil : ACalls prog w0 n_journal_Writer_made [.pointer none] h fun v h' => v = .bool false ∧ h' = h := by
  refine ACalls.of_fit (by simp) fun f => c_journal_Writer_made (by simp) ?_
  simp [s_journal_Writer_made]
theorem room_spec (w : Jw w0 h p st S) (o : st.Ok) : ACalls prog w0 n_journal_Writer_room [ptr p] h fun v h' => v = .int .i64 st.room ∧ h' = h := by
  refine ACalls.of_fit (by simp [ptr]) fun f => c_journal_Writer_room (by simp [ptr]) ?_
  obtain ⟨x, T, a, b, c, -⟩ := w
  have := o.size
  have e : IntKind.i64.wrap ((st.size : Int) - 24) = (st.room : Nat) := by rw [IntWalk.i64_in _ (by omega)]; unfold JS.room; omega
  simp [s_journal_Writer_room, ptr, a, Nat.not_lt.2 b, e]
theorem Records_spec (w : Jw w0 h p st S) (o : st.Ok) : ACalls prog w0 n_journal_Writer_Records [ptr p] h fun v h' => v = .int .i64 st.cnt ∧ h' = h := by
  refine ACalls.of_fit (by simp [ptr]) fun f => c_journal_Writer_Records (by simp [ptr]) ?_
  refine callA_of (made_spec w o) fun v h1 ⟨e, e1⟩ f1 => ?_
  subst e e1
  obtain ⟨x, T, a, b, c, -⟩ := w
  simp [ptr, a, Nat.not_lt.2 b]
/-- A vector from one of its elements on. -/
theorem slSlA_from {x : Value} {n t : Nat} {vs : List Value} {U : List Nat} {kt : IntKind} {K : Kont} (v : Vec w0 h 1 x n vs U) (ht : t ≤ n)
    (hk : ∀ a c, (∀ h', Vec w0 h' 1 x n vs U → Src w0.heap.size h' 1 (.slice a (n - t) c) (n - t) (vs.drop t)) → K (.slice a (n - t) c) h) : slSlA 1 x (some (.int kt (t : Int))) none none K h := by
  rcases v with ⟨rfl, rfl, rfl, rfl⟩ | ⟨q, rfl, rfl, hB, hlt, hb, he, hl⟩
  · have : t = 0 := by omega
    subst this
    refine ⟨none, 0, 0, 0, 0, rfl, by simp [boundA], rfl, Nat.le_refl _, by simp, ?_⟩
    rw [if_neg (by decide)]
    exact ⟨Nat.le_refl _, hk none 0 fun h' _ => ⟨Nat.le_refl _, .inl ⟨rfl, rfl⟩⟩⟩
  · refine ⟨some ⟨q, 0, none⟩, n, ucap, t, n, rfl, by simp [boundA], rfl, ht, by simp, ?_⟩
    rw [if_pos rfl]
    refine ⟨Nat.le_refl _, _, rfl, he, ⟨vs, hb⟩, ?_⟩
    rw [addr_add, Nat.mul_one, Nat.zero_add]
    refine hk _ _ fun h' v' => ?_
    rcases v' with ⟨e, -⟩ | ⟨q', e, -, hB', -, hb', -, hl'⟩
    · simp at e
    · simp at e
      subst e
      have hs := src_own (w0 := w0) (h := h') (s := 1) (n := n - t) (o := t) (c := ucap) hB' hb' (by omega)
      have e1 : (vs.drop t).take ((n - t) * 1) = vs.drop t := by rw [List.take_of_length_le (by simp; omega)]
      rw [e1] at hs
      exact hs
theorem free_loop {K : Value → Hp → Prop} {a : Option Addr} {c : Nat} {vs : List Value} {rs : List (List UInt8)} {S : List Nat} {room : Nat} (hs : Src w0.heap.size h 1 (.slice a rs.length c) rs.length vs) (hr : ∀ (i : Nat) (r : List UInt8), rs[i]? = some r → ∃ a' c', vs[i]? = some (Value.slice a' r.length c')) (hvl : vs.length = rs.length)
    (hrm : ∀ r, r ∈ rs → r.length ≤ 4096) (hl : rs.length ≤ 1000000) : ∀ (post pre : List (List UInt8)) (n : Int), pre ++ post = rs → (-9000000000000000000 ≤ n - tot post ∧ n ≤ 9000000000000000000) → K (.int .i64 (n - tot post)) h →
    journal_Writer_free_L1 prog w0 K (post.length + 1) (.int .i64 n) (.slice a rs.length c) (.int .i64 (rs.length : Int)) (.int .i64 (pre.length : Int)) h := by
  intro post
  induction post with
  | nil =>
    intro pre n he hn hk
    have : pre = rs := by simpa using he
    subst this
    rw [journal_Writer_free_L1]
    simp only [journal_Writer_free_B1, binA_lss, pureA_some, Int.lt_irrefl, decide_false, condA_false]
    simpa using hk
  | cons r post ih =>
    intro pre n he hn hk
    have hlen : pre.length + (post.length + 1) = rs.length := by rw [← he]; simp
    have ht : tot (r :: post) = r.length + tot post := by simp [tot]
    have hg : rs[pre.length]? = some r := by rw [← he]; simp
    obtain ⟨a', c', hv⟩ := hr _ _ hg
    have hrl := hrm r (by rw [← he]; simp)
    rw [ht] at hn hk
    have c1 : decide ((pre.length : Int) < (rs.length : Int)) = true := decide_eq_true (by omega)
    have e5 : IntKind.i64.wrap ((pre.length : Int) + 1) = ((pre.length + 1 : Nat) : Int) := by rw [IntWalk.i64_in _ (by omega)]; simp
    have e6 : IntKind.i64.wrap (n - (r.length : Int)) = n - r.length := IntWalk.i64_in _ (by omega)
    rw [List.length_cons, journal_Writer_free_L1]
    simp only [journal_Writer_free_B1, binA_lss, pureA_some, c1, condA_true]
    refine idx_load1 hs hvl hv ?_
    simp only [lenSl_slice, pureA_some, binA_sub, e6, binA_add, e5]
    have := ih (pre ++ [r]) (n - r.length) (by simpa using he) (by omega) (by
      have : n - (r.length : Int) - (tot post : Nat) = n - ((r.length + tot post : Nat) : Int) := by omega
      rw [this]; exact hk)
    simpa using this
theorem Rows.slices {vs : List Value} {rs : List (List UInt8)} {S : List Nat} (q : Rows w0 h vs rs S) (i : Nat) (r : List UInt8) (hi : rs[i]? = some r) : ∃ a' c', vs[i]? = some (Value.slice a' r.length c') := by
  obtain ⟨v, T, e, vv, -⟩ := q.get hi
  obtain ⟨a, c, rfl⟩ := vv.slice
  exact ⟨a, c, e⟩
theorem free_spec (w : Jw w0 h p st S) (o : st.Ok) : ACalls prog w0 n_journal_Writer_free [ptr p] h fun v h' => v = .int .i64 st.free ∧ h' = h := by
  refine ACalls.of_fit (by simp [ptr]) fun f => c_journal_Writer_free (by simp [ptr]) ?_
  have hro := o.room
  have hse := o.sectors
  have hle := o.len
  have hta := o.good.1
  have w' := w
  obtain ⟨x, T, hb, hB, hlt, q, hp, rfl⟩ := w
  have hmul : (st.sectors - st.taken) * st.room ≤ 4096 * 4096 := Nat.mul_le_mul (by omega) (by omega)
  simp only [s_journal_Writer_free, fpureQ_k, ptr, fpureQ_nilA, fnilA_ptr, fpureQ_addA, faddA_ptr, addr_add, Nat.zero_add, freadQ_loadA]
  refine loadA_at hB hb (by rfl) ?_
  refine loadA_at hB hb (by rfl) ?_
  have e1 : IntKind.i64.wrap ((st.sectors : Int) - (st.taken : Int)) = ((st.sectors - st.taken : Nat) : Int) := by rw [IntWalk.i64_in _ (by omega)]; omega
  simp only [binA_sub, fpureQ_pureA, fpureA_some, allA_one, e1]
  refine callA_of (room_spec w' o) fun v h1 ⟨e, e1⟩ f1 => ?_
  subst e e1
  simp only [stillA_iff, allA_cons, allA_one, sameQ_loadA]
  refine ⟨⟨loadA_at hB hb (by rfl) rfl, loadA_at hB hb (by rfl) rfl⟩, ?_⟩
  have e2 : IntKind.i64.wrap (((st.sectors - st.taken : Nat) : Int) * (st.room : Int)) = (((st.sectors - st.taken) * st.room : Nat) : Int) := by rw [← Int.natCast_mul, IntWalk.i64_in _ (by omega)]
  simp only [binA_mul, fpureA_some, e2, fpureQ_k, fendA]
  refine loadA_at hB hb (by rfl) ?_
  refine loadA_at hB hb (by rfl) ?_
  obtain ⟨vs, U, S0, v, rr, d, rfl⟩ := q
  simp only [freadQ_slSlA]
  refine slSlA_from v hta fun a c hsrc' => ?_
  have hsrc := hsrc' _ v
  simp only [lenSl_slice, fpureQ_pureA, fpureA_some, fpureQ_k, fendA]
  have hl2 : (st.rooms.drop st.taken).length = st.rooms.length - st.taken := by simp
  have hrl := rr.len
  refine ⟨(st.rooms.drop st.taken).length + 1, ?_⟩
  have htot := o.tot
  have := free_loop (w0 := w0) (h := h1) (K := fun y3 => retA [y3] fun v h' => v = .int .i64 st.free ∧ h' = h1) (a := a) (c := c) (vs := vs.drop st.taken) (rs := st.rooms.drop st.taken) (S := []) (room := st.room) (by rw [hl2]; exact hsrc) (fun i r hi => by
    rw [List.getElem?_drop] at hi ⊢
    exact rr.slices _ _ hi) (by simp; omega) (fun r hr => by have := o.good.2.1 r (List.mem_of_mem_drop hr); omega) (by omega) (st.rooms.drop st.taken) [] (((st.sectors - st.taken) * st.room : Nat) : Int) rfl (by omega) (by
      simp only [retA_iff, oneOf_one]
      exact ⟨by simp, by trivial, by trivial⟩)
  rw [hl2] at this
  simpa [hl2] using this
theorem Left_spec (w : Jw w0 h p st S) (o : st.Ok) : ACalls prog w0 n_journal_Writer_Left [ptr p] h fun v h' => v = .int .i64 st.left ∧ h' = h := by
  refine ACalls.of_fit (by simp [ptr]) fun f => c_journal_Writer_Left (by simp [ptr]) ?_
  refine callA_of (made_spec w o) fun v h1 ⟨e, e1⟩ f1 => ?_
  subst e e1
  simp only [unA_not, Bool.not_true, pureA_some, condA_false]
  refine callA_of (free_spec w o) fun v h2 ⟨e, e1⟩ f2 => ?_
  subst e e1
  have hmul : (st.sectors - st.taken) * st.room ≤ 4096 * 4096 := Nat.mul_le_mul (by have := o.sectors; omega) (by have := o.room; omega)
  have e1 : IntKind.i64.wrap (st.free - 4) = st.free - 4 := IntWalk.i64_in _ (by have := o.tot; unfold JS.free; omega)
  simp [e1, JS.left]
end
end Go.Proofs.Ytiakadkooclelaa.Ah
