/- The journal's writer, plain: rooms, and what is appended to them. -/
import Derived.Test.YtiakadkooclelaaKxa
import Derived.Test.YtiakadkooclelaaAhp
import Derived.Test.YtiakadkooclelaaGjournal
import Derived.Test.YtiakadkooclelaaGsl
import Derived.Test.YtiakadkooclelaaAhq
import Derived.Test.YtiakadkooclelaaGref07
import Derived.Test.YtiakadkooclelaaGlaw07
set_option linter.unusedVariables false
set_option linter.unusedSimpArgs false
set_option linter.constructorNameAsVariable false
namespace Go.Proofs.Ytiakadkooclelaa.Ah
open Go
def pushB (room taken : Nat) (rs : List (List UInt8)) (b : UInt8) : List (List UInt8) :=
  match rs.getLast? with
  | some r => if rs.length = taken ∨ r.length = room then rs ++ [[b]] else rs.dropLast ++ [r ++ [b]]
  | none => [[b]]
def pushAll (room taken : Nat) (rs : List (List UInt8)) (l : List UInt8) : List (List UInt8) := l.foldl (pushB room taken) rs
section
variable {room taken : Nat} {rs fs : List (List UInt8)} {r : List UInt8} {b : UInt8}
theorem pushB_taken (h : rs.length = taken) : pushB room taken rs b = rs ++ [[b]] := by
  unfold pushB
  split
  · rw [if_pos (.inl h)]
  · rename_i hn
    rw [List.getLast?_eq_none_iff.1 hn]; rfl
theorem pushB_snoc : pushB room taken (fs ++ [r]) b = if fs.length + 1 = taken ∨ r.length = room then fs ++ [r] ++ [[b]] else fs ++ [r ++ [b]] := by
  unfold pushB
  simp
theorem pushAll_cons (l : List UInt8) : pushAll room taken rs (b :: l) = pushAll room taken (pushB room taken rs b) l := rfl
theorem pushAll_nil : pushAll room taken rs [] = rs := rfl
theorem pushAll_append (l m : List UInt8) : pushAll room taken rs (l ++ m) = pushAll room taken (pushAll room taken rs l) m := by simp [pushAll]
theorem pushB_len : rs.length ≤ (pushB room taken rs b).length := by
  rcases List.eq_nil_or_concat rs with rfl | ⟨fs, r, rfl⟩
  · simp
  · rw [List.concat_eq_append, pushB_snoc]; split <;> simp
theorem pushAll_len : ∀ (l : List UInt8) (rs : List (List UInt8)), rs.length ≤ (pushAll room taken rs l).length := by
  intro l
  induction l with
  | nil => intro rs; simp [pushAll_nil]
  | cons b l ih => intro rs; rw [pushAll_cons]; exact Nat.le_trans pushB_len (ih _)
theorem pushAll_chunk (ht : taken ≤ fs.length) : ∀ (l : List UInt8) (r : List UInt8), r.length + l.length ≤ room → pushAll room taken (fs ++ [r]) l = fs ++ [r ++ l] := by
  intro l
  induction l with
  | nil => intro r _; simp [pushAll_nil]
  | cons b l ih =>
    intro r h
    simp at h
    rw [pushAll_cons, pushB_snoc, if_neg (by omega), ih _ (by simp; omega)]
    simp
theorem pushAll_open (hr : 0 < room) (ht : taken ≤ rs.length) (h : rs.length = taken ∨ ∃ fs r, rs = fs ++ [r] ∧ r.length = room) (l : List UInt8) : pushAll room taken rs (b :: l) = pushAll room taken (rs ++ [[]]) (b :: l) := by
  rw [pushAll_cons, pushAll_cons]
  congr 1
  rw [pushB_snoc, if_neg (by simp; omega)]
  rcases h with h | ⟨fs, r, rfl, h⟩
  · rw [pushB_taken h]; simp
  · rw [pushB_snoc, if_pos (.inr h)]; simp
end

def tot (rs : List (List UInt8)) : Nat := (rs.map List.length).sum
@[simp] theorem tot_nil : tot [] = 0 := rfl
theorem tot_append (a b : List (List UInt8)) : tot (a ++ b) = tot a + tot b := by simp [tot]
theorem tot_one (r : List UInt8) : tot [r] = r.length := by simp [tot]
theorem tot_full {room : Nat} : ∀ fs : List (List UInt8), (∀ f, f ∈ fs → f.length = room) → tot fs = fs.length * room := by
  intro fs
  induction fs with
  | nil => intro _; simp
  | cons f fs ih =>
    intro h
    have h1 := h f (by simp)
    have h2 := ih fun g hg => h g (by simp [hg])
    simp only [tot, List.map_cons, List.sum_cons, List.length_cons, Nat.add_mul, Nat.one_mul] at h2 ⊢
    omega
def Good (room taken : Nat) (rs : List (List UInt8)) : Prop :=
  taken ≤ rs.length ∧ (∀ r, r ∈ rs → r.length ≤ room) ∧ (rs.length = taken ∨ ∃ fs r, rs.drop taken = fs ++ [r] ∧ (∀ f, f ∈ fs → f.length = room) ∧ 1 ≤ r.length)
theorem good_push {room taken : Nat} {rs : List (List UInt8)} {b : UInt8} (hr : 0 < room) (g : Good room taken rs) : Good room taken (pushB room taken rs b) ∧ tot ((pushB room taken rs b).drop taken) = tot (rs.drop taken) + 1 := by
  obtain ⟨h1, h2, h3⟩ := g
  by_cases he : rs.length = taken
  · rw [pushB_taken he]
    have hd : (rs ++ [[b]]).drop taken = [[b]] := by rw [List.drop_left' he]
    have hd0 : rs.drop taken = [] := List.drop_eq_nil_of_le (by omega)
    refine ⟨⟨by simp; omega, fun r hm => ?_, .inr ⟨[], [b], by rw [hd]; rfl, by simp, by simp⟩⟩, by rw [hd, hd0]; simp [tot]⟩
    rcases List.mem_append.1 hm with e | e
    · exact h2 r e
    · simp at e; subst e; simp; omega
  · obtain ⟨fs, r, hd, hf, h5⟩ := h3.resolve_left he
    have hrs : rs = (rs.take taken ++ fs) ++ [r] := by rw [List.append_assoc, ← hd, List.take_append_drop]
    have hlt : (rs.take taken).length = taken := by simp; omega
    have hr1 : r.length ≤ room := h2 r (by rw [hrs]; simp)
    have hps : pushB room taken rs b = if r.length = room then rs.take taken ++ (fs ++ [r] ++ [[b]]) else rs.take taken ++ (fs ++ [r ++ [b]]) := by
      conv => lhs; rw [hrs]
      rw [pushB_snoc]
      have : ¬ ((rs.take taken ++ fs).length + 1 = taken) := by rw [List.length_append, hlt]; omega
      simp only [this, false_or]
      split <;> simp
    have hmem : ∀ x, x ∈ rs.take taken → x.length ≤ room := fun x hx => h2 x (List.mem_of_mem_take hx)
    have hmem2 : ∀ x, x ∈ fs → x.length ≤ room := fun x hx => by rw [hf x hx]; exact Nat.le_refl _
    by_cases hfull : r.length = room
    · rw [hps, if_pos hfull]
      have hd2 : (rs.take taken ++ (fs ++ [r] ++ [[b]])).drop taken = fs ++ [r] ++ [[b]] := by rw [List.drop_left' hlt]
      refine ⟨⟨by simp; omega, fun x hm => ?_, .inr ⟨fs ++ [r], [b], hd2, fun f hm => ?_, by simp⟩⟩, by rw [hd2, hd, tot_append _ [[b]], tot_one]; rfl⟩
      · simp only [List.mem_append, List.mem_singleton] at hm
        rcases hm with e | (e | e) | e
        · exact hmem x e
        · exact hmem2 x e
        · subst e; exact hr1
        · subst e; simp; omega
      · rcases List.mem_append.1 hm with e | e
        · exact hf f e
        · simp at e; subst e; exact hfull
    · rw [hps, if_neg hfull]
      have hd2 : (rs.take taken ++ (fs ++ [r ++ [b]])).drop taken = fs ++ [r ++ [b]] := by rw [List.drop_left' hlt]
      refine ⟨⟨by simp; omega, fun x hm => ?_, .inr ⟨fs, r ++ [b], hd2, hf, by simp⟩⟩, by rw [hd2, hd, tot_append, tot_append, tot_one, tot_one]; simp; omega⟩
      simp only [List.mem_append, List.mem_singleton] at hm
      rcases hm with e | e | e
      · exact hmem x e
      · exact hmem2 x e
      · subst e; simp; omega
theorem good_all {room taken : Nat} (hr : 0 < room) : ∀ (l : List UInt8) (rs : List (List UInt8)), Good room taken rs → Good room taken (pushAll room taken rs l) ∧ tot ((pushAll room taken rs l).drop taken) = tot (rs.drop taken) + l.length := by
  intro l
  induction l with
  | nil => intro rs g; exact ⟨g, by simp [pushAll_nil]⟩
  | cons b l ih =>
    intro rs g
    obtain ⟨g1, t1⟩ := good_push (b := b) hr g
    obtain ⟨g2, t2⟩ := ih _ g1
    rw [pushAll_cons]
    exact ⟨g2, by rw [t2, t1]; simp; omega⟩
theorem good_bound {room taken sectors : Nat} {rs : List (List UInt8)} (g : Good room taken rs) (ht : taken ≤ sectors) (h : tot (rs.drop taken) ≤ (sectors - taken) * room) : rs.length ≤ sectors := by
  obtain ⟨h1, h2, h3⟩ := g
  rcases h3 with e | ⟨fs, r, hd, hf, h5⟩
  · omega
  · have hl : rs.length - taken = fs.length + 1 := by have := congrArg List.length hd; simpa using this
    rw [hd, tot_append, tot_one, tot_full fs hf] at h
    have h4 : fs.length < sectors - taken := by
      rcases Nat.lt_or_ge fs.length (sectors - taken) with q | q
      · exact q
      · have := Nat.mul_le_mul_right room q; omega
    omega

structure JS where
  size : Nat
  sectors : Nat
  gen : Nat
  rooms : List (List UInt8)
  taken : Nat
  cnt : Int
def JS.room (st : JS) : Nat := st.size - 24
def JS.free (st : JS) : Int := ((st.sectors - st.taken) * st.room : Nat) - tot (st.rooms.drop st.taken)
def JS.left (st : JS) : Int := max 0 (st.free - 4)
structure JS.Ok (st : JS) : Prop where
  size : 512 ≤ st.size ∧ st.size ≤ 4096
  sectors : 1 ≤ st.sectors ∧ st.sectors ≤ 4096
  gen : st.gen < 18446744073709551616
  good : Good st.room st.taken st.rooms
  len : st.rooms.length ≤ st.sectors
  tot : tot (st.rooms.drop st.taken) ≤ (st.sectors - st.taken) * st.room
  ne : ∀ r, r ∈ st.rooms → r ≠ []
theorem ne_pushB {room taken : Nat} {rs : List (List UInt8)} {b : UInt8} (h : ∀ r, r ∈ rs → r ≠ []) : ∀ r, r ∈ pushB room taken rs b → r ≠ [] := by
  intro r hr
  rcases List.eq_nil_or_concat rs with rfl | ⟨fs, r0, rfl⟩
  · simp [pushB] at hr; subst hr; simp
  · rw [List.concat_eq_append] at h hr
    rw [pushB_snoc] at hr
    split at hr
    · rcases List.mem_append.1 hr with e | e
      · exact h r e
      · simp at e; subst e; simp
    · rcases List.mem_append.1 hr with e | e
      · exact h r (by simp [e])
      · simp at e; subst e; simp
theorem ne_pushAll {room taken : Nat} : ∀ (l : List UInt8) (rs : List (List UInt8)), (∀ r, r ∈ rs → r ≠ []) → ∀ r, r ∈ pushAll room taken rs l → r ≠ [] := by
  intro l
  induction l with
  | nil => intro rs h; exact h
  | cons b l ih => intro rs h; exact ih _ (ne_pushB h)
def JS.append (st : JS) (rec_ : List UInt8) : Int × JS :=
  if 65536 < rec_.length then (3, st) else if st.free < rec_.length + 4 then (2, st)
  else (0, { st with rooms := pushAll st.room st.taken st.rooms (be 4 rec_.length ++ rec_), cnt := IntKind.i64.wrap (st.cnt + 1) })
def JS.take (st : JS) : JS := { st with taken := st.rooms.length }
theorem JS.Ok.room {st : JS} (o : st.Ok) : 488 ≤ st.room ∧ st.room ≤ 4072 := by have := o.size; unfold JS.room; omega
theorem JS.Ok.append {st : JS} (o : st.Ok) (r : List UInt8) : (st.append r).2.Ok := by
  unfold JS.append
  split
  · exact o
  · split
    · exact o
    · rename_i h1 h2
      have hr := o.room
      obtain ⟨g, t⟩ := good_all (room := st.room) (taken := st.taken) (by omega) (be 4 r.length ++ r) st.rooms o.good
      have ht : st.taken ≤ st.sectors := Nat.le_trans o.good.1 o.len
      have hb : Ah.tot ((pushAll st.room st.taken st.rooms (be 4 r.length ++ r)).drop st.taken) ≤ (st.sectors - st.taken) * st.room := by
        rw [t]; unfold JS.free at h2; simp; omega
      exact ⟨o.size, o.sectors, o.gen, g, good_bound g ht hb, hb, ne_pushAll _ _ o.ne⟩
theorem JS.Ok.take {st : JS} (o : st.Ok) : st.take.Ok := by
  refine ⟨o.size, o.sectors, o.gen, ⟨Nat.le_refl _, o.good.2.1, .inl rfl⟩, o.len, ?_, o.ne⟩
  simp [JS.take]
def sec0 (gen i n : Nat) : List UInt8 := [68, 74, 82, 78] ++ be 8 gen ++ be 4 i ++ be 4 n
def secR (size : Nat) (r : List UInt8) : List UInt8 := r ++ List.replicate (size - 24 - r.length) 0
def sec (size gen i : Nat) (r : List UInt8) : List UInt8 := sec0 gen i r.length ++ be 4 (crcOf (sec0 gen i r.length ++ secR size r)) ++ secR size r
@[simp] theorem sec0_length (gen i n : Nat) : (sec0 gen i n).length = 20 := by simp [sec0]
theorem secR_length {size : Nat} {r : List UInt8} (h : r.length ≤ size - 24) : (secR size r).length = size - 24 := by simp [secR]; omega
theorem sec_length {size : Nat} {r : List UInt8} (gen i : Nat) (hs : 24 ≤ size) (h : r.length ≤ size - 24) : (sec size gen i r).length = size := by simp [sec, secR_length h]; omega
def secList (size gen : Nat) : Nat → List (List UInt8) → List (List UInt8)
  | _, [] => []
  | k, r :: rs => sec size gen k r :: secList size gen (k + 1) rs
theorem secList_snoc (size gen : Nat) (r : List UInt8) : ∀ (rs : List (List UInt8)) (k : Nat), secList size gen k (rs ++ [r]) = secList size gen k rs ++ [sec size gen (k + rs.length) r] := by
  intro rs
  induction rs with
  | nil => intro k; simp [secList]
  | cons x rs ih => intro k; simp only [List.cons_append, secList, ih, List.length_cons]; congr 4; omega
@[simp] theorem secList_length (size gen : Nat) : ∀ (rs : List (List UInt8)) (k : Nat), (secList size gen k rs).length = rs.length := by
  intro rs
  induction rs with
  | nil => intro k; rfl
  | cons x rs ih => intro k; simp [secList, ih]
def JS.secs (st : JS) : List (List UInt8) := secList st.size st.gen st.taken (st.rooms.drop st.taken)
def jsize (n : Int) : Bool := decide (n = 512) || decide (n = 1024) || decide (n = 2048) || decide (n = 4096)
def jok (n s : Int) : Bool := jsize n && decide (1 ≤ s) && decide (s ≤ 4096)
theorem pow_all : (List.range 4097).all (fun n => decide (n < 512) || (((n &&& (n - 1)) == 0) == jsize n)) = true := by decide +kernel
theorem pow_one {n : Nat} (h1 : 512 ≤ n) (h2 : n ≤ 4096) : ((n &&& (n - 1)) == 0) = jsize n := by
  have := List.all_eq_true.1 pow_all n (by simp; omega)
  simp only [Bool.or_eq_true, decide_eq_true_eq] at this
  rcases this with h | h
  · omega
  · simpa using h
theorem jsize_range {n : Int} (h : jsize n = true) : 512 ≤ n ∧ n ≤ 4096 := by
  simp only [jsize, Bool.or_eq_true, decide_eq_true_eq] at h
  omega
theorem sizeRight_spec {w0 : World} {h : Hp} (n : Int) (hn : -9223372036854775808 ≤ n ∧ n ≤ 9223372036854775807) : ACalls prog w0 n_journal_sizeRight [.int .i64 n] h fun v h' => v = .bool (jsize n) ∧ h' = h := by
  refine ACalls.of_fit (by simp) fun f => c_journal_sizeRight (by simp) ?_
  simp only [s_journal_sizeRight, binA_geq, pureA_some]
  by_cases h1 : 512 ≤ n
  · by_cases h2 : n ≤ 4096
    · obtain ⟨k, rfl⟩ := Int.eq_ofNat_of_zero_le (show 0 ≤ n by omega)
      have c1 : decide ((512 : Int) ≤ (k : Int)) = true := decide_eq_true h1
      have c2 : decide ((k : Int) ≤ 4096) = true := decide_eq_true h2
      have e1 : IntKind.i64.wrap ((k : Int) - 1) = ((k - 1 : Nat) : Int) := by rw [IntWalk.i64_in _ (by omega)]; omega
      have h3 := pow_one (n := k) (by omega) (by omega)
      have hlt : k &&& (k - 1) ≤ k := Nat.and_le_left
      have e2 : binA .and (.int .i64 (k : Int)) (.int .i64 ((k - 1 : Nat) : Int)) = some (.int .i64 ((k &&& (k - 1) : Nat) : Int)) := by
        rw [binA_and, Nat.mod_eq_of_lt (by simp only [IntKind.bits]; omega), IntWalk.i64_in _ (by omega)]
      have e3 : (((k &&& (k - 1) : Nat) : Int) == 0) = jsize (k : Int) := by
        rw [← h3]
        by_cases hz : k &&& (k - 1) = 0
        · rw [hz]; rfl
        · have : ((k &&& (k - 1) : Nat) : Int) ≠ 0 := by omega
          rw [beq_eq_false_iff_ne.2 this, beq_eq_false_iff_ne.2 hz]
      simp only [c1, guardA_tt, binA_leq, pureA_some, c2, pickA_true, binA_sub, e1, e2, binA_eql, e3, retA_iff, oneOf_one]
      simp
    · have c1 : decide ((512 : Int) ≤ n) = true := decide_eq_true h1
      have c2 : decide (n ≤ 4096) = false := decide_eq_false h2
      have c3 : jsize n = false := by
        cases e : jsize n with
        | false => rfl
        | true => exact absurd (jsize_range e).2 h2
      simp only [c1, guardA_tt, binA_leq, pureA_some, c2, pickA_true, guardA_ft, guardA_undef, pickA_false, retA_iff, oneOf_one, c3]
      simp
  · have c1 : decide ((512 : Int) ≤ n) = false := decide_eq_false h1
    have c3 : jsize n = false := by
      cases e : jsize n with
      | false => rfl
      | true => exact absurd (jsize_range e).1 h1
    simp only [c1, guardA_ft, guardA_undef, pickA_false, retA_iff, oneOf_one, c3]
    simp

def Jw (w0 : World) (h : Hp) (p : Nat) (st : JS) (S : List Nat) : Prop :=
  ∃ x T, h.blk p = some [.int .i64 st.size, .int .i64 st.sectors, .int .u64 st.gen, x, .int .i64 st.taken, .int .i64 st.cnt] ∧ w0.heap.size ≤ p ∧ p < h.next ∧ VVec w0 h x st.rooms T ∧ p ∉ T ∧ S = p :: T
theorem Jw.lt {w0 : World} {h : Hp} {p : Nat} {st : JS} {S : List Nat} (w : Jw w0 h p st S) : ∀ b, b ∈ S → w0.heap.size ≤ b ∧ b < h.next := by
  obtain ⟨x, T, a, b, c, d, e, rfl⟩ := w
  intro i hi
  rcases List.mem_cons.1 hi with rfl | hi
  · exact ⟨b, c⟩
  · exact d.lt i hi
theorem Jw.frame {w0 : World} {h h' : Hp} {p : Nat} {st : JS} {S T T' : List Nat} (w : Jw w0 h p st S) (s : Step h h' T T') (hd : ∀ b, b ∈ S → b ∉ T) : Jw w0 h' p st S := by
  obtain ⟨x, U, a, b, c, d, e, rfl⟩ := w
  exact ⟨x, U, by rw [(s.2 p c (hd p (by simp))).1]; exact a, b, by have := s.1; omega, d.frame s (fun i hi => hd i (by simp [hi])), e, rfl⟩
theorem Jw.refl {w0 : World} {h : Hp} {p : Nat} {st : JS} {S : List Nat} (w : Jw w0 h p st S) : Step h h S S := Step.refl _ _ fun b hb => (w.lt b hb).2
theorem JNew_spec {w0 : World} {h : Hp} (n s : Int) (g : Nat) (hn : -9223372036854775808 ≤ n ∧ n ≤ 9223372036854775807) :
    ACalls prog w0 n_journal_New [.int .i64 n, .int .i64 s, .int .u64 g] h fun v h' =>
      (jok n s = true → v = .tuple #[ptr h.next, .int .i64 0] ∧ Jw w0 h' h.next ⟨n.toNat, s.toNat, g, [], 0, 0⟩ [h.next] ∧ Step h h' [] [h.next]) ∧ (jok n s = false → v = .tuple #[.pointer none, .int .i64 1] ∧ h' = h) := by
  refine ACalls.of_fit (by simp) fun f => c_journal_New (by simp) ?_
  refine callA_of (sizeRight_spec n hn) fun v hh ⟨e, e1⟩ f1 => ?_
  subst e e1
  cases hs : jsize n with
  | false =>
    simp only [unA_not, Bool.not_false, pureA_some, guardA_tf, pickA_true, guardA_undef, condA_true, retA_iff]
    simp [jok, hs]
  | true =>
    have hr := jsize_range hs
    simp only [unA_not, Bool.not_true, pureA_some, guardA_ff, binA_lss, pickA_false]
    by_cases h1 : s < 1
    · have c1 : decide (s < 1) = true := decide_eq_true h1
      have c2 : jok n s = false := by simp [jok]; omega
      simp only [c1, guardA_tf, guardA_undef, pickA_true, condA_true, retA_iff, c2]
      simp
    · have c1 : decide (s < 1) = false := decide_eq_false h1
      simp only [c1, guardA_ff, binA_gtr, pureA_some, pickA_false]
      by_cases h2 : 4096 < s
      · have c2 : decide ((4096 : Int) < s) = true := decide_eq_true h2
        have c3 : jok n s = false := by simp [jok]; omega
        simp only [c2, condA_true, retA_iff, c3]
        simp
      · have c2 : decide ((4096 : Int) < s) = false := decide_eq_false h2
        have c3 : jok n s = true := by simp [jok, hs]; omega
        simp only [c2, condA_false, buildA_iff, fillA_one, fillA_nil, isCell_int, true_and, List.set_cons_zero, List.set_cons_succ, List.length_cons, List.length_nil, boxA_agg, List.toList_toArray, retA_iff, c3]
        refine ⟨by omega, by omega, by omega, by simp, fun _ => ⟨by simp [ptr], ?_, (Step.refl hh [] (by simp)).new _ _⟩, by simp⟩
        have e1 : ((n.toNat : Nat) : Int) = n := Int.toNat_of_nonneg (by omega)
        have e2 : ((s.toNat : Nat) : Int) = s := Int.toNat_of_nonneg (by omega)
        refine ⟨.slice none 0 0, [], ?_, f.base, by simp, .nil, by simp, rfl⟩
        simp only [e1, e2]
        simp
section
variable {w0 : World} {h : Hp} {p : Nat} {st : JS} {S : List Nat}
theorem made_spec (w : Jw w0 h p st S) (o : st.Ok) : ACalls prog w0 n_journal_Writer_made [ptr p] h fun v h' => v = .bool true ∧ h' = h := by
  refine ACalls.of_fit (by simp [ptr]) fun f => c_journal_Writer_made (by simp [ptr]) ?_
  obtain ⟨x, T, a, b, c, -⟩ := w
  have := o.size
  simp [s_journal_Writer_made, ptr, a, Nat.not_lt.2 b]
  omega
theorem room_spec (w : Jw w0 h p st S) (o : st.Ok) : ACalls prog w0 n_journal_Writer_room [ptr p] h fun v h' => v = .int .i64 st.room ∧ h' = h := by
  refine ACalls.of_fit (by simp [ptr]) fun f => c_journal_Writer_room (by simp [ptr]) ?_
  obtain ⟨x, T, a, b, c, -⟩ := w
  have := o.size
  have e : IntKind.i64.wrap ((st.size : Int) - 24) = (st.room : Nat) := by rw [IntWalk.i64_in _ (by omega)]; unfold JS.room; omega
  simp [s_journal_Writer_room, ptr, a, Nat.not_lt.2 b, e]
theorem slSlA_from {x : Value} {n t : Nat} {vs : List Value} {U : List Nat} {kt : IntKind} {K : Kont} (v : Vec w0 h 1 x n vs U) (ht : t ≤ n)
    (hk : ∀ a c, (∀ h', Vec w0 h' 1 x n vs U → Src w0.heap.size h' 1 (.slice a (n - t) c) (n - t) (vs.drop t)) → K (.slice a (n - t) c) h) : slSlA 1 x (some (.int kt (t : Int))) none none K h := by
  rcases v with ⟨rfl, rfl, rfl, rfl⟩ | ⟨q, rfl, rfl, hB, hlt, hb, he, hl⟩
  · have : t = 0 := by omega
    subst this
    refine ⟨none, 0, 0, 0, 0, rfl, by simp [boundA], rfl, Nat.le_refl _, by simp, ?_⟩
    rw [if_neg (by decide)]
    exact ⟨Nat.le_refl _, hk none 0 fun h' _ => ⟨Nat.le_refl _, .inl ⟨rfl, rfl⟩⟩⟩
  · refine ⟨some ⟨q, 0, none⟩, n, ucap, t, n, rfl, by simp [boundA], rfl, ht, by simp, ?_⟩
    rw [if_pos rfl]
    refine ⟨.inl (Nat.le_refl _), _, rfl, he, ⟨vs, hb⟩, ?_⟩
    rw [addr_add, Nat.mul_one, Nat.zero_add]
    refine hk _ _ fun h' v' => ?_
    rcases v' with ⟨e, -⟩ | ⟨q', e, -, hB', -, hb', -, hl'⟩
    · simp at e
    · simp at e
      subst e
      have hs := src_own (w0 := w0) (h := h') (s := 1) (n := n - t) (o := t) (c := ucap) hB' hb' (by omega)
      have e1 : (vs.drop t).take ((n - t) * 1) = vs.drop t := by rw [List.take_of_length_le (by simp; omega)]
      rw [e1] at hs
      exact hs
theorem free_loop {K : Value → Hp → Prop} {a : Option Addr} {c : Nat} {vs : List Value} {rs : List (List UInt8)} {S : List Nat} {room : Nat} (hs : Src w0.heap.size h 1 (.slice a rs.length c) rs.length vs) (hr : ∀ (i : Nat) (r : List UInt8), rs[i]? = some r → ∃ a' c', vs[i]? = some (Value.slice a' r.length c')) (hvl : vs.length = rs.length)
    (hrm : ∀ r, r ∈ rs → r.length ≤ 4096) (hl : rs.length ≤ 1000000) : ∀ (post pre : List (List UInt8)) (n : Int), pre ++ post = rs → (-9000000000000000000 ≤ n - tot post ∧ n ≤ 9000000000000000000) → K (.int .i64 (n - tot post)) h →
    journal_Writer_free_L1 prog w0 K (post.length + 1) (.int .i64 n) (.slice a rs.length c) (.int .i64 (rs.length : Int)) (.int .i64 (pre.length : Int)) h := by
  intro post
  induction post with
  | nil =>
    intro pre n he hn hk
    have : pre = rs := by simpa using he
    subst this
    rw [journal_Writer_free_L1]
    simp only [journal_Writer_free_B1, binA_lss, pureA_some, Int.lt_irrefl, decide_false, condA_false]
    simpa using hk
  | cons r post ih =>
    intro pre n he hn hk
    have hlen : pre.length + (post.length + 1) = rs.length := by rw [← he]; simp
    have ht : tot (r :: post) = r.length + tot post := by simp [tot]
    have hg : rs[pre.length]? = some r := by rw [← he]; simp
    obtain ⟨a', c', hv⟩ := hr _ _ hg
    have hrl := hrm r (by rw [← he]; simp)
    rw [ht] at hn hk
    have c1 : decide ((pre.length : Int) < (rs.length : Int)) = true := decide_eq_true (by omega)
    have e5 : IntKind.i64.wrap ((pre.length : Int) + 1) = ((pre.length + 1 : Nat) : Int) := by rw [IntWalk.i64_in _ (by omega)]; simp
    have e6 : IntKind.i64.wrap (n - (r.length : Int)) = n - r.length := IntWalk.i64_in _ (by omega)
    rw [List.length_cons, journal_Writer_free_L1]
    simp only [journal_Writer_free_B1, binA_lss, pureA_some, c1, condA_true]
    refine idx_load1 hs hvl hv ?_
    simp only [lenSl_slice, pureA_some, binA_sub, e6, binA_add, e5]
    have := ih (pre ++ [r]) (n - r.length) (by simpa using he) (by omega) (by
      have : n - (r.length : Int) - (tot post : Nat) = n - ((r.length + tot post : Nat) : Int) := by omega
      rw [this]; exact hk)
    simpa using this
theorem Rows.slices {vs : List Value} {rs : List (List UInt8)} {S : List Nat} (q : Rows w0 h vs rs S) (i : Nat) (r : List UInt8) (hi : rs[i]? = some r) : ∃ a' c', vs[i]? = some (Value.slice a' r.length c') := by
  obtain ⟨v, T, e, vv, -⟩ := q.get hi
  obtain ⟨a, c, rfl⟩ := vv.slice
  exact ⟨a, c, e⟩
theorem free_spec (w : Jw w0 h p st S) (o : st.Ok) : ACalls prog w0 n_journal_Writer_free [ptr p] h fun v h' => v = .int .i64 st.free ∧ h' = h := by
  refine ACalls.of_fit (by simp [ptr]) fun f => c_journal_Writer_free (by simp [ptr]) ?_
  have hro := o.room
  have hse := o.sectors
  have hle := o.len
  have hta := o.good.1
  have w' := w
  obtain ⟨x, T, hb, hB, hlt, q, hp, rfl⟩ := w
  have hmul : (st.sectors - st.taken) * st.room ≤ 4096 * 4096 := Nat.mul_le_mul (by omega) (by omega)
  simp only [s_journal_Writer_free, fpureQ_k, ptr, fpureQ_nilA, fnilA_ptr, fpureQ_addA, faddA_ptr, addr_add, Nat.zero_add, freadQ_loadA]
  refine loadA_at hB hb (by rfl) ?_
  refine loadA_at hB hb (by rfl) ?_
  have e1 : IntKind.i64.wrap ((st.sectors : Int) - (st.taken : Int)) = ((st.sectors - st.taken : Nat) : Int) := by rw [IntWalk.i64_in _ (by omega)]; omega
  simp only [binA_sub, fpureQ_pureA, fpureA_some, allA_one, e1]
  refine callA_of (room_spec w' o) fun v h1 ⟨e, e1⟩ f1 => ?_
  subst e e1
  simp only [stillA_iff, allA_cons, allA_one, sameQ_loadA]
  refine ⟨⟨loadA_at hB hb (by rfl) rfl, loadA_at hB hb (by rfl) rfl⟩, ?_⟩
  have e2 : IntKind.i64.wrap (((st.sectors - st.taken : Nat) : Int) * (st.room : Int)) = (((st.sectors - st.taken) * st.room : Nat) : Int) := by rw [← Int.natCast_mul, IntWalk.i64_in _ (by omega)]
  simp only [binA_mul, fpureA_some, e2, fpureQ_k, fendA]
  refine loadA_at hB hb (by rfl) ?_
  refine loadA_at hB hb (by rfl) ?_
  obtain ⟨vs, U, S0, v, rr, d, rfl⟩ := q
  simp only [freadQ_slSlA]
  refine slSlA_from v hta fun a c hsrc' => ?_
  have hsrc := hsrc' _ v
  simp only [lenSl_slice, fpureQ_pureA, fpureA_some, fpureQ_k, fendA]
  have hl2 : (st.rooms.drop st.taken).length = st.rooms.length - st.taken := by simp
  have hrl := rr.len
  refine ⟨(st.rooms.drop st.taken).length + 1, ?_⟩
  have htot := o.tot
  have := free_loop (w0 := w0) (h := h1) (K := fun y3 => retA [y3] fun v h' => v = .int .i64 st.free ∧ h' = h1) (a := a) (c := c) (vs := vs.drop st.taken) (rs := st.rooms.drop st.taken) (S := []) (room := st.room) (by rw [hl2]; exact hsrc) (fun i r hi => by
    rw [List.getElem?_drop] at hi ⊢
    exact rr.slices _ _ hi) (by simp; omega) (fun r hr => by have := o.good.2.1 r (List.mem_of_mem_drop hr); omega) (by omega) (st.rooms.drop st.taken) [] (((st.sectors - st.taken) * st.room : Nat) : Int) rfl (by omega) (by
      simp only [retA_iff, oneOf_one]
      exact ⟨by simp, by trivial, by trivial⟩)
  rw [hl2] at this
  simpa [hl2] using this
theorem Left_spec (w : Jw w0 h p st S) (o : st.Ok) : ACalls prog w0 n_journal_Writer_Left [ptr p] h fun v h' => v = .int .i64 st.left ∧ h' = h := by
  refine ACalls.of_fit (by simp [ptr]) fun f => c_journal_Writer_Left (by simp [ptr]) ?_
  refine callA_of (made_spec w o) fun v h1 ⟨e, e1⟩ f1 => ?_
  subst e e1
  simp only [unA_not, Bool.not_true, pureA_some, condA_false]
  refine callA_of (free_spec w o) fun v h2 ⟨e, e1⟩ f2 => ?_
  subst e e1
  have hmul : (st.sectors - st.taken) * st.room ≤ 4096 * 4096 := Nat.mul_le_mul (by have := o.sectors; omega) (by have := o.room; omega)
  have e1 : IntKind.i64.wrap (st.free - 4) = st.free - 4 := IntWalk.i64_in _ (by have := o.tot; unfold JS.free; omega)
  simp [e1, JS.left]
end
theorem wrap_u8_nat (n : Nat) : (.int .u8 (IntKind.u8.wrap (n : Int)) : Value) = bv (UInt8.ofNat n) := by rw [bv_ofNat, IntKind.wrap_u8]; simp
theorem shr_nat {k : IntKind} {k' : IntKind} (n s : Nat) (hs : s ≤ k.bits) : binA .shr (.int k (n : Int)) (.int k' (s : Int)) = some (.int k ((n / 2 ^ s : Nat) : Int)) := by
  rw [binA_shr _ _ _ _ (by omega), Int.toNat_natCast, Nat.min_eq_left hs]; simp
theorem number_spec {w0 : World} {h : Hp} (n : Nat) : ACalls prog w0 n_journal_number [.int .i64 n] h fun v h' => v = .slice (some ⟨h.next, 0, none⟩) 4 4 ∧ h' = h.new (bvs (be 4 n)) 1 := by
  refine ACalls.of_fit (by simp) fun f => c_journal_number (by simp) ?_
  have e1 := shr_nat (k := .i64) (k' := .u64) n 24 (by decide)
  have e2 := shr_nat (k := .i64) (k' := .u64) n 16 (by decide)
  have e3 := shr_nat (k := .i64) (k' := .u64) n 8 (by decide)
  have hz : zerosL [(.int .u8 0 : Value)] 4 = [.int .u8 0, .int .u8 0, .int .u8 0, .int .u8 0] := rfl
  have hb : be 4 n = [UInt8.ofNat (n / 2 ^ 24), UInt8.ofNat (n / 2 ^ 16), UInt8.ofNat (n / 2 ^ 8), UInt8.ofNat n] := by simp [be]
  simp only [s_journal_number, show (24 : Int) = ((24 : Nat) : Int) from rfl, show (16 : Int) = ((16 : Nat) : Int) from rfl, show (8 : Int) = ((8 : Nat) : Int) from rfl, e1, e2, e3, pureA_some, convA_int, hz, bslA_iff, fillA_one, fillA_nil, isCell_int, isCell_bv, true_and, List.set_cons_zero, List.set_cons_succ, List.length_cons, List.length_nil, wrap_u8_nat, retA_iff, oneOf_one]
  refine ⟨by omega, by omega, by omega, by omega, by simp, ?_⟩
  rw [hb]
  rfl
def Buf (w0 : World) (h : Hp) (x : Value) (rem : List UInt8) (q : Nat) : Prop :=
  (rem = [] ∧ ∃ a c, x = .slice a 0 c) ∨ ∃ all o c, x = .slice (some ⟨q, o, none⟩) rem.length c ∧ w0.heap.size ≤ q ∧ q < h.next ∧ h.blk q = some (bvs all) ∧ all.drop o = rem ∧ rem ≠ [] ∧ ((c = ucap ∧ h.esz q = 1) ∨ (c = rem.length ∧ c < ucap))
section
variable {w0 : World} {h h' : Hp} {x : Value} {rem : List UInt8} {q : Nat} {K : Kont}
theorem Buf.slice (b : Buf w0 h x rem q) : ∃ a c, x = .slice a rem.length c := by
  rcases b with ⟨rfl, a, c, rfl⟩ | ⟨all, o, c, rfl, -⟩ <;> exact ⟨_, _, rfl⟩
theorem Buf.frame (b : Buf w0 h x rem q) {T T' : List Nat} (st : Step h h' T T') (hd : q ∉ T) : Buf w0 h' x rem q := by
  rcases b with h1 | ⟨all, o, c, rfl, hB, hlt, hb, hr, hn, hc⟩
  · exact .inl h1
  · obtain ⟨k1, k2⟩ := st.keep q hlt hd
    exact .inr ⟨all, o, c, rfl, hB, by have := st.next; omega, by rw [k1]; exact hb, hr, hn, by rw [k2]; exact hc⟩
theorem Buf.head (b : Buf w0 h x rem q) {n : Nat} {k1 k2 : IntKind} (h0 : 0 < n) (hn : n ≤ rem.length) (hnu : n < ucap) (hk : ∀ a c, Src w0.heap.size h 1 (.slice a n c) n (bvs (rem.take n)) → K (.slice a n c) h) :
    slSlA 1 x none (some (.int k1 (n : Int))) (some (.int k2 (n : Int))) K h := by
  rcases b with ⟨rfl, -⟩ | ⟨all, o, c, rfl, hB, hlt, hb, hr, hne, hc⟩
  · simp at hn; omega
  · refine ⟨_, _, _, 0, n, rfl, rfl, by simp [boundA], by omega, by simp, n, by simp [boundA], Nat.le_refl _, hnu, ?_, ?_⟩
    · rcases hc with ⟨rfl, -⟩ | ⟨rfl, -⟩
      · rw [if_pos rfl]; exact hn
      · split <;> exact hn
    · rw [if_neg (by omega)]
      have hs := src_own (w0 := w0) (h := h) (s := 1) (n := n) (o := o) (c := n) hB hb (by
        have : (all.drop o).length = rem.length := by rw [hr]
        simp at this ⊢; omega)
      have e1 : ((bvs all).drop o).take (n * 1) = bvs (rem.take n) := by rw [bvs_drop, bvs_take, hr, Nat.mul_one]
      rw [e1] at hs
      simpa using hk _ _ hs
theorem Buf.tail (b : Buf w0 h x rem q) {n : Nat} {k1 : IntKind} (h0 : 0 < n) (hn : n ≤ rem.length) (hk : ∀ x', Buf w0 h x' (rem.drop n) q → K x' h) : slSlA 1 x (some (.int k1 (n : Int))) none none K h := by
  rcases b with ⟨rfl, -⟩ | ⟨all, o, c, rfl, hB, hlt, hb, hr, hne, hc⟩
  · simp at hn; omega
  · refine ⟨_, _, _, n, rem.length, rfl, by simp [boundA], rfl, hn, by simp, ?_⟩
    have hl : (rem.drop n).length = rem.length - n := by simp
    rcases hc with ⟨rfl, hes⟩ | ⟨rfl, hcu⟩
    · show (if ucap = ucap then _ else _)
      rw [if_pos rfl]
      refine ⟨.inl (Nat.le_refl _), _, rfl, hes, ⟨_, hb⟩, hk _ ?_⟩
      by_cases hz : rem.drop n = []
      · have : rem.length - n = 0 := by rw [← hl, hz]; rfl
        rw [this]
        exact .inl ⟨hz, _, _, rfl⟩
      · refine .inr ⟨all, o + n, ucap, by rw [addr_add, Nat.mul_one, hl], hB, hlt, hb, by rw [← hr, List.drop_drop], hz, .inl ⟨rfl, hes⟩⟩
    · show (if rem.length = ucap then _ else _)
      rw [if_neg (by omega)]
      refine ⟨Nat.le_refl _, hk _ ?_⟩
      by_cases hz : rem.drop n = []
      · have : rem.length - n = 0 := by rw [← hl, hz]; rfl
        rw [this]
        exact .inl ⟨hz, _, _, rfl⟩
      · have hne2 : ¬ rem.length = n := by
          intro e
          apply hz
          exact List.drop_eq_nil_of_le (by omega)
        rw [if_neg hne2]
        refine .inr ⟨all, o + n, rem.length - n, by simp, hB, hlt, hb, by rw [← hr, List.drop_drop], hz, .inr ⟨by rw [hl], by omega⟩⟩

theorem room_any {p : Nat} {st : JS} {S : List Nat} {h : Hp} (hsz : 512 ≤ st.size ∧ st.size ≤ 4096) (w : Jw w0 h p st S) : ACalls prog w0 n_journal_Writer_room [.pointer (some ⟨p, 0, none⟩)] h fun v h' => v = .int .i64 st.room ∧ h' = h := by
  refine ACalls.of_fit (by simp) fun f => c_journal_Writer_room (by simp) ?_
  obtain ⟨x, T, a, b, c, -⟩ := w
  have e : IntKind.i64.wrap ((st.size : Int) - 24) = (st.room : Nat) := by rw [IntWalk.i64_in _ (by omega)]; unfold JS.room; omega
  simp [s_journal_Writer_room, a, Nat.not_lt.2 b, e]
theorem idxSlA_own {b0 n : Nat} {kt : IntKind} {i c : Nat} {h : Hp} {K : Kont} (hi : i < n) (hk : K (.pointer (some ⟨b0, i, none⟩)) h) : idxSlA 1 (.slice (some ⟨b0, 0, none⟩) n c) (.int kt (i : Int)) K h := by
  rw [idxSlA_iff]
  refine ⟨by omega, by omega, ?_⟩
  rw [addr_add, Int.toNat_natCast, Nat.mul_one, Nat.zero_add]
  exact hk
theorem chunk_step {p : Nat} {st : JS} {S : List Nat} {fs : List (List UInt8)} {r : List UInt8} {k1 : Value → Hp → Prop} {m : Nat} {h : Hp} {x5 : Value} (w : Jw w0 h p st S) (hro : 488 ≤ st.room ∧ st.room ≤ 4072) (hsz : 512 ≤ st.size ∧ st.size ≤ 4096) (b : Buf w0 h x5 rem q) (hq : q ∉ S) (hne : rem ≠ []) (hl : rem.length ≤ 1000000)
    (hrs : st.rooms = fs ++ [r]) (ht : st.taken ≤ fs.length) (hr : r.length < st.room) (hn : fs.length ≤ 1000000)
    (hk : ∀ x5' h' S', Jw w0 h' p { st with rooms := fs ++ [r ++ rem.take (min rem.length (st.room - r.length))] } S' → Buf w0 h' x5' (rem.drop (min rem.length (st.room - r.length))) q → q ∉ S' → Step h h' S S' →
      journal_Writer_Append_L1 prog w0 k1 m (ptr p) x5' h') :
    journal_Writer_Append_L1 prog w0 k1 (m + 1) (ptr p) x5 h := by
  have w' := w
  obtain ⟨ax, cx, hx5⟩ := b.slice
  obtain ⟨x, T, hb, hB, hlt, vv, hp, rfl⟩ := w
  have hpos : 0 < rem.length := List.length_pos_iff.2 hne
  have hrl : st.rooms.length = fs.length + 1 := by rw [hrs]; simp
  have c1 : decide ((0 : Int) < (rem.length : Int)) = true := decide_eq_true (by omega)
  have e1 : IntKind.i64.wrap ((st.rooms.length : Int) - 1) = (fs.length : Int) := by rw [IntWalk.i64_in _ (by omega)]; omega
  have c2 : decide ((fs.length : Int) < (st.taken : Int)) = false := decide_eq_false (by omega)
  have c3 : ((r.length : Int) == (st.room : Int)) = false := by rw [beq_eq_false_iff_ne]; omega
  have hTlt := vv.lt
  obtain ⟨vs, U, S0, vx, rw_, d, rfl⟩ := vv
  have hvsl := rw_.len
  rw [hrs] at rw_
  obtain ⟨vs', v, S', T0, rfl, rw', vl, dl, rfl⟩ := rw_.last
  have hvl : (vs' ++ [v])[fs.length]? = some v := by
    have := rw'.len
    rw [List.getElem?_append_right (by omega)]; simp [this]
  rcases vx with ⟨-, e, -⟩ | ⟨b0, rfl, rfl, hb0B, hb0l, hb0, hb0e, -⟩
  · omega
  obtain ⟨av, cv, hvs⟩ := vl.slice
  obtain ⟨n, hnm⟩ : ∃ n, n = min rem.length (st.room - r.length) := ⟨_, rfl⟩
  have hn0 : 0 < n := by omega
  have e2 : IntKind.i64.wrap ((st.room : Int) - (r.length : Int)) = ((st.room - r.length : Nat) : Int) := by rw [IntWalk.i64_in _ (by omega)]; omega
  have e3 : min (rem.length : Int) ((st.room - r.length : Nat) : Int) = (n : Int) := by omega
  rw [← hnm] at hk
  rw [hx5, journal_Writer_Append_L1]
  simp only [journal_Writer_Append_B1, ptr, wd, wa, c1]
  refine loadA_at hB hb (by rfl) ?_
  simp only [wd, wa, e1]
  refine loadA_at hB hb (by rfl) ?_
  simp only [wd, wa, c2]
  refine loadA_at hB hb (by rfl) ?_
  refine idxSlA_own (by omega) ?_
  refine loadA_at hb0B hb0 hvl ?_
  rw [hvs]
  simp only [wd, wa]
  refine callA_of (room_any hsz w') fun v1 h1 ⟨e, e1'⟩ f1 => ?_
  subst e e1'
  simp only [stillA_iff, allA_cons, allA_one, sameQ_loadA]
  refine ⟨⟨loadA_at hb0B hb0 hvl hvs, loadA_at hB hb (by rfl) rfl⟩, ?_⟩
  simp only [wd, wa, c3]
  refine loadA_at hB hb (by rfl) ?_
  refine idxSlA_own (by omega) ?_
  refine loadA_at hb0B hb0 hvl ?_
  rw [hvs]
  simp only [wd, wa]
  refine callA_of (room_any hsz w') fun v1 h1 ⟨e, e1'⟩ f1 => ?_
  subst e e1'
  simp only [stillA_iff, allA_cons, allA_one, sameQ_loadA]
  refine ⟨⟨loadA_at hb0B hb0 hvl hvs, loadA_at hB hb (by rfl) rfl⟩, ?_⟩
  simp only [wd, wa, e2, foldA_cons, foldA_nil, min2A_int, Option.bind_some, e3]
  refine loadA_at hB hb (by rfl) ?_
  refine loadA_at hB hb (by rfl) ?_
  refine idxSlA_own (by omega) ?_
  refine loadA_at hb0B hb0 hvl ?_
  rw [← hx5]
  refine b.head hn0 (by omega) (by show n < 18446744073709551616; omega) fun a2 c2' hsrc => ?_
  have hpT0 : p ∉ T0 := fun e => hp (by simp [e])
  refine appA_vec (by omega) vl (by simp) hsrc (by simp; omega) (by omega) (by omega) (by omega) (fun v' h' T' vv' st' => ?_)
  have hb' : h'.blk p = _ := (st'.keep p hlt hpT0).1.trans hb
  have hb0' : h'.blk b0 = _ := (st'.keep b0 hb0l (fun e => d b0 (by simp) (by simp [e]))).1.trans hb0
  have hb0e' : h'.esz b0 = 1 := (st'.keep b0 hb0l (fun e => d b0 (by simp) (by simp [e]))).2.trans hb0e
  simp only [stillA_iff, allA_one, sameQ_loadA]
  refine ⟨loadA_at hB hb' (by rfl) rfl, ?_⟩
  refine idxSlA_own (by omega) ?_
  obtain ⟨av', cv', hvs'⟩ := vv'.slice
  have hlv := rw'.len
  rw [storeA_own]
  refine ⟨_, hb0B, hb0', by simp; omega, by rw [hvs']; rfl, ?_⟩
  have hset : (vs' ++ [v]).set fs.length v' = vs' ++ [v'] := by
    rw [List.set_append_right _ _ (by omega), show fs.length - vs'.length = 0 by omega]; rfl
  rw [hset]
  have hqT0 : q ∉ T0 := fun e => hq (by simp [e])
  have hqb0 : q ≠ b0 := fun e => hq (by simp [e])
  have bf := b.frame st' hqT0
  have st2 : Step h1 (h'.put b0 (vs' ++ [v'])) (p :: ([b0] ++ (S' ++ T0))) (p :: ([b0] ++ (S' ++ T'))) := by
    refine (st'.wide (T := p :: ([b0] ++ (S' ++ T0))) (T' := p :: ([b0] ++ (S' ++ T'))) (fun b hb => by simp [hb]) (fun b hb => ?_)).put (by simp) _
    simp only [List.mem_cons, List.mem_append, List.not_mem_nil, or_false] at hb
    rcases hb with rfl | rfl | hb | hb
    · exact .inr ⟨by simp, hlt⟩
    · exact .inr ⟨by simp, hb0l⟩
    · exact .inr ⟨by simp [hb], (rw'.lt b hb).2⟩
    · exact .inl hb
  have bf2 : Buf w0 (h'.put b0 (vs' ++ [v'])) x5 rem q := by
    rcases bf with h1 | ⟨all, o, c, g1, g2, g3, g4, g5, g6, g7⟩
    · exact .inl h1
    · exact .inr ⟨all, o, c, g1, g2, g3, by simpa [hqb0] using g4, g5, g6, g7⟩
  have hT'n : ∀ b, b ∈ T' → b ∈ T0 ∨ h1.next ≤ b := fun b hb => (st'.own b hb).2
  have dT' : ∀ b, b ∈ T' → b ∉ S' := fun b hb hs => by
    rcases hT'n b hb with e | e
    · exact dl b e hs
    · have := (rw'.lt b hs).2; omega
  have hpT' : p ∉ T' := fun e => by
    rcases hT'n p e with g | g
    · exact hpT0 g
    · omega
  have hb0T' : b0 ∉ T' := fun e => by
    rcases hT'n b0 e with g | g
    · exact d b0 (by simp) (by simp [g])
    · omega
  refine bf2.tail hn0 (by omega) fun x5' bf3 => ?_
  refine hk x5' _ (p :: ([b0] ++ (S' ++ T'))) ⟨.slice (some ⟨b0, 0, none⟩) st.rooms.length ucap, [b0] ++ (S' ++ T'), ?_, hB, by have := st2.next; omega, ⟨vs' ++ [v'], [b0], S' ++ T', ?_, ?_, ?_, rfl⟩, ?_, rfl⟩ bf3 ?_ st2
  · have hpb0 : p ≠ b0 := fun e => hp (by simp [e])
    simp only [put_blk, if_neg hpb0]
    exact hb'
  · refine .inr ⟨b0, by rw [hrl]; simp, rfl, hb0B, by have := st2.next; omega, by simp, by simpa using hb0e', by simp; omega⟩
  · have hr1 := (rw'.frame st' (fun b hb he => dl b he hb)).put (p := b0) (fun e => d b0 (by simp) (by simp [e])) (vs' ++ [v'])
    have hv1 := vv'.put (p := b0) hb0T' (vs' ++ [v'])
    refine .snoc hr1 ?_ dT'
    have e4 : r.length + n = (r ++ rem.take n).length := by simp; omega
    rw [e4] at hv1
    simpa using hv1
  · intro b hb he
    simp at hb
    subst hb
    rcases List.mem_append.1 he with g | g
    · exact d b (by simp) (by simp [g])
    · exact hb0T' g
  · intro e
    simp only [List.mem_cons, List.mem_append, List.not_mem_nil, or_false] at e
    rcases e with e | e | e
    · exact hp (by simp [e])
    · exact hp (by simp [e])
    · exact hpT' e
  · intro e
    simp only [List.mem_cons, List.mem_append, List.not_mem_nil, or_false] at e
    rcases e with e | e | e | e
    · exact hq (by simp [e])
    · exact hq (by simp [e])
    · exact hq (by simp [e])
    · rcases hT'n q e with g | g
      · exact hqT0 g
      · rcases bf3 with ⟨-, -⟩ | ⟨all, o, c, g1, g2, g3, -⟩
        · rcases b with ⟨e0, -⟩ | ⟨all, o, c, g1, g2, g3, -⟩
          · exact hne e0
          · omega
        · rcases b with ⟨e0, -⟩ | ⟨all, o, c, g1, g2, g3, -⟩
          · exact hne e0
          · omega
theorem open_step {p : Nat} {st : JS} {S : List Nat} {k1 : Value → Hp → Prop} {m : Nat} {h : Hp} {x5 : Value} (w : Jw w0 h p st S) (hsz : 512 ≤ st.size ∧ st.size ≤ 4096) (b : Buf w0 h x5 rem q) (hq : q ∉ S) (hne : rem ≠ []) (hl : rem.length ≤ 1000000)
    (ht : st.taken ≤ st.rooms.length) (ho : st.rooms.length = st.taken ∨ ∃ fs r, st.rooms = fs ++ [r] ∧ r.length = st.room) (hn : st.rooms.length ≤ 1000000)
    (hk : ∀ h' S', Jw w0 h' p { st with rooms := st.rooms ++ [[]] } S' → Buf w0 h' x5 rem q → q ∉ S' → Step h h' S S' → journal_Writer_Append_L1 prog w0 k1 m (ptr p) x5 h') :
    journal_Writer_Append_L1 prog w0 k1 (m + 1) (ptr p) x5 h := by
  have w' := w
  obtain ⟨ax, cx, hx5⟩ := b.slice
  obtain ⟨x, T, hb, hB, hlt, vv, hp, rfl⟩ := w
  have hpos : 0 < rem.length := List.length_pos_iff.2 hne
  have c1 : decide ((0 : Int) < (rem.length : Int)) = true := decide_eq_true (by omega)
  have e1 : IntKind.i64.wrap ((st.rooms.length : Int) - 1) = (st.rooms.length : Int) - 1 := IntWalk.i64_in _ (by omega)
  obtain ⟨aR, cR, hxR⟩ := vv.slice
  have hz : zerosL [(.slice none 0 0 : Value)] 1 = [.slice none 0 0] := rfl
  -- the new room
  have fin : ∀ {K : Kont}, (∀ x' h' S', VVec w0 h' x' (st.rooms ++ [[]]) S' → Step h h' T S' → Buf w0 h' x5 rem q → K x' h') → bslA [(0, 1, false, .slice none 0 0)] (zerosL [.slice none 0 0] 1) 1 1 (fun v61 => appA w0 1 24 x v61 K) h := by
    intro K hK
    simp only [hz, bslA_iff, fillA_one, fillA_nil, isCell_slice, true_and, List.set_cons_zero, List.length_cons, List.length_nil]
    refine ⟨by omega, ?_⟩
    have s1 := (Step.refl h [] (by simp)).new [(.slice none 0 0 : Value)] 1
    have v1 := vv.frame s1 (by simp)
    refine appA_vvec (r := []) (T := []) (by simp; omega) v1 (src_new (by omega) (by simp)) .nil (by simp) (by omega) (by omega) fun x' h' S' v' st' => ?_
    have st0 : Step h h' T S' := (((Step.refl h T fun b hb => (vv.lt b hb).2).new [(.slice none 0 0 : Value)] 1).less (T := T) (fun b hb => by simp [hb])).trans (by simpa using st')
    exact hK x' h' S' v' st0 (b.frame st0 fun e => hq (by simp [e]))
  have fin2 : loadA w0 (.pointer (some ⟨p, 3, none⟩)) (fun v60 => bslA [(0, 1, false, .slice none 0 0)] (zerosL [.slice none 0 0] 1) 1 1 fun v61 => appA w0 1 24 v60 v61 fun v62 => storeA w0 (.pointer (some ⟨p, 3, none⟩)) v62 fun _ => journal_Writer_Append_L1 prog w0 k1 m (.pointer (some ⟨p, 0, none⟩)) x5) h := by
    refine loadA_at hB hb (by rfl) ?_
    refine fin fun x' h' S' v' st' b' => ?_
    have hb' : h'.blk p = _ := (st'.keep p hlt hp).1.trans hb
    obtain ⟨a', c', hx'⟩ := v'.slice
    rw [storeA_own]
    refine ⟨_, hB, hb', by simp, by rw [hx']; rfl, ?_⟩
    have hpS' : p ∉ S' := fun e => by rcases (st'.own p e).2 with g | g; exact hp g; omega
    have hqp : q ≠ p := fun e => hq (by simp [e])
    refine hk _ (p :: S') ⟨x', S', by simp, hB, by have := st'.next; simp; omega, v'.put hpS' _, hpS', rfl⟩ ?_ ?_ ?_
    · rcases b' with h1 | ⟨all, o, c, g1, g2, g3, g4, g5, g6, g7⟩
      · exact .inl h1
      · exact .inr ⟨all, o, c, g1, g2, g3, by simpa [hqp] using g4, g5, g6, g7⟩
    · intro e
      rcases List.mem_cons.1 e with e | e
      · exact hqp e
      · rcases (st'.own q e).2 with g | g
        · exact hq (by simp [g])
        · rcases b with ⟨e0, -⟩ | ⟨all, o, c, g1, g2, g3, -⟩
          · exact hne e0
          · omega
    · exact (st'.wide (T := p :: T) (T' := p :: S') (fun b hb => by simp [hb]) (fun b hb => by
        rcases List.mem_cons.1 hb with rfl | hb
        · exact .inr ⟨by simp, hlt⟩
        · exact .inl hb)).put (by simp) _
  rw [journal_Writer_Append_L1]
  by_cases hta : st.rooms.length = st.taken
  · have c2 : decide ((st.rooms.length : Int) - 1 < (st.taken : Int)) = true := decide_eq_true (by omega)
    rw [hx5]
    simp only [journal_Writer_Append_B1, ptr, wd, wa, c1]
    refine loadA_at hB hb (by rfl) ?_
    rw [hxR]
    simp only [wd, wa, e1]
    refine loadA_at hB hb (by rfl) ?_
    simp only [wd, wa, c2, stillA_iff, allA_cons, allA_one]
    refine ⟨⟨?_, ?_⟩, ?_⟩
    · simp [sameQ]
    · simp [sameQ]
    · rw [← hx5]; exact fin2
  · obtain ⟨fs, r, hrs, hfull⟩ := ho.resolve_left hta
    have hrl : st.rooms.length = fs.length + 1 := by rw [hrs]; simp
    have c2 : decide ((fs.length : Int) < (st.taken : Int)) = false := decide_eq_false (by omega)
    have c3 : ((r.length : Int) == (st.room : Int)) = true := by rw [beq_iff_eq, hfull]
    have e4 : IntKind.i64.wrap ((st.rooms.length : Int) - 1) = (fs.length : Int) := by rw [e1]; omega
    obtain ⟨b0, vs, v, T0, hxs, hb0B, hb0, hb0e, hvl, hvsl, vl, hT0⟩ := vv.get (i := fs.length) (r := r) (by rw [hrs]; simp)
    obtain ⟨av, cv, hvs⟩ := vl.slice
    subst hxs
    rw [hx5]
    simp only [journal_Writer_Append_B1, ptr, wd, wa, c1]
    refine loadA_at hB hb (by rfl) ?_
    simp only [wd, wa, e4]
    refine loadA_at hB hb (by rfl) ?_
    simp only [wd, wa, c2]
    refine loadA_at hB hb (by rfl) ?_
    refine idxSlA_own (by omega) ?_
    refine loadA_at hb0B hb0 hvl ?_
    rw [hvs]
    simp only [wd, wa]
    refine callA_of (room_any hsz w') fun v1 h1 ⟨e, e1'⟩ f1 => ?_
    subst e e1'
    simp only [stillA_iff, allA_cons, allA_one, sameQ_loadA]
    refine ⟨⟨loadA_at hb0B hb0 hvl hvs, loadA_at hB hb (by rfl) rfl⟩, ?_⟩
    simp only [wd, wa, c3]
    rw [← hx5]
    exact fin2
end
section
variable {w0 : World} {q p : Nat} {k1 : Value → Hp → Prop}
theorem append_loop : ∀ (n : Nat) (rem : List UInt8) (fuel : Nat) (st : JS) (h : Hp) (x5 : Value) (S : List Nat), rem.length ≤ n → 2 * rem.length + 1 ≤ fuel → rem.length ≤ 1000000 → Jw w0 h p st S → (488 ≤ st.room ∧ st.room ≤ 4072) → (512 ≤ st.size ∧ st.size ≤ 4096) → Buf w0 h x5 rem q → q ∉ S →
    st.taken ≤ st.rooms.length → (∀ r, r ∈ st.rooms → r.length ≤ st.room) → (pushAll st.room st.taken st.rooms rem).length ≤ 1000000 →
    (∀ h' S', Jw w0 h' p { st with rooms := pushAll st.room st.taken st.rooms rem } S' → Step h h' S S' → k1 (ptr p) h') →
    journal_Writer_Append_L1 prog w0 k1 fuel (ptr p) x5 h := by
  intro n
  induction n with
  | zero =>
    intro rem fuel st h x5 S hn hf hl w hro hsz b hq ht hrm hN hk
    have : rem = [] := List.eq_nil_of_length_eq_zero (by omega)
    subst this
    obtain ⟨m, rfl⟩ : ∃ m, fuel = m + 1 := ⟨fuel - 1, by omega⟩
    obtain ⟨a, c, rfl⟩ := b.slice
    rw [journal_Writer_Append_L1]
    simp only [journal_Writer_Append_B1, lenSl_slice, pureA_some, binA_gtr, List.length_nil, show decide ((0 : Int) < ((0 : Nat) : Int)) = false from rfl, condA_false]
    exact hk h S w w.refl
  | succ n ih =>
    intro rem fuel st h x5 S hn hf hl w hro hsz b hq ht hrm hN hk
    by_cases hne : rem = []
    · subst hne
      exact ih [] fuel st h x5 S (by simp) hf hl w hro hsz b hq ht hrm hN hk
    have hpos : 0 < rem.length := List.length_pos_iff.2 hne
    have hml := pushAll_len (room := st.room) (taken := st.taken) rem st.rooms
    -- a chunk, and on
    have step : ∀ (m : Nat) (st : JS) (h : Hp) (x5 : Value) (S : List Nat) (fs : List (List UInt8)) (r : List UInt8), 2 * rem.length ≤ m + 1 → Jw w0 h p st S → (488 ≤ st.room ∧ st.room ≤ 4072) → (512 ≤ st.size ∧ st.size ≤ 4096) → Buf w0 h x5 rem q → q ∉ S → st.rooms = fs ++ [r] → st.taken ≤ fs.length → r.length < st.room →
        (∀ r, r ∈ st.rooms → r.length ≤ st.room) → (pushAll st.room st.taken st.rooms rem).length ≤ 1000000 →
        (∀ h' S', Jw w0 h' p { st with rooms := pushAll st.room st.taken st.rooms rem } S' → Step h h' S S' → k1 (ptr p) h') → journal_Writer_Append_L1 prog w0 k1 (m + 1) (ptr p) x5 h := by
      intro m st h x5 S fs r hm w hro hsz b hq hrs ht hr hrm hN hk
      obtain ⟨j, hj⟩ : ∃ j, j = min rem.length (st.room - r.length) := ⟨_, rfl⟩
      have hj0 : 0 < j := by omega
      have hpa : pushAll st.room st.taken st.rooms rem = pushAll st.room st.taken (fs ++ [r ++ rem.take j]) (rem.drop j) := by
        conv => lhs; rw [← List.take_append_drop j rem]
        rw [pushAll_append, hrs, pushAll_chunk (by omega) _ _ (by simp; omega)]
      have hml := pushAll_len (room := st.room) (taken := st.taken) rem st.rooms
      rw [hrs] at hml
      simp at hml
      rw [hrs] at hN
      refine chunk_step w hro hsz b hq hne hl hrs ht hr (by omega) fun x5' h' S' w' b' hq' s' => ?_
      rw [← hj] at w' b'
      refine ih (rem.drop j) m _ h' x5' S' (by simp; omega) (by simp; omega) (by simp; omega) w' hro hsz b' hq' (by simp; omega) ?_ ?_ (fun h2 S2 w2 s2 => hk h2 S2 ?_ (s'.trans s2))
      · intro x hx
        simp only [List.mem_append, List.mem_singleton] at hx
        rcases hx with e | e
        · exact hrm x (by rw [hrs]; simp [e])
        · subst e; simp only [JS.room] at *; simp; omega
      · rw [hrs] at hpa
        show (pushAll st.room st.taken (fs ++ [r ++ rem.take j]) (rem.drop j)).length ≤ _
        rw [← hpa]; exact hN
      · rw [hpa]; exact w2
    by_cases ho : st.rooms.length = st.taken ∨ ∃ fs r, st.rooms = fs ++ [r] ∧ r.length = st.room
    · obtain ⟨m, rfl⟩ : ∃ m, fuel = m + 1 + 1 := ⟨fuel - 2, by omega⟩
      have hpo : pushAll st.room st.taken st.rooms rem = pushAll st.room st.taken (st.rooms ++ [[]]) rem := by
        obtain ⟨b0, l, rfl⟩ := List.exists_cons_of_ne_nil hne
        exact pushAll_open (by omega) ht ho l
      refine open_step w hsz b hq hne hl ht ho (by omega) fun h' S' w' b' hq' s' => ?_
      refine step m { st with rooms := st.rooms ++ [[]] } h' x5 S' st.rooms [] (by omega) w' hro hsz b' hq' rfl ht (by show 0 < st.room; omega) ?_ ?_ (fun h2 S2 w2 s2 => hk h2 S2 ?_ (s'.trans s2))
      · intro x hx
        simp only [List.mem_append, List.mem_singleton] at hx
        rcases hx with e | e
        · exact hrm x e
        · subst e; simp
      · show (pushAll st.room st.taken (st.rooms ++ [[]]) rem).length ≤ _
        rw [← hpo]; exact hN
      · rw [hpo]; exact w2
    · obtain ⟨m, rfl⟩ : ∃ m, fuel = m + 1 := ⟨fuel - 1, by omega⟩
      have h1 : ¬ st.rooms.length = st.taken := fun e => ho (.inl e)
      rcases List.eq_nil_or_concat st.rooms with e | ⟨fs, r, hrs⟩
      · rw [e] at h1 ht; simp at h1 ht; omega
      · rw [List.concat_eq_append] at hrs
        have hr1 := hrm r (by rw [hrs]; simp)
        have hr2 : r.length ≠ st.room := fun e => ho (.inr ⟨fs, r, hrs, e⟩)
        have hl2 : st.rooms.length = fs.length + 1 := by rw [hrs]; simp
        exact step m st h x5 S fs r (by omega) w hro hsz b hq hrs (by omega) (by omega) hrm hN hk
theorem Append_spec {h : Hp} {st : JS} {S : List Nat} (w : Jw w0 h p st S) (o : st.Ok) (l : List UInt8) (hl : l.length ≤ 1000000000) :
    ACalls prog w0 n_journal_Writer_Append [ptr p, .string (str l)] h fun v h' => v = .int .i64 (st.append l).1 ∧ ∃ S', Jw w0 h' p (st.append l).2 S' ∧ Step h h' S S' := by
  refine ACalls.of_fit (by simp [ptr]) fun f => c_journal_Writer_Append (by simp [ptr]) ?_
  refine callA_of (made_spec w o) fun v h1 ⟨e, e1⟩ f1 => ?_
  subst e e1
  simp only [wd, wa]
  by_cases h1 : 65536 < l.length
  · have c1 : decide ((65536 : Int) < (l.length : Int)) = true := decide_eq_true (by omega)
    have ha : st.append l = (3, st) := by simp [JS.append, h1]
    simp only [c1, fcondA_true, retA_iff, oneOf_one, ha]
    exact ⟨by simp, by trivial, S, w, w.refl⟩
  have c1 : decide ((65536 : Int) < (l.length : Int)) = false := decide_eq_false (by omega)
  have e1 : IntKind.i64.wrap ((l.length : Int) + 4) = (l.length : Int) + 4 := IntWalk.i64_in _ (by omega)
  simp only [wd, wa, c1, e1]
  refine callA_of (free_spec w o) fun v h2 ⟨e, e1⟩ f2 => ?_
  subst e e1
  by_cases h2' : st.free < l.length + 4
  · have c2 : decide (st.free < (l.length : Int) + 4) = true := decide_eq_true h2'
    have ha : st.append l = (2, st) := by simp [JS.append, h1, h2']
    simp only [wd, wa, c2, retA_iff, oneOf_one, ha]
    exact ⟨by simp, by trivial, S, w, w.refl⟩
  have c2 : decide (st.free < (l.length : Int) + 4) = false := decide_eq_false h2'
  have ha : st.append l = (0, { st with rooms := pushAll st.room st.taken st.rooms (be 4 l.length ++ l), cnt := IntKind.i64.wrap (st.cnt + 1) }) := by simp [JS.append, h1, h2']
  have hok := o.append l
  rw [ha] at hok ⊢
  simp only [wd, wa, c2]
  refine callA_of (number_spec l.length) fun v h3 ⟨e, e3⟩ f3 => ?_
  subst e e3
  have s1 : Step h2 (h2.new (bvs (be 4 l.length)) 1) S S := (w.refl.new _ _).less (fun b hb => by simp [hb])
  have w1 := w.frame ((Step.refl h2 [] (by simp)).new (bvs (be 4 l.length)) 1) (by simp)
  have fin : ∀ (x5 : Value) (h4 : Hp) (q : Nat) (S4 : List Nat), Jw w0 h4 p st S4 → Step h2 h4 S S4 → Buf w0 h4 x5 (be 4 l.length ++ l) q → q ∉ S4 →
      journal_Writer_Append_E1 prog w0 (fun y0 => nilA y0 fun v101 => addA v101 5 fun v102 => loadA w0 v102 fun v103 => pureA (binA .add v103 (.int .i64 1)) fun v104 => nilA y0 fun v105 => addA v105 5 fun v106 => storeA w0 v106 v104 fun _ => retA [(.int .i64 0)] fun v h' => v = .int .i64 0 ∧ ∃ S', Jw w0 h' p { st with rooms := pushAll st.room st.taken st.rooms (be 4 l.length ++ l), cnt := IntKind.i64.wrap (st.cnt + 1) } S' ∧ Step h2 h' S S') (ptr p) x5 h4 := by
    intro x5 h4 q S4 w4 s4 b4 hq4
    have hbound := hok.len
    have hse := o.sectors
    refine ⟨2 * (be 4 l.length ++ l).length + 1, append_loop _ _ _ st h4 x5 S4 (Nat.le_refl _) (Nat.le_refl _) (by simp; omega) w4 o.room o.size b4 hq4 o.good.1 o.good.2.1 (by simp only at hbound; omega) fun h5 S5 w5 s5 => ?_⟩
    obtain ⟨x, T, hb, hB, hlt, vv, hp, rfl⟩ := w5
    simp only [ptr, wd, wa]
    refine loadA_at hB hb (by rfl) ?_
    simp only [wd, wa]
    rw [storeA_own]
    refine ⟨_, hB, hb, by simp, rfl, ?_⟩
    simp only [retA_iff, oneOf_one]
    exact ⟨by simp, by trivial, p :: T, ⟨x, T, by simp, hB, by simpa using hlt, vv.put hp _, hp, rfl⟩, ((s4.trans s5).put (by simp) _)⟩
  have hfit := f3.base
  simp only [fnilA_ptr] at *
  refine .mk l.length (by simp) (fun h0 => ⟨⟨_, _, _, rfl⟩, ?_⟩) (fun hpos => ⟨4, bvs (be 4 l.length), bvs l, h2.new (bvs (be 4 l.length)) 1, ?_, ?_, by omega, by omega, ?_⟩)
  · have hl0 : l = [] := List.eq_nil_of_length_eq_zero h0
    subst hl0
    have := fin (.slice (some ⟨h2.next, 0, none⟩) 4 4) (h2.new (bvs (be 4 0)) 1) h2.next S w1 s1 (.inr ⟨be 4 0, 0, 4, by simp, f2.base, by simp, by simp, by simp, by simp [be], .inr ⟨by simp, by decide⟩⟩) (fun e => by have := (w.lt _ e).2; omega)
    simpa [ptr] using this
  · simp only [Dst]
    refine ⟨trivial, .inr ⟨by omega, by simp [List.take_of_length_le], fun hlt => by have := f2.base; omega⟩, ?_⟩
    rw [if_neg (by have := f2.base; omega), if_neg (by decide), if_pos (by omega)]
    trivial
  · have := src_string (h := h2.new (bvs (be 4 l.length)) 1) w0.heap.size (str l)
    simpa using this
  · have w4 := w1.frame ((Step.refl (h2.new (bvs (be 4 l.length)) 1) [] (by simp)).newD (bvs (be 4 l.length) ++ bvs l) 1) (by simp)
    have s4 := ((s1.trans (w1.refl)).newD (bvs (be 4 l.length) ++ bvs l) 1).less (T := S) (fun b hb => by simp [hb])
    have := fin (.slice (some ⟨(h2.new (bvs (be 4 l.length)) 1).next, 0, none⟩) (4 + l.length) ucap) _ (h2.new (bvs (be 4 l.length)) 1).next S w4 s4 (.inr ⟨be 4 l.length ++ l, 0, ucap, by simp, hfit, by simp, by simp, by simp, by simp [be], .inl ⟨rfl, by simp⟩⟩) (fun e => by have := (w.lt _ e).2; simp at this; omega)
    simpa [ptr] using this
end
theorem put_ok {m : Int} {bs l : List UInt8} (h : (bs.length : Int) + l.length ≤ m) : (⟨m, bs, false⟩ : WS).put l = ⟨m, bs ++ l, false⟩ := by
  unfold WS.put
  rw [if_neg (by simp), if_neg (by simp; omega)]
theorem zeros_bvs (n : Nat) : zerosL [(.int .u8 0 : Value)] n = bvs (List.replicate n 0) := by
  rw [zerosL_single]
  simp [bvs, bv]
theorem secR_splice {size : Nat} {r : List UInt8} (h : r.length ≤ size - 24) : splice (bvs (List.replicate (size - 24) 0)) 0 (bvs r) = bvs (secR size r) := by
  unfold splice secR
  simp only [List.take_zero, List.nil_append, bvs_append, bvs_length, Nat.zero_add]
  congr 1
  simp [bvs]
section
variable {w0 : World} {h : Hp}
theorem copy_spec {size q c : Nat} {r : List UInt8} {a : Option Addr} {ca : Nat} {K : Kont} (hr : r.length ≤ size - 24) (hq : w0.heap.size ≤ q) (hb : h.blk q = some (bvs (List.replicate (size - 24) 0))) (hs : Src w0.heap.size h 1 (.slice a r.length ca) r.length (bvs r))
    (hk : ∀ n h', h'.blk q = some (bvs (secR size r)) → Step h h' [q] [q] → K (.int .i64 n) h') (hlt : q < h.next) : copyA w0 1 (.slice (some ⟨q, 0, none⟩) (size - 24) c) (.slice a r.length ca) K h := by
  refine ⟨_, _, _, r.length, rfl, by simp, fun h0 => ?_, fun h0 => ⟨q, 0, _, bvs r, rfl, hq, hb, by simp; omega, ?_, ?_⟩⟩
  · have hr0 : r = [] ∨ size - 24 = 0 := by
      rcases Nat.eq_zero_or_pos r.length with e | e
      · exact .inl (List.eq_nil_of_length_eq_zero e)
      · right; omega
    have : r = [] := by
      rcases hr0 with e | e
      · exact e
      · exact List.eq_nil_of_length_eq_zero (by omega)
    subst this
    exact hk 0 h (by simpa [secR] using hb) (Step.refl _ _ (by simpa using hlt))
  · have : min r.length (size - 24) = r.length := by omega
    rw [this]; exact hs
  · have : min r.length (size - 24) = r.length := by omega
    rw [this, secR_splice hr]
    exact hk _ _ (by simp) ((Step.refl h [q] (by simpa using hlt)).put (by simp) _)
theorem sector_spec {size gen i : Nat} {r : List UInt8} {a : Option Addr} {c : Nat} (hs : 512 ≤ size ∧ size ≤ 4096) (hi : i < 4294967296) (hr : r.length ≤ size - 24) (src : Src w0.heap.size h 1 (.slice a r.length c) r.length (bvs r)) :
    ACalls prog w0 n_journal_sector [.int .i64 size, .int .u64 gen, .int .i64 i, .slice a r.length c] h fun v h' => ∃ S', Vec w0 h' 1 v size (bvs (sec size gen i r)) S' ∧ Step h h' [] S' := by
  refine ACalls.of_fit (by simp) fun f => c_journal_sector (by simp) ?_
  simp only [s_journal_sector]
  refine callA_of (NewWriter_spec size (by omega)) fun v h1 ⟨e, w1, s1⟩ f1 => ?_
  subst e
  rw [Int.max_eq_left (by omega)] at w1
  have e0 : (⟨#[68, 74, 82, 78]⟩ : ByteArray) = str [68, 74, 82, 78] := rfl
  rw [e0]
  refine callA_of (WRaw_spec [68, 74, 82, 78] (by simp) w1 (by simp)) fun v h2 ⟨S2, w2, s2⟩ f2 => ?_
  rw [put_ok (by simp; omega)] at w2
  refine callA_of (U64_spec gen w2 (by simp)) fun v h3 ⟨S3, w3, s3⟩ f3 => ?_
  rw [put_ok (by simp; omega)] at w3
  have e1 : IntKind.u32.wrap (i : Int) = i := IntWalk.u32_in _ (by omega)
  simp only [wd, wa, e1]
  refine callA_of (U32_spec i w3 (by simp)) fun v h4 ⟨S4, w4, s4⟩ f4 => ?_
  rw [put_ok (by simp; omega)] at w4
  have e2 : IntKind.u32.wrap (r.length : Int) = r.length := IntWalk.u32_in _ (by omega)
  simp only [wd, wa, e2]
  refine callA_of (U32_spec r.length w4 (by simp)) fun v h5 ⟨S5, w5, s5⟩ f5 => ?_
  rw [put_ok (by simp; omega)] at w5
  have s05 : Step h h5 [] S5 := (((s1.trans s2).trans s3).trans s4).trans s5
  have hb5 : ([] ++ [68, 74, 82, 78] ++ be 8 gen ++ be 4 i ++ be 4 r.length : List UInt8) = sec0 gen i r.length := by simp [sec0]
  rw [hb5] at w5
  refine callA_of (WDone_spec w5) fun v h6 ⟨e, e6⟩ f6 => ?_
  subst e e6
  have e3 : IntKind.i64.wrap ((size : Int) - 24) = ((size - 24 : Nat) : Int) := by rw [IntWalk.i64_in _ (by omega)]; omega
  have eo : (⟨(size : Int), sec0 gen i r.length, false⟩ : WS).out = sec0 gen i r.length := rfl
  simp only [wd, wa, e3, mkA_nat, zeros_bvs, eo]
  refine ⟨Nat.le_refl _, by omega, by omega, ?_⟩
  have src5 := src.step f s05 (by simp)
  have sn := (Step.refl h6 [] (by simp)).new (bvs (List.replicate (size - 24) 0)) 1
  have hrl : (secR size r).length = size - 24 := secR_length hr
  refine copy_spec hr f5.base (by simp) (src5.step f5 sn (by simp)) (fun n h7 hb7 s7 => ?_) (by simp)
  have w7 := (w5.frame sn (by simp)).frame s7 (by intro b hb; have := (w5.lt b hb).2; simp; omega)
  have sR : Src w0.heap.size h7 1 (.slice (some ⟨h6.next, 0, none⟩) (size - 24) (size - 24)) (size - 24) (bvs (secR size r)) := src_whole f5.base hb7 (by simp [hrl])
  refine b2sA_of sR ?_
  rw [strA_add _ _ (by simp [hrl]; omega)]
  simp only [wd, wa, str_append]
  have hcl : (sec0 gen i r.length ++ secR size r).length ≤ 140737488355328 := by simp [hrl]; omega
  refine callA_of (Crc_spec _ hcl) fun v h8 ⟨e, e8⟩ f8 => ?_
  subst e e8
  refine callA_of (U32_spec (crcOf (sec0 gen i r.length ++ secR size r)) w7 (by simp)) fun v h9 ⟨S9, w9, s9⟩ f9 => ?_
  rw [put_ok (by simp; omega)] at w9
  have hq5 : h6.next ∉ S5 := fun e => by have := (w5.lt _ e).2; omega
  have hb9 : h9.blk h6.next = some (bvs (secR size r)) := by rw [(s9.keep h6.next (by have := s7.next; simp at this; omega) hq5).1]; exact hb7
  have sR9 : Src w0.heap.size h9 1 (.slice (some ⟨h6.next, 0, none⟩) (size - 24) (size - 24)) (size - 24) (bvs (secR size r)) := src_whole f5.base hb9 (by simp [hrl])
  refine b2sA_of sR9 ?_
  refine callA_of (WRaw_spec (secR size r) (by omega) w9 (by simp [hrl]; omega)) fun v h10 ⟨S10, w10, s10⟩ f10 => ?_
  rw [put_ok (by simp [hrl]; omega)] at w10
  refine callA_of (WDone_spec w10) fun v h11 ⟨e, e11⟩ f11 => ?_
  subst e e11
  have eo2 : (⟨(size : Int), sec0 gen i r.length ++ be 4 (crcOf (sec0 gen i r.length ++ secR size r)) ++ secR size r, false⟩ : WS).out = sec size gen i r := rfl
  have hsl := sec_length gen i (by omega) hr
  simp only [wd, wa, eo2, s2bA_iff, str_data, bvs_eq, hsl, retA_iff, oneOf_one]
  refine ⟨by omega, by simp, [h11.next], .inr ⟨h11.next, rfl, rfl, f10.base, by simp, by simp, by simp, by simp [hsl]⟩, ?_⟩
  have sA : Step h h8 [] (h6.next :: S5) := by
    have a1 : Step h (h6.new (bvs (List.replicate (size - 24) 0)) 1) [] (h6.next :: S5) := s05.new _ _
    exact a1.trans (s7.wide (fun b hb => by simp at hb; simp [hb]) (fun b hb => by
      rcases List.mem_cons.1 hb with rfl | hb
      · exact .inl (by simp)
      · exact .inr ⟨by simp [hb], by have := (w5.lt b hb).2; simp; omega⟩))
  have sB := ((sA.less (T := S5) (fun b hb => by simp [hb])).trans s9).trans s10
  exact (sB.new (bvs (sec size gen i r)) 1).less (by simp)
end
section
variable {w0 : World}
theorem sec_elem {h : Hp} {x v : Value} {k : Nat} {bs : List (List UInt8)} {S T : List Nat} {r : List UInt8} {K : Kont} (hf : w0.heap.size ≤ h.next) (q : SVec w0 h x k bs S) (hv : Vec w0 h 1 v r.length (bvs r) T) (hd : ∀ b, b ∈ T → b ∉ S) (hb : bs.length ≤ 1000000)
    (hk : ∀ x' h' S', SVec w0 h' x' k (bs ++ [r]) S' → Step h h' (S ++ T) S' → K x' h') :
    buildA [(0, 1, false, .int .i64 ((k + bs.length : Nat) : Int)), (1, 1, false, v)] [(.int .i64 0), (.slice none 0 0)] (fun v44 => bslA [(0, 2, true, v44)] (zerosL [(.int .i64 0), (.slice none 0 0)] 1) 1 2 fun v45 => appA w0 2 32 x v45 K) h := by
  obtain ⟨a, c, rfl⟩ := hv.slice
  have hz : zerosL [(.int .i64 0 : Value), .slice none 0 0] 1 = [.int .i64 0, .slice none 0 0] := rfl
  simp only [buildA_iff, fillA_one, fillA_nil, isCell_int, isCell_slice, true_and, List.set_cons_zero, List.set_cons_succ, List.length_cons, List.length_nil, hz, bslA_iff, fillA_agg]
  refine ⟨by omega, by omega, by simp, by omega, ?_⟩
  have s1 := (Step.refl h [] (by simp)).new [(.int .i64 ((k + bs.length : Nat) : Int) : Value), .slice a r.length c] 2
  have hs : splice [(.int .i64 0 : Value), .slice none 0 0] 0 [.int .i64 ((k + bs.length : Nat) : Int), .slice a r.length c] = [.int .i64 ((k + bs.length : Nat) : Int), .slice a r.length c] := rfl
  rw [hs]
  refine appA_svec (by simp; omega) (q.frame s1 (by simp)) (src_new hf (by simp)) (hv.frame s1 (by simp)) hd (by omega) (by omega) fun x' h' S' v' st => ?_
  refine hk x' h' S' v' ?_
  exact (((Step.refl h (S ++ T) fun b hb => by
    rcases List.mem_append.1 hb with e | e
    · exact (q.lt b e).2
    · exact (hv.lt b e).2).new [(.int .i64 ((k + bs.length : Nat) : Int) : Value), .slice a r.length c] 2).less (T := S ++ T) (fun b hb => by simp [List.mem_append] at hb; simp [hb])).trans st
theorem take_loop {k0 : Value → Value → Hp → Prop} {p n c : Nat} {st : JS} {a : Option Addr} {x : Value} {vs : List Value} {U S0 : List Nat} (o : st.Ok) (hn : n = st.rooms.length - st.taken)
    (hsrc : ∀ h', Vec w0 h' 1 x st.rooms.length vs U → Src w0.heap.size h' 1 (.slice a n c) n (vs.drop st.taken)) : ∀ (post pre : List (List UInt8)) (h : Hp) (x3 : Value) (SO : List Nat), pre ++ post = st.rooms.drop st.taken →
    h.blk p = some [.int .i64 st.size, .int .i64 st.sectors, .int .u64 st.gen, x, .int .i64 st.taken, .int .i64 st.cnt] → w0.heap.size ≤ p → p < h.next → Vec w0 h 1 x st.rooms.length vs U → Rows w0 h vs st.rooms S0 → SVec w0 h x3 st.taken (secList st.size st.gen st.taken pre) SO → (∀ b, b ∈ SO → b ∉ p :: (U ++ S0)) →
    (∀ h' x' SO', SVec w0 h' x' st.taken st.secs SO' → Step h h' SO SO' → k0 (ptr p) x' h') →
    journal_Writer_Take_L1 prog w0 k0 (post.length + 1) (ptr p) x3 (.slice a n c) (.int .i64 (n : Int)) (.int .i64 (pre.length : Int)) h := by
  intro post
  induction post with
  | nil =>
    intro pre h x3 SO he hb hB hlt v rr sv hd hk
    have hpre : pre = st.rooms.drop st.taken := by simpa using he
    have hpl : pre.length = n := by rw [hpre, hn]; simp
    rw [journal_Writer_Take_L1]
    simp only [journal_Writer_Take_B1, binA_lss, pureA_some, hpl, Int.lt_irrefl, decide_false, condA_false]
    rw [hpre] at sv
    exact hk h x3 SO sv (Step.refl _ _ fun b hb => (sv.lt b hb).2)
  | cons r post ih =>
    intro pre h x3 SO he hb hB hlt v rr sv hd hk
    have hlen : pre.length + (post.length + 1) = n := by
      have := congrArg List.length he
      simp at this; omega
    have hle := o.len
    have hse := o.sectors
    have hta := o.good.1
    have hget : st.rooms[st.taken + pre.length]? = some r := by
      rw [← List.getElem?_drop, ← he]; simp
    obtain ⟨y, T, hy, vy, hT⟩ := rr.get hget
    have hr := o.good.2.1 r (List.mem_of_getElem? hget)
    have hvl := rr.len
    have c1 : decide ((pre.length : Int) < (n : Int)) = true := decide_eq_true (by omega)
    have e1 : IntKind.i64.wrap ((st.taken : Int) + (pre.length : Int)) = ((st.taken + pre.length : Nat) : Int) := by rw [IntWalk.i64_in _ (by omega)]; simp
    have e5 : IntKind.i64.wrap ((pre.length : Int) + 1) = ((pre.length + 1 : Nat) : Int) := by rw [IntWalk.i64_in _ (by omega)]; simp
    rw [List.length_cons, journal_Writer_Take_L1]
    simp only [journal_Writer_Take_B1, ptr, wd, wa, c1]
    refine idx_load1 (hsrc h v) (by simp; omega) (v := y) (by rw [List.getElem?_drop]; exact hy) ?_
    refine loadA_at hB hb (by rfl) ?_
    simp only [wd, wa, e1]
    refine loadA_at hB hb (by rfl) ?_
    refine loadA_at hB hb (by rfl) ?_
    obtain ⟨ay, cy, rfl⟩ := vy.slice
    refine callA_of (sector_spec (gen := st.gen) o.size (by omega) (by have := hr; unfold JS.room at this; exact this) vy.src) fun v1 h1 ⟨S1, v1v, s1⟩ f1 => ?_
    have hsl := sec_length st.gen (st.taken + pre.length) (size := st.size) (r := r) (by have := o.size; omega) hr
    have sv1 := sv.frame s1 (by simp)
    have hel : st.taken + (secList st.size st.gen st.taken pre).length = st.taken + pre.length := by simp
    have v1v' : Vec w0 h1 1 v1 (sec st.size st.gen (st.taken + pre.length) r).length (bvs (sec st.size st.gen (st.taken + pre.length) r)) S1 := by rw [hsl]; exact v1v
    have h0n : w0.heap.size ≤ h.next := by omega
    have hse1 := sec_elem (k := st.taken) (r := sec st.size st.gen (st.taken + pre.length) r) (K := fun v46 => journal_Writer_Take_L1 prog w0 k0 (post.length + 1) (ptr p) v46 (.slice a n c) (.int .i64 (n : Int)) (.int .i64 (IntKind.i64.wrap ((pre.length : Int) + 1)))) f1.base sv1 v1v' (fun b hb1 hb2 => by
      rcases (s1.own b hb1).2 with e | e
      · simp at e
      · have := (sv.lt b hb2).2; omega) (by simp; omega) (fun x' h' S' v' st' => by
      rw [e5]
      have s12 : Step h h' SO S' := (s1.wide (T := SO) (T' := SO ++ S1) (by simp) (fun b hb => by
        rcases List.mem_append.1 hb with e | e
        · exact .inr ⟨e, (sv.lt b e).2⟩
        · exact .inl e)).trans st'
      have hpSO : p ∉ SO := fun e => hd p e (by simp)
      have hb' : h'.blk p = _ := (s12.keep p hlt hpSO).1.trans hb
      have := ih (pre ++ [r]) h' x' S' (by simpa using he) hb' hB (by have := s12.next; omega) (v.frame s12 fun b hb he => hd b he (by simp [hb])) (rr.frame s12 fun b hb he => hd b he (by simp [hb])) (by rw [secList_snoc]; exact v') (fun b hb he => by
        rcases (s12.own b hb).2 with g | g
        · exact hd b g he
        · have : b < h.next := by
            rcases List.mem_cons.1 he with rfl | he
            · exact hlt
            · rcases List.mem_append.1 he with he | he
              · exact (v.lt b he).2
              · exact (rr.lt b he).2
          omega) (fun h2 x2 S2 v2 s2 => hk h2 x2 S2 v2 (s12.trans s2))
      simpa using this)
    rw [hel] at hse1
    exact hse1
theorem Take_spec {p : Nat} {h : Hp} {st : JS} {S : List Nat} (w : Jw w0 h p st S) (o : st.Ok) :
    ACalls prog w0 n_journal_Writer_Take [ptr p] h fun v h' => ∃ SO, Jw w0 h' p st.take S ∧ SVec w0 h' v st.taken st.secs SO ∧ (∀ b, b ∈ SO → h.next ≤ b) ∧ Step h h' S (SO ++ S) := by
  refine ACalls.of_fit (by simp [ptr]) fun f => c_journal_Writer_Take (by simp [ptr]) ?_
  refine callA_of (made_spec w o) fun v h1 ⟨e, e1⟩ f1 => ?_
  subst e e1
  have wr := w.refl
  obtain ⟨x, T, hb, hB, hlt, vv, hp, rfl⟩ := w
  obtain ⟨vs, U, S0, v, rr, d, rfl⟩ := vv
  simp only [ptr, wd, wa]
  refine loadA_at hB hb (by rfl) ?_
  refine loadA_at hB hb (by rfl) ?_
  refine slSlA_from v o.good.1 fun a c hsrc => ?_
  simp only [wd, wa]
  have hl : (st.rooms.drop st.taken).length = st.rooms.length - st.taken := by simp
  refine ⟨(st.rooms.drop st.taken).length + 1, ?_⟩
  refine take_loop o rfl hsrc (st.rooms.drop st.taken) [] h1 _ [] rfl hb hB hlt v rr (SVec.nil _) (by simp) fun h2 x2 SO v2 s2 => ?_
  simp only [ptr, wd, wa]
  have hb2 : h2.blk p = _ := (s2.keep p hlt (by simp)).1.trans hb
  refine loadA_at hB hb2 (by rfl) ?_
  obtain ⟨ax, cx, hx⟩ := v.slice
  rw [hx]
  simp only [wd, wa]
  rw [storeA_own]
  refine ⟨_, hB, hb2, by simp, rfl, ?_⟩
  obtain ⟨a2, c2, hx2⟩ := v2.slice
  have hSO : ∀ b, b ∈ SO → h1.next ≤ b := fun b hb => by
    rcases (s2.own b hb).2 with e | e
    · simp at e
    · exact e
  simp only [retA_iff, oneOf_one]
  refine ⟨by rw [hx2]; simp, SO, ⟨x, U ++ S0, ?_, hB, by have := s2.next; simp; omega, ⟨vs, U, S0, ?_, ?_, d, rfl⟩, hp, rfl⟩, ?_, hSO, ?_⟩
  · simp [JS.take]
  · exact (v.frame s2 (by simp)).put (fun e => hp (by simp [e])) _
  · exact (rr.frame s2 (by simp)).put (fun e => hp (by simp [e])) _
  · obtain ⟨vs2, U2, S2, g1, g2, g3, g4⟩ := v2
    have hpSO : p ∉ SO := fun e => by have := hSO p e; omega
    rw [g4] at hpSO
    exact ⟨vs2, U2, S2, g1.put (fun e => hpSO (by simp [e])) _, g2.put (fun e => hpSO (by simp [e])) _, g3, g4⟩
  · refine (s2.wide (T := p :: (U ++ S0)) (T' := SO ++ (p :: (U ++ S0))) (by simp) (fun b hb => ?_)).put (by simp) _
    rcases List.mem_append.1 hb with e | e
    · exact .inl e
    · exact .inr ⟨e, wr.own b e |>.1⟩
end
theorem power_spec {w0 : World} {h : Hp} (n : Int) (hn : -9223372036854775808 ≤ n ∧ n ≤ 9223372036854775807) : ACalls prog w0 n_dedupref07_power [.int .i64 n, .int .i64 512, .int .i64 4096] h fun v h' => v = .bool (jsize n) ∧ h' = h := by
  refine ACalls.of_fit (by simp) fun f => c_dedupref07_power (by simp) ?_
  refine ⟨6, ?_⟩
  have d1 : decide ((512 : Int) ≤ 4096) = true := rfl
  have d2 : decide ((1024 : Int) ≤ 4096) = true := rfl
  have d3 : decide ((2048 : Int) ≤ 4096) = true := rfl
  have d4 : decide ((4096 : Int) ≤ 4096) = true := rfl
  have d5 : decide ((8192 : Int) ≤ 4096) = false := rfl
  have m1 : IntKind.i64.wrap (2 * 512) = 1024 := by decide
  have m2 : IntKind.i64.wrap (2 * 1024) = 2048 := by decide
  have m3 : IntKind.i64.wrap (2 * 2048) = 4096 := by decide
  have m4 : IntKind.i64.wrap (2 * 4096) = 8192 := by decide
  by_cases h1 : n = 512
  · subst h1
    simp only [dedupref07_power_L1, dedupref07_power_B1, wd, wa, d1, beq_self_eq_true, retA_iff, oneOf_one]
    simp [jsize]
  have c1 : (n == 512) = false := by simp [h1]
  by_cases h2 : n = 1024
  · subst h2
    simp only [dedupref07_power_L1, dedupref07_power_B1, wd, wa, d1, d2, c1, m1, beq_self_eq_true, retA_iff, oneOf_one]
    simp [jsize]
  have c2 : (n == 1024) = false := by simp [h2]
  by_cases h3 : n = 2048
  · subst h3
    simp only [dedupref07_power_L1, dedupref07_power_B1, wd, wa, d1, d2, d3, c1, c2, m1, m2, beq_self_eq_true, retA_iff, oneOf_one]
    simp [jsize]
  have c3 : (n == 2048) = false := by simp [h3]
  by_cases h4 : n = 4096
  · subst h4
    simp only [dedupref07_power_L1, dedupref07_power_B1, wd, wa, d1, d2, d3, d4, c1, c2, c3, m1, m2, m3, beq_self_eq_true, retA_iff, oneOf_one]
    simp [jsize]
  have c4 : (n == 4096) = false := by simp [h4]
  simp only [dedupref07_power_L1, dedupref07_power_B1, wd, wa, d1, d2, d3, d4, d5, c1, c2, c3, c4, m1, m2, m3, m4, retA_iff, oneOf_one]
  simp [jsize, h1, h2, h3, h4]
theorem xNew_spec {w0 : World} {h : Hp} (n s : Int) (g : Nat) (hn : -9223372036854775808 ≤ n ∧ n ≤ 9223372036854775807) :
    ACalls prog w0 n_dedupref07_New [.int .i64 n, .int .i64 s, .int .u64 g] h fun v h' =>
      (jok n s = true → v = .tuple #[ptr h.next, .int .i64 0] ∧ Jw w0 h' h.next ⟨n.toNat, s.toNat, g, [], 0, 0⟩ [h.next] ∧ Step h h' [] [h.next]) ∧ (jok n s = false → v = .tuple #[.pointer none, .int .i64 1] ∧ h' = h) := by
  refine ACalls.of_fit (by simp) fun f => c_dedupref07_New (by simp) ?_
  refine callA_of (power_spec n hn) fun v hh ⟨e, e1⟩ f1 => ?_
  subst e e1
  cases hs : jsize n with
  | false =>
    simp only [unA_not, Bool.not_false, pureA_some, guardA_tf, pickA_true, guardA_undef, condA_true, retA_iff]
    simp [jok, hs]
  | true =>
    have hr := jsize_range hs
    simp only [unA_not, Bool.not_true, pureA_some, guardA_ff, binA_lss, pickA_false]
    by_cases h1 : s < 1
    · have c1 : decide (s < 1) = true := decide_eq_true h1
      have c2 : jok n s = false := by simp [jok]; omega
      simp only [c1, guardA_tf, guardA_undef, pickA_true, condA_true, retA_iff, c2]
      simp
    · have c1 : decide (s < 1) = false := decide_eq_false h1
      simp only [c1, guardA_ff, binA_gtr, pureA_some, pickA_false]
      by_cases h2 : 4096 < s
      · have c2 : decide ((4096 : Int) < s) = true := decide_eq_true h2
        have c3 : jok n s = false := by simp [jok]; omega
        simp only [c2, condA_true, retA_iff, c3]
        simp
      · have c2 : decide ((4096 : Int) < s) = false := decide_eq_false h2
        have c3 : jok n s = true := by simp [jok, hs]; omega
        simp only [c2, condA_false, buildA_iff, fillA_one, fillA_nil, isCell_int, true_and, List.set_cons_zero, List.set_cons_succ, List.length_cons, List.length_nil, boxA_agg, List.toList_toArray, retA_iff, c3]
        refine ⟨by omega, by omega, by omega, by simp, fun _ => ⟨by simp [ptr], ?_, (Step.refl hh [] (by simp)).new _ _⟩, by simp⟩
        have e1 : ((n.toNat : Nat) : Int) = n := Int.toNat_of_nonneg (by omega)
        have e2 : ((s.toNat : Nat) : Int) = s := Int.toNat_of_nonneg (by omega)
        refine ⟨.slice none 0 0, [], ?_, f.base, by simp, .nil, by simp, rfl⟩
        simp only [e1, e2]
        simp

section
variable {w0 : World}
theorem high_loop {q n0 s : Nat} {K : Value → Hp → Prop} (hq : w0.heap.size ≤ q) (hn0 : n0 < 18446744073709551616) (hs : s ≤ 8) : ∀ (k i : Nat) (h : Hp), i + k = s → q < h.next →
    h.blk q = some (List.replicate k (.int .u8 0) ++ bvs (be i n0)) → (∀ h', h'.blk q = some (bvs (be s n0)) → h'.esz q = h.esz q → Step h h' [q] [q] → K (.slice (some ⟨q, 0, none⟩) s s) h') →
    dedupref07_high_L1 prog w0 K (k + 1) (.int .u64 ((n0 / 256 ^ i : Nat) : Int)) (.int .i64 (s : Int)) (.slice (some ⟨q, 0, none⟩) s s) (.int .i64 (i : Int)) h := by
  intro k
  induction k with
  | zero =>
    intro i h hi hql hb hk
    have : i = s := by omega
    subst this
    rw [dedupref07_high_L1]
    simp only [dedupref07_high_B1, wd, wa, Int.lt_irrefl, decide_false]
    exact hk h (by simpa using hb) rfl (.refl _ _ (by simpa using hql))
  | succ k ih =>
    intro i h hi hql hb hk
    have c1 : decide ((i : Int) < (s : Int)) = true := decide_eq_true (by omega)
    have e0 : IntKind.i64.wrap ((s : Int) - 1) = ((s - 1 : Nat) : Int) := by rw [IntWalk.i64_in _ (by omega)]; omega
    have e1 : IntKind.i64.wrap (((s - 1 : Nat) : Int) - (i : Int)) = (k : Int) := by rw [IntWalk.i64_in _ (by omega)]; omega
    have e2 : IntKind.i64.wrap ((i : Int) + 1) = ((i + 1 : Nat) : Int) := by rw [IntWalk.i64_in _ (by omega)]; simp
    have hd : n0 / 256 ^ i ≤ n0 := Nat.div_le_self _ _
    have e3 : binA .quo (.int .u64 ((n0 / 256 ^ i : Nat) : Int)) (.int .u64 256) = some (.int .u64 ((n0 / 256 ^ (i + 1) : Nat) : Int)) := by
      rw [binA_quo _ _ _ (by omega)]
      have : ((n0 / 256 ^ i : Nat) : Int).tdiv 256 = ((n0 / 256 ^ (i + 1) : Nat) : Int) := by
        rw [Int.tdiv_eq_ediv_of_nonneg (Int.natCast_nonneg _), Nat.pow_succ, ← Nat.div_div_eq_div_mul]; simp
      have h2 : n0 / 256 ^ (i + 1) ≤ n0 := Nat.div_le_self _ _
      have h3 : IntKind.u64.wrap ((n0 / 256 ^ (i + 1) : Nat) : Int) = ((n0 / 256 ^ (i + 1) : Nat) : Int) := by
        generalize n0 / 256 ^ (i + 1) = z at h2
        exact IntWalk.u64_in _ (by omega)
      rw [this, h3]
    rw [dedupref07_high_L1]
    simp only [dedupref07_high_B1, wd, wa, c1, e0, e1, e2, e3, wrap_u8_nat]
    refine idxSlA_own (by omega) ?_
    refine storeA_at hq hb (by simp; omega) rfl ?_
    refine ih (i + 1) _ (by omega) (by simpa using hql) ?_ (fun h' hb' hez st => hk h' hb' (by simpa using hez) ?_)
    · simp only [put_blk, if_true, be, bvs_cons]
      rw [List.set_append_left _ _ (by simp), List.replicate_succ', List.set_append_right _ _ (by simp)]
      simp
    · exact ((Step.refl h [q] (by simpa using hql)).put (by simp) _).trans st
theorem high_spec {h : Hp} (n s : Nat) (hn : n < 18446744073709551616) (hs : s ≤ 8) : ACalls prog w0 n_dedupref07_high [.int .u64 n, .int .i64 s] h fun v h' => ∃ S', GV w0 h' 1 v s (bvs (be s n)) S' ∧ Step h h' [] S' := by
  refine ACalls.of_fit (by simp) fun f => c_dedupref07_high (by simp) ?_
  simp only [s_dedupref07_high, mkA_nat]
  refine ⟨Nat.le_refl _, by omega, by omega, s + 1, ?_⟩
  have := high_loop (w0 := w0) (q := h.next) (n0 := n) (s := s) (K := fun y5 => retA [y5] fun v h' => ∃ S', GV w0 h' 1 v s (bvs (be s n)) S' ∧ Step h h' [] S') f.base hn hs s 0 (h.new (zerosL [Value.int IntKind.u8 0] s) 1) (by omega) (by simp) (by simp [zerosL_single, be]) (fun h' hb' hez st => by
    simp only [retA_iff, oneOf_one]
    refine ⟨by simp, [h.next], .inr ⟨h.next, rfl, rfl, f.base, by have := st.next; simp at this; omega, hb', by simp, by show s < 18446744073709551616; omega, by rw [hez]; simp⟩, ?_⟩
    exact ((Step.refl h [] (by simp)).new _ _).trans st)
  simpa using this
theorem sl2sl_gv {h : Hp} {x : Value} {l : List UInt8} {S : List Nat} {K : Kont} (v : GV w0 h 1 x l.length (bvs l) S) (hl : 0 < l.length) (hk : K x h) : sl2slA w0 x K h := by
  have hnp : ∃ v, v ∈ bvs l ∧ isPtr v = false := by
    cases l with
    | nil => simp at hl
    | cons b l => exact ⟨bv b, by simp, rfl⟩
  rcases v with (⟨-, e, -⟩ | ⟨q, rfl, -, a, b, c, es, e⟩) | ⟨q, rfl, -, a, b, c, e, es⟩
  · omega
  · exact ⟨q, 0, _, _, _, rfl, hl, a, c, by simpa using hl, es, hnp, hk⟩
  · exact ⟨q, 0, _, _, _, rfl, hl, a, c, by simpa using hl, es.2, hnp, hk⟩
theorem Bytes_spec {h : Hp} {size gen i : Nat} {r : List UInt8} {a : Option Addr} {c : Nat} (hs : 512 ≤ size ∧ size ≤ 4096) (hg : gen < 18446744073709551616) (hi : i < 4294967296) (hr : r.length ≤ size - 24) (src : Src w0.heap.size h 1 (.slice a r.length c) r.length (bvs r)) :
    ACalls prog w0 n_dedupref07_Bytes [.int .i64 size, .int .u64 gen, .int .i64 i, .slice a r.length c] h fun v h' => ∃ S', Vec w0 h' 1 v size (bvs (sec size gen i r)) S' ∧ Step h h' [] S' := by
  refine ACalls.of_fit (by simp) fun f => c_dedupref07_Bytes (by simp) ?_
  have hz : zerosL [(.int .u8 0 : Value)] 4 = [.int .u8 0, .int .u8 0, .int .u8 0, .int .u8 0] := rfl
  simp only [s_dedupref07_Bytes, hz, bslA_iff, fillA_one, fillA_nil, isCell_int, true_and, List.set_cons_zero, List.set_cons_succ, List.length_cons, List.length_nil, Nat.zero_add]
  refine ⟨by omega, by omega, by omega, by omega, ?_⟩
  have hm : [(.int .u8 68 : Value), .int .u8 74, .int .u8 82, .int .u8 78] = bvs [68, 74, 82, 78] := rfl
  rw [hm]
  have s0 := (Step.refl h [] (by simp)).new (bvs [68, 74, 82, 78]) 1
  have v0 : GV w0 (h.new (bvs [68, 74, 82, 78]) 1) 1 (.slice (some ⟨h.next, 0, none⟩) 4 4) 4 (bvs [68, 74, 82, 78]) [h.next] := GV.new f.base (by simp) (by decide)
  refine sl2sl_gv (l := [68, 74, 82, 78]) v0 (by simp) ?_
  refine callA_of (high_spec gen 8 hg (by omega)) fun v h1 ⟨S1, g1, s1⟩ f1 => ?_
  have v1 := v0.frame s1 (by simp)
  obtain ⟨a1, c1, rfl⟩ := g1.slice
  refine appA_gv f1.base v1 (m := 8) (by simp) g1.src (by simp) (by omega) (by omega) (by omega) fun x2 h2 S2 v2 s2 => ?_
  have e1 : IntKind.u64.wrap (i : Int) = i := IntWalk.u64_in _ (by omega)
  simp only [wd, wa, e1]
  refine callA_of (high_spec i 4 (by omega) (by omega)) fun v h3 ⟨S3, g3, s3⟩ f3 => ?_
  have v3 := v2.frame s3 (by simp)
  obtain ⟨a3, c3, rfl⟩ := g3.slice
  refine appA_gv f3.base v3 (m := 4) (by simp) g3.src (by simp) (by omega) (by omega) (by omega) fun x4 h4 S4 v4 s4 => ?_
  have e2 : IntKind.u64.wrap (r.length : Int) = r.length := IntWalk.u64_in _ (by omega)
  simp only [wd, wa, e2]
  refine callA_of (high_spec r.length 4 (by omega) (by omega)) fun v h5 ⟨S5, g5, s5⟩ f5 => ?_
  have v5 := v4.frame s5 (by simp)
  obtain ⟨a5, c5, rfl⟩ := g5.slice
  refine appA_gv f5.base v5 (m := 4) (by simp) g5.src (by simp) (by omega) (by omega) (by omega) fun x6 h6 S6 v6 s6 => ?_
  have hb6 : (bvs [68, 74, 82, 78] ++ bvs (be 8 gen) ++ bvs (be 4 i) ++ bvs (be 4 r.length)) = bvs (sec0 gen i r.length) := by simp [sec0]
  rw [hb6] at v6
  -- what is owned from the beginning on
  have st2 : Step h h2 [] S2 := ((s0.trans (s1.wide (T := [h.next]) (T' := [h.next]) (by simp) (fun b hb => .inr ⟨hb, by simp at hb; subst hb; simp⟩))).trans s2)
  have st4 : Step h h4 [] S4 := ((st2.trans (s3.wide (T := S2) (T' := S2) (by simp) (fun b hb => .inr ⟨hb, (v2.lt b hb).2⟩))).trans s4)
  have st6 : Step h h6 [] S6 := ((st4.trans (s5.wide (T := S4) (T' := S4) (by simp) (fun b hb => .inr ⟨hb, (v4.lt b hb).2⟩))).trans s6)
  have hS6 : ∀ b, b ∈ S6 → h.next ≤ b := fun b hb => by
    rcases (st6.own b hb).2 with e | e
    · simp at e
    · exact e
  have e3 : IntKind.i64.wrap ((size : Int) - 24) = ((size - 24 : Nat) : Int) := by rw [IntWalk.i64_in _ (by omega)]; omega
  simp only [wd, wa, e3, mkA_nat, zeros_bvs]
  refine ⟨Nat.le_refl _, by omega, by omega, ?_⟩
  have hrl : (secR size r).length = size - 24 := secR_length hr
  have sn := (Step.refl h6 [] (by simp)).new (bvs (List.replicate (size - 24) 0)) 1
  have hB6 : w0.heap.size ≤ h6.next := by have := f.base; have := st6.next; omega
  have st7 : Step h (h6.new (bvs (List.replicate (size - 24) 0)) 1) [] [] := (st6.new _ _).less (by simp)
  refine copy_spec hr hB6 (by simp) (src.step f st7 (by simp)) (fun n h7 hb7 s7 => ?_) (by simp)
  have v7 := (v6.frame sn (by simp)).frame s7 (by intro b hb; have := (v6.lt b hb).2; simp; omega)
  have sR : Src w0.heap.size h7 1 (.slice (some ⟨h6.next, 0, none⟩) (size - 24) (size - 24)) (size - 24) (bvs (secR size r)) := src_whole hB6 hb7 (by simp [hrl])
  obtain ⟨a6, c6, rfl⟩ := v6.slice
  have h67 : h6.next < h7.next := by have := s7.next; simp at this; omega
  have hl20 : (sec0 gen i r.length).length = 20 := by simp
  simp only [bslA_iff, fillA_nil]
  -- b again, into bytes of its own
  have sx := (Step.refl h7 [] (by simp)).new (zerosL [(.int .u8 0 : Value)] 0) 1
  have vx : GV w0 (h7.new (zerosL [(.int .u8 0 : Value)] 0) 1) 1 (.slice (some ⟨h7.next, 0, none⟩) 0 0) 0 [] [h7.next] := .inr ⟨h7.next, rfl, rfl, by omega, by simp, by simp [zerosL], rfl, by decide, by simp⟩
  have v7x := v7.frame sx (by simp)
  refine appA_gv (m := 20) (by simp; omega) vx (by simp) v7x.src (by simp) (by omega) (by omega) (by omega) fun x8 h8 S8 v8 s8 => ?_
  rw [List.nil_append] at v8
  have s78 : Step h7 h8 [] S8 := sx.trans s8
  have hS8 : ∀ b, b ∈ S8 → h7.next ≤ b := fun b hb => by
    rcases (s78.own b hb).2 with e | e
    · simp at e
    · exact e
  have hb8 := (s78.keep h6.next h67 (by simp)).1.trans hb7
  have sR8 : Src w0.heap.size h8 1 (.slice (some ⟨h6.next, 0, none⟩) (size - 24) (size - 24)) (size - 24) (bvs (secR size r)) := src_whole hB6 hb8 (by simp [hrl])
  refine appA_gv (m := size - 24) (by have := s78.next; omega) v8 (by simp) sR8 (by simp [hrl]) (by omega) (by omega) (by omega) fun x9 h9 S9 v9 s9 => ?_
  have s79 : Step h7 h9 [] S9 := s78.trans s9
  obtain ⟨a9, c9, rfl⟩ := v9.slice
  have hl9 : (sec0 gen i r.length ++ secR size r).length = 0 + 20 + (size - 24) := by simp [hrl]
  have src9 := v9.src
  rw [← bvs_append] at src9
  refine b2sA_of src9 ?_
  refine callA_of (rCrc_spec _ (by omega)) fun v h10 ⟨e, e10⟩ f10 => ?_
  subst e e10
  have hc := crcOf_lt (sec0 gen i r.length ++ secR size r)
  have e4 : IntKind.u64.wrap ((crcOf (sec0 gen i r.length ++ secR size r) : Nat) : Int) = (crcOf (sec0 gen i r.length ++ secR size r) : Nat) := IntWalk.u64_in _ (by omega)
  simp only [wd, wa, e4]
  refine callA_of (high_spec _ 4 (by omega) (by omega)) fun v h11 ⟨S11, g11, s11⟩ f11 => ?_
  have s7_11 : Step h7 h11 [] [] := (s79.less (T := []) (by simp)).trans (s11.less (by simp))
  have v11 := v7.frame s7_11 (by simp)
  obtain ⟨a11, c11, rfl⟩ := g11.slice
  refine appA_gv f11.base v11 (m := 4) (by simp) g11.src (by simp) (by omega) (by omega) (by omega) fun x12 h12 S12 v12 s12 => ?_
  have hb12 := (s12.keep h6.next (by have := s7_11.next; omega) (fun e => by have := (v6.lt _ e).2; omega)).1.trans ((s7_11.keep h6.next h67 (by simp)).1.trans hb7)
  have sR12 : Src w0.heap.size h12 1 (.slice (some ⟨h6.next, 0, none⟩) (size - 24) (size - 24)) (size - 24) (bvs (secR size r)) := src_whole hB6 hb12 (by simp [hrl])
  refine appA_gv_pos (m := size - 24) (by have := s12.next; have := f11.base; omega) v12 (by omega) (by simp) sR12 (by simp [hrl]) (by omega) (by omega) (by omega) fun x13 h13 S13 v13 s13 => ?_
  obtain ⟨a13, c13, rfl⟩ := v13.slice
  simp only [retA_iff, oneOf_one]
  refine ⟨by simp, S13, ?_, ?_⟩
  · have hn13 : 4 + 8 + 4 + 4 + 4 + (size - 24) = size := by omega
    rw [hn13] at v13 ⊢
    simpa [sec] using v13
  · have sA : Step h h7 [] (h6.next :: S6) := (st6.new _ _).trans (s7.wide (fun b hb => by simp at hb; simp [hb]) (fun b hb => by
      rcases List.mem_cons.1 hb with rfl | hb
      · exact .inl (by simp)
      · exact .inr ⟨by simp [hb], by have := (v6.lt b hb).2; simp; omega⟩))
    have sB := (sA.less (T := S6) (fun b hb => by simp [hb])).trans (s7_11.wide (T := S6) (T' := S6) (by simp) (fun b hb => .inr ⟨hb, (v7.lt b hb).2⟩))
    exact (sB.trans s12).trans s13
end
section
variable {w0 : World} {h : Hp} {p : Nat} {st : JS} {S : List Nat}
theorem xfree_loop {K : Value → Hp → Prop} (w : Jw w0 h p st S) (o : st.Ok) : ∀ (post pre : List (List UInt8)) (n : Int), pre ++ post = st.rooms.drop st.taken → (-9000000000000000000 ≤ n - tot post ∧ n ≤ 9000000000000000000) → K (.int .i64 (n - tot post)) h →
    dedupref07_Writer_free_L1 prog w0 K (post.length + 1) (ptr p) (.int .i64 n) (.int .i64 ((st.taken + pre.length : Nat) : Int)) h := by
  obtain ⟨x, T, hb, hB, hlt, vv, hp, rfl⟩ := w
  obtain ⟨a, c, hx⟩ := vv.slice
  have hta := o.good.1
  have hle := o.len
  have hse := o.sectors
  intro post
  induction post with
  | nil =>
    intro pre n he hn hk
    have hpl : st.taken + pre.length = st.rooms.length := by
      have := congrArg List.length he
      simp at this; omega
    rw [dedupref07_Writer_free_L1]
    simp only [dedupref07_Writer_free_B1, ptr, wd, wa]
    refine loadA_at hB hb (by rfl) ?_
    rw [hx]
    simp only [wd, wa, hpl, Int.lt_irrefl, decide_false]
    simpa using hk
  | cons r post ih =>
    intro pre n he hn hk
    have hpl : st.taken + pre.length < st.rooms.length := by
      have := congrArg List.length he
      simp at this; omega
    have ht : tot (r :: post) = r.length + tot post := by simp [tot]
    have hg : st.rooms[st.taken + pre.length]? = some r := by rw [← List.getElem?_drop, ← he]; simp
    have hrl := o.good.2.1 r (List.mem_of_getElem? hg)
    have hro := o.room
    rw [ht] at hn hk
    obtain ⟨b0, vs, y, T0, hxs, hb0B, hb0, hb0e, hvl, hvsl, vl, hT0⟩ := vv.get hg
    obtain ⟨ay, cy, hy⟩ := vl.slice
    have c1 : decide (((st.taken + pre.length : Nat) : Int) < (st.rooms.length : Int)) = true := decide_eq_true (by omega)
    have e5 : IntKind.i64.wrap (((st.taken + pre.length : Nat) : Int) + 1) = ((st.taken + (pre.length + 1) : Nat) : Int) := by rw [IntWalk.i64_in _ (by omega)]; omega
    have e6 : IntKind.i64.wrap (n - (r.length : Int)) = n - r.length := IntWalk.i64_in _ (by omega)
    have ih2 := ih (pre ++ [r]) (n - r.length) (by simpa using he) (by omega) (by
      have : n - (r.length : Int) - (tot post : Nat) = n - ((r.length + tot post : Nat) : Int) := by omega
      rw [this]; exact hk)
    rw [List.length_cons, dedupref07_Writer_free_L1]
    simp only [dedupref07_Writer_free_B1, ptr, wd, wa]
    refine loadA_at hB hb (by rfl) ?_
    rw [hxs]
    simp only [wd, wa, c1]
    refine loadA_at hB hb (by rfl) ?_
    rw [hxs]
    refine idxSlA_own (by omega) ?_
    refine loadA_at hb0B hb0 hvl ?_
    rw [hy]
    simp only [wd, wa, e6, e5]
    simpa [ptr] using ih2
theorem xfree_spec (w : Jw w0 h p st S) (o : st.Ok) : ACalls prog w0 n_dedupref07_Writer_free [ptr p] h fun v h' => v = .int .i64 st.free ∧ h' = h := by
  refine ACalls.of_fit (by simp [ptr]) fun f => c_dedupref07_Writer_free (by simp [ptr]) ?_
  have hro := o.room
  have hse := o.sectors
  have hle := o.len
  have hta := o.good.1
  have htot := o.tot
  have hsz := o.size
  have w' := w
  obtain ⟨x, T, hb, hB, hlt, q, hp, rfl⟩ := w
  have hmul : (st.sectors - st.taken) * st.room ≤ 4096 * 4096 := Nat.mul_le_mul (by omega) (by omega)
  have e0 : IntKind.i64.wrap ((st.size : Int) - 24) = ((st.room : Nat) : Int) := by rw [IntWalk.i64_in _ (by omega)]; unfold JS.room; omega
  have e1 : IntKind.i64.wrap ((st.sectors : Int) - (st.taken : Int)) = ((st.sectors - st.taken : Nat) : Int) := by rw [IntWalk.i64_in _ (by omega)]; omega
  have e2 : IntKind.i64.wrap (((st.sectors - st.taken : Nat) : Int) * (st.room : Int)) = (((st.sectors - st.taken) * st.room : Nat) : Int) := by rw [← Int.natCast_mul, IntWalk.i64_in _ (by omega)]
  simp only [s_dedupref07_Writer_free, ptr, wd, wa]
  refine loadA_at hB hb (by rfl) ?_
  simp only [wd, wa, e0]
  refine loadA_at hB hb (by rfl) ?_
  refine loadA_at hB hb (by rfl) ?_
  simp only [wd, wa, e1, e2]
  refine loadA_at hB hb (by rfl) ?_
  refine ⟨(st.rooms.drop st.taken).length + 1, ?_⟩
  have := xfree_loop (K := fun y4 => retA [y4] fun v h' => v = .int .i64 st.free ∧ h' = h) w' o (st.rooms.drop st.taken) [] (((st.sectors - st.taken) * st.room : Nat) : Int) rfl (by omega) (by
    simp only [retA_iff, oneOf_one]
    exact ⟨by simp, rfl, by trivial⟩)
  simpa [ptr] using this
end

section
variable {w0 : World} {p : Nat}
theorem put_byte {h : Hp} {st : JS} {S SX : List Nat} {fs : List (List UInt8)} {r all : List UInt8} {x5 : Value} {j : Nat} {b : UInt8} {K : Hp → Prop} (w : Jw w0 h p st S) (hrs : st.rooms = fs ++ [r]) (hn : fs.length ≤ 1000000) (hrl : r.length ≤ 1000000) (v5 : GV w0 h 1 x5 all.length (bvs all) SX) (hj : all[j]? = some b) (hd : ∀ c, c ∈ SX → c ∉ S)
    (hk : ∀ h' S', Jw w0 h' p { st with rooms := fs ++ [r ++ [b]] } S' → GV w0 h' 1 x5 all.length (bvs all) SX → (∀ c, c ∈ SX → c ∉ S') → Step h h' S S' → K h') :
    loadA w0 (.pointer (some ⟨p, 3, none⟩)) (fun v71 =>
    loadA w0 (.pointer (some ⟨p, 3, none⟩)) fun v77 =>
    idxSlA 1 v77 (.int .i64 (fs.length : Int)) fun v80 =>
    loadA w0 v80 fun v81 =>
    idxSlA 1 x5 (.int .i64 (j : Int)) fun v84 =>
    loadA w0 v84 fun v85 =>
    bslA [(0, 1, false, v85)] (zerosL [(.int .u8 0)] 1) 1 1 fun v86 =>
    stillA [(sameQ (loadA w0 v80) v81), (sameQ (loadA w0 (.pointer (some ⟨p, 3, none⟩))) v77), (sameQ (loadA w0 (.pointer (some ⟨p, 3, none⟩))) v71)] (
    appA w0 1 1 v81 v86 fun v87 =>
    stillA [(sameQ (loadA w0 (.pointer (some ⟨p, 3, none⟩))) v71)] (
    idxSlA 1 v71 (.int .i64 (fs.length : Int)) fun v88 =>
    storeA w0 v88 v87 fun _ => K))) h := by
  obtain ⟨x, T, hb, hB, hlt, vv, hp, rfl⟩ := w
  have hrl2 : st.rooms.length = fs.length + 1 := by rw [hrs]; simp
  obtain ⟨vs, U, S0, vx, rw_, d, rfl⟩ := vv
  rw [hrs] at rw_
  obtain ⟨vs', v, S', T0, rfl, rw', vl, dl, rfl⟩ := rw_.last
  have hlv := rw'.len
  have hvl : (vs' ++ [v])[fs.length]? = some v := by
    rw [List.getElem?_append_right (by omega)]; simp [hlv]
  rcases vx with ⟨-, e, -⟩ | ⟨b0, rfl, rfl, hb0B, hb0l, hb0, hb0e, -⟩
  · omega
  refine loadA_at hB hb (by rfl) ?_
  refine loadA_at hB hb (by rfl) ?_
  refine idxSlA_own (by omega) ?_
  refine loadA_at hb0B hb0 hvl ?_
  have hs5 := v5.src
  obtain ⟨a5, c5, rfl⟩ := v5.slice
  refine idx_load1 hs5 (by simp) (v := bv b) (by rw [bvs_get, hj]; rfl) ?_
  have hz : zerosL [(.int .u8 0 : Value)] 1 = [.int .u8 0] := rfl
  simp only [hz, bslA_iff, fillA_one, fillA_nil, isCell_bv, true_and, List.set_cons_zero, List.length_cons, List.length_nil]
  refine ⟨by omega, ?_⟩
  have s1 := (Step.refl h [] (by simp)).new [bv b] 1
  have hb1 : (h.new [bv b] 1).blk p = _ := (s1.keep p hlt (by simp)).1.trans hb
  have hb01 : (h.new [bv b] 1).blk b0 = _ := (s1.keep b0 hb0l (by simp)).1.trans hb0
  have hb01e : (h.new [bv b] 1).esz b0 = 1 := (s1.keep b0 hb0l (by simp)).2.trans hb0e
  simp only [stillA_iff, allA_cons, allA_one, sameQ_loadA]
  refine ⟨⟨loadA_at hb0B hb01 hvl rfl, loadA_at hB hb1 (by rfl) rfl, loadA_at hB hb1 (by rfl) rfl⟩, ?_⟩
  have hpT0 : p ∉ T0 := fun e => hp (by simp [e])
  have vl1 := vl.frame s1 (by simp)
  refine appA_vec (m := 1) (ys := bvs [b]) (by simp; omega) vl1 (by simp) (src_new (by omega) (by simp)) (by simp) (by omega) (by omega) (by omega) (fun v' h' T' vv' st' => ?_)
  have hlt1 : p < (h.new [bv b] 1).next := by simp; omega
  have hb0l1 : b0 < (h.new [bv b] 1).next := by simp; omega
  have hb' : h'.blk p = _ := (st'.keep p hlt1 hpT0).1.trans hb1
  have hb0T0 : b0 ∉ T0 := fun e => d b0 (by simp) (by simp [e])
  have hb0' : h'.blk b0 = _ := (st'.keep b0 hb0l1 hb0T0).1.trans hb01
  have hb0e' : h'.esz b0 = 1 := (st'.keep b0 hb0l1 hb0T0).2.trans hb01e
  simp only [stillA_iff, allA_one, sameQ_loadA]
  refine ⟨loadA_at hB hb' (by rfl) rfl, ?_⟩
  refine idxSlA_own (by omega) ?_
  obtain ⟨av', cv', hvs'⟩ := vv'.slice
  refine storeA_at hb0B hb0' (by simp; omega) (by rw [hvs']; rfl) ?_
  have hset : (vs' ++ [v]).set fs.length v' = vs' ++ [v'] := by
    rw [List.set_append_right _ _ (by omega), show fs.length - vs'.length = 0 by omega]; rfl
  rw [hset]
  have s01 : Step h h' T0 T' := (((Step.refl h T0 fun b hb => (vl.lt b hb).2).new [bv b] 1).less (T := T0) (fun b hb => by simp [hb])).trans st'
  have hT'n : ∀ b, b ∈ T' → b ∈ T0 ∨ h.next ≤ b := fun b hb => (s01.own b hb).2
  have dT' : ∀ b, b ∈ T' → b ∉ S' := fun b hb hs => by
    rcases hT'n b hb with e | e
    · exact dl b e hs
    · have := (rw'.lt b hs).2; omega
  have hpT' : p ∉ T' := fun e => by
    rcases hT'n p e with g | g
    · exact hpT0 g
    · omega
  have hb0T' : b0 ∉ T' := fun e => by
    rcases hT'n b0 e with g | g
    · exact hb0T0 g
    · omega
  have st2 : Step h (h'.put b0 (vs' ++ [v'])) (p :: ([b0] ++ (S' ++ T0))) (p :: ([b0] ++ (S' ++ T'))) := by
    refine (s01.wide (T := p :: ([b0] ++ (S' ++ T0))) (T' := p :: ([b0] ++ (S' ++ T'))) (fun b hb => by simp [hb]) (fun b hb => ?_)).put (by simp) _
    simp only [List.mem_cons, List.mem_append, List.not_mem_nil, or_false] at hb
    rcases hb with rfl | rfl | hb | hb
    · exact .inr ⟨by simp, hlt⟩
    · exact .inr ⟨by simp, hb0l⟩
    · exact .inr ⟨by simp [hb], (rw'.lt b hb).2⟩
    · exact .inl hb
  have hdSX : ∀ c, c ∈ SX → c ∉ p :: ([b0] ++ (S' ++ T')) := fun c hc e => by
    have h1 := hd c hc
    simp only [List.mem_cons, List.mem_append, List.not_mem_nil, or_false, not_or] at h1 e
    rcases e with e | e | e | e
    · exact h1.1 e
    · exact h1.2.1 e
    · exact h1.2.2.1 e
    · rcases hT'n c e with g | g
      · exact h1.2.2.2 g
      · have := (v5.lt c hc).2; omega
  refine hk _ (p :: ([b0] ++ (S' ++ T'))) ⟨.slice (some ⟨b0, 0, none⟩) st.rooms.length ucap, [b0] ++ (S' ++ T'), ?_, hB, by have := st2.next; omega, ⟨vs' ++ [v'], [b0], S' ++ T', ?_, ?_, ?_, rfl⟩, ?_, rfl⟩ (v5.frame st2 hd) hdSX st2
  · have hpb0 : p ≠ b0 := fun e => hp (by simp [e])
    simp only [put_blk, if_neg hpb0]
    exact hb'
  · refine .inr ⟨b0, by rw [hrl2]; simp, rfl, hb0B, by have := st2.next; omega, by simp, by simpa using hb0e', by simp; omega⟩
  · have hr1 := (rw'.frame s01 (fun b hb he => dl b he hb)).put (p := b0) (fun e => d b0 (by simp) (by simp [e])) (vs' ++ [v'])
    have hv1 := vv'.put (p := b0) hb0T' (vs' ++ [v'])
    refine .snoc hr1 ?_ dT'
    have e4 : r.length + 1 = (r ++ [b]).length := by simp
    rw [e4] at hv1
    simpa using hv1
  · intro b hb he
    simp at hb
    subst hb
    rcases List.mem_append.1 he with g | g
    · exact d b (by simp) (by simp [g])
    · exact hb0T' g
  · intro e
    simp only [List.mem_cons, List.mem_append, List.not_mem_nil, or_false] at e
    rcases e with e | e | e
    · exact hp (by simp [e])
    · exact hp (by simp [e])
    · exact hpT' e
theorem push_step {h : Hp} {st : JS} {S SX : List Nat} {all : List UInt8} {x5 : Value} {j m : Nat} {b : UInt8} {k0 : Value → Hp → Prop} (w : Jw w0 h p st S) (hsz : 512 ≤ st.size ∧ st.size ≤ 4096) (ht : st.taken ≤ st.rooms.length) (hrm : ∀ r, r ∈ st.rooms → r.length ≤ st.room) (hn : st.rooms.length ≤ 1000000)
    (v5 : GV w0 h 1 x5 all.length (bvs all) SX) (hj : all[j]? = some b) (hjl : all.length ≤ 1000000) (hd : ∀ c, c ∈ SX → c ∉ S)
    (hk : ∀ h' S', Jw w0 h' p { st with rooms := pushB st.room st.taken st.rooms b } S' → GV w0 h' 1 x5 all.length (bvs all) SX → (∀ c, c ∈ SX → c ∉ S') → Step h h' S S' → dedupref07_Writer_Append_L1 prog w0 k0 m (ptr p) x5 (.int .i64 ((j + 1 : Nat) : Int)) h') :
    dedupref07_Writer_Append_L1 prog w0 k0 (m + 1) (ptr p) x5 (.int .i64 (j : Int)) h := by
  have w' := w
  obtain ⟨x, T, hb, hB, hlt, vv, hp, rfl⟩ := w
  have hjlt := (List.getElem?_eq_some_iff.1 hj).1
  obtain ⟨aR, cR, hxR⟩ := vv.slice
  obtain ⟨a5, c5, hx5⟩ := v5.slice
  have hro : 488 ≤ st.room ∧ st.room ≤ 4072 := by unfold JS.room; omega
  have c1 : decide ((j : Int) < (all.length : Int)) = true := decide_eq_true (by omega)
  have e5 : IntKind.i64.wrap ((j : Int) + 1) = ((j + 1 : Nat) : Int) := by rw [IntWalk.i64_in _ (by omega)]; simp
  have e6 : IntKind.i64.wrap ((st.rooms.length : Int) + 1) = ((st.rooms.length + 1 : Nat) : Int) := by rw [IntWalk.i64_in _ (by omega)]; simp
  have e7 : IntKind.i64.wrap (((st.rooms.length + 1 : Nat) : Int) - 1) = (st.rooms.length : Int) := by rw [IntWalk.i64_in _ (by omega)]; omega
  have e8 : IntKind.i64.wrap ((st.size : Int) - 24) = ((st.room : Nat) : Int) := by rw [IntWalk.i64_in _ (by omega)]; unfold JS.room; omega
  have hz : zerosL [(.slice none 0 0 : Value)] 1 = [.slice none 0 0] := rfl
  -- a new room, and the byte into it
  have hopen : pushB st.room st.taken st.rooms b = st.rooms ++ [[b]] → ∀ {K : Kont},
      (∀ h' S', Jw w0 h' p { st with rooms := st.rooms ++ [[]] } S' → GV w0 h' 1 x5 all.length (bvs all) SX → (∀ c, c ∈ SX → c ∉ S') → Step h h' (p :: T) S' → K undef h') →
      loadA w0 (.pointer (some ⟨p, 3, none⟩)) (fun v61 => bslA [(0, 1, false, (.slice none 0 0))] (zerosL [(.slice none 0 0)] 1) 1 1 fun v62 => appA w0 1 24 v61 v62 fun v63 => storeA w0 (.pointer (some ⟨p, 3, none⟩)) v63 K) h := by
    intro _ K hK
    refine loadA_at hB hb (by rfl) ?_
    simp only [hz, bslA_iff, fillA_one, fillA_nil, isCell_slice, true_and, List.set_cons_zero, List.length_cons, List.length_nil]
    refine ⟨by omega, ?_⟩
    have s1 := (Step.refl h [] (by simp)).new [(.slice none 0 0 : Value)] 1
    have v1 := vv.frame s1 (by simp)
    refine appA_vvec (r := []) (T := []) (by simp; omega) v1 (src_new (by omega) (by simp)) .nil (by simp) (by omega) (by omega) fun x' h' S' v' st' => ?_
    have st0 : Step h h' T S' := (((Step.refl h T fun b hb => (vv.lt b hb).2).new [(.slice none 0 0 : Value)] 1).less (T := T) (fun b hb => by simp [hb])).trans (by simpa using st')
    have hb' : h'.blk p = _ := (st0.keep p hlt hp).1.trans hb
    obtain ⟨a', c', hx'⟩ := v'.slice
    refine storeA_at hB hb' (by simp) (by rw [hx']; rfl) ?_
    have hpS' : p ∉ S' := fun e => by rcases (st0.own p e).2 with g | g; exact hp g; omega
    have stp : Step h (h'.put p ([.int .i64 st.size, .int .i64 st.sectors, .int .u64 st.gen, x, .int .i64 st.taken, .int .i64 st.cnt].set 3 x')) (p :: T) (p :: S') := (st0.wide (T := p :: T) (T' := p :: S') (fun b hb => by simp [hb]) (fun b hb => by
        rcases List.mem_cons.1 hb with rfl | hb
        · exact .inr ⟨by simp, hlt⟩
        · exact .inl hb)).put (by simp) _
    refine hK _ (p :: S') ⟨x', S', by simp, hB, by have := st0.next; simp; omega, v'.put hpS' _, hpS', rfl⟩ (v5.frame stp hd) (fun c hc e => ?_) stp
    rcases List.mem_cons.1 e with e | e
    · exact hd c hc (by simp [e])
    · rcases (st0.own c e).2 with g | g
      · exact hd c hc (by simp [g])
      · have := (v5.lt c hc).2; omega
  rw [dedupref07_Writer_Append_L1]
  by_cases hnew : st.rooms.length = st.taken ∨ ∃ fs r, st.rooms = fs ++ [r] ∧ r.length = st.room
  · have hpb : pushB st.room st.taken st.rooms b = st.rooms ++ [[b]] := by
      rcases hnew with e | ⟨fs, r, e, e2⟩
      · exact pushB_taken e
      · rw [e, pushB_snoc, if_pos (.inr e2)]
    -- the decision
    have hdec : ∀ {Z : Value → Hp → Prop}, Z (.bool true) h → (∀ (q : Bool), True) → True := fun _ _ => trivial
    have fin : loadA w0 (.pointer (some ⟨p, 3, none⟩)) (fun v61 => bslA [(0, 1, false, (.slice none 0 0))] (zerosL [(.slice none 0 0)] 1) 1 1 fun v62 => appA w0 1 24 v61 v62 fun v63 => storeA w0 (.pointer (some ⟨p, 3, none⟩)) v63 fun _ =>
        loadA w0 (.pointer (some ⟨p, 3, none⟩)) fun v71 => loadA w0 (.pointer (some ⟨p, 3, none⟩)) fun v77 => idxSlA 1 v77 (.int .i64 (st.rooms.length : Int)) fun v80 => loadA w0 v80 fun v81 => idxSlA 1 x5 (.int .i64 (j : Int)) fun v84 => loadA w0 v84 fun v85 =>
        bslA [(0, 1, false, v85)] (zerosL [(.int .u8 0)] 1) 1 1 fun v86 => stillA [(sameQ (loadA w0 v80) v81), (sameQ (loadA w0 (.pointer (some ⟨p, 3, none⟩))) v77), (sameQ (loadA w0 (.pointer (some ⟨p, 3, none⟩))) v71)] (
        appA w0 1 1 v81 v86 fun v87 => stillA [(sameQ (loadA w0 (.pointer (some ⟨p, 3, none⟩))) v71)] (idxSlA 1 v71 (.int .i64 (st.rooms.length : Int)) fun v88 => storeA w0 v88 v87 fun _ => dedupref07_Writer_Append_L1 prog w0 k0 m (.pointer (some ⟨p, 0, none⟩)) x5 (.int .i64 ((j + 1 : Nat) : Int))))) h := by
      refine hopen hpb fun h' S' w1 v1 d1 s1 => ?_
      refine put_byte (fs := st.rooms) (r := []) w1 rfl hn (by simp) v1 hj d1 fun h2 S2 w2 v2 d2 s2 => ?_
      rw [hpb] at hk
      exact hk h2 S2 w2 v2 d2 (s1.trans s2)
    by_cases hta : st.rooms.length = st.taken
    · have c2 : ((st.rooms.length : Int) == (st.taken : Int)) = true := by rw [hta]; simp
      rw [hx5]
      simp only [dedupref07_Writer_Append_B1, ptr, wd, wa, c1]
      refine loadA_at hB hb (by rfl) ?_
      rw [hxR]
      simp only [wd, wa]
      refine loadA_at hB hb (by rfl) ?_
      simp only [wd, wa, c2, e5, e6, e7]
      rw [← hx5]
      exact fin
    · obtain ⟨fs, r, hrs, hfull⟩ := hnew.resolve_left hta
      have hrl : st.rooms.length = fs.length + 1 := by rw [hrs]; simp
      have c2 : ((st.rooms.length : Int) == (st.taken : Int)) = false := by rw [beq_eq_false_iff_ne]; omega
      have c3 : ((r.length : Int) == (st.room : Int)) = true := by rw [beq_iff_eq, hfull]
      have e4 : IntKind.i64.wrap ((st.rooms.length : Int) - 1) = (fs.length : Int) := by rw [IntWalk.i64_in _ (by omega)]; omega
      obtain ⟨b0, vs, v, T0, hxs, hb0B, hb0, hb0e, hvl, hvsl, vl, hT0⟩ := vv.get (i := fs.length) (r := r) (by rw [hrs]; simp)
      obtain ⟨av, cv, hvs⟩ := vl.slice
      rw [hx5]
      simp only [dedupref07_Writer_Append_B1, ptr, wd, wa, c1]
      refine loadA_at hB hb (by rfl) ?_
      rw [hxs]
      simp only [wd, wa]
      refine loadA_at hB hb (by rfl) ?_
      simp only [wd, wa, c2]
      refine loadA_at hB hb (by rfl) ?_
      rw [hxs]
      simp only [wd, wa, e4]
      refine idxSlA_own (by omega) ?_
      refine loadA_at hb0B hb0 hvl ?_
      rw [hvs]
      simp only [wd, wa]
      refine loadA_at hB hb (by rfl) ?_
      simp only [wd, wa, e8, c3, e5, e6, e7]
      rw [← hx5]
      exact fin
  · have hta : ¬ st.rooms.length = st.taken := fun e => hnew (.inl e)
    rcases List.eq_nil_or_concat st.rooms with e | ⟨fs, r, hrs⟩
    · rw [e] at hta ht; simp at hta ht; omega
    rw [List.concat_eq_append] at hrs
    have hr1 := hrm r (by rw [hrs]; simp)
    have hr2 : r.length ≠ st.room := fun e => hnew (.inr ⟨fs, r, hrs, e⟩)
    have hrl : st.rooms.length = fs.length + 1 := by rw [hrs]; simp
    have hpb : pushB st.room st.taken st.rooms b = fs ++ [r ++ [b]] := by
      rw [hrs, pushB_snoc, if_neg (by omega)]
    have c2 : ((st.rooms.length : Int) == (st.taken : Int)) = false := by rw [beq_eq_false_iff_ne]; omega
    have c3 : ((r.length : Int) == (st.room : Int)) = false := by rw [beq_eq_false_iff_ne]; omega
    have e4 : IntKind.i64.wrap ((st.rooms.length : Int) - 1) = (fs.length : Int) := by rw [IntWalk.i64_in _ (by omega)]; omega
    obtain ⟨b0, vs, v, T0, hxs, hb0B, hb0, hb0e, hvl, hvsl, vl, hT0⟩ := vv.get (i := fs.length) (r := r) (by rw [hrs]; simp)
    obtain ⟨av, cv, hvs⟩ := vl.slice
    rw [hpb] at hk
    have fin := put_byte (K := dedupref07_Writer_Append_L1 prog w0 k0 m (.pointer (some ⟨p, 0, none⟩)) x5 (.int .i64 ((j + 1 : Nat) : Int))) w' hrs (by omega) (by omega) v5 hj hd hk
    rw [hx5]
    simp only [dedupref07_Writer_Append_B1, ptr, wd, wa, c1]
    refine loadA_at hB hb (by rfl) ?_
    rw [hxs]
    simp only [wd, wa]
    refine loadA_at hB hb (by rfl) ?_
    simp only [wd, wa, c2]
    refine loadA_at hB hb (by rfl) ?_
    rw [hxs]
    simp only [wd, wa, e4]
    refine idxSlA_own (by omega) ?_
    refine loadA_at hb0B hb0 hvl ?_
    rw [hvs]
    simp only [wd, wa]
    refine loadA_at hB hb (by rfl) ?_
    simp only [wd, wa, e8, c3, e4, e5]
    rw [← hx5]
    exact fin
end
section
variable {w0 : World} {p : Nat}
theorem xappend_loop {k0 : Value → Hp → Prop} {all : List UInt8} {x5 : Value} {SX : List Nat} (hal : all.length ≤ 1000000) : ∀ (post pre : List UInt8) (st : JS) (h : Hp) (S : List Nat), pre ++ post = all → Jw w0 h p st S → (512 ≤ st.size ∧ st.size ≤ 4096) → GV w0 h 1 x5 all.length (bvs all) SX → (∀ c, c ∈ SX → c ∉ S) → Good st.room st.taken st.rooms →
    (pushAll st.room st.taken st.rooms post).length ≤ 1000000 →
    (∀ h' S', Jw w0 h' p { st with rooms := pushAll st.room st.taken st.rooms post } S' → Step h h' S S' → k0 (ptr p) h') →
    dedupref07_Writer_Append_L1 prog w0 k0 (post.length + 1) (ptr p) x5 (.int .i64 (pre.length : Int)) h := by
  intro post
  induction post with
  | nil =>
    intro pre st h S he w hsz v5 hd g hN hk
    have hpre : pre = all := by simpa using he
    obtain ⟨a5, c5, rfl⟩ := v5.slice
    rw [dedupref07_Writer_Append_L1]
    simp only [dedupref07_Writer_Append_B1, wd, wa, hpre, Int.lt_irrefl, decide_false]
    exact hk h S w w.refl
  | cons b post ih =>
    intro pre st h S he w hsz v5 hd g hN hk
    have hml := pushAll_len (room := st.room) (taken := st.taken) (b :: post) st.rooms
    refine push_step (b := b) w hsz g.1 g.2.1 (by omega) v5 (by rw [← he]; simp) hal hd fun h' S' w' v' d' s' => ?_
    have hr : 0 < st.room := by unfold JS.room; omega
    obtain ⟨g', -⟩ := good_push (b := b) hr g
    have := ih (pre ++ [b]) { st with rooms := pushB st.room st.taken st.rooms b } h' S' (by simpa using he) w' hsz v' d' g' hN (fun h2 S2 w2 s2 => hk h2 S2 w2 (s'.trans s2))
    simpa using this
theorem xAppend_spec {h : Hp} {st : JS} {S : List Nat} (w : Jw w0 h p st S) (o : st.Ok) (l : List UInt8) (hl : l.length ≤ 1000000000) :
    ACalls prog w0 n_dedupref07_Writer_Append [ptr p, .string (str l)] h fun v h' => v = .int .i64 (st.append l).1 ∧ ∃ S', Jw w0 h' p (st.append l).2 S' ∧ Step h h' S S' := by
  refine ACalls.of_fit (by simp [ptr]) fun f => c_dedupref07_Writer_Append (by simp [ptr]) ?_
  simp only [s_dedupref07_Writer_Append, wd, wa]
  by_cases h1 : 65536 < l.length
  · have c1 : decide ((65536 : Int) < (l.length : Int)) = true := decide_eq_true (by omega)
    have ha : st.append l = (3, st) := by simp [JS.append, h1]
    simp only [c1, fcondA_true, retA_iff, oneOf_one, ha]
    exact ⟨by simp, by trivial, S, w, w.refl⟩
  have c1 : decide ((65536 : Int) < (l.length : Int)) = false := decide_eq_false (by omega)
  have e1 : IntKind.i64.wrap (4 + (l.length : Int)) = (l.length : Int) + 4 := by rw [IntWalk.i64_in _ (by omega)]; omega
  simp only [wd, wa, c1, e1]
  refine callA_of (xfree_spec w o) fun v h2 ⟨e, e1⟩ f2 => ?_
  subst e e1
  by_cases h2' : st.free < l.length + 4
  · have c2 : decide (st.free < (l.length : Int) + 4) = true := decide_eq_true h2'
    have ha : st.append l = (2, st) := by simp [JS.append, h1, h2']
    simp only [wd, wa, c2, retA_iff, oneOf_one, ha]
    exact ⟨by simp, by trivial, S, w, w.refl⟩
  have c2 : decide (st.free < (l.length : Int) + 4) = false := decide_eq_false h2'
  have ha : st.append l = (0, { st with rooms := pushAll st.room st.taken st.rooms (be 4 l.length ++ l), cnt := IntKind.i64.wrap (st.cnt + 1) }) := by simp [JS.append, h1, h2']
  have hok := o.append l
  rw [ha] at hok ⊢
  have e2 : IntKind.u64.wrap (l.length : Int) = l.length := IntWalk.u64_in _ (by omega)
  simp only [wd, wa, c2, e2]
  refine callA_of (high_spec l.length 4 (by omega) (by omega)) fun v h3 ⟨S3, g3, s3⟩ f3 => ?_
  have w3 := w.frame s3 (by simp)
  refine appA_gv f3.base g3 (m := l.length) (ys := bvs l) (by simp) (by have := src_string (h := h3) w0.heap.size (str l); simpa using this) (by simp) (by omega) (by omega) (by omega) fun x5 h4 S4 v4 s4 => ?_
  have hS3 : ∀ b, b ∈ S3 → h2.next ≤ b := fun b hb => by
    rcases (s3.own b hb).2 with e | e
    · simp at e
    · exact e
  have wl := w.lt
  have w4 := w3.frame s4 (fun b hb he => by have := hS3 b he; have := (wl b hb).2; omega)
  have s34 : Step h2 h4 [] S4 := s3.trans s4
  have hS4 : ∀ b, b ∈ S4 → b ∉ S := fun b hb he => by
    rcases (s34.own b hb).2 with e | e
    · simp at e
    · have := (wl b he).2; omega
  rw [← bvs_append, show 4 + l.length = (be 4 l.length ++ l).length by simp] at v4
  have hbound := hok.len
  have hse := o.sectors
  refine ⟨(be 4 l.length ++ l).length + 1, ?_⟩
  have := xappend_loop (w0 := w0) (p := p) (all := be 4 l.length ++ l) (x5 := x5) (SX := S4) (k0 := fun y0 => nilA y0 fun v90 => addA v90 5 fun v91 => loadA w0 v91 fun v92 => pureA (binA .add v92 (.int .i64 1)) fun v93 => nilA y0 fun v94 => addA v94 5 fun v95 => storeA w0 v95 v93 fun _ => retA [(.int .i64 0)] fun v h' => v = .int .i64 0 ∧ ∃ S', Jw w0 h' p { st with rooms := pushAll st.room st.taken st.rooms (be 4 l.length ++ l), cnt := IntKind.i64.wrap (st.cnt + 1) } S' ∧ Step h2 h' S S')
    (by simp; omega) (be 4 l.length ++ l) [] st h4 S rfl w4 o.size v4 hS4 o.good (by simp only at hbound; omega) (fun h5 S5 w5 s5 => by
    obtain ⟨x, T, hb, hB, hlt, vv, hp, rfl⟩ := w5
    simp only [ptr, wd, wa]
    refine loadA_at hB hb (by rfl) ?_
    simp only [wd, wa]
    refine storeA_at hB hb (by simp) rfl ?_
    simp only [retA_iff, oneOf_one]
    refine ⟨by simp, by trivial, p :: T, ⟨x, T, by simp, hB, by simpa using hlt, vv.put hp _, hp, rfl⟩, ?_⟩
    exact (((s34.wide (T := S) (T' := S) (by simp) (fun b hb => .inr ⟨hb, (wl b hb).2⟩)).trans s5).put (by simp) _))
  exact this

theorem xtake_loop {k0 : Value → Value → Hp → Prop} {st : JS} {x : Value} {vs : List Value} {U S0 : List Nat} (o : st.Ok) : ∀ (post pre : List (List UInt8)) (h : Hp) (x3 : Value) (SO : List Nat), pre ++ post = st.rooms.drop st.taken →
    h.blk p = some [.int .i64 st.size, .int .i64 st.sectors, .int .u64 st.gen, x, .int .i64 st.taken, .int .i64 st.cnt] → w0.heap.size ≤ p → p < h.next → Vec w0 h 1 x st.rooms.length vs U → Rows w0 h vs st.rooms S0 → SVec w0 h x3 st.taken (secList st.size st.gen st.taken pre) SO → (∀ b, b ∈ SO → b ∉ p :: (U ++ S0)) →
    (∀ h' x' SO', SVec w0 h' x' st.taken st.secs SO' → Step h h' SO SO' → k0 (ptr p) x' h') →
    dedupref07_Writer_Take_L1 prog w0 k0 (post.length + 1) (ptr p) x3 (.int .i64 ((st.taken + pre.length : Nat) : Int)) h := by
  intro post
  induction post with
  | nil =>
    intro pre h x3 SO he hb hB hlt v rr sv hd hk
    have hpre : pre = st.rooms.drop st.taken := by simpa using he
    have hta := o.good.1
    have hpl : st.taken + pre.length = st.rooms.length := by rw [hpre]; simp; omega
    obtain ⟨ax, cx, hx⟩ := v.slice
    rw [dedupref07_Writer_Take_L1]
    simp only [dedupref07_Writer_Take_B1, ptr, wd, wa]
    refine loadA_at hB hb (by rfl) ?_
    rw [hx]
    simp only [wd, wa, hpl, Int.lt_irrefl, decide_false]
    rw [hpre] at sv
    exact hk h x3 SO sv (Step.refl _ _ fun b hb => (sv.lt b hb).2)
  | cons r post ih =>
    intro pre h x3 SO he hb hB hlt v rr sv hd hk
    have hlen : st.taken + pre.length < st.rooms.length := by
      have := congrArg List.length he
      simp at this; omega
    have hle := o.len
    have hse := o.sectors
    have hta := o.good.1
    have hget : st.rooms[st.taken + pre.length]? = some r := by
      rw [← List.getElem?_drop, ← he]; simp
    obtain ⟨y, T, hy, vy, hT⟩ := rr.get hget
    have hr := o.good.2.1 r (List.mem_of_getElem? hget)
    have hvl := rr.len
    have c1 : decide (((st.taken + pre.length : Nat) : Int) < (st.rooms.length : Int)) = true := decide_eq_true (by omega)
    have e5 : IntKind.i64.wrap (((st.taken + pre.length : Nat) : Int) + 1) = ((st.taken + (pre.length + 1) : Nat) : Int) := by rw [IntWalk.i64_in _ (by omega)]; omega
    have hsx := v.src
    obtain ⟨ax, cx, hx⟩ := v.slice
    rw [hx] at hsx
    rw [List.length_cons, dedupref07_Writer_Take_L1]
    simp only [dedupref07_Writer_Take_B1, ptr, wd, wa]
    refine loadA_at hB hb (by rfl) ?_
    rw [hx]
    simp only [wd, wa, c1]
    refine loadA_at hB hb (by rfl) ?_
    refine loadA_at hB hb (by rfl) ?_
    refine loadA_at hB hb (by rfl) ?_
    rw [hx]
    refine idx_load1 hsx hvl hy ?_
    obtain ⟨ay, cy, rfl⟩ := vy.slice
    refine callA_of (Bytes_spec (gen := st.gen) o.size o.gen (by omega) (by have := hr; unfold JS.room at this; exact this) vy.src) fun v1 h1 ⟨S1, v1v, s1⟩ f1 => ?_
    have hsl := sec_length st.gen (st.taken + pre.length) (size := st.size) (r := r) (by have := o.size; omega) hr
    have sv1 := sv.frame s1 (by simp)
    have hel : st.taken + (secList st.size st.gen st.taken pre).length = st.taken + pre.length := by simp
    have v1v' : Vec w0 h1 1 v1 (sec st.size st.gen (st.taken + pre.length) r).length (bvs (sec st.size st.gen (st.taken + pre.length) r)) S1 := by rw [hsl]; exact v1v
    have hse1 := sec_elem (k := st.taken) (r := sec st.size st.gen (st.taken + pre.length) r) (K := fun v46 => dedupref07_Writer_Take_L1 prog w0 k0 (post.length + 1) (ptr p) v46 (.int .i64 (IntKind.i64.wrap (((st.taken + pre.length : Nat) : Int) + 1)))) f1.base sv1 v1v' (fun b hb1 hb2 => by
      rcases (s1.own b hb1).2 with e | e
      · simp at e
      · have := (sv.lt b hb2).2; omega) (by simp; omega) (fun x' h' S' v' st' => by
      rw [e5]
      have s12 : Step h h' SO S' := (s1.wide (T := SO) (T' := SO ++ S1) (by simp) (fun b hb => by
        rcases List.mem_append.1 hb with e | e
        · exact .inr ⟨e, (sv.lt b e).2⟩
        · exact .inl e)).trans st'
      have hpSO : p ∉ SO := fun e => hd p e (by simp)
      have hb' : h'.blk p = _ := (s12.keep p hlt hpSO).1.trans hb
      have := ih (pre ++ [r]) h' x' S' (by simpa using he) hb' hB (by have := s12.next; omega) (v.frame s12 fun b hb he => hd b he (by simp [hb])) (rr.frame s12 fun b hb he => hd b he (by simp [hb])) (by rw [secList_snoc]; exact v') (fun b hb he => by
        rcases (s12.own b hb).2 with g | g
        · exact hd b g he
        · have : b < h.next := by
            rcases List.mem_cons.1 he with rfl | he
            · exact hlt
            · rcases List.mem_append.1 he with he | he
              · exact (v.lt b he).2
              · exact (rr.lt b he).2
          omega) (fun h2 x2 S2 v2 s2 => hk h2 x2 S2 v2 (s12.trans s2))
      simpa using this)
    rw [hel] at hse1
    exact hse1
theorem xTake_spec {h : Hp} {st : JS} {S : List Nat} (w : Jw w0 h p st S) (o : st.Ok) :
    ACalls prog w0 n_dedupref07_Writer_Take [ptr p] h fun v h' => ∃ SO, Jw w0 h' p st.take S ∧ SVec w0 h' v st.taken st.secs SO ∧ (∀ b, b ∈ SO → h.next ≤ b) ∧ Step h h' S (SO ++ S) := by
  refine ACalls.of_fit (by simp [ptr]) fun f => c_dedupref07_Writer_Take (by simp [ptr]) ?_
  have wr := w.refl
  obtain ⟨x, T, hb, hB, hlt, vv, hp, rfl⟩ := w
  obtain ⟨vs, U, S0, v, rr, d, rfl⟩ := vv
  simp only [s_dedupref07_Writer_Take, ptr, wd, wa]
  refine loadA_at hB hb (by rfl) ?_
  have hl : (st.rooms.drop st.taken).length = st.rooms.length - st.taken := by simp
  refine ⟨(st.rooms.drop st.taken).length + 1, ?_⟩
  refine xtake_loop o (st.rooms.drop st.taken) [] h _ [] rfl hb hB hlt v rr (SVec.nil _) (by simp) fun h2 x2 SO v2 s2 => ?_
  simp only [ptr, wd, wa]
  have hb2 : h2.blk p = _ := (s2.keep p hlt (by simp)).1.trans hb
  refine loadA_at hB hb2 (by rfl) ?_
  obtain ⟨ax, cx, hx⟩ := v.slice
  rw [hx]
  simp only [wd, wa]
  rw [storeA_own]
  refine ⟨_, hB, hb2, by simp, rfl, ?_⟩
  obtain ⟨a2, c2, hx2⟩ := v2.slice
  have hSO : ∀ b, b ∈ SO → h.next ≤ b := fun b hb => by
    rcases (s2.own b hb).2 with e | e
    · simp at e
    · exact e
  simp only [retA_iff, oneOf_one]
  refine ⟨by rw [hx2]; simp, SO, ⟨x, U ++ S0, ?_, hB, by have := s2.next; simp; omega, ⟨vs, U, S0, ?_, ?_, d, rfl⟩, hp, rfl⟩, ?_, hSO, ?_⟩
  · simp [JS.take]
  · exact (v.frame s2 (by simp)).put (fun e => hp (by simp [e])) _
  · exact (rr.frame s2 (by simp)).put (fun e => hp (by simp [e])) _
  · obtain ⟨vs2, U2, S2, g1, g2, g3, g4⟩ := v2
    have hpSO : p ∉ SO := fun e => by have := hSO p e; omega
    rw [g4] at hpSO
    exact ⟨vs2, U2, S2, g1.put (fun e => hpSO (by simp [e])) _, g2.put (fun e => hpSO (by simp [e])) _, g3, g4⟩
  · refine (s2.wide (T := p :: (U ++ S0)) (T' := SO ++ (p :: (U ++ S0))) (by simp) (fun b hb => ?_)).put (by simp) _
    rcases List.mem_append.1 hb with e | e
    · exact .inl e
    · exact .inr ⟨e, wr.own b e |>.1⟩

end
section
variable {w0 : World}
theorem secList_mem {size gen : Nat} (hs : 24 ≤ size) : ∀ (rs : List (List UInt8)) (k : Nat), (∀ r, r ∈ rs → r.length ≤ size - 24) → ∀ x, x ∈ secList size gen k rs → x.length = size := by
  intro rs
  induction rs with
  | nil => intro k _ x hx; simp [secList] at hx
  | cons r rs ih =>
    intro k h x hx
    simp only [secList, List.mem_cons] at hx
    rcases hx with rfl | hx
    · exact sec_length _ _ hs (h r (by simp))
    · exact ih (k + 1) (fun r hr => h r (by simp [hr])) x hx
theorem JS.Ok.secs {st : JS} (o : st.Ok) : ∀ x, x ∈ st.secs → x.length = st.size :=
  secList_mem (by have := o.size; omega) _ _ fun r hr => by have := o.good.2.1 r (List.mem_of_mem_drop hr); unfold JS.room at this; exact this
theorem JS.Ok.new {n s : Int} {g : Nat} (h : jok n s = true) (hg : g < 18446744073709551616) : JS.Ok ⟨n.toNat, s.toNat, g, [], 0, 0⟩ := by
  simp only [jok, Bool.and_eq_true, decide_eq_true_eq] at h
  have hr := jsize_range h.1.1
  refine ⟨⟨?_, ?_⟩, ⟨?_, ?_⟩, hg, ⟨?_, ?_, ?_⟩, ?_, ?_, ?_⟩
  all_goals simp only
  all_goals first | omega | simp
theorem lives_spec {h : Hp} : ACalls prog w0 n_deduplaw07_lives [] h fun v h' => v = .bool true ∧ Step h h' [] [] := by
  refine ACalls.of_fit (by simp) fun f => c_deduplaw07_lives (by simp) ?_
  simp only [s_deduplaw07_lives]
  have hj : jok 512 2 = true := by decide
  refine callA_of (JNew_spec 512 2 7 (by omega)) fun v h1 ⟨g, _⟩ f1 => ?_
  obtain ⟨e, w1, s1⟩ := g hj
  subst e
  have o1 : JS.Ok ⟨512, 2, 7, [], 0, 0⟩ := JS.Ok.new hj (by omega)
  simp only [wd, wa, bne_self_eq_false, binPtr_ptr]
  refine callA_of (Left_spec w1 o1) fun v h2 ⟨e, e1⟩ f2 => ?_
  subst e e1
  have l1 : (⟨(512 : Int).toNat, (2 : Int).toNat, 7, [], 0, 0⟩ : JS).left = 972 := by decide
  simp only [wd, wa, l1, bne_self_eq_false]
  have e0 : (⟨#[97, 98, 99]⟩ : ByteArray) = str [97, 98, 99] := rfl
  rw [e0]
  refine callA_of (Append_spec w1 o1 [97, 98, 99] (by simp)) fun v h3 ⟨e, S3, w3, s3⟩ f3 => ?_
  have o3 := o1.append [97, 98, 99]
  have ea : ((⟨(512 : Int).toNat, (2 : Int).toNat, 7, [], 0, 0⟩ : JS).append [97, 98, 99]) = (0, ⟨512, 2, 7, [[0, 0, 0, 3, 97, 98, 99]], 0, 1⟩) := by kernel_rfl
  rw [ea] at e w3
  have o3' : JS.Ok ⟨512, 2, 7, [[0, 0, 0, 3, 97, 98, 99]], 0, 1⟩ := by
    have h1 : (⟨512, 2, 7, [[0, 0, 0, 3, 97, 98, 99]], 0, 1⟩ : JS) = ((⟨512, 2, 7, [], 0, 0⟩ : JS).append [97, 98, 99]).2 := by kernel_rfl
    rw [h1]; exact o3
  subst e
  simp only [wd, wa, bne_self_eq_false]
  refine callA_of (Take_spec w3 o3') fun v h4 ⟨S4, w4, v4, d4, s4⟩ f4 => ?_
  have hsl : (⟨512, 2, 7, [[0, 0, 0, 3, 97, 98, 99]], 0, 1⟩ : JS).secs.length = 1 := by simp [JS.secs]
  have hg0 : (⟨512, 2, 7, [[0, 0, 0, 3, 97, 98, 99]], 0, 1⟩ : JS).secs[0]? = some (sec 512 7 0 [0, 0, 0, 3, 97, 98, 99]) := rfl
  have hsec : (sec 512 7 0 [0, 0, 0, 3, 97, 98, 99]).length = 512 := sec_length _ _ (by omega) (by simp)
  obtain ⟨b, cs, y, T, ex, hB, hlt, hb, -, -, g1, g2, vy, -⟩ := v4.get hg0
  rw [ex, hsl]
  obtain ⟨ay, cy, rfl⟩ := vy.slice
  have hsy := vy.src
  rw [hsec] at hsy g2
  have idx : ∀ {K : Kont}, K (.pointer (some ⟨b, 0, none⟩)) h4 → idxSlA 2 (.slice (some ⟨b, 0, none⟩) 1 ucap) (.int .i64 0) K h4 := by
    intro K hK
    rw [idxSlA_iff]
    exact ⟨by omega, by omega, by simpa using hK⟩
  simp only [wd, wa, show (((1 : Nat) : Int) == 1) = true from rfl]
  refine idx ?_
  simp only [wd, wa]
  refine loadA_at hB hb g2 ?_
  simp only [wd, wa, show (((512 : Nat) : Int) == 512) = true from rfl]
  refine idx ?_
  simp only [wd, wa]
  refine loadA_at hB hb g2 ?_
  refine idx_load1 (i := 0) hsy (by simp [hsec]) (v := bv 68) (by rw [bvs_get]; rfl) ?_
  simp only [bv, wd, wa, show ((((68 : UInt8).toNat : Nat) : Int) == 68) = true from rfl]
  have l4 : (⟨512, 2, 7, [[0, 0, 0, 3, 97, 98, 99]], 0, 1⟩ : JS).take.left = 484 := by decide
  refine callA_of (Left_spec w4 o3'.take) fun v h5 ⟨e, e1⟩ f5 => ?_
  subst e e1
  simp only [wd, wa, l4, beq_self_eq_true, retA_iff, oneOf_one]
  refine ⟨by simp, by trivial, ?_⟩
  exact ((s1.trans s3).trans s4).less (by simp)
end
end Go.Proofs.Ytiakadkooclelaa.Ah
