/- The journal's writer, plain: rooms, and what is appended to them. -/
import Derived.Test.YtiakadkooclelaaKc
import Derived.Test.YtiakadkooclelaaAh23
set_option linter.unusedVariables false
set_option linter.unusedSimpArgs false
namespace Go.Proofs.Ytiakadkooclelaa.Ah
open Go

/-- A byte behind the others: into the last room, or into a new one. -/
def pushB (room taken : Nat) (rs : List (List UInt8)) (b : UInt8) : List (List UInt8) :=
  match rs.getLast? with
  | some r => if rs.length = taken ∨ r.length = room then rs ++ [[b]] else rs.dropLast ++ [r ++ [b]]
  | none => [[b]]
def pushAll (room taken : Nat) (rs : List (List UInt8)) (l : List UInt8) : List (List UInt8) := l.foldl (pushB room taken) rs
section
variable {room taken : Nat} {rs fs : List (List UInt8)} {r : List UInt8} {b : UInt8}
theorem pushB_taken (h : rs.length = taken) : pushB room taken rs b = rs ++ [[b]] := by
  unfold pushB
  split
  · rw [if_pos (.inl h)]
  · rename_i hn
    rw [List.getLast?_eq_none_iff.1 hn]; rfl
theorem pushB_snoc : pushB room taken (fs ++ [r]) b = if fs.length + 1 = taken ∨ r.length = room then fs ++ [r] ++ [[b]] else fs ++ [r ++ [b]] := by
  unfold pushB
  simp
theorem pushAll_cons (l : List UInt8) : pushAll room taken rs (b :: l) = pushAll room taken (pushB room taken rs b) l := rfl
theorem pushAll_nil : pushAll room taken rs [] = rs := rfl
theorem pushAll_append (l m : List UInt8) : pushAll room taken rs (l ++ m) = pushAll room taken (pushAll room taken rs l) m := by simp [pushAll]
theorem pushB_len : rs.length ≤ (pushB room taken rs b).length := by
  rcases List.eq_nil_or_concat rs with rfl | ⟨fs, r, rfl⟩
  · simp
  · rw [List.concat_eq_append, pushB_snoc]; split <;> simp
theorem pushAll_len : ∀ (l : List UInt8) (rs : List (List UInt8)), rs.length ≤ (pushAll room taken rs l).length := by
  intro l
  induction l with
  | nil => intro rs; simp [pushAll_nil]
  | cons b l ih => intro rs; rw [pushAll_cons]; exact Nat.le_trans pushB_len (ih _)
/-- A chunk goes into the last room. -/
theorem pushAll_chunk (ht : taken ≤ fs.length) : ∀ (l : List UInt8) (r : List UInt8), r.length + l.length ≤ room → pushAll room taken (fs ++ [r]) l = fs ++ [r ++ l] := by
  intro l
  induction l with
  | nil => intro r _; simp [pushAll_nil]
  | cons b l ih =>
    intro r h
    simp at h
    rw [pushAll_cons, pushB_snoc, if_neg (by omega), ih _ (by simp; omega)]
    simp
/-- A new room is opened ahead of the byte that needs it. -/
theorem pushAll_open (hr : 0 < room) (ht : taken ≤ rs.length) (h : rs.length = taken ∨ ∃ fs r, rs = fs ++ [r] ∧ r.length = room) (l : List UInt8) : pushAll room taken rs (b :: l) = pushAll room taken (rs ++ [[]]) (b :: l) := by
  rw [pushAll_cons, pushAll_cons]
  congr 1
  rw [pushB_snoc, if_neg (by simp; omega)]
  rcases h with h | ⟨fs, r, rfl, h⟩
  · rw [pushB_taken h]; simp
  · rw [pushB_snoc, if_pos (.inr h)]; simp
end

def tot (rs : List (List UInt8)) : Nat := (rs.map List.length).sum
@[simp] theorem tot_nil : tot [] = 0 := rfl
theorem tot_append (a b : List (List UInt8)) : tot (a ++ b) = tot a + tot b := by simp [tot]
theorem tot_one (r : List UInt8) : tot [r] = r.length := by simp [tot]
theorem tot_full {room : Nat} : ∀ fs : List (List UInt8), (∀ f, f ∈ fs → f.length = room) → tot fs = fs.length * room := by
  intro fs
  induction fs with
  | nil => intro _; simp
  | cons f fs ih =>
    intro h
    have h1 := h f (by simp)
    have h2 := ih fun g hg => h g (by simp [hg])
    simp only [tot, List.map_cons, List.sum_cons, List.length_cons, Nat.add_mul, Nat.one_mul] at h2 ⊢
    omega
/-- The rooms that were not taken are full, but for the last one, which is not empty. -/
def Good (room taken : Nat) (rs : List (List UInt8)) : Prop :=
  taken ≤ rs.length ∧ (∀ r, r ∈ rs → r.length ≤ room) ∧ (rs.length = taken ∨ ∃ fs r, rs.drop taken = fs ++ [r] ∧ (∀ f, f ∈ fs → f.length = room) ∧ 1 ≤ r.length)
theorem good_push {room taken : Nat} {rs : List (List UInt8)} {b : UInt8} (hr : 0 < room) (g : Good room taken rs) : Good room taken (pushB room taken rs b) ∧ tot ((pushB room taken rs b).drop taken) = tot (rs.drop taken) + 1 := by
  obtain ⟨h1, h2, h3⟩ := g
  by_cases he : rs.length = taken
  · rw [pushB_taken he]
    have hd : (rs ++ [[b]]).drop taken = [[b]] := by rw [List.drop_left' he]
    have hd0 : rs.drop taken = [] := List.drop_eq_nil_of_le (by omega)
    refine ⟨⟨by simp; omega, fun r hm => ?_, .inr ⟨[], [b], by rw [hd]; rfl, by simp, by simp⟩⟩, by rw [hd, hd0]; simp [tot]⟩
    rcases List.mem_append.1 hm with e | e
    · exact h2 r e
    · simp at e; subst e; simp; omega
  · obtain ⟨fs, r, hd, hf, h5⟩ := h3.resolve_left he
    have hrs : rs = (rs.take taken ++ fs) ++ [r] := by rw [List.append_assoc, ← hd, List.take_append_drop]
    have hlt : (rs.take taken).length = taken := by simp; omega
    have hr1 : r.length ≤ room := h2 r (by rw [hrs]; simp)
    have hps : pushB room taken rs b = if r.length = room then rs.take taken ++ (fs ++ [r] ++ [[b]]) else rs.take taken ++ (fs ++ [r ++ [b]]) := by
      conv => lhs; rw [hrs]
      rw [pushB_snoc]
      have : ¬ ((rs.take taken ++ fs).length + 1 = taken) := by rw [List.length_append, hlt]; omega
      simp only [this, false_or]
      split <;> simp
    have hmem : ∀ x, x ∈ rs.take taken → x.length ≤ room := fun x hx => h2 x (List.mem_of_mem_take hx)
    have hmem2 : ∀ x, x ∈ fs → x.length ≤ room := fun x hx => by rw [hf x hx]; exact Nat.le_refl _
    by_cases hfull : r.length = room
    · rw [hps, if_pos hfull]
      have hd2 : (rs.take taken ++ (fs ++ [r] ++ [[b]])).drop taken = fs ++ [r] ++ [[b]] := by rw [List.drop_left' hlt]
      refine ⟨⟨by simp; omega, fun x hm => ?_, .inr ⟨fs ++ [r], [b], hd2, fun f hm => ?_, by simp⟩⟩, by rw [hd2, hd, tot_append _ [[b]], tot_one]; rfl⟩
      · simp only [List.mem_append, List.mem_singleton] at hm
        rcases hm with e | (e | e) | e
        · exact hmem x e
        · exact hmem2 x e
        · subst e; exact hr1
        · subst e; simp; omega
      · rcases List.mem_append.1 hm with e | e
        · exact hf f e
        · simp at e; subst e; exact hfull
    · rw [hps, if_neg hfull]
      have hd2 : (rs.take taken ++ (fs ++ [r ++ [b]])).drop taken = fs ++ [r ++ [b]] := by rw [List.drop_left' hlt]
      refine ⟨⟨by simp; omega, fun x hm => ?_, .inr ⟨fs, r ++ [b], hd2, hf, by simp⟩⟩, by rw [hd2, hd, tot_append, tot_append, tot_one, tot_one]; simp; omega⟩
      simp only [List.mem_append, List.mem_singleton] at hm
      rcases hm with e | e | e
      · exact hmem x e
      · exact hmem2 x e
      · subst e; simp; omega
theorem good_all {room taken : Nat} (hr : 0 < room) : ∀ (l : List UInt8) (rs : List (List UInt8)), Good room taken rs → Good room taken (pushAll room taken rs l) ∧ tot ((pushAll room taken rs l).drop taken) = tot (rs.drop taken) + l.length := by
  intro l
  induction l with
  | nil => intro rs g; exact ⟨g, by simp [pushAll_nil]⟩
  | cons b l ih =>
    intro rs g
    obtain ⟨g1, t1⟩ := good_push (b := b) hr g
    obtain ⟨g2, t2⟩ := ih _ g1
    rw [pushAll_cons]
    exact ⟨g2, by rw [t2, t1]; simp; omega⟩
theorem good_bound {room taken sectors : Nat} {rs : List (List UInt8)} (g : Good room taken rs) (ht : taken ≤ sectors) (h : tot (rs.drop taken) ≤ (sectors - taken) * room) : rs.length ≤ sectors := by
  obtain ⟨h1, h2, h3⟩ := g
  rcases h3 with e | ⟨fs, r, hd, hf, h5⟩
  · omega
  · have hl : rs.length - taken = fs.length + 1 := by have := congrArg List.length hd; simpa using this
    rw [hd, tot_append, tot_one, tot_full fs hf] at h
    have h4 : fs.length < sectors - taken := by
      rcases Nat.lt_or_ge fs.length (sectors - taken) with q | q
      · exact q
      · have := Nat.mul_le_mul_right room q; omega
    omega

/-- What a writer holds. -/
structure JS where
  size : Nat
  sectors : Nat
  gen : Nat
  rooms : List (List UInt8)
  taken : Nat
  cnt : Int
def JS.room (st : JS) : Nat := st.size - 24
def JS.free (st : JS) : Int := ((st.sectors - st.taken) * st.room : Nat) - tot (st.rooms.drop st.taken)
def JS.left (st : JS) : Int := max 0 (st.free - 4)
structure JS.Ok (st : JS) : Prop where
  size : 512 ≤ st.size ∧ st.size ≤ 4096
  sectors : 1 ≤ st.sectors ∧ st.sectors ≤ 4096
  gen : st.gen < 18446744073709551616
  good : Good st.room st.taken st.rooms
  len : st.rooms.length ≤ st.sectors
  tot : tot (st.rooms.drop st.taken) ≤ (st.sectors - st.taken) * st.room
  ne : ∀ r, r ∈ st.rooms → r ≠ []
theorem ne_pushB {room taken : Nat} {rs : List (List UInt8)} {b : UInt8} (h : ∀ r, r ∈ rs → r ≠ []) : ∀ r, r ∈ pushB room taken rs b → r ≠ [] := by
  intro r hr
  rcases List.eq_nil_or_concat rs with rfl | ⟨fs, r0, rfl⟩
  · simp [pushB] at hr; subst hr; simp
  · rw [List.concat_eq_append] at h hr
    rw [pushB_snoc] at hr
    split at hr
    · rcases List.mem_append.1 hr with e | e
      · exact h r e
      · simp at e; subst e; simp
    · rcases List.mem_append.1 hr with e | e
      · exact h r (by simp [e])
      · simp at e; subst e; simp
theorem ne_pushAll {room taken : Nat} : ∀ (l : List UInt8) (rs : List (List UInt8)), (∀ r, r ∈ rs → r ≠ []) → ∀ r, r ∈ pushAll room taken rs l → r ≠ [] := by
  intro l
  induction l with
  | nil => intro rs h; exact h
  | cons b l ih => intro rs h; exact ih _ (ne_pushB h)
def JS.append (st : JS) (rec_ : List UInt8) : Int × JS :=
  if 65536 < rec_.length then (3, st) else if st.free < rec_.length + 4 then (2, st)
  else (0, { st with rooms := pushAll st.room st.taken st.rooms (be 4 rec_.length ++ rec_), cnt := IntKind.i64.wrap (st.cnt + 1) })
def JS.take (st : JS) : JS := { st with taken := st.rooms.length }
theorem JS.Ok.room {st : JS} (o : st.Ok) : 488 ≤ st.room ∧ st.room ≤ 4072 := by have := o.size; unfold JS.room; omega
theorem JS.Ok.append {st : JS} (o : st.Ok) (r : List UInt8) : (st.append r).2.Ok := by
  unfold JS.append
  split
  · exact o
  · split
    · exact o
    · rename_i h1 h2
      have hr := o.room
      obtain ⟨g, t⟩ := good_all (room := st.room) (taken := st.taken) (by omega) (be 4 r.length ++ r) st.rooms o.good
      have ht : st.taken ≤ st.sectors := Nat.le_trans o.good.1 o.len
      have hb : Ah.tot ((pushAll st.room st.taken st.rooms (be 4 r.length ++ r)).drop st.taken) ≤ (st.sectors - st.taken) * st.room := by
        rw [t]; unfold JS.free at h2; simp; omega
      exact ⟨o.size, o.sectors, o.gen, g, good_bound g ht hb, hb, ne_pushAll _ _ o.ne⟩
theorem JS.Ok.take {st : JS} (o : st.Ok) : st.take.Ok := by
  refine ⟨o.size, o.sectors, o.gen, ⟨Nat.le_refl _, o.good.2.1, .inl rfl⟩, o.len, ?_, o.ne⟩
  simp [JS.take]
/-- A sector's bytes. -/
def sec0 (gen i n : Nat) : List UInt8 := [68, 74, 82, 78] ++ be 8 gen ++ be 4 i ++ be 4 n
def secR (size : Nat) (r : List UInt8) : List UInt8 := r ++ List.replicate (size - 24 - r.length) 0
def sec (size gen i : Nat) (r : List UInt8) : List UInt8 := sec0 gen i r.length ++ be 4 (crcOf (sec0 gen i r.length ++ secR size r)) ++ secR size r
@[simp] theorem sec0_length (gen i n : Nat) : (sec0 gen i n).length = 20 := by simp [sec0]
theorem secR_length {size : Nat} {r : List UInt8} (h : r.length ≤ size - 24) : (secR size r).length = size - 24 := by simp [secR]; omega
theorem sec_length {size : Nat} {r : List UInt8} (gen i : Nat) (hs : 24 ≤ size) (h : r.length ≤ size - 24) : (sec size gen i r).length = size := by simp [sec, secR_length h]; omega
/-- The sectors of rooms, from the k-th on. -/
def secList (size gen : Nat) : Nat → List (List UInt8) → List (List UInt8)
  | _, [] => []
  | k, r :: rs => sec size gen k r :: secList size gen (k + 1) rs
theorem secList_snoc (size gen : Nat) (r : List UInt8) : ∀ (rs : List (List UInt8)) (k : Nat), secList size gen k (rs ++ [r]) = secList size gen k rs ++ [sec size gen (k + rs.length) r] := by
  intro rs
  induction rs with
  | nil => intro k; simp [secList]
  | cons x rs ih => intro k; simp only [List.cons_append, secList, ih, List.length_cons]; congr 4; omega
@[simp] theorem secList_length (size gen : Nat) : ∀ (rs : List (List UInt8)) (k : Nat), (secList size gen k rs).length = rs.length := by
  intro rs
  induction rs with
  | nil => intro k; rfl
  | cons x rs ih => intro k; simp [secList, ih]
def JS.secs (st : JS) : List (List UInt8) := secList st.size st.gen st.taken (st.rooms.drop st.taken)
end Go.Proofs.Ytiakadkooclelaa.Ah
