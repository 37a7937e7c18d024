/- Heaps: what pushing and popping makes of a list; cells of a block of one's own. -/
import Derived.Test.YtpdpponbhejlpaaAh30
import Derived.Test.YtpdpponbhejlpaaGseq
import Derived.Test.YtpdpponbhejlpaaSxa
set_option linter.unusedVariables false
set_option linter.unusedSimpArgs false
namespace Go.Proofs.Ytpdpponbhejlpaa.Ah
open Go
section
variable {α : Type}
structure Ord (lt : α → α → Bool) : Prop where
  irr : ∀ a, lt a a = false
  asym : ∀ {a b}, lt a b = true → lt b a = false
  tr : ∀ {a b c}, lt a b = true → lt b c = true → lt a c = true
  ntr : ∀ {a b c}, lt a b = false → lt b c = false → lt a c = false
/-- Nothing is below what stands above it. -/
def HeapL (lt : α → α → Bool) (xs : List α) : Prop := ∀ j a b, 0 < j → xs[j]? = some a → xs[(j - 1) / 2]? = some b → lt a b = false
def up (lt : α → α → Bool) : Nat → List α → Nat → List α
  | 0, xs, _ => xs
  | m + 1, xs, i => if i = 0 then xs else
    match xs[i]?, xs[(i - 1) / 2]? with
    | some a, some b => if lt a b = true then up lt m ((xs.set i b).set ((i - 1) / 2) a) ((i - 1) / 2) else xs
    | _, _ => xs
/-- The lesser one of the two below. -/
def kid (lt : α → α → Bool) (xs : List α) (i : Nat) : Nat :=
  match xs[2 * i + 1]?, xs[2 * i + 2]? with
  | some c1, some c2 => if lt c2 c1 = true then 2 * i + 2 else 2 * i + 1
  | _, _ => 2 * i + 1
def down (lt : α → α → Bool) : Nat → List α → Nat → List α
  | 0, xs, _ => xs
  | m + 1, xs, i =>
    match xs[kid lt xs i]?, xs[i]? with
    | some b, some a => if lt b a = true then down lt m ((xs.set i b).set (kid lt xs i) a) (kid lt xs i) else xs
    | _, _ => xs
def pushL (lt : α → α → Bool) (xs : List α) (a : α) : List α := up lt (xs.length + 1) (xs ++ [a]) xs.length
def popL (lt : α → α → Bool) (xs : List α) : List α :=
  match xs[xs.length - 1]? with
  | some z => down lt (xs.length + 1) ((xs.set 0 z).take (xs.length - 1)) 0
  | none => []
variable {lt : α → α → Bool}
theorem swap_perm {xs : List α} {i k : Nat} {a b : α} (hi : xs[i]? = some a) (hk : xs[k]? = some b) : ((xs.set i b).set k a).Perm xs := by
  obtain ⟨h1, rfl⟩ := List.getElem?_eq_some_iff.1 hi
  obtain ⟨h2, rfl⟩ := List.getElem?_eq_some_iff.1 hk
  exact List.set_set_perm h1 h2
theorem swap_get {xs : List α} {i k : Nat} {a b : α} (hi : i < xs.length) (hk : k < xs.length) (j : Nat) : ((xs.set i b).set k a)[j]? = if j = k then some a else if j = i then some b else xs[j]? := by
  rw [List.getElem?_set, List.length_set, List.getElem?_set]
  by_cases e1 : k = j
  · subst e1; rw [if_pos rfl, if_pos hk, if_pos rfl]
  · rw [if_neg e1, if_neg (Ne.symm e1)]
    by_cases e2 : i = j
    · subst e2; rw [if_pos rfl, if_pos hi, if_pos rfl]
    · rw [if_neg e2, if_neg (Ne.symm e2)]
theorem up_perm : ∀ (m : Nat) (xs : List α) (i : Nat), (up lt m xs i).Perm xs
  | 0, xs, i => .refl _
  | m + 1, xs, i => by
    rw [up]
    split
    · exact .refl _
    · split
      · rename_i a b ha hb
        split
        · exact (up_perm m _ _).trans (swap_perm ha hb)
        · exact .refl _
      · exact .refl _
theorem down_perm : ∀ (m : Nat) (xs : List α) (i : Nat), (down lt m xs i).Perm xs
  | 0, xs, i => .refl _
  | m + 1, xs, i => by
    rw [down]
    split
    · rename_i b a hb ha
      split
      · exact (down_perm m _ _).trans (swap_perm ha hb)
      · exact .refl _
    · exact .refl _
theorem up_heap (o : Ord lt) : ∀ (m : Nat) (xs : List α) (i : Nat), i < m →
    (∀ j a b, 0 < j → j ≠ i → xs[j]? = some a → xs[(j - 1) / 2]? = some b → lt a b = false) →
    (∀ j a b, 0 < i → 0 < j → (j - 1) / 2 = i → xs[j]? = some a → xs[(i - 1) / 2]? = some b → lt a b = false) → HeapL lt (up lt m xs i)
  | 0, _, _, h, _, _ => by omega
  | m + 1, xs, i, h, h1, h2 => by
    rw [up]
    by_cases h0 : i = 0
    · rw [if_pos h0]
      intro j a b hj ha hb
      exact h1 j a b hj (by omega) ha hb
    · rw [if_neg h0]
      split
      · rename_i a b ha hb
        have hi := (List.getElem?_eq_some_iff.1 ha).1
        have hk := (List.getElem?_eq_some_iff.1 hb).1
        split
        · rename_i hlt
          refine up_heap o m _ _ (by omega) (fun j c d hj hne hc hd => ?_) (fun j c d h0' hj hp hc hd => ?_)
          · rw [swap_get hi hk] at hc hd
            rw [if_neg hne] at hc
            by_cases e : j = i
            · subst e
              rw [if_pos rfl] at hc hd
              cases hc; cases hd
              exact o.asym hlt
            · rw [if_neg e] at hc
              by_cases e1 : (j - 1) / 2 = (i - 1) / 2
              · rw [if_pos e1] at hd
                cases hd
                have := h1 j c b hj e hc (by rw [e1]; exact hb)
                cases e3 : lt c a with
                | false => rfl
                | true => rw [o.tr e3 hlt] at this; cases this
              · rw [if_neg e1] at hd
                by_cases e2 : (j - 1) / 2 = i
                · rw [if_pos e2] at hd
                  cases hd
                  exact h2 j c b (by omega) hj e2 hc hb
                · rw [if_neg e2] at hd
                  exact h1 j c d hj e hc hd
          · rw [swap_get hi hk] at hc hd
            rw [if_neg (by omega)] at hc
            rw [if_neg (by omega), if_neg (by omega)] at hd
            have hbd := h1 ((i - 1) / 2) b d h0' (by omega) hb hd
            by_cases e : j = i
            · rw [if_pos e] at hc
              cases hc
              exact hbd
            · rw [if_neg e] at hc
              exact o.ntr (h1 j c b hj e hc (by rw [hp]; exact hb)) hbd
        · rename_i hlt
          intro j c d hj hc hd
          by_cases e : j = i
          · subst e
            rw [ha] at hc; rw [hb] at hd
            cases hc; cases hd
            simpa using hlt
          · exact h1 j c d hj e hc hd
      · rename_i hno
        intro j c d hj hc hd
        by_cases e : j = i
        · subst e
          exact absurd hd (hno c d hc)
        · exact h1 j c d hj e hc hd
theorem kid_or (xs : List α) (i : Nat) : kid lt xs i = 2 * i + 1 ∨ kid lt xs i = 2 * i + 2 := by
  unfold kid
  split
  · split
    · exact .inr rfl
    · exact .inl rfl
  · exact .inl rfl
theorem kid_le (o : Ord lt) {xs : List α} {i j : Nat} {b c : α} (hb : xs[kid lt xs i]? = some b) (hj : 0 < j) (hp : (j - 1) / 2 = i) (hc : xs[j]? = some c) : lt c b = false := by
  have hj2 : j = 2 * i + 1 ∨ j = 2 * i + 2 := by omega
  unfold kid at hb
  split at hb
  · rename_i c1 c2 h1 h2
    split at hb
    · rename_i e
      rw [h2] at hb; cases hb
      rcases hj2 with rfl | rfl
      · rw [h1] at hc; cases hc; exact o.asym e
      · rw [h2] at hc; cases hc; exact o.irr _
    · rename_i e
      rw [h1] at hb; cases hb
      rcases hj2 with rfl | rfl
      · rw [h1] at hc; cases hc; exact o.irr _
      · rw [h2] at hc; cases hc; simpa using e
  · rename_i hno
    rcases hj2 with rfl | rfl
    · rw [hb] at hc; cases hc; exact o.irr _
    · exact absurd hc (hno b c hb)
theorem kid_none {xs : List α} {i j : Nat} (hb : xs[kid lt xs i]? = none) (hj : 0 < j) (hp : (j - 1) / 2 = i) : xs[j]? = none := by
  have hj2 : j = 2 * i + 1 ∨ j = 2 * i + 2 := by omega
  have : xs.length ≤ 2 * i + 1 := by
    unfold kid at hb
    split at hb
    · rename_i c1 c2 h1 h2
      split at hb
      · rw [h2] at hb; cases hb
      · rw [h1] at hb; cases hb
    · exact List.getElem?_eq_none_iff.1 hb
  exact List.getElem?_eq_none (by omega)
theorem down_heap (o : Ord lt) : ∀ (m : Nat) (xs : List α) (i : Nat), xs.length ≤ i + m →
    (∀ j a b, 0 < j → (j - 1) / 2 ≠ i → xs[j]? = some a → xs[(j - 1) / 2]? = some b → lt a b = false) →
    (∀ j a b, 0 < i → 0 < j → (j - 1) / 2 = i → xs[j]? = some a → xs[(i - 1) / 2]? = some b → lt a b = false) → HeapL lt (down lt m xs i)
  | 0, xs, i, h, h1, _ => by
    rw [down]
    intro j a b hj ha hb
    have := (List.getElem?_eq_some_iff.1 hb).1
    exact h1 j a b hj (by omega) ha hb
  | m + 1, xs, i, h, h1, h2 => by
    rw [down]
    rcases kid_or (lt := lt) xs i with hk2 | hk2 <;>
    · split
      · rename_i b a hb ha
        have hi := (List.getElem?_eq_some_iff.1 ha).1
        have hk := (List.getElem?_eq_some_iff.1 hb).1
        have hmin : ∀ j c, 0 < j → (j - 1) / 2 = i → xs[j]? = some c → lt c b = false := fun j c hj hp hc => kid_le o hb hj hp hc
        have hkk : kid lt xs i = kid lt xs i := rfl
        generalize kid lt xs i = k at *
        split
        · rename_i hlt
          refine down_heap o m _ _ (by simp; omega) (fun j c d hj hne hc hd => ?_) (fun j c d h0' hj hp hc hd => ?_)
          · rw [swap_get hi hk] at hc hd
            rw [if_neg hne] at hd
            by_cases e : (j - 1) / 2 = i
            · rw [if_pos e] at hd
              cases hd
              by_cases e1 : j = k
              · rw [if_pos e1] at hc
                cases hc
                exact o.asym hlt
              · rw [if_neg e1, if_neg (by omega)] at hc
                exact hmin j c hj e hc
            · rw [if_neg e] at hd
              by_cases e2 : j = i
              · subst e2
                rw [if_neg (by omega), if_pos rfl] at hc
                cases hc
                exact h2 k b d hj (by omega) (by omega) hb hd
              · rw [if_neg (by omega), if_neg e2] at hc
                exact h1 j c d hj e hc hd
          · rw [swap_get hi hk] at hc hd
            rw [if_neg (by omega), if_neg (by omega)] at hc
            rw [if_neg (by omega), if_pos (by omega)] at hd
            cases hd
            exact h1 j c b hj (by omega) hc (by rw [hp]; exact hb)
        · rename_i hlt
          intro j c d hj hc hd
          by_cases e : (j - 1) / 2 = i
          · rw [e, ha] at hd
            cases hd
            exact o.ntr (hmin j c hj e hc) (by simpa using hlt)
          · exact h1 j c d hj e hc hd
      · rename_i hno
        intro j c d hj hc hd
        by_cases e : (j - 1) / 2 = i
        · cases e5 : xs[kid lt xs i]? with
          | none => rw [kid_none e5 hj e] at hc; cases hc
          | some b =>
            rw [e] at hd
            exact absurd hd (hno b d e5)
        · exact h1 j c d hj e hc hd
theorem push_perm (xs : List α) (a : α) : (pushL lt xs a).Perm (a :: xs) := (up_perm _ _ _).trans List.perm_append_comm
theorem push_heap (o : Ord lt) {xs : List α} (a : α) (h : HeapL lt xs) : HeapL lt (pushL lt xs a) := by
  refine up_heap o _ _ _ (by omega) (fun j c d hj hne hc hd => ?_) (fun j c d h0 hj hp hc hd => ?_)
  · have hl := (List.getElem?_eq_some_iff.1 hc).1
    simp at hl
    rw [List.getElem?_append_left (by omega)] at hc hd
    exact h j c d hj hc hd
  · have hl := (List.getElem?_eq_some_iff.1 hc).1
    simp at hl
    omega
theorem HeapL.least (o : Ord lt) {xs : List α} (h : HeapL lt xs) {r : α} (hr : xs[0]? = some r) : ∀ (j : Nat) a, xs[j]? = some a → lt a r = false := by
  intro j
  induction j using Nat.strongRecOn with
  | ind j ih =>
    intro a ha
    rcases Nat.eq_zero_or_pos j with rfl | hj
    · rw [hr] at ha; cases ha; exact o.irr _
    · have hl := (List.getElem?_eq_some_iff.1 ha).1
      have hb : xs[(j - 1) / 2]? = some xs[(j - 1) / 2] := List.getElem?_eq_getElem (by omega)
      exact o.ntr (h j a _ hj ha hb) (ih _ (by omega) _ hb)
theorem HeapL.min (o : Ord lt) {xs : List α} (h : HeapL lt xs) {r : α} (hr : xs[0]? = some r) {a : α} (ha : a ∈ xs) : lt a r = false := by
  obtain ⟨j, hj⟩ := List.getElem?_of_mem ha
  exact h.least o hr j a hj
theorem pop_cut {xs : List α} {r z : α} (hr : xs[0]? = some r) (hz : xs[xs.length - 1]? = some z) : (r :: (xs.set 0 z).take (xs.length - 1)).Perm xs := by
  cases xs with
  | nil => simp at hr
  | cons x xs =>
    simp at hr
    subst hr
    refine List.Perm.cons _ ?_
    rcases List.eq_nil_or_concat xs with rfl | ⟨ys, y, rfl⟩
    · simp
    · have e1 : (x :: ys.concat y)[(x :: ys.concat y).length - 1]? = some y := by simp
      rw [e1] at hz
      cases hz
      have e2 : ((x :: ys.concat z).set 0 z).take ((x :: ys.concat z).length - 1) = z :: ys := by simp
      rw [e2, List.concat_eq_append]
      exact (List.perm_append_comm (l₁ := [z]) (l₂ := ys))
theorem pop_perm {xs : List α} {r : α} (hr : xs[0]? = some r) : (r :: popL lt xs).Perm xs := by
  have hl := (List.getElem?_eq_some_iff.1 hr).1
  have hz : xs[xs.length - 1]? = some xs[xs.length - 1] := List.getElem?_eq_getElem (by omega)
  unfold popL
  rw [hz]
  exact ((down_perm _ _ _).cons _).trans (pop_cut hr hz)
theorem pop_heap (o : Ord lt) {xs : List α} (h : HeapL lt xs) : HeapL lt (popL lt xs) := by
  unfold popL
  split
  · refine down_heap o _ _ _ (by simp; omega) (fun j c d hj hne hc hd => ?_) (fun j c d h0 => by omega)
    rw [List.getElem?_take] at hc hd
    split at hc
    · split at hd
      · rw [List.getElem?_set_ne (by omega)] at hc hd
        exact h j c d hj hc hd
      · cases hd
    · cases hc
  · intro j a b _ ha
    simp at ha
theorem pushL_length (xs : List α) (a : α) : (pushL lt xs a).length = xs.length + 1 := by rw [(push_perm xs a).length_eq]; rfl
theorem popL_length {xs : List α} (h : 0 < xs.length) : (popL lt xs).length = xs.length - 1 := by
  have := (pop_perm (lt := lt) (List.getElem?_eq_getElem h)).length_eq
  simp at this
  omega
end
/-! ### Cells -/
section
variable {α : Type} {e : α → List Value} {s : Nat}
theorem fm_length (he : ∀ a, (e a).length = s) (xs : List α) : (xs.flatMap e).length = xs.length * s := by
  induction xs with
  | nil => simp
  | cons x xs ih => rw [List.flatMap_cons, List.length_append, ih, he, List.length_cons, Nat.add_mul]; omega
theorem fm_get (he : ∀ a, (e a).length = s) {xs : List α} {i : Nat} {a : α} (Z : List Value) (h : xs[i]? = some a) : ((xs.flatMap e ++ Z).drop (i * s)).take s = e a := by
  induction xs generalizing i with
  | nil => simp at h
  | cons x xs ih =>
    cases i with
    | zero => simp at h; subst h; rw [Nat.zero_mul, List.drop_zero, List.flatMap_cons, List.append_assoc, List.take_left' (he x)]
    | succ i =>
      rw [List.flatMap_cons, List.append_assoc, Nat.succ_mul, Nat.add_comm, ← List.drop_drop, List.drop_left' (he x)]
      exact ih (by simpa using h)
theorem fm_set (he : ∀ a, (e a).length = s) {xs : List α} {i : Nat} (Z : List Value) (hi : i < xs.length) (b : α) : splice (xs.flatMap e ++ Z) (i * s) (e b) = (xs.set i b).flatMap e ++ Z := by
  induction xs generalizing i with
  | nil => simp at hi
  | cons x xs ih =>
    cases i with
    | zero => simp only [splice, Nat.zero_mul, List.take_zero, List.nil_append, Nat.zero_add, List.flatMap_cons, List.set_cons_zero, List.append_assoc]; rw [he, List.drop_left' (he x)]
    | succ i =>
      have := ih (i := i) (by simpa using hi)
      unfold splice at this ⊢
      rw [List.set_cons_succ, List.flatMap_cons, List.flatMap_cons, List.append_assoc, List.append_assoc, List.append_assoc, ← this]
      rw [Nat.succ_mul, Nat.add_comm (i * s) s, List.take_append, he, List.take_of_length_le (by rw [he]; omega), show s + i * s - s = i * s by omega, Nat.add_assoc, ← List.drop_drop (l := e x ++ _), List.drop_left' (he x)]
      simp only [List.append_assoc]
variable {w0 : World} {h : Hp} {u n i : Nat} {cs : List Value} {K : Kont}
theorem rd1 {c : Nat} {v : Value} (hu : w0.heap.size ≤ u) (hb : h.blk u = some cs) (hi : i < n) (hc : (cs.drop (i * 1)).take 1 = [v]) (hk : K v h) : idxSlA 1 (.slice (some ⟨u, 0, none⟩) n c) (.int .i64 (i : Int)) (fun q => loadA w0 q K) h := by
  rw [idxSlA_iff]
  refine ⟨by omega, by omega, ?_⟩
  rw [addr_add, Int.toNat_natCast, Nat.mul_one, Nat.zero_add]
  refine loadA_at hu hb ?_ hk
  have := congrArg (·[0]?) hc
  simpa [List.getElem?_take, List.getElem?_drop] using this
theorem rd2 {c : Nat} {v : List Value} (hu : w0.heap.size ≤ u) (hb : h.blk u = some cs) (hi : i < n) (hl : i * 2 + 2 ≤ cs.length) (hc : (cs.drop (i * 2)).take 2 = v) (hk : K (.agg v.toArray) h) : idxSlA 2 (.slice (some ⟨u, 0, none⟩) n c) (.int .i64 (i : Int)) (fun q => loadNA w0 q 2 K) h := by
  rw [idxSlA_iff]
  refine ⟨by omega, by omega, ?_⟩
  rw [addr_add, Int.toNat_natCast, Nat.zero_add]
  rw [loadNA_own, getN_eq, hb, Option.bind_some, if_pos hl, hc]
  exact ⟨v, rfl, fun q => by omega, hk⟩
theorem wr1 {c : Nat} {v : Value} (hu : w0.heap.size ≤ u) (hb : h.blk u = some cs) (hi : i < n) (hl : i * 1 < cs.length) (hv : isCell v = true) (hk : K undef (h.put u (splice cs (i * 1) [v]))) : idxSlA 1 (.slice (some ⟨u, 0, none⟩) n c) (.int .i64 (i : Int)) (fun q => storeA w0 q v K) h := by
  rw [idxSlA_iff]
  refine ⟨by omega, by omega, ?_⟩
  rw [addr_add, Int.toNat_natCast, Nat.zero_add]
  refine storeA_at hu hb hl hv ?_
  rw [← splice_one _ _ _ hl]
  exact hk
theorem wr2 {c : Nat} {v : List Value} (hu : w0.heap.size ≤ u) (hb : h.blk u = some cs) (hi : i < n) (hl : i * 2 + 2 ≤ cs.length) (hv : v.length = 2) (hk : K undef (h.put u (splice cs (i * 2) v))) : idxSlA 2 (.slice (some ⟨u, 0, none⟩) n c) (.int .i64 (i : Int)) (fun q => storeNA w0 q (.agg v.toArray) 2 K) h := by
  rw [idxSlA_iff]
  refine ⟨by omega, by omega, ?_⟩
  rw [addr_add, Int.toNat_natCast, Nat.zero_add]
  exact ⟨_, _, cs, _, rfl, hu, rfl, by simpa using hv, hb, hl, hk⟩
end
/-- A heap's cells: a slice over the front of a block of its own, and its order. -/
structure HB (w0 : World) (s : Nat) (h : Hp) (p u n : Nat) (lf : Value) (cs : List Value) : Prop where
  bp : h.blk p = some [.slice (some ⟨u, 0, none⟩) n ucap, lf]
  bu : h.blk u = some cs
  wp : w0.heap.size ≤ p
  wu : w0.heap.size ≤ u
  ne : p ≠ u
  lp : p < h.next
  lu : u < h.next
  es : h.esz u = s
theorem HB.step {w0 : World} {s : Nat} {h h' : Hp} {p u n : Nat} {lf : Value} {cs : List Value} (b : HB w0 s h p u n lf cs) (st : Step h h' [] []) : HB w0 s h' p u n lf cs :=
  ⟨by rw [(st.keep p b.lp (by simp)).1]; exact b.bp, by rw [(st.keep u b.lu (by simp)).1]; exact b.bu, b.wp, b.wu, b.ne, by have := st.1; have := b.lp; omega, by have := st.1; have := b.lu; omega, by rw [(st.keep u b.lu (by simp)).2]; exact b.es⟩
theorem HB.put {w0 : World} {s : Nat} {h : Hp} {p u n : Nat} {lf : Value} {cs : List Value} (b : HB w0 s h p u n lf cs) (cs' : List Value) : HB w0 s (h.put u cs') p u n lf cs' :=
  ⟨by rw [put_blk, if_neg b.ne]; exact b.bp, by simp, b.wp, b.wu, b.ne, b.lp, b.lu, b.es⟩
theorem Step.in_ {h h1 h2 : Hp} {S : List Nat} (a : Step h h1 S S) (b : Step h1 h2 [] []) : Step h h2 S S :=
  a.trans (b.wide (by simp) (fun q hq => .inr ⟨hq, (a.own q hq).1⟩))
theorem fm_last {α : Type} {e : α → List Value} {s : Nat} (he : ∀ a, (e a).length = s) {xs : List α} {n : Nat} (hx : xs.length = n + 1) {c : List Value} (hc : c.length = s) : splice (xs.flatMap e) (n * s) c = (xs.take n).flatMap e ++ c := by
  have hl := fm_length he xs
  rw [hx, Nat.add_mul] at hl
  unfold splice
  rw [List.drop_of_length_le (by omega), List.append_nil]
  congr 1
  have e1 : xs.flatMap e = (xs.take n).flatMap e ++ (xs.drop n).flatMap e := by rw [← List.flatMap_append, List.take_append_drop]
  have e2 : ((xs.take n).flatMap e).length = n * s := by rw [fm_length he, List.length_take, hx, Nat.min_eq_left (by omega)]
  rw [e1, ← e2, List.take_left']
  rfl
/-- A heap: its slice, and its order. -/
def Hq (w0 : World) (s : Nat) (h : Hp) (p : Nat) (lf : Value) (n : Nat) (cs : List Value) (S : List Nat) : Prop :=
  ∃ x U, h.blk p = some [x, lf] ∧ Vec w0 h s x n cs U ∧ w0.heap.size ≤ p ∧ p < h.next ∧ p ∉ U ∧ S = p :: U
section
variable {w0 : World} {s : Nat} {h h' : Hp} {p u n : Nat} {lf : Value} {cs : List Value} {S : List Nat}
theorem Hq.lt (m : Hq w0 s h p lf n cs S) : ∀ b, b ∈ S → w0.heap.size ≤ b ∧ b < h.next := by
  obtain ⟨x, U, a, v, b, c, d, rfl⟩ := m
  intro q hq
  rcases List.mem_cons.1 hq with rfl | hq
  · exact ⟨b, c⟩
  · exact v.lt q hq
theorem Hq.frame (m : Hq w0 s h p lf n cs S) {T T' : List Nat} (st : Step h h' T T') (hd : ∀ b, b ∈ S → b ∉ T) : Hq w0 s h' p lf n cs S := by
  obtain ⟨x, U, a, v, b, c, d, rfl⟩ := m
  exact ⟨x, U, by rw [(st.keep p c (hd p (by simp))).1]; exact a, v.frame st (fun q hq => hd q (by simp [hq])), b, by have := st.1; omega, d, rfl⟩
theorem Hq.refl (m : Hq w0 s h p lf n cs S) : Step h h S S := .refl _ _ fun b hb => (m.lt b hb).2
theorem HB.hq (b : HB w0 s h p u n lf cs) (hl : cs.length = n * s) : Hq w0 s h p lf n cs [p, u] :=
  ⟨_, [u], b.bp, .inr ⟨u, rfl, rfl, b.wu, b.lu, b.bu, b.es, hl⟩, b.wp, b.lp, by simpa using b.ne, rfl⟩
theorem Hq.hb (m : Hq w0 s h p lf n cs S) (h0 : 0 < n) : ∃ u, S = [p, u] ∧ HB w0 s h p u n lf cs ∧ cs.length = n * s := by
  obtain ⟨x, U, a, v, b, c, d, rfl⟩ := m
  rcases v with ⟨-, q, -⟩ | ⟨u, rfl, rfl, v1, v2, v3, v4, v5⟩
  · omega
  · exact ⟨u, rfl, ⟨a, v3, b, v1, by simpa using d, c, v2, v4⟩, v5⟩
theorem HB.put_p (b : HB w0 s h p u n lf cs) (k : Nat) : HB w0 s (h.put p [.slice (some ⟨u, 0, none⟩) k ucap, lf]) p u k lf cs :=
  ⟨by simp, by rw [put_blk, if_neg (Ne.symm b.ne)]; exact b.bu, b.wp, b.wu, b.ne, b.lp, b.lu, b.es⟩
theorem HB.put_o (b : HB w0 s h p u n lf cs) {q : Nat} (h1 : q ≠ p) (h2 : q ≠ u) (c : List Value) : HB w0 s (h.put q c) p u n lf cs :=
  ⟨by rw [put_blk, if_neg (Ne.symm h1)]; exact b.bp, by rw [put_blk, if_neg (Ne.symm h2)]; exact b.bu, b.wp, b.wu, b.ne, b.lp, b.lu, b.es⟩
theorem HB.refl (b : HB w0 s h p u n lf cs) : Step h h [p, u] [p, u] := .refl _ _ fun q hq => by
  rcases List.mem_cons.1 hq with rfl | hq
  · exact b.lp
  · simp at hq; subst hq; exact b.lu
end
theorem Step.tail {h h' : Hp} {S : List Nat} (a : Step h h' S S) {q : Nat} (hq : q < h.next) : Step h h' (q :: S) (q :: S) :=
  a.wide (fun b hb => by simp [hb]) (fun b hb => by
    rcases List.mem_cons.1 hb with rfl | hb
    · exact .inr ⟨by simp, hq⟩
    · exact .inl hb)
set_option maxHeartbeats 0
abbrev e_int (a : Int) : List Value := [.int .i64 a]
section
variable {w0 : World} {hh : Hp} {p u n : Nat} {lf : Value} {Z : List Value} {L : List Int} {lt : Int → Int → Bool}
theorem e_int_len (a : Int) : (e_int a).length = 1 := rfl
/-- What the order needs: it is called at any heap of the walk. -/
def Lt_int (w0 : World) (hh : Hp) (p u : Nat) (lf : Value) (lt : Int → Int → Bool) (L : List Int) : Prop :=
  ∀ h1, Step hh h1 [p, u] [p, u] → ∀ a b, a ∈ L → b ∈ L → callVA prog w0 lf [(Value.int .i64 a), (Value.int .i64 b)] (fun r h2 => r = .bool (lt a b) ∧ Step h1 h2 [] []) h1
theorem push_loop_int {K : Hp → Prop} (hlt : Lt_int w0 hh p u lf lt L) (hn : n ≤ 1000000000) :
    ∀ (m i : Nat) (ys : List Int) (h1 : Hp), i < m → i < n → ys.length = n → (∀ a, a ∈ ys → a ∈ L) → Step hh h1 [p, u] [p, u] → HB w0 1 h1 p u n lf (ys.flatMap e_int ++ Z) →
    (∀ h2, Step hh h2 [p, u] [p, u] → HB w0 1 h2 p u n lf ((up lt m ys i).flatMap e_int ++ Z) → K h2) → seq_heap_int_push_L1 prog w0 K K m (ptr p) (.int .i64 (i : Int)) h1 := by
  intro m
  induction m with
  | zero => intro i ys h1 hi; omega
  | succ m ih =>
    intro i ys h1 hi hin hy hL st hb hk
    rw [seq_heap_int_push_L1]
    have hcl : (ys.flatMap e_int ++ Z).length = n * 1 + Z.length := by rw [List.length_append, fm_length e_int_len, hy]
    by_cases h0 : i = 0
    · have c1 : decide ((0 : Int) < (i : Int)) = false := decide_eq_false (by omega)
      simp only [seq_heap_int_push_B1, lenSl_slice, lenStr_string, str_size, fpureA_some, fnilA_ptr, faddA_ptr, addr_add, Nat.zero_add, Nat.add_zero, fpureQ_k, fpureQ_nilA, fpureQ_addA, fpureQ_pureA, fpureQ_guardA, fpureQ_idxSlA, fpureQ_pickA, freadQ_loadA, freadQ_loadNA, freadQ_b2sA, freadQ_guardA, freadQ_slSlA, freadQ_k, fendA, fallA_one, fstillA_nil, fguardA_tt, fguardA_ff, fguardA_tf, fguardA_ft, fguardA_undef, fpickA_true, fpickA_false, fcondA_true, fcondA_false, binA_add, binA_sub, binA_mul, binA_eql, binA_neq, binA_lss, binA_leq, binA_gtr, binA_geq, unA_not, Bool.not_true, Bool.not_false, convA_int, extA_tuple, List.getElem?_toArray, List.getElem?_cons_zero, List.getElem?_cons_succ, c1]
      refine hk h1 st ?_
      rw [up, if_pos h0]
      exact hb
    · have c1 : decide ((0 : Int) < (i : Int)) = true := decide_eq_true (by omega)
      have e1 : IntKind.i64.wrap ((i : Int) - 1) = ((i - 1 : Nat) : Int) := by rw [IntWalk.i64_in _ (by omega)]; omega
      have e2 : binA .quo (.int .i64 ((i - 1 : Nat) : Int)) (.int .i64 2) = some (.int .i64 (((i - 1) / 2 : Nat) : Int)) := by
        rw [binA_quo _ _ _ (by omega)]
        congr 2
        rw [Int.tdiv_eq_ediv_of_nonneg (by omega), IntWalk.i64_in _ (by omega)]
        omega
      obtain ⟨v, hv⟩ : ∃ v, v = (i - 1) / 2 := ⟨_, rfl⟩
      rw [← hv] at e2
      have hvn : v < n := by omega
      have ga : ys[i]? = some ys[i] := List.getElem?_eq_getElem (by omega)
      have gb : ys[v]? = some ys[v] := List.getElem?_eq_getElem (by omega)
      simp only [seq_heap_int_push_B1, lenSl_slice, lenStr_string, str_size, fpureA_some, fnilA_ptr, faddA_ptr, addr_add, Nat.zero_add, Nat.add_zero, fpureQ_k, fpureQ_nilA, fpureQ_addA, fpureQ_pureA, fpureQ_guardA, fpureQ_idxSlA, fpureQ_pickA, freadQ_loadA, freadQ_loadNA, freadQ_b2sA, freadQ_guardA, freadQ_slSlA, freadQ_k, fendA, fallA_one, fstillA_nil, fguardA_tt, fguardA_ff, fguardA_tf, fguardA_ft, fguardA_undef, fpickA_true, fpickA_false, fcondA_true, fcondA_false, binA_add, binA_sub, binA_mul, binA_eql, binA_neq, binA_lss, binA_leq, binA_gtr, binA_geq, unA_not, Bool.not_true, Bool.not_false, convA_int, extA_tuple, List.getElem?_toArray, List.getElem?_cons_zero, List.getElem?_cons_succ, c1, e1, e2, ptr]
      refine loadA_at hb.wp hb.bp rfl ?_
      refine loadA_at hb.wp hb.bp rfl ?_
      refine rd1 hb.wu hb.bu hin  (fm_get e_int_len Z ga) ?_
      refine loadA_at hb.wp hb.bp rfl ?_
      refine rd1 hb.wu hb.bu hvn  (fm_get e_int_len Z gb) ?_
      refine callVA_of (hlt h1 st _ _ (hL _ (List.mem_of_getElem? ga)) (hL _ (List.mem_of_getElem? gb))) fun r h2 ⟨er, s2⟩ f2 => ?_
      subst er
      have st2 := st.in_ s2
      have hb2 := hb.step s2
      have hup : up lt (m + 1) ys i = if lt ys[i] ys[v] = true then up lt m ((ys.set i ys[v]).set v ys[i]) v else ys := by
        rw [up, if_neg h0, ← hv, ga, gb]
      cases hc : lt ys[i] ys[v] with
      | false =>
        rw [hc, if_neg (by simp)] at hup
        simp only [lenSl_slice, lenStr_string, str_size, fpureA_some, fnilA_ptr, faddA_ptr, addr_add, Nat.zero_add, Nat.add_zero, fpureQ_k, fpureQ_nilA, fpureQ_addA, fpureQ_pureA, fpureQ_guardA, fpureQ_idxSlA, fpureQ_pickA, freadQ_loadA, freadQ_loadNA, freadQ_b2sA, freadQ_guardA, freadQ_slSlA, freadQ_k, fendA, fallA_one, fstillA_nil, fguardA_tt, fguardA_ff, fguardA_tf, fguardA_ft, fguardA_undef, fpickA_true, fpickA_false, fcondA_true, fcondA_false, binA_add, binA_sub, binA_mul, binA_eql, binA_neq, binA_lss, binA_leq, binA_gtr, binA_geq, unA_not, Bool.not_true, Bool.not_false, convA_int, extA_tuple, List.getElem?_toArray, List.getElem?_cons_zero, List.getElem?_cons_succ]
        refine hk h2 st2 ?_
        rw [hup]
        exact hb2
      | true =>
        rw [hc, if_pos rfl] at hup
        simp only [lenSl_slice, lenStr_string, str_size, fpureA_some, fnilA_ptr, faddA_ptr, addr_add, Nat.zero_add, Nat.add_zero, fpureQ_k, fpureQ_nilA, fpureQ_addA, fpureQ_pureA, fpureQ_guardA, fpureQ_idxSlA, fpureQ_pickA, freadQ_loadA, freadQ_loadNA, freadQ_b2sA, freadQ_guardA, freadQ_slSlA, freadQ_k, fendA, fallA_one, fstillA_nil, fguardA_tt, fguardA_ff, fguardA_tf, fguardA_ft, fguardA_undef, fpickA_true, fpickA_false, fcondA_true, fcondA_false, binA_add, binA_sub, binA_mul, binA_eql, binA_neq, binA_lss, binA_leq, binA_gtr, binA_geq, unA_not, Bool.not_true, Bool.not_false, convA_int, extA_tuple, List.getElem?_toArray, List.getElem?_cons_zero, List.getElem?_cons_succ]
        refine loadA_at hb.wp hb2.bp rfl ?_
        refine loadA_at hb.wp hb2.bp rfl ?_
        refine loadA_at hb.wp hb2.bp rfl ?_
        refine rd1 hb.wu hb2.bu hvn  (fm_get e_int_len Z gb) ?_
        refine loadA_at hb.wp hb2.bp rfl ?_
        refine rd1 hb.wu hb2.bu hin  (fm_get e_int_len Z ga) ?_
        refine wr1 hb.wu hb2.bu hin (by rw [hcl]; omega) rfl ?_
        have hf1 := fm_set e_int_len Z (by omega : i < ys.length) ys[v]
        have hf2 := fm_set e_int_len Z (by rw [List.length_set]; omega : v < (ys.set i ys[v]).length) ys[i]
        have hb3 := hb2.put ((ys.set i ys[v]).flatMap e_int ++ Z)
        have hcl3 : ((ys.set i ys[v]).flatMap e_int ++ Z).length = n * 1 + Z.length := by rw [List.length_append, fm_length e_int_len, List.length_set, hy]
        rw [hf1]
        refine wr1 hb.wu hb3.bu hvn (by rw [hcl3]; omega) rfl ?_
        rw [hf2]
        have hb4 := hb3.put (((ys.set i ys[v]).set v ys[i]).flatMap e_int ++ Z)
        refine ih v ((ys.set i ys[v]).set v ys[i]) _ (by omega) hvn (by simp [hy]) (fun a ha => hL a ((swap_perm ga gb).mem_iff.1 ha)) ((st2.put (by simp) _).put (by simp) _) hb4 fun h5 st5 hb5 => ?_
        refine hk h5 st5 ?_
        rw [hup]
        exact hb5
theorem pop_loop_int {kr : Value → Hp → Prop} {x2 x3 : Value} (hlt : Lt_int w0 hh p u lf lt L) (hn : n ≤ 1000000000) :
    ∀ (m i : Nat) (ys : List Int) (h1 : Hp), n ≤ i + m → i ≤ n → ys.length = n → (∀ a, a ∈ ys → a ∈ L) → Step hh h1 [p, u] [p, u] → HB w0 1 h1 p u n lf (ys.flatMap e_int ++ Z) →
    (∀ h2, Step hh h2 [p, u] [p, u] → HB w0 1 h2 p u n lf ((down lt (m + 1) ys i).flatMap e_int ++ Z) → kr x3 h2) → seq_heap_int_pop_L1 prog w0 kr (m + 1) (ptr p) x2 x3 (.int .i64 (n : Int)) (.int .i64 (i : Int)) h1 := by
  intro m
  induction m with
  | zero =>
    intro i ys h1 hi hin hy hL st hb hk
    rw [seq_heap_int_pop_L1]
    have e1 : IntKind.i64.wrap (2 * (i : Int)) = ((2 * i : Nat) : Int) := by rw [IntWalk.i64_in _ (by omega)]; omega
    have e2 : IntKind.i64.wrap (((2 * i : Nat) : Int) + 1) = ((2 * i + 1 : Nat) : Int) := by rw [IntWalk.i64_in _ (by omega)]; omega
    have c1 : decide ((n : Int) ≤ ((2 * i + 1 : Nat) : Int)) = true := decide_eq_true (by omega)
    simp only [seq_heap_int_pop_B1, lenSl_slice, lenStr_string, str_size, fpureA_some, fnilA_ptr, faddA_ptr, addr_add, Nat.zero_add, Nat.add_zero, fpureQ_k, fpureQ_nilA, fpureQ_addA, fpureQ_pureA, fpureQ_guardA, fpureQ_idxSlA, fpureQ_pickA, freadQ_loadA, freadQ_loadNA, freadQ_b2sA, freadQ_guardA, freadQ_slSlA, freadQ_k, fendA, fallA_one, fstillA_nil, fguardA_tt, fguardA_ff, fguardA_tf, fguardA_ft, fguardA_undef, fpickA_true, fpickA_false, fcondA_true, fcondA_false, binA_add, binA_sub, binA_mul, binA_eql, binA_neq, binA_lss, binA_leq, binA_gtr, binA_geq, unA_not, Bool.not_true, Bool.not_false, convA_int, extA_tuple, List.getElem?_toArray, List.getElem?_cons_zero, List.getElem?_cons_succ, e1, e2, c1]
    refine hk h1 st ?_
    have hdn : down lt (0 + 1) ys i = ys := by
      rw [down, List.getElem?_eq_none (show ys.length ≤ kid lt ys i by rcases kid_or (lt := lt) ys i with q | q <;> omega)]
    rw [hdn]
    exact hb
  | succ m0 ih =>
    intro i ys h1 hi hin hy hL st hb hk
    obtain ⟨m, hm⟩ : ∃ m, m = m0 + 1 := ⟨_, rfl⟩
    rw [← hm] at ih hk ⊢
    rw [seq_heap_int_pop_L1]
    have hcl : (ys.flatMap e_int ++ Z).length = n * 1 + Z.length := by rw [List.length_append, fm_length e_int_len, hy]
    have e1 : IntKind.i64.wrap (2 * (i : Int)) = ((2 * i : Nat) : Int) := by rw [IntWalk.i64_in _ (by omega)]; omega
    have e2 : IntKind.i64.wrap (((2 * i : Nat) : Int) + 1) = ((2 * i + 1 : Nat) : Int) := by rw [IntWalk.i64_in _ (by omega)]; omega
    have e3 : IntKind.i64.wrap (((2 * i + 1 : Nat) : Int) + 1) = ((2 * i + 2 : Nat) : Int) := by rw [IntWalk.i64_in _ (by omega)]; omega
    by_cases h0 : n ≤ 2 * i + 1
    · have c1 : decide ((n : Int) ≤ ((2 * i + 1 : Nat) : Int)) = true := decide_eq_true (by omega)
      simp only [seq_heap_int_pop_B1, lenSl_slice, lenStr_string, str_size, fpureA_some, fnilA_ptr, faddA_ptr, addr_add, Nat.zero_add, Nat.add_zero, fpureQ_k, fpureQ_nilA, fpureQ_addA, fpureQ_pureA, fpureQ_guardA, fpureQ_idxSlA, fpureQ_pickA, freadQ_loadA, freadQ_loadNA, freadQ_b2sA, freadQ_guardA, freadQ_slSlA, freadQ_k, fendA, fallA_one, fstillA_nil, fguardA_tt, fguardA_ff, fguardA_tf, fguardA_ft, fguardA_undef, fpickA_true, fpickA_false, fcondA_true, fcondA_false, binA_add, binA_sub, binA_mul, binA_eql, binA_neq, binA_lss, binA_leq, binA_gtr, binA_geq, unA_not, Bool.not_true, Bool.not_false, convA_int, extA_tuple, List.getElem?_toArray, List.getElem?_cons_zero, List.getElem?_cons_succ, e1, e2, c1]
      refine hk h1 st ?_
      have hdn : down lt (m + 1) ys i = ys := by
        rw [down, List.getElem?_eq_none (show ys.length ≤ kid lt ys i by rcases kid_or (lt := lt) ys i with q | q <;> omega)]
      rw [hdn]
      exact hb
    · have c1 : decide ((n : Int) ≤ ((2 * i + 1 : Nat) : Int)) = false := decide_eq_false (by omega)
      have hin : i < n := by omega
      have ga : ys[i]? = some ys[i] := List.getElem?_eq_getElem (by omega)
      have g1 : ys[2 * i + 1]? = some ys[2 * i + 1] := List.getElem?_eq_getElem (by omega)
      by_cases h2n : 2 * i + 2 < n
      · have c2 : decide (((2 * i + 2 : Nat) : Int) < (n : Int)) = true := decide_eq_true (by omega)
        have g2 : ys[2 * i + 2]? = some ys[2 * i + 2] := List.getElem?_eq_getElem (by omega)
        simp only [seq_heap_int_pop_B1, lenSl_slice, lenStr_string, str_size, fpureA_some, fnilA_ptr, faddA_ptr, addr_add, Nat.zero_add, Nat.add_zero, fpureQ_k, fpureQ_nilA, fpureQ_addA, fpureQ_pureA, fpureQ_guardA, fpureQ_idxSlA, fpureQ_pickA, freadQ_loadA, freadQ_loadNA, freadQ_b2sA, freadQ_guardA, freadQ_slSlA, freadQ_k, fendA, fallA_one, fstillA_nil, fguardA_tt, fguardA_ff, fguardA_tf, fguardA_ft, fguardA_undef, fpickA_true, fpickA_false, fcondA_true, fcondA_false, binA_add, binA_sub, binA_mul, binA_eql, binA_neq, binA_lss, binA_leq, binA_gtr, binA_geq, unA_not, Bool.not_true, Bool.not_false, convA_int, extA_tuple, List.getElem?_toArray, List.getElem?_cons_zero, List.getElem?_cons_succ, e1, e2, e3, c1, c2, ptr]
        refine loadA_at hb.wp hb.bp rfl ?_
        refine loadA_at hb.wp hb.bp rfl ?_
        refine rd1 hb.wu hb.bu h2n  (fm_get e_int_len Z g2) ?_
        refine loadA_at hb.wp hb.bp rfl ?_
        refine rd1 hb.wu hb.bu (by omega)  (fm_get e_int_len Z g1) ?_
        refine callVA_of (hlt h1 st _ _ (hL _ (List.mem_of_getElem? g2)) (hL _ (List.mem_of_getElem? g1))) fun r hx ⟨er, s2⟩ f2 => ?_
        subst er
        have stx := st.in_ s2
        have hbx := hb.step s2
        cases hq : lt ys[2 * i + 2] ys[2 * i + 1] with
        | true =>
          simp only [lenSl_slice, lenStr_string, str_size, fpureA_some, fnilA_ptr, faddA_ptr, addr_add, Nat.zero_add, Nat.add_zero, fpureQ_k, fpureQ_nilA, fpureQ_addA, fpureQ_pureA, fpureQ_guardA, fpureQ_idxSlA, fpureQ_pickA, freadQ_loadA, freadQ_loadNA, freadQ_b2sA, freadQ_guardA, freadQ_slSlA, freadQ_k, fendA, fallA_one, fstillA_nil, fguardA_tt, fguardA_ff, fguardA_tf, fguardA_ft, fguardA_undef, fpickA_true, fpickA_false, fcondA_true, fcondA_false, binA_add, binA_sub, binA_mul, binA_eql, binA_neq, binA_lss, binA_leq, binA_gtr, binA_geq, unA_not, Bool.not_true, Bool.not_false, convA_int, extA_tuple, List.getElem?_toArray, List.getElem?_cons_zero, List.getElem?_cons_succ, e3]
          have hkd : kid lt ys i = 2 * i + 2 := by unfold kid; rw [g1, g2]; simp only; rw [hq, if_pos rfl]
          obtain ⟨kd, ek⟩ : ∃ kd, kd = 2 * i + 2 := ⟨_, rfl⟩
          rw [← ek] at hkd ⊢
          have hkn : kd < n := by omega
          have gk : ys[kd]? = some ys[kd] := List.getElem?_eq_getElem (by omega)
          have hdn : down lt (m + 1) ys i = if lt ys[kd] ys[i] = true then down lt m ((ys.set i ys[kd]).set kd ys[i]) kd else ys := by
            rw [down, hkd, gk, ga]
          have ekd : kd = kd := rfl
          refine loadA_at hb.wp hbx.bp rfl ?_
          refine loadA_at hb.wp hbx.bp rfl ?_
          refine rd1 hb.wu hbx.bu hkn  (fm_get e_int_len Z gk) ?_
          refine loadA_at hb.wp hbx.bp rfl ?_
          refine rd1 hb.wu hbx.bu hin  (fm_get e_int_len Z ga) ?_
          refine callVA_of (hlt _ stx _ _ (hL _ (List.mem_of_getElem? gk)) (hL _ (List.mem_of_getElem? ga))) fun r h4 ⟨er, s4⟩ f4 => ?_
          subst er
          have st4 := stx.in_ s4
          have hb4 := hbx.step s4
          cases hc : lt ys[kd] ys[i] with
          | false =>
            rw [hc, if_neg (by simp)] at hdn
            simp only [lenSl_slice, lenStr_string, str_size, fpureA_some, fnilA_ptr, faddA_ptr, addr_add, Nat.zero_add, Nat.add_zero, fpureQ_k, fpureQ_nilA, fpureQ_addA, fpureQ_pureA, fpureQ_guardA, fpureQ_idxSlA, fpureQ_pickA, freadQ_loadA, freadQ_loadNA, freadQ_b2sA, freadQ_guardA, freadQ_slSlA, freadQ_k, fendA, fallA_one, fstillA_nil, fguardA_tt, fguardA_ff, fguardA_tf, fguardA_ft, fguardA_undef, fpickA_true, fpickA_false, fcondA_true, fcondA_false, binA_add, binA_sub, binA_mul, binA_eql, binA_neq, binA_lss, binA_leq, binA_gtr, binA_geq, unA_not, Bool.not_true, Bool.not_false, convA_int, extA_tuple, List.getElem?_toArray, List.getElem?_cons_zero, List.getElem?_cons_succ]
            refine hk h4 st4 ?_
            rw [hdn]
            exact hb4
          | true =>
            rw [hc, if_pos rfl] at hdn
            simp only [lenSl_slice, lenStr_string, str_size, fpureA_some, fnilA_ptr, faddA_ptr, addr_add, Nat.zero_add, Nat.add_zero, fpureQ_k, fpureQ_nilA, fpureQ_addA, fpureQ_pureA, fpureQ_guardA, fpureQ_idxSlA, fpureQ_pickA, freadQ_loadA, freadQ_loadNA, freadQ_b2sA, freadQ_guardA, freadQ_slSlA, freadQ_k, fendA, fallA_one, fstillA_nil, fguardA_tt, fguardA_ff, fguardA_tf, fguardA_ft, fguardA_undef, fpickA_true, fpickA_false, fcondA_true, fcondA_false, binA_add, binA_sub, binA_mul, binA_eql, binA_neq, binA_lss, binA_leq, binA_gtr, binA_geq, unA_not, Bool.not_true, Bool.not_false, convA_int, extA_tuple, List.getElem?_toArray, List.getElem?_cons_zero, List.getElem?_cons_succ]
            refine loadA_at hb.wp hb4.bp rfl ?_
            refine loadA_at hb.wp hb4.bp rfl ?_
            refine loadA_at hb.wp hb4.bp rfl ?_
            refine rd1 hb.wu hb4.bu hkn  (fm_get e_int_len Z gk) ?_
            refine loadA_at hb.wp hb4.bp rfl ?_
            refine rd1 hb.wu hb4.bu hin  (fm_get e_int_len Z ga) ?_
            refine wr1 hb.wu hb4.bu hin (by rw [hcl]; omega) rfl ?_
            have hf1 := fm_set e_int_len Z (by omega : i < ys.length) ys[kd]
            have hf2 := fm_set e_int_len Z (by rw [List.length_set]; omega : kd < (ys.set i ys[kd]).length) ys[i]
            have hb5 := hb4.put ((ys.set i ys[kd]).flatMap e_int ++ Z)
            have hcl5 : ((ys.set i ys[kd]).flatMap e_int ++ Z).length = n * 1 + Z.length := by rw [List.length_append, fm_length e_int_len, List.length_set, hy]
            rw [hf1]
            refine wr1 hb.wu hb5.bu hkn (by rw [hcl5]; omega) rfl ?_
            rw [hf2]
            have hb6 := hb5.put (((ys.set i ys[kd]).set kd ys[i]).flatMap e_int ++ Z)
            refine ih kd ((ys.set i ys[kd]).set kd ys[i]) _ (by omega) (by omega) (by simp [hy]) (fun a ha => hL a ((swap_perm ga gk).mem_iff.1 ha)) ((st4.put (by simp) _).put (by simp) _) hb6 fun h7 st7 hb7 => ?_
            refine hk h7 st7 ?_
            rw [hdn]
            exact hb7
        | false =>
          simp only [lenSl_slice, lenStr_string, str_size, fpureA_some, fnilA_ptr, faddA_ptr, addr_add, Nat.zero_add, Nat.add_zero, fpureQ_k, fpureQ_nilA, fpureQ_addA, fpureQ_pureA, fpureQ_guardA, fpureQ_idxSlA, fpureQ_pickA, freadQ_loadA, freadQ_loadNA, freadQ_b2sA, freadQ_guardA, freadQ_slSlA, freadQ_k, fendA, fallA_one, fstillA_nil, fguardA_tt, fguardA_ff, fguardA_tf, fguardA_ft, fguardA_undef, fpickA_true, fpickA_false, fcondA_true, fcondA_false, binA_add, binA_sub, binA_mul, binA_eql, binA_neq, binA_lss, binA_leq, binA_gtr, binA_geq, unA_not, Bool.not_true, Bool.not_false, convA_int, extA_tuple, List.getElem?_toArray, List.getElem?_cons_zero, List.getElem?_cons_succ]
          have hkd : kid lt ys i = 2 * i + 1 := by unfold kid; rw [g1, g2]; simp only; rw [hq, if_neg (by simp)]
          obtain ⟨kd, ek⟩ : ∃ kd, kd = 2 * i + 1 := ⟨_, rfl⟩
          rw [← ek] at hkd ⊢
          have hkn : kd < n := by omega
          have gk : ys[kd]? = some ys[kd] := List.getElem?_eq_getElem (by omega)
          have hdn : down lt (m + 1) ys i = if lt ys[kd] ys[i] = true then down lt m ((ys.set i ys[kd]).set kd ys[i]) kd else ys := by
            rw [down, hkd, gk, ga]
          have ekd : kd = kd := rfl
          refine loadA_at hb.wp hbx.bp rfl ?_
          refine loadA_at hb.wp hbx.bp rfl ?_
          refine rd1 hb.wu hbx.bu hkn  (fm_get e_int_len Z gk) ?_
          refine loadA_at hb.wp hbx.bp rfl ?_
          refine rd1 hb.wu hbx.bu hin  (fm_get e_int_len Z ga) ?_
          refine callVA_of (hlt _ stx _ _ (hL _ (List.mem_of_getElem? gk)) (hL _ (List.mem_of_getElem? ga))) fun r h4 ⟨er, s4⟩ f4 => ?_
          subst er
          have st4 := stx.in_ s4
          have hb4 := hbx.step s4
          cases hc : lt ys[kd] ys[i] with
          | false =>
            rw [hc, if_neg (by simp)] at hdn
            simp only [lenSl_slice, lenStr_string, str_size, fpureA_some, fnilA_ptr, faddA_ptr, addr_add, Nat.zero_add, Nat.add_zero, fpureQ_k, fpureQ_nilA, fpureQ_addA, fpureQ_pureA, fpureQ_guardA, fpureQ_idxSlA, fpureQ_pickA, freadQ_loadA, freadQ_loadNA, freadQ_b2sA, freadQ_guardA, freadQ_slSlA, freadQ_k, fendA, fallA_one, fstillA_nil, fguardA_tt, fguardA_ff, fguardA_tf, fguardA_ft, fguardA_undef, fpickA_true, fpickA_false, fcondA_true, fcondA_false, binA_add, binA_sub, binA_mul, binA_eql, binA_neq, binA_lss, binA_leq, binA_gtr, binA_geq, unA_not, Bool.not_true, Bool.not_false, convA_int, extA_tuple, List.getElem?_toArray, List.getElem?_cons_zero, List.getElem?_cons_succ]
            refine hk h4 st4 ?_
            rw [hdn]
            exact hb4
          | true =>
            rw [hc, if_pos rfl] at hdn
            simp only [lenSl_slice, lenStr_string, str_size, fpureA_some, fnilA_ptr, faddA_ptr, addr_add, Nat.zero_add, Nat.add_zero, fpureQ_k, fpureQ_nilA, fpureQ_addA, fpureQ_pureA, fpureQ_guardA, fpureQ_idxSlA, fpureQ_pickA, freadQ_loadA, freadQ_loadNA, freadQ_b2sA, freadQ_guardA, freadQ_slSlA, freadQ_k, fendA, fallA_one, fstillA_nil, fguardA_tt, fguardA_ff, fguardA_tf, fguardA_ft, fguardA_undef, fpickA_true, fpickA_false, fcondA_true, fcondA_false, binA_add, binA_sub, binA_mul, binA_eql, binA_neq, binA_lss, binA_leq, binA_gtr, binA_geq, unA_not, Bool.not_true, Bool.not_false, convA_int, extA_tuple, List.getElem?_toArray, List.getElem?_cons_zero, List.getElem?_cons_succ]
            refine loadA_at hb.wp hb4.bp rfl ?_
            refine loadA_at hb.wp hb4.bp rfl ?_
            refine loadA_at hb.wp hb4.bp rfl ?_
            refine rd1 hb.wu hb4.bu hkn  (fm_get e_int_len Z gk) ?_
            refine loadA_at hb.wp hb4.bp rfl ?_
            refine rd1 hb.wu hb4.bu hin  (fm_get e_int_len Z ga) ?_
            refine wr1 hb.wu hb4.bu hin (by rw [hcl]; omega) rfl ?_
            have hf1 := fm_set e_int_len Z (by omega : i < ys.length) ys[kd]
            have hf2 := fm_set e_int_len Z (by rw [List.length_set]; omega : kd < (ys.set i ys[kd]).length) ys[i]
            have hb5 := hb4.put ((ys.set i ys[kd]).flatMap e_int ++ Z)
            have hcl5 : ((ys.set i ys[kd]).flatMap e_int ++ Z).length = n * 1 + Z.length := by rw [List.length_append, fm_length e_int_len, List.length_set, hy]
            rw [hf1]
            refine wr1 hb.wu hb5.bu hkn (by rw [hcl5]; omega) rfl ?_
            rw [hf2]
            have hb6 := hb5.put (((ys.set i ys[kd]).set kd ys[i]).flatMap e_int ++ Z)
            refine ih kd ((ys.set i ys[kd]).set kd ys[i]) _ (by omega) (by omega) (by simp [hy]) (fun a ha => hL a ((swap_perm ga gk).mem_iff.1 ha)) ((st4.put (by simp) _).put (by simp) _) hb6 fun h7 st7 hb7 => ?_
            refine hk h7 st7 ?_
            rw [hdn]
            exact hb7
      · have c2 : decide (((2 * i + 2 : Nat) : Int) < (n : Int)) = false := decide_eq_false (by omega)
        simp only [seq_heap_int_pop_B1, lenSl_slice, lenStr_string, str_size, fpureA_some, fnilA_ptr, faddA_ptr, addr_add, Nat.zero_add, Nat.add_zero, fpureQ_k, fpureQ_nilA, fpureQ_addA, fpureQ_pureA, fpureQ_guardA, fpureQ_idxSlA, fpureQ_pickA, freadQ_loadA, freadQ_loadNA, freadQ_b2sA, freadQ_guardA, freadQ_slSlA, freadQ_k, fendA, fallA_one, fstillA_nil, fguardA_tt, fguardA_ff, fguardA_tf, fguardA_ft, fguardA_undef, fpickA_true, fpickA_false, fcondA_true, fcondA_false, binA_add, binA_sub, binA_mul, binA_eql, binA_neq, binA_lss, binA_leq, binA_gtr, binA_geq, unA_not, Bool.not_true, Bool.not_false, convA_int, extA_tuple, List.getElem?_toArray, List.getElem?_cons_zero, List.getElem?_cons_succ, e1, e2, e3, c1, c2, ptr]
        have stx := st
        have hbx := hb
        have hkd : kid lt ys i = 2 * i + 1 := by unfold kid; rw [List.getElem?_eq_none (show ys.length ≤ 2 * i + 2 by omega), g1]
        obtain ⟨kd, ek⟩ : ∃ kd, kd = 2 * i + 1 := ⟨_, rfl⟩
        rw [← ek] at hkd ⊢
        have hkn : kd < n := by omega
        have gk : ys[kd]? = some ys[kd] := List.getElem?_eq_getElem (by omega)
        have hdn : down lt (m + 1) ys i = if lt ys[kd] ys[i] = true then down lt m ((ys.set i ys[kd]).set kd ys[i]) kd else ys := by
          rw [down, hkd, gk, ga]
        have ekd : kd = kd := rfl
        refine loadA_at hb.wp hbx.bp rfl ?_
        refine loadA_at hb.wp hbx.bp rfl ?_
        refine rd1 hb.wu hbx.bu hkn  (fm_get e_int_len Z gk) ?_
        refine loadA_at hb.wp hbx.bp rfl ?_
        refine rd1 hb.wu hbx.bu hin  (fm_get e_int_len Z ga) ?_
        refine callVA_of (hlt _ stx _ _ (hL _ (List.mem_of_getElem? gk)) (hL _ (List.mem_of_getElem? ga))) fun r h4 ⟨er, s4⟩ f4 => ?_
        subst er
        have st4 := stx.in_ s4
        have hb4 := hbx.step s4
        cases hc : lt ys[kd] ys[i] with
        | false =>
          rw [hc, if_neg (by simp)] at hdn
          simp only [lenSl_slice, lenStr_string, str_size, fpureA_some, fnilA_ptr, faddA_ptr, addr_add, Nat.zero_add, Nat.add_zero, fpureQ_k, fpureQ_nilA, fpureQ_addA, fpureQ_pureA, fpureQ_guardA, fpureQ_idxSlA, fpureQ_pickA, freadQ_loadA, freadQ_loadNA, freadQ_b2sA, freadQ_guardA, freadQ_slSlA, freadQ_k, fendA, fallA_one, fstillA_nil, fguardA_tt, fguardA_ff, fguardA_tf, fguardA_ft, fguardA_undef, fpickA_true, fpickA_false, fcondA_true, fcondA_false, binA_add, binA_sub, binA_mul, binA_eql, binA_neq, binA_lss, binA_leq, binA_gtr, binA_geq, unA_not, Bool.not_true, Bool.not_false, convA_int, extA_tuple, List.getElem?_toArray, List.getElem?_cons_zero, List.getElem?_cons_succ]
          refine hk h4 st4 ?_
          rw [hdn]
          exact hb4
        | true =>
          rw [hc, if_pos rfl] at hdn
          simp only [lenSl_slice, lenStr_string, str_size, fpureA_some, fnilA_ptr, faddA_ptr, addr_add, Nat.zero_add, Nat.add_zero, fpureQ_k, fpureQ_nilA, fpureQ_addA, fpureQ_pureA, fpureQ_guardA, fpureQ_idxSlA, fpureQ_pickA, freadQ_loadA, freadQ_loadNA, freadQ_b2sA, freadQ_guardA, freadQ_slSlA, freadQ_k, fendA, fallA_one, fstillA_nil, fguardA_tt, fguardA_ff, fguardA_tf, fguardA_ft, fguardA_undef, fpickA_true, fpickA_false, fcondA_true, fcondA_false, binA_add, binA_sub, binA_mul, binA_eql, binA_neq, binA_lss, binA_leq, binA_gtr, binA_geq, unA_not, Bool.not_true, Bool.not_false, convA_int, extA_tuple, List.getElem?_toArray, List.getElem?_cons_zero, List.getElem?_cons_succ]
          refine loadA_at hb.wp hb4.bp rfl ?_
          refine loadA_at hb.wp hb4.bp rfl ?_
          refine loadA_at hb.wp hb4.bp rfl ?_
          refine rd1 hb.wu hb4.bu hkn  (fm_get e_int_len Z gk) ?_
          refine loadA_at hb.wp hb4.bp rfl ?_
          refine rd1 hb.wu hb4.bu hin  (fm_get e_int_len Z ga) ?_
          refine wr1 hb.wu hb4.bu hin (by rw [hcl]; omega) rfl ?_
          have hf1 := fm_set e_int_len Z (by omega : i < ys.length) ys[kd]
          have hf2 := fm_set e_int_len Z (by rw [List.length_set]; omega : kd < (ys.set i ys[kd]).length) ys[i]
          have hb5 := hb4.put ((ys.set i ys[kd]).flatMap e_int ++ Z)
          have hcl5 : ((ys.set i ys[kd]).flatMap e_int ++ Z).length = n * 1 + Z.length := by rw [List.length_append, fm_length e_int_len, List.length_set, hy]
          rw [hf1]
          refine wr1 hb.wu hb5.bu hkn (by rw [hcl5]; omega) rfl ?_
          rw [hf2]
          have hb6 := hb5.put (((ys.set i ys[kd]).set kd ys[i]).flatMap e_int ++ Z)
          refine ih kd ((ys.set i ys[kd]).set kd ys[i]) _ (by omega) (by omega) (by simp [hy]) (fun a ha => hL a ((swap_perm ga gk).mem_iff.1 ha)) ((st4.put (by simp) _).put (by simp) _) hb6 fun h7 st7 hb7 => ?_
          refine hk h7 st7 ?_
          rw [hdn]
          exact hb7
section
variable {h : Hp} {S : List Nat} {xs : List Int}
theorem push_int {a : Int} (q : Hq w0 1 h p lf xs.length (xs.flatMap e_int) S) (hl : xs.length < 1000000000)
    (hlt : ∀ h1 S1, Step h h1 S S1 → ∀ x y, x ∈ a :: xs → y ∈ a :: xs → callVA prog w0 lf [(Value.int .i64 x), (Value.int .i64 y)] (fun r h2 => r = .bool (lt x y) ∧ Step h1 h2 [] []) h1) :
    ACalls prog w0 n_seq_heap_int_push [ptr p, (Value.int .i64 a)] h fun _ h' => ∃ S', Hq w0 1 h' p lf (pushL lt xs a).length ((pushL lt xs a).flatMap e_int) S' ∧ Step h h' S S' := by
  refine ACalls.of_fit (by simp [ptr]) fun f => c_seq_heap_int_push (by simp [ptr]) ?_
  obtain ⟨x, U, bp, v, wp, lp, nU, rfl⟩ := q
  have hz : zerosL [((Value.int .i64 0) : Value)] 1 = [(Value.int .i64 0)] := rfl
  simp only [s_seq_heap_int_push, lenSl_slice, lenStr_string, str_size, fpureA_some, fnilA_ptr, faddA_ptr, addr_add, Nat.zero_add, Nat.add_zero, fpureQ_k, fpureQ_nilA, fpureQ_addA, fpureQ_pureA, fpureQ_guardA, fpureQ_idxSlA, fpureQ_pickA, freadQ_loadA, freadQ_loadNA, freadQ_b2sA, freadQ_guardA, freadQ_slSlA, freadQ_k, fendA, fallA_one, fstillA_nil, fguardA_tt, fguardA_ff, fguardA_tf, fguardA_ft, fguardA_undef, fpickA_true, fpickA_false, fcondA_true, fcondA_false, binA_add, binA_sub, binA_mul, binA_eql, binA_neq, binA_lss, binA_leq, binA_gtr, binA_geq, unA_not, Bool.not_true, Bool.not_false, convA_int, extA_tuple, List.getElem?_toArray, List.getElem?_cons_zero, List.getElem?_cons_succ, ptr]
  refine loadA_at wp bp rfl ?_
  simp only [bslA_iff, fillA_one, fillA_nil, hz, List.set_cons_zero]
  refine ⟨rfl, by simp, ?_⟩
  have s0 : Step h (h.new [(Value.int .i64 a)] 1) [] [h.next] := (Step.refl h [] (by simp)).new _ _
  have v0 := v.frame s0 (by simp)
  refine appA_vec (m := 1) (by have := f.base; simp; omega) v0 rfl (src_new f.base rfl) rfl (by omega) (by omega) (by omega) fun x' h2 U' v' st => ?_
  obtain ⟨u, rfl, rfl, u1, u2, u3, u4, u5⟩ : ∃ u, x' = .slice (some ⟨u, 0, none⟩) (xs.length + 1) ucap ∧ U' = [u] ∧ w0.heap.size ≤ u ∧ u < h2.next ∧ h2.blk u = some (xs.flatMap e_int ++ [(Value.int .i64 a)]) ∧ h2.esz u = 1 ∧ (xs.flatMap e_int ++ [(Value.int .i64 a)]).length = (xs.length + 1) * 1 := by
    rcases v' with ⟨-, q, -⟩ | q
    · omega
    · exact q
  have bp2 : h2.blk p = some [x, lf] := by rw [(st.keep p (by simp; omega) nU).1, new_blk, if_neg (by omega)]; exact bp
  have hpu : p ≠ u := fun e => by
    subst e
    rcases (st.own p (by simp)).2 with q | q
    · exact nU q
    · simp at q; omega
  refine storeA_at wp bp2 (by simp) rfl ?_
  simp only [List.set_cons_zero]
  have s2 : Step h h2 (p :: U) [p, u] := (s0.wide (T := p :: U) (T' := p :: U) (by simp) (fun q hq => .inr ⟨hq, by
    rcases List.mem_cons.1 hq with rfl | hq
    · exact lp
    · exact (v.lt q hq).2⟩)).trans (st.wide (fun q hq => by simp [hq]) (fun q hq => by
    rcases List.mem_cons.1 hq with rfl | hq
    · exact .inr ⟨by simp, by simp; omega⟩
    · exact .inl hq))
  have s3 := s2.put (p := p) (by simp) [.slice (some ⟨u, 0, none⟩) (xs.length + 1) ucap, lf]
  have hb : HB w0 1 (h2.put p [.slice (some ⟨u, 0, none⟩) (xs.length + 1) ucap, lf]) p u (xs.length + 1) lf ((xs ++ [a]).flatMap e_int ++ []) :=
    ⟨by simp, by rw [put_blk, if_neg (Ne.symm hpu), u3, List.append_nil, List.flatMap_append]; simp, wp, u1, hpu, by have := s2.1; simp; omega, u2, u4⟩
  generalize h2.put p [.slice (some ⟨u, 0, none⟩) (xs.length + 1) ucap, lf] = h3 at s3 hb ⊢
  have e1 : IntKind.i64.wrap (((xs.length + 1 : Nat) : Int) - 1) = (xs.length : Int) := by rw [IntWalk.i64_in _ (by omega)]; omega
  refine loadA_at wp hb.bp rfl ?_
  simp only [lenSl_slice, lenStr_string, str_size, fpureA_some, fnilA_ptr, faddA_ptr, addr_add, Nat.zero_add, Nat.add_zero, fpureQ_k, fpureQ_nilA, fpureQ_addA, fpureQ_pureA, fpureQ_guardA, fpureQ_idxSlA, fpureQ_pickA, freadQ_loadA, freadQ_loadNA, freadQ_b2sA, freadQ_guardA, freadQ_slSlA, freadQ_k, fendA, fallA_one, fstillA_nil, fguardA_tt, fguardA_ff, fguardA_tf, fguardA_ft, fguardA_undef, fpickA_true, fpickA_false, fcondA_true, fcondA_false, binA_add, binA_sub, binA_mul, binA_eql, binA_neq, binA_lss, binA_leq, binA_gtr, binA_geq, unA_not, Bool.not_true, Bool.not_false, convA_int, extA_tuple, List.getElem?_toArray, List.getElem?_cons_zero, List.getElem?_cons_succ, e1]
  refine ⟨xs.length + 1, ?_⟩
  refine push_loop_int (hh := h3) (Z := []) (lt := lt) (L := a :: xs) (fun h4 s4 x y hx hy => hlt h4 _ (s3.trans s4) x y hx hy) (by omega) _ _ (xs ++ [a]) h3 (by omega) (by omega) (by simp) (fun b hb => by simp at hb ⊢; exact hb.symm) hb.refl hb fun h5 s5 hb5 => ?_
  simp only [retA_iff]
  have hpl : (up lt (xs.length + 1) (xs ++ [a]) xs.length) = pushL lt xs a := rfl
  have hlen := pushL_length (lt := lt) xs a
  rw [hpl, List.append_nil] at hb5
  rw [hlen]
  exact ⟨by simp, [p, u], hb5.hq (by rw [fm_length e_int_len, hlen]), s3.trans s5⟩
theorem pop_int {r : Int} (q : Hq w0 1 h p lf xs.length (xs.flatMap e_int) S) (hr : xs[0]? = some r) (hl : xs.length < 1000000000)
    (hlt : ∀ h1 S1, Step h h1 S S1 → ∀ x y, x ∈ xs → y ∈ xs → callVA prog w0 lf [(Value.int .i64 x), (Value.int .i64 y)] (fun r h2 => r = .bool (lt x y) ∧ Step h1 h2 [] []) h1) :
    ACalls prog w0 n_seq_heap_int_pop [ptr p] h fun v h' => v = (Value.int .i64 r) ∧ ∃ S', Hq w0 1 h' p lf (popL lt xs).length ((popL lt xs).flatMap e_int) S' ∧ Step h h' S S' := by
  have hpos : 0 < xs.length := (List.getElem?_eq_some_iff.1 hr).1
  obtain ⟨n, hn⟩ : ∃ n, xs.length = n + 1 := ⟨xs.length - 1, by omega⟩
  have hplen : (popL lt xs).length = n := by rw [popL_length hpos]; omega
  obtain ⟨u, rfl, hb, hcl⟩ := q.hb hpos
  obtain ⟨z, hz⟩ : ∃ z, xs[n]? = some z := ⟨xs[n], List.getElem?_eq_getElem (by omega)⟩
  have main : ACalls prog w0 n_seq_heap_int_pop [ptr p] h fun v h' => v = (Value.int .i64 r) ∧ Step h h' [p, u] [p, u] ∧ HB w0 1 h' p u n lf ((popL lt xs).flatMap e_int ++ [(Value.int .i64 0)]) := by
    refine ACalls.of_fit (by simp [ptr]) fun f => c_seq_heap_int_pop (by simp [ptr]) ?_
    have e1 : IntKind.i64.wrap ((xs.length : Int) - 1) = (n : Int) := by rw [IntWalk.i64_in _ (by omega)]; omega
    have g0 := fm_get e_int_len [] hr
    have gz := fm_get e_int_len [] hz
    rw [List.append_nil] at g0 gz
    simp only [s_seq_heap_int_pop, lenSl_slice, lenStr_string, str_size, fpureA_some, fnilA_ptr, faddA_ptr, addr_add, Nat.zero_add, Nat.add_zero, fpureQ_k, fpureQ_nilA, fpureQ_addA, fpureQ_pureA, fpureQ_guardA, fpureQ_idxSlA, fpureQ_pickA, freadQ_loadA, freadQ_loadNA, freadQ_b2sA, freadQ_guardA, freadQ_slSlA, freadQ_k, fendA, fallA_one, fstillA_nil, fguardA_tt, fguardA_ff, fguardA_tf, fguardA_ft, fguardA_undef, fpickA_true, fpickA_false, fcondA_true, fcondA_false, binA_add, binA_sub, binA_mul, binA_eql, binA_neq, binA_lss, binA_leq, binA_gtr, binA_geq, unA_not, Bool.not_true, Bool.not_false, convA_int, extA_tuple, List.getElem?_toArray, List.getElem?_cons_zero, List.getElem?_cons_succ, ptr]
    refine loadA_at hb.wp hb.bp rfl ?_
    refine rd1 (i := 0) hb.wu hb.bu hpos g0 ?_
    refine loadA_at hb.wp hb.bp rfl ?_
    simp only [lenSl_slice, lenStr_string, str_size, fpureA_some, fnilA_ptr, faddA_ptr, addr_add, Nat.zero_add, Nat.add_zero, fpureQ_k, fpureQ_nilA, fpureQ_addA, fpureQ_pureA, fpureQ_guardA, fpureQ_idxSlA, fpureQ_pickA, freadQ_loadA, freadQ_loadNA, freadQ_b2sA, freadQ_guardA, freadQ_slSlA, freadQ_k, fendA, fallA_one, fstillA_nil, fguardA_tt, fguardA_ff, fguardA_tf, fguardA_ft, fguardA_undef, fpickA_true, fpickA_false, fcondA_true, fcondA_false, binA_add, binA_sub, binA_mul, binA_eql, binA_neq, binA_lss, binA_leq, binA_gtr, binA_geq, unA_not, Bool.not_true, Bool.not_false, convA_int, extA_tuple, List.getElem?_toArray, List.getElem?_cons_zero, List.getElem?_cons_succ, e1]
    refine loadA_at hb.wp hb.bp rfl ?_
    refine loadA_at hb.wp hb.bp rfl ?_
    refine rd1 hb.wu hb.bu (by omega) gz ?_
    refine wr1 (i := 0) hb.wu hb.bu hpos (by omega) rfl ?_
    have hf1 := fm_set e_int_len [] hpos z
    rw [List.append_nil, List.append_nil] at hf1
    rw [hf1]
    have hb1 := hb.put ((xs.set 0 z).flatMap e_int)
    have hx1 : (xs.set 0 z).length = n + 1 := by rw [List.length_set, hn]
    refine loadA_at hb.wp hb1.bp rfl ?_
    have hcl1 : ((xs.set 0 z).flatMap e_int).length = (n + 1) * 1 := by rw [fm_length e_int_len, hx1]
    refine wr1 hb.wu hb1.bu (by omega) (by omega) rfl ?_
    rw [fm_last e_int_len hx1 rfl]
    have hb2 := hb1.put (((xs.set 0 z).take n).flatMap e_int ++ [(Value.int .i64 0)])
    have st2 : Step h _ [p, u] [p, u] := (hb.refl.put (p := u) (by simp) ((xs.set 0 z).flatMap e_int)).put (p := u) (by simp) (((xs.set 0 z).take n).flatMap e_int ++ [(Value.int .i64 0)])
    generalize ((h.put u ((xs.set 0 z).flatMap e_int)).put u (((xs.set 0 z).take n).flatMap e_int ++ [(Value.int .i64 0)])) = h2 at hb2 st2 ⊢
    refine loadA_at hb.wp hb2.bp rfl ?_
    have htl : ((xs.set 0 z).take n).length = n := by rw [List.length_take, hx1]; omega
    refine slSl_own (l := 0) (u := n) rfl boundA_nat (Nat.zero_le _) hb2.bu hb2.es (by omega) (by rw [List.length_append, fm_length e_int_len, htl]; omega) ?_
    refine storeA_at hb.wp hb2.bp (by simp) rfl ?_
    rw [Nat.zero_mul, Nat.zero_add, Nat.sub_zero]
    simp only [List.set_cons_zero]
    have hb3 := hb2.put_p n
    have st3 := st2.put (p := p) (by simp) [.slice (some ⟨u, 0, none⟩) n ucap, lf]
    generalize h2.put p [.slice (some ⟨u, 0, none⟩) n ucap, lf] = h3 at hb3 st3 ⊢
    refine ⟨n + 1 + 1, ?_⟩
    refine pop_loop_int (hh := h3) (Z := [(Value.int .i64 0)]) (lt := lt) (L := xs) (fun h4 s4 x y hx hy => hlt h4 _ (st3.trans s4) x y hx hy) (by omega) (n + 1) 0 _ h3 (by omega) (by omega) htl (fun b hb => ?_) hb3.refl hb3 fun h5 s5 hb5 => ?_
    · have := List.mem_of_mem_take hb
      rcases List.mem_or_eq_of_mem_set this with q | q
      · exact q
      · rw [q]; exact List.mem_of_getElem? hz
    · simp only [retA_iff, oneOf_one]
      have hpl : down lt (n + 1 + 1) ((xs.set 0 z).take n) 0 = popL lt xs := by
        unfold popL
        rw [show xs.length - 1 = n by omega, hz, hn]
      rw [hpl] at hb5
      exact ⟨by simp, trivial, st3.trans s5, hb5⟩
  refine main.forget fun v h' ⟨e, st, hb'⟩ f => .inr ⟨u, _, n * 1, hb'.wu, hb'.bu, e, [p, u], ?_, st.put (by simp) _⟩
  have hl' : ((popL lt xs).flatMap e_int).length = n * 1 := by rw [fm_length e_int_len, hplen]
  rw [← hl', List.take_left, hplen]
  exact (hb'.put _).hq hl'
end

end
set_option maxHeartbeats 0
abbrev e_string (a : Key) : List Value := [.string (str a)]
section
variable {w0 : World} {hh : Hp} {p u n : Nat} {lf : Value} {Z : List Value} {L : List Key} {lt : Key → Key → Bool}
theorem e_string_len (a : Key) : (e_string a).length = 1 := rfl
/-- What the order needs: it is called at any heap of the walk. -/
def Lt_string (w0 : World) (hh : Hp) (p u : Nat) (lf : Value) (lt : Key → Key → Bool) (L : List Key) : Prop :=
  ∀ h1, Step hh h1 [p, u] [p, u] → ∀ a b, a ∈ L → b ∈ L → callVA prog w0 lf [(Value.string (str a)), (Value.string (str b))] (fun r h2 => r = .bool (lt a b) ∧ Step h1 h2 [] []) h1
theorem push_loop_string {K : Hp → Prop} (hlt : Lt_string w0 hh p u lf lt L) (hn : n ≤ 1000000000) :
    ∀ (m i : Nat) (ys : List Key) (h1 : Hp), i < m → i < n → ys.length = n → (∀ a, a ∈ ys → a ∈ L) → Step hh h1 [p, u] [p, u] → HB w0 1 h1 p u n lf (ys.flatMap e_string ++ Z) →
    (∀ h2, Step hh h2 [p, u] [p, u] → HB w0 1 h2 p u n lf ((up lt m ys i).flatMap e_string ++ Z) → K h2) → seq_heap_string_push_L1 prog w0 K K m (ptr p) (.int .i64 (i : Int)) h1 := by
  intro m
  induction m with
  | zero => intro i ys h1 hi; omega
  | succ m ih =>
    intro i ys h1 hi hin hy hL st hb hk
    rw [seq_heap_string_push_L1]
    have hcl : (ys.flatMap e_string ++ Z).length = n * 1 + Z.length := by rw [List.length_append, fm_length e_string_len, hy]
    by_cases h0 : i = 0
    · have c1 : decide ((0 : Int) < (i : Int)) = false := decide_eq_false (by omega)
      simp only [seq_heap_string_push_B1, lenSl_slice, lenStr_string, str_size, fpureA_some, fnilA_ptr, faddA_ptr, addr_add, Nat.zero_add, Nat.add_zero, fpureQ_k, fpureQ_nilA, fpureQ_addA, fpureQ_pureA, fpureQ_guardA, fpureQ_idxSlA, fpureQ_pickA, freadQ_loadA, freadQ_loadNA, freadQ_b2sA, freadQ_guardA, freadQ_slSlA, freadQ_k, fendA, fallA_one, fstillA_nil, fguardA_tt, fguardA_ff, fguardA_tf, fguardA_ft, fguardA_undef, fpickA_true, fpickA_false, fcondA_true, fcondA_false, binA_add, binA_sub, binA_mul, binA_eql, binA_neq, binA_lss, binA_leq, binA_gtr, binA_geq, unA_not, Bool.not_true, Bool.not_false, convA_int, extA_tuple, List.getElem?_toArray, List.getElem?_cons_zero, List.getElem?_cons_succ, c1]
      refine hk h1 st ?_
      rw [up, if_pos h0]
      exact hb
    · have c1 : decide ((0 : Int) < (i : Int)) = true := decide_eq_true (by omega)
      have e1 : IntKind.i64.wrap ((i : Int) - 1) = ((i - 1 : Nat) : Int) := by rw [IntWalk.i64_in _ (by omega)]; omega
      have e2 : binA .quo (.int .i64 ((i - 1 : Nat) : Int)) (.int .i64 2) = some (.int .i64 (((i - 1) / 2 : Nat) : Int)) := by
        rw [binA_quo _ _ _ (by omega)]
        congr 2
        rw [Int.tdiv_eq_ediv_of_nonneg (by omega), IntWalk.i64_in _ (by omega)]
        omega
      obtain ⟨v, hv⟩ : ∃ v, v = (i - 1) / 2 := ⟨_, rfl⟩
      rw [← hv] at e2
      have hvn : v < n := by omega
      have ga : ys[i]? = some ys[i] := List.getElem?_eq_getElem (by omega)
      have gb : ys[v]? = some ys[v] := List.getElem?_eq_getElem (by omega)
      simp only [seq_heap_string_push_B1, lenSl_slice, lenStr_string, str_size, fpureA_some, fnilA_ptr, faddA_ptr, addr_add, Nat.zero_add, Nat.add_zero, fpureQ_k, fpureQ_nilA, fpureQ_addA, fpureQ_pureA, fpureQ_guardA, fpureQ_idxSlA, fpureQ_pickA, freadQ_loadA, freadQ_loadNA, freadQ_b2sA, freadQ_guardA, freadQ_slSlA, freadQ_k, fendA, fallA_one, fstillA_nil, fguardA_tt, fguardA_ff, fguardA_tf, fguardA_ft, fguardA_undef, fpickA_true, fpickA_false, fcondA_true, fcondA_false, binA_add, binA_sub, binA_mul, binA_eql, binA_neq, binA_lss, binA_leq, binA_gtr, binA_geq, unA_not, Bool.not_true, Bool.not_false, convA_int, extA_tuple, List.getElem?_toArray, List.getElem?_cons_zero, List.getElem?_cons_succ, c1, e1, e2, ptr]
      refine loadA_at hb.wp hb.bp rfl ?_
      refine loadA_at hb.wp hb.bp rfl ?_
      refine rd1 hb.wu hb.bu hin  (fm_get e_string_len Z ga) ?_
      refine loadA_at hb.wp hb.bp rfl ?_
      refine rd1 hb.wu hb.bu hvn  (fm_get e_string_len Z gb) ?_
      refine callVA_of (hlt h1 st _ _ (hL _ (List.mem_of_getElem? ga)) (hL _ (List.mem_of_getElem? gb))) fun r h2 ⟨er, s2⟩ f2 => ?_
      subst er
      have st2 := st.in_ s2
      have hb2 := hb.step s2
      have hup : up lt (m + 1) ys i = if lt ys[i] ys[v] = true then up lt m ((ys.set i ys[v]).set v ys[i]) v else ys := by
        rw [up, if_neg h0, ← hv, ga, gb]
      cases hc : lt ys[i] ys[v] with
      | false =>
        rw [hc, if_neg (by simp)] at hup
        simp only [lenSl_slice, lenStr_string, str_size, fpureA_some, fnilA_ptr, faddA_ptr, addr_add, Nat.zero_add, Nat.add_zero, fpureQ_k, fpureQ_nilA, fpureQ_addA, fpureQ_pureA, fpureQ_guardA, fpureQ_idxSlA, fpureQ_pickA, freadQ_loadA, freadQ_loadNA, freadQ_b2sA, freadQ_guardA, freadQ_slSlA, freadQ_k, fendA, fallA_one, fstillA_nil, fguardA_tt, fguardA_ff, fguardA_tf, fguardA_ft, fguardA_undef, fpickA_true, fpickA_false, fcondA_true, fcondA_false, binA_add, binA_sub, binA_mul, binA_eql, binA_neq, binA_lss, binA_leq, binA_gtr, binA_geq, unA_not, Bool.not_true, Bool.not_false, convA_int, extA_tuple, List.getElem?_toArray, List.getElem?_cons_zero, List.getElem?_cons_succ]
        refine hk h2 st2 ?_
        rw [hup]
        exact hb2
      | true =>
        rw [hc, if_pos rfl] at hup
        simp only [lenSl_slice, lenStr_string, str_size, fpureA_some, fnilA_ptr, faddA_ptr, addr_add, Nat.zero_add, Nat.add_zero, fpureQ_k, fpureQ_nilA, fpureQ_addA, fpureQ_pureA, fpureQ_guardA, fpureQ_idxSlA, fpureQ_pickA, freadQ_loadA, freadQ_loadNA, freadQ_b2sA, freadQ_guardA, freadQ_slSlA, freadQ_k, fendA, fallA_one, fstillA_nil, fguardA_tt, fguardA_ff, fguardA_tf, fguardA_ft, fguardA_undef, fpickA_true, fpickA_false, fcondA_true, fcondA_false, binA_add, binA_sub, binA_mul, binA_eql, binA_neq, binA_lss, binA_leq, binA_gtr, binA_geq, unA_not, Bool.not_true, Bool.not_false, convA_int, extA_tuple, List.getElem?_toArray, List.getElem?_cons_zero, List.getElem?_cons_succ]
        refine loadA_at hb.wp hb2.bp rfl ?_
        refine loadA_at hb.wp hb2.bp rfl ?_
        refine loadA_at hb.wp hb2.bp rfl ?_
        refine rd1 hb.wu hb2.bu hvn  (fm_get e_string_len Z gb) ?_
        refine loadA_at hb.wp hb2.bp rfl ?_
        refine rd1 hb.wu hb2.bu hin  (fm_get e_string_len Z ga) ?_
        refine wr1 hb.wu hb2.bu hin (by rw [hcl]; omega) rfl ?_
        have hf1 := fm_set e_string_len Z (by omega : i < ys.length) ys[v]
        have hf2 := fm_set e_string_len Z (by rw [List.length_set]; omega : v < (ys.set i ys[v]).length) ys[i]
        have hb3 := hb2.put ((ys.set i ys[v]).flatMap e_string ++ Z)
        have hcl3 : ((ys.set i ys[v]).flatMap e_string ++ Z).length = n * 1 + Z.length := by rw [List.length_append, fm_length e_string_len, List.length_set, hy]
        rw [hf1]
        refine wr1 hb.wu hb3.bu hvn (by rw [hcl3]; omega) rfl ?_
        rw [hf2]
        have hb4 := hb3.put (((ys.set i ys[v]).set v ys[i]).flatMap e_string ++ Z)
        refine ih v ((ys.set i ys[v]).set v ys[i]) _ (by omega) hvn (by simp [hy]) (fun a ha => hL a ((swap_perm ga gb).mem_iff.1 ha)) ((st2.put (by simp) _).put (by simp) _) hb4 fun h5 st5 hb5 => ?_
        refine hk h5 st5 ?_
        rw [hup]
        exact hb5
theorem pop_loop_string {kr : Value → Hp → Prop} {x2 x3 : Value} (hlt : Lt_string w0 hh p u lf lt L) (hn : n ≤ 1000000000) :
    ∀ (m i : Nat) (ys : List Key) (h1 : Hp), n ≤ i + m → i ≤ n → ys.length = n → (∀ a, a ∈ ys → a ∈ L) → Step hh h1 [p, u] [p, u] → HB w0 1 h1 p u n lf (ys.flatMap e_string ++ Z) →
    (∀ h2, Step hh h2 [p, u] [p, u] → HB w0 1 h2 p u n lf ((down lt (m + 1) ys i).flatMap e_string ++ Z) → kr x3 h2) → seq_heap_string_pop_L1 prog w0 kr (m + 1) (ptr p) x2 x3 (.int .i64 (n : Int)) (.int .i64 (i : Int)) h1 := by
  intro m
  induction m with
  | zero =>
    intro i ys h1 hi hin hy hL st hb hk
    rw [seq_heap_string_pop_L1]
    have e1 : IntKind.i64.wrap (2 * (i : Int)) = ((2 * i : Nat) : Int) := by rw [IntWalk.i64_in _ (by omega)]; omega
    have e2 : IntKind.i64.wrap (((2 * i : Nat) : Int) + 1) = ((2 * i + 1 : Nat) : Int) := by rw [IntWalk.i64_in _ (by omega)]; omega
    have c1 : decide ((n : Int) ≤ ((2 * i + 1 : Nat) : Int)) = true := decide_eq_true (by omega)
    simp only [seq_heap_string_pop_B1, lenSl_slice, lenStr_string, str_size, fpureA_some, fnilA_ptr, faddA_ptr, addr_add, Nat.zero_add, Nat.add_zero, fpureQ_k, fpureQ_nilA, fpureQ_addA, fpureQ_pureA, fpureQ_guardA, fpureQ_idxSlA, fpureQ_pickA, freadQ_loadA, freadQ_loadNA, freadQ_b2sA, freadQ_guardA, freadQ_slSlA, freadQ_k, fendA, fallA_one, fstillA_nil, fguardA_tt, fguardA_ff, fguardA_tf, fguardA_ft, fguardA_undef, fpickA_true, fpickA_false, fcondA_true, fcondA_false, binA_add, binA_sub, binA_mul, binA_eql, binA_neq, binA_lss, binA_leq, binA_gtr, binA_geq, unA_not, Bool.not_true, Bool.not_false, convA_int, extA_tuple, List.getElem?_toArray, List.getElem?_cons_zero, List.getElem?_cons_succ, e1, e2, c1]
    refine hk h1 st ?_
    have hdn : down lt (0 + 1) ys i = ys := by
      rw [down, List.getElem?_eq_none (show ys.length ≤ kid lt ys i by rcases kid_or (lt := lt) ys i with q | q <;> omega)]
    rw [hdn]
    exact hb
  | succ m0 ih =>
    intro i ys h1 hi hin hy hL st hb hk
    obtain ⟨m, hm⟩ : ∃ m, m = m0 + 1 := ⟨_, rfl⟩
    rw [← hm] at ih hk ⊢
    rw [seq_heap_string_pop_L1]
    have hcl : (ys.flatMap e_string ++ Z).length = n * 1 + Z.length := by rw [List.length_append, fm_length e_string_len, hy]
    have e1 : IntKind.i64.wrap (2 * (i : Int)) = ((2 * i : Nat) : Int) := by rw [IntWalk.i64_in _ (by omega)]; omega
    have e2 : IntKind.i64.wrap (((2 * i : Nat) : Int) + 1) = ((2 * i + 1 : Nat) : Int) := by rw [IntWalk.i64_in _ (by omega)]; omega
    have e3 : IntKind.i64.wrap (((2 * i + 1 : Nat) : Int) + 1) = ((2 * i + 2 : Nat) : Int) := by rw [IntWalk.i64_in _ (by omega)]; omega
    by_cases h0 : n ≤ 2 * i + 1
    · have c1 : decide ((n : Int) ≤ ((2 * i + 1 : Nat) : Int)) = true := decide_eq_true (by omega)
      simp only [seq_heap_string_pop_B1, lenSl_slice, lenStr_string, str_size, fpureA_some, fnilA_ptr, faddA_ptr, addr_add, Nat.zero_add, Nat.add_zero, fpureQ_k, fpureQ_nilA, fpureQ_addA, fpureQ_pureA, fpureQ_guardA, fpureQ_idxSlA, fpureQ_pickA, freadQ_loadA, freadQ_loadNA, freadQ_b2sA, freadQ_guardA, freadQ_slSlA, freadQ_k, fendA, fallA_one, fstillA_nil, fguardA_tt, fguardA_ff, fguardA_tf, fguardA_ft, fguardA_undef, fpickA_true, fpickA_false, fcondA_true, fcondA_false, binA_add, binA_sub, binA_mul, binA_eql, binA_neq, binA_lss, binA_leq, binA_gtr, binA_geq, unA_not, Bool.not_true, Bool.not_false, convA_int, extA_tuple, List.getElem?_toArray, List.getElem?_cons_zero, List.getElem?_cons_succ, e1, e2, c1]
      refine hk h1 st ?_
      have hdn : down lt (m + 1) ys i = ys := by
        rw [down, List.getElem?_eq_none (show ys.length ≤ kid lt ys i by rcases kid_or (lt := lt) ys i with q | q <;> omega)]
      rw [hdn]
      exact hb
    · have c1 : decide ((n : Int) ≤ ((2 * i + 1 : Nat) : Int)) = false := decide_eq_false (by omega)
      have hin : i < n := by omega
      have ga : ys[i]? = some ys[i] := List.getElem?_eq_getElem (by omega)
      have g1 : ys[2 * i + 1]? = some ys[2 * i + 1] := List.getElem?_eq_getElem (by omega)
      by_cases h2n : 2 * i + 2 < n
      · have c2 : decide (((2 * i + 2 : Nat) : Int) < (n : Int)) = true := decide_eq_true (by omega)
        have g2 : ys[2 * i + 2]? = some ys[2 * i + 2] := List.getElem?_eq_getElem (by omega)
        simp only [seq_heap_string_pop_B1, lenSl_slice, lenStr_string, str_size, fpureA_some, fnilA_ptr, faddA_ptr, addr_add, Nat.zero_add, Nat.add_zero, fpureQ_k, fpureQ_nilA, fpureQ_addA, fpureQ_pureA, fpureQ_guardA, fpureQ_idxSlA, fpureQ_pickA, freadQ_loadA, freadQ_loadNA, freadQ_b2sA, freadQ_guardA, freadQ_slSlA, freadQ_k, fendA, fallA_one, fstillA_nil, fguardA_tt, fguardA_ff, fguardA_tf, fguardA_ft, fguardA_undef, fpickA_true, fpickA_false, fcondA_true, fcondA_false, binA_add, binA_sub, binA_mul, binA_eql, binA_neq, binA_lss, binA_leq, binA_gtr, binA_geq, unA_not, Bool.not_true, Bool.not_false, convA_int, extA_tuple, List.getElem?_toArray, List.getElem?_cons_zero, List.getElem?_cons_succ, e1, e2, e3, c1, c2, ptr]
        refine loadA_at hb.wp hb.bp rfl ?_
        refine loadA_at hb.wp hb.bp rfl ?_
        refine rd1 hb.wu hb.bu h2n  (fm_get e_string_len Z g2) ?_
        refine loadA_at hb.wp hb.bp rfl ?_
        refine rd1 hb.wu hb.bu (by omega)  (fm_get e_string_len Z g1) ?_
        refine callVA_of (hlt h1 st _ _ (hL _ (List.mem_of_getElem? g2)) (hL _ (List.mem_of_getElem? g1))) fun r hx ⟨er, s2⟩ f2 => ?_
        subst er
        have stx := st.in_ s2
        have hbx := hb.step s2
        cases hq : lt ys[2 * i + 2] ys[2 * i + 1] with
        | true =>
          simp only [lenSl_slice, lenStr_string, str_size, fpureA_some, fnilA_ptr, faddA_ptr, addr_add, Nat.zero_add, Nat.add_zero, fpureQ_k, fpureQ_nilA, fpureQ_addA, fpureQ_pureA, fpureQ_guardA, fpureQ_idxSlA, fpureQ_pickA, freadQ_loadA, freadQ_loadNA, freadQ_b2sA, freadQ_guardA, freadQ_slSlA, freadQ_k, fendA, fallA_one, fstillA_nil, fguardA_tt, fguardA_ff, fguardA_tf, fguardA_ft, fguardA_undef, fpickA_true, fpickA_false, fcondA_true, fcondA_false, binA_add, binA_sub, binA_mul, binA_eql, binA_neq, binA_lss, binA_leq, binA_gtr, binA_geq, unA_not, Bool.not_true, Bool.not_false, convA_int, extA_tuple, List.getElem?_toArray, List.getElem?_cons_zero, List.getElem?_cons_succ, e3]
          have hkd : kid lt ys i = 2 * i + 2 := by unfold kid; rw [g1, g2]; simp only; rw [hq, if_pos rfl]
          obtain ⟨kd, ek⟩ : ∃ kd, kd = 2 * i + 2 := ⟨_, rfl⟩
          rw [← ek] at hkd ⊢
          have hkn : kd < n := by omega
          have gk : ys[kd]? = some ys[kd] := List.getElem?_eq_getElem (by omega)
          have hdn : down lt (m + 1) ys i = if lt ys[kd] ys[i] = true then down lt m ((ys.set i ys[kd]).set kd ys[i]) kd else ys := by
            rw [down, hkd, gk, ga]
          have ekd : kd = kd := rfl
          refine loadA_at hb.wp hbx.bp rfl ?_
          refine loadA_at hb.wp hbx.bp rfl ?_
          refine rd1 hb.wu hbx.bu hkn  (fm_get e_string_len Z gk) ?_
          refine loadA_at hb.wp hbx.bp rfl ?_
          refine rd1 hb.wu hbx.bu hin  (fm_get e_string_len Z ga) ?_
          refine callVA_of (hlt _ stx _ _ (hL _ (List.mem_of_getElem? gk)) (hL _ (List.mem_of_getElem? ga))) fun r h4 ⟨er, s4⟩ f4 => ?_
          subst er
          have st4 := stx.in_ s4
          have hb4 := hbx.step s4
          cases hc : lt ys[kd] ys[i] with
          | false =>
            rw [hc, if_neg (by simp)] at hdn
            simp only [lenSl_slice, lenStr_string, str_size, fpureA_some, fnilA_ptr, faddA_ptr, addr_add, Nat.zero_add, Nat.add_zero, fpureQ_k, fpureQ_nilA, fpureQ_addA, fpureQ_pureA, fpureQ_guardA, fpureQ_idxSlA, fpureQ_pickA, freadQ_loadA, freadQ_loadNA, freadQ_b2sA, freadQ_guardA, freadQ_slSlA, freadQ_k, fendA, fallA_one, fstillA_nil, fguardA_tt, fguardA_ff, fguardA_tf, fguardA_ft, fguardA_undef, fpickA_true, fpickA_false, fcondA_true, fcondA_false, binA_add, binA_sub, binA_mul, binA_eql, binA_neq, binA_lss, binA_leq, binA_gtr, binA_geq, unA_not, Bool.not_true, Bool.not_false, convA_int, extA_tuple, List.getElem?_toArray, List.getElem?_cons_zero, List.getElem?_cons_succ]
            refine hk h4 st4 ?_
            rw [hdn]
            exact hb4
          | true =>
            rw [hc, if_pos rfl] at hdn
            simp only [lenSl_slice, lenStr_string, str_size, fpureA_some, fnilA_ptr, faddA_ptr, addr_add, Nat.zero_add, Nat.add_zero, fpureQ_k, fpureQ_nilA, fpureQ_addA, fpureQ_pureA, fpureQ_guardA, fpureQ_idxSlA, fpureQ_pickA, freadQ_loadA, freadQ_loadNA, freadQ_b2sA, freadQ_guardA, freadQ_slSlA, freadQ_k, fendA, fallA_one, fstillA_nil, fguardA_tt, fguardA_ff, fguardA_tf, fguardA_ft, fguardA_undef, fpickA_true, fpickA_false, fcondA_true, fcondA_false, binA_add, binA_sub, binA_mul, binA_eql, binA_neq, binA_lss, binA_leq, binA_gtr, binA_geq, unA_not, Bool.not_true, Bool.not_false, convA_int, extA_tuple, List.getElem?_toArray, List.getElem?_cons_zero, List.getElem?_cons_succ]
            refine loadA_at hb.wp hb4.bp rfl ?_
            refine loadA_at hb.wp hb4.bp rfl ?_
            refine loadA_at hb.wp hb4.bp rfl ?_
            refine rd1 hb.wu hb4.bu hkn  (fm_get e_string_len Z gk) ?_
            refine loadA_at hb.wp hb4.bp rfl ?_
            refine rd1 hb.wu hb4.bu hin  (fm_get e_string_len Z ga) ?_
            refine wr1 hb.wu hb4.bu hin (by rw [hcl]; omega) rfl ?_
            have hf1 := fm_set e_string_len Z (by omega : i < ys.length) ys[kd]
            have hf2 := fm_set e_string_len Z (by rw [List.length_set]; omega : kd < (ys.set i ys[kd]).length) ys[i]
            have hb5 := hb4.put ((ys.set i ys[kd]).flatMap e_string ++ Z)
            have hcl5 : ((ys.set i ys[kd]).flatMap e_string ++ Z).length = n * 1 + Z.length := by rw [List.length_append, fm_length e_string_len, List.length_set, hy]
            rw [hf1]
            refine wr1 hb.wu hb5.bu hkn (by rw [hcl5]; omega) rfl ?_
            rw [hf2]
            have hb6 := hb5.put (((ys.set i ys[kd]).set kd ys[i]).flatMap e_string ++ Z)
            refine ih kd ((ys.set i ys[kd]).set kd ys[i]) _ (by omega) (by omega) (by simp [hy]) (fun a ha => hL a ((swap_perm ga gk).mem_iff.1 ha)) ((st4.put (by simp) _).put (by simp) _) hb6 fun h7 st7 hb7 => ?_
            refine hk h7 st7 ?_
            rw [hdn]
            exact hb7
        | false =>
          simp only [lenSl_slice, lenStr_string, str_size, fpureA_some, fnilA_ptr, faddA_ptr, addr_add, Nat.zero_add, Nat.add_zero, fpureQ_k, fpureQ_nilA, fpureQ_addA, fpureQ_pureA, fpureQ_guardA, fpureQ_idxSlA, fpureQ_pickA, freadQ_loadA, freadQ_loadNA, freadQ_b2sA, freadQ_guardA, freadQ_slSlA, freadQ_k, fendA, fallA_one, fstillA_nil, fguardA_tt, fguardA_ff, fguardA_tf, fguardA_ft, fguardA_undef, fpickA_true, fpickA_false, fcondA_true, fcondA_false, binA_add, binA_sub, binA_mul, binA_eql, binA_neq, binA_lss, binA_leq, binA_gtr, binA_geq, unA_not, Bool.not_true, Bool.not_false, convA_int, extA_tuple, List.getElem?_toArray, List.getElem?_cons_zero, List.getElem?_cons_succ]
          have hkd : kid lt ys i = 2 * i + 1 := by unfold kid; rw [g1, g2]; simp only; rw [hq, if_neg (by simp)]
          obtain ⟨kd, ek⟩ : ∃ kd, kd = 2 * i + 1 := ⟨_, rfl⟩
          rw [← ek] at hkd ⊢
          have hkn : kd < n := by omega
          have gk : ys[kd]? = some ys[kd] := List.getElem?_eq_getElem (by omega)
          have hdn : down lt (m + 1) ys i = if lt ys[kd] ys[i] = true then down lt m ((ys.set i ys[kd]).set kd ys[i]) kd else ys := by
            rw [down, hkd, gk, ga]
          have ekd : kd = kd := rfl
          refine loadA_at hb.wp hbx.bp rfl ?_
          refine loadA_at hb.wp hbx.bp rfl ?_
          refine rd1 hb.wu hbx.bu hkn  (fm_get e_string_len Z gk) ?_
          refine loadA_at hb.wp hbx.bp rfl ?_
          refine rd1 hb.wu hbx.bu hin  (fm_get e_string_len Z ga) ?_
          refine callVA_of (hlt _ stx _ _ (hL _ (List.mem_of_getElem? gk)) (hL _ (List.mem_of_getElem? ga))) fun r h4 ⟨er, s4⟩ f4 => ?_
          subst er
          have st4 := stx.in_ s4
          have hb4 := hbx.step s4
          cases hc : lt ys[kd] ys[i] with
          | false =>
            rw [hc, if_neg (by simp)] at hdn
            simp only [lenSl_slice, lenStr_string, str_size, fpureA_some, fnilA_ptr, faddA_ptr, addr_add, Nat.zero_add, Nat.add_zero, fpureQ_k, fpureQ_nilA, fpureQ_addA, fpureQ_pureA, fpureQ_guardA, fpureQ_idxSlA, fpureQ_pickA, freadQ_loadA, freadQ_loadNA, freadQ_b2sA, freadQ_guardA, freadQ_slSlA, freadQ_k, fendA, fallA_one, fstillA_nil, fguardA_tt, fguardA_ff, fguardA_tf, fguardA_ft, fguardA_undef, fpickA_true, fpickA_false, fcondA_true, fcondA_false, binA_add, binA_sub, binA_mul, binA_eql, binA_neq, binA_lss, binA_leq, binA_gtr, binA_geq, unA_not, Bool.not_true, Bool.not_false, convA_int, extA_tuple, List.getElem?_toArray, List.getElem?_cons_zero, List.getElem?_cons_succ]
            refine hk h4 st4 ?_
            rw [hdn]
            exact hb4
          | true =>
            rw [hc, if_pos rfl] at hdn
            simp only [lenSl_slice, lenStr_string, str_size, fpureA_some, fnilA_ptr, faddA_ptr, addr_add, Nat.zero_add, Nat.add_zero, fpureQ_k, fpureQ_nilA, fpureQ_addA, fpureQ_pureA, fpureQ_guardA, fpureQ_idxSlA, fpureQ_pickA, freadQ_loadA, freadQ_loadNA, freadQ_b2sA, freadQ_guardA, freadQ_slSlA, freadQ_k, fendA, fallA_one, fstillA_nil, fguardA_tt, fguardA_ff, fguardA_tf, fguardA_ft, fguardA_undef, fpickA_true, fpickA_false, fcondA_true, fcondA_false, binA_add, binA_sub, binA_mul, binA_eql, binA_neq, binA_lss, binA_leq, binA_gtr, binA_geq, unA_not, Bool.not_true, Bool.not_false, convA_int, extA_tuple, List.getElem?_toArray, List.getElem?_cons_zero, List.getElem?_cons_succ]
            refine loadA_at hb.wp hb4.bp rfl ?_
            refine loadA_at hb.wp hb4.bp rfl ?_
            refine loadA_at hb.wp hb4.bp rfl ?_
            refine rd1 hb.wu hb4.bu hkn  (fm_get e_string_len Z gk) ?_
            refine loadA_at hb.wp hb4.bp rfl ?_
            refine rd1 hb.wu hb4.bu hin  (fm_get e_string_len Z ga) ?_
            refine wr1 hb.wu hb4.bu hin (by rw [hcl]; omega) rfl ?_
            have hf1 := fm_set e_string_len Z (by omega : i < ys.length) ys[kd]
            have hf2 := fm_set e_string_len Z (by rw [List.length_set]; omega : kd < (ys.set i ys[kd]).length) ys[i]
            have hb5 := hb4.put ((ys.set i ys[kd]).flatMap e_string ++ Z)
            have hcl5 : ((ys.set i ys[kd]).flatMap e_string ++ Z).length = n * 1 + Z.length := by rw [List.length_append, fm_length e_string_len, List.length_set, hy]
            rw [hf1]
            refine wr1 hb.wu hb5.bu hkn (by rw [hcl5]; omega) rfl ?_
            rw [hf2]
            have hb6 := hb5.put (((ys.set i ys[kd]).set kd ys[i]).flatMap e_string ++ Z)
            refine ih kd ((ys.set i ys[kd]).set kd ys[i]) _ (by omega) (by omega) (by simp [hy]) (fun a ha => hL a ((swap_perm ga gk).mem_iff.1 ha)) ((st4.put (by simp) _).put (by simp) _) hb6 fun h7 st7 hb7 => ?_
            refine hk h7 st7 ?_
            rw [hdn]
            exact hb7
      · have c2 : decide (((2 * i + 2 : Nat) : Int) < (n : Int)) = false := decide_eq_false (by omega)
        simp only [seq_heap_string_pop_B1, lenSl_slice, lenStr_string, str_size, fpureA_some, fnilA_ptr, faddA_ptr, addr_add, Nat.zero_add, Nat.add_zero, fpureQ_k, fpureQ_nilA, fpureQ_addA, fpureQ_pureA, fpureQ_guardA, fpureQ_idxSlA, fpureQ_pickA, freadQ_loadA, freadQ_loadNA, freadQ_b2sA, freadQ_guardA, freadQ_slSlA, freadQ_k, fendA, fallA_one, fstillA_nil, fguardA_tt, fguardA_ff, fguardA_tf, fguardA_ft, fguardA_undef, fpickA_true, fpickA_false, fcondA_true, fcondA_false, binA_add, binA_sub, binA_mul, binA_eql, binA_neq, binA_lss, binA_leq, binA_gtr, binA_geq, unA_not, Bool.not_true, Bool.not_false, convA_int, extA_tuple, List.getElem?_toArray, List.getElem?_cons_zero, List.getElem?_cons_succ, e1, e2, e3, c1, c2, ptr]
        have stx := st
        have hbx := hb
        have hkd : kid lt ys i = 2 * i + 1 := by unfold kid; rw [List.getElem?_eq_none (show ys.length ≤ 2 * i + 2 by omega), g1]
        obtain ⟨kd, ek⟩ : ∃ kd, kd = 2 * i + 1 := ⟨_, rfl⟩
        rw [← ek] at hkd ⊢
        have hkn : kd < n := by omega
        have gk : ys[kd]? = some ys[kd] := List.getElem?_eq_getElem (by omega)
        have hdn : down lt (m + 1) ys i = if lt ys[kd] ys[i] = true then down lt m ((ys.set i ys[kd]).set kd ys[i]) kd else ys := by
          rw [down, hkd, gk, ga]
        have ekd : kd = kd := rfl
        refine loadA_at hb.wp hbx.bp rfl ?_
        refine loadA_at hb.wp hbx.bp rfl ?_
        refine rd1 hb.wu hbx.bu hkn  (fm_get e_string_len Z gk) ?_
        refine loadA_at hb.wp hbx.bp rfl ?_
        refine rd1 hb.wu hbx.bu hin  (fm_get e_string_len Z ga) ?_
        refine callVA_of (hlt _ stx _ _ (hL _ (List.mem_of_getElem? gk)) (hL _ (List.mem_of_getElem? ga))) fun r h4 ⟨er, s4⟩ f4 => ?_
        subst er
        have st4 := stx.in_ s4
        have hb4 := hbx.step s4
        cases hc : lt ys[kd] ys[i] with
        | false =>
          rw [hc, if_neg (by simp)] at hdn
          simp only [lenSl_slice, lenStr_string, str_size, fpureA_some, fnilA_ptr, faddA_ptr, addr_add, Nat.zero_add, Nat.add_zero, fpureQ_k, fpureQ_nilA, fpureQ_addA, fpureQ_pureA, fpureQ_guardA, fpureQ_idxSlA, fpureQ_pickA, freadQ_loadA, freadQ_loadNA, freadQ_b2sA, freadQ_guardA, freadQ_slSlA, freadQ_k, fendA, fallA_one, fstillA_nil, fguardA_tt, fguardA_ff, fguardA_tf, fguardA_ft, fguardA_undef, fpickA_true, fpickA_false, fcondA_true, fcondA_false, binA_add, binA_sub, binA_mul, binA_eql, binA_neq, binA_lss, binA_leq, binA_gtr, binA_geq, unA_not, Bool.not_true, Bool.not_false, convA_int, extA_tuple, List.getElem?_toArray, List.getElem?_cons_zero, List.getElem?_cons_succ]
          refine hk h4 st4 ?_
          rw [hdn]
          exact hb4
        | true =>
          rw [hc, if_pos rfl] at hdn
          simp only [lenSl_slice, lenStr_string, str_size, fpureA_some, fnilA_ptr, faddA_ptr, addr_add, Nat.zero_add, Nat.add_zero, fpureQ_k, fpureQ_nilA, fpureQ_addA, fpureQ_pureA, fpureQ_guardA, fpureQ_idxSlA, fpureQ_pickA, freadQ_loadA, freadQ_loadNA, freadQ_b2sA, freadQ_guardA, freadQ_slSlA, freadQ_k, fendA, fallA_one, fstillA_nil, fguardA_tt, fguardA_ff, fguardA_tf, fguardA_ft, fguardA_undef, fpickA_true, fpickA_false, fcondA_true, fcondA_false, binA_add, binA_sub, binA_mul, binA_eql, binA_neq, binA_lss, binA_leq, binA_gtr, binA_geq, unA_not, Bool.not_true, Bool.not_false, convA_int, extA_tuple, List.getElem?_toArray, List.getElem?_cons_zero, List.getElem?_cons_succ]
          refine loadA_at hb.wp hb4.bp rfl ?_
          refine loadA_at hb.wp hb4.bp rfl ?_
          refine loadA_at hb.wp hb4.bp rfl ?_
          refine rd1 hb.wu hb4.bu hkn  (fm_get e_string_len Z gk) ?_
          refine loadA_at hb.wp hb4.bp rfl ?_
          refine rd1 hb.wu hb4.bu hin  (fm_get e_string_len Z ga) ?_
          refine wr1 hb.wu hb4.bu hin (by rw [hcl]; omega) rfl ?_
          have hf1 := fm_set e_string_len Z (by omega : i < ys.length) ys[kd]
          have hf2 := fm_set e_string_len Z (by rw [List.length_set]; omega : kd < (ys.set i ys[kd]).length) ys[i]
          have hb5 := hb4.put ((ys.set i ys[kd]).flatMap e_string ++ Z)
          have hcl5 : ((ys.set i ys[kd]).flatMap e_string ++ Z).length = n * 1 + Z.length := by rw [List.length_append, fm_length e_string_len, List.length_set, hy]
          rw [hf1]
          refine wr1 hb.wu hb5.bu hkn (by rw [hcl5]; omega) rfl ?_
          rw [hf2]
          have hb6 := hb5.put (((ys.set i ys[kd]).set kd ys[i]).flatMap e_string ++ Z)
          refine ih kd ((ys.set i ys[kd]).set kd ys[i]) _ (by omega) (by omega) (by simp [hy]) (fun a ha => hL a ((swap_perm ga gk).mem_iff.1 ha)) ((st4.put (by simp) _).put (by simp) _) hb6 fun h7 st7 hb7 => ?_
          refine hk h7 st7 ?_
          rw [hdn]
          exact hb7
section
variable {h : Hp} {S : List Nat} {xs : List Key}
theorem push_string {a : Key} (q : Hq w0 1 h p lf xs.length (xs.flatMap e_string) S) (hl : xs.length < 1000000000)
    (hlt : ∀ h1 S1, Step h h1 S S1 → ∀ x y, x ∈ a :: xs → y ∈ a :: xs → callVA prog w0 lf [(Value.string (str x)), (Value.string (str y))] (fun r h2 => r = .bool (lt x y) ∧ Step h1 h2 [] []) h1) :
    ACalls prog w0 n_seq_heap_string_push [ptr p, (Value.string (str a))] h fun _ h' => ∃ S', Hq w0 1 h' p lf (pushL lt xs a).length ((pushL lt xs a).flatMap e_string) S' ∧ Step h h' S S' := by
  refine ACalls.of_fit (by simp [ptr]) fun f => c_seq_heap_string_push (by simp [ptr]) ?_
  obtain ⟨x, U, bp, v, wp, lp, nU, rfl⟩ := q
  have hz : zerosL [((Value.string .empty) : Value)] 1 = [(Value.string .empty)] := rfl
  simp only [s_seq_heap_string_push, lenSl_slice, lenStr_string, str_size, fpureA_some, fnilA_ptr, faddA_ptr, addr_add, Nat.zero_add, Nat.add_zero, fpureQ_k, fpureQ_nilA, fpureQ_addA, fpureQ_pureA, fpureQ_guardA, fpureQ_idxSlA, fpureQ_pickA, freadQ_loadA, freadQ_loadNA, freadQ_b2sA, freadQ_guardA, freadQ_slSlA, freadQ_k, fendA, fallA_one, fstillA_nil, fguardA_tt, fguardA_ff, fguardA_tf, fguardA_ft, fguardA_undef, fpickA_true, fpickA_false, fcondA_true, fcondA_false, binA_add, binA_sub, binA_mul, binA_eql, binA_neq, binA_lss, binA_leq, binA_gtr, binA_geq, unA_not, Bool.not_true, Bool.not_false, convA_int, extA_tuple, List.getElem?_toArray, List.getElem?_cons_zero, List.getElem?_cons_succ, ptr]
  refine loadA_at wp bp rfl ?_
  simp only [bslA_iff, fillA_one, fillA_nil, hz, List.set_cons_zero]
  refine ⟨rfl, by simp, ?_⟩
  have s0 : Step h (h.new [(Value.string (str a))] 1) [] [h.next] := (Step.refl h [] (by simp)).new _ _
  have v0 := v.frame s0 (by simp)
  refine appA_vec (m := 1) (by have := f.base; simp; omega) v0 rfl (src_new f.base rfl) rfl (by omega) (by omega) (by omega) fun x' h2 U' v' st => ?_
  obtain ⟨u, rfl, rfl, u1, u2, u3, u4, u5⟩ : ∃ u, x' = .slice (some ⟨u, 0, none⟩) (xs.length + 1) ucap ∧ U' = [u] ∧ w0.heap.size ≤ u ∧ u < h2.next ∧ h2.blk u = some (xs.flatMap e_string ++ [(Value.string (str a))]) ∧ h2.esz u = 1 ∧ (xs.flatMap e_string ++ [(Value.string (str a))]).length = (xs.length + 1) * 1 := by
    rcases v' with ⟨-, q, -⟩ | q
    · omega
    · exact q
  have bp2 : h2.blk p = some [x, lf] := by rw [(st.keep p (by simp; omega) nU).1, new_blk, if_neg (by omega)]; exact bp
  have hpu : p ≠ u := fun e => by
    subst e
    rcases (st.own p (by simp)).2 with q | q
    · exact nU q
    · simp at q; omega
  refine storeA_at wp bp2 (by simp) rfl ?_
  simp only [List.set_cons_zero]
  have s2 : Step h h2 (p :: U) [p, u] := (s0.wide (T := p :: U) (T' := p :: U) (by simp) (fun q hq => .inr ⟨hq, by
    rcases List.mem_cons.1 hq with rfl | hq
    · exact lp
    · exact (v.lt q hq).2⟩)).trans (st.wide (fun q hq => by simp [hq]) (fun q hq => by
    rcases List.mem_cons.1 hq with rfl | hq
    · exact .inr ⟨by simp, by simp; omega⟩
    · exact .inl hq))
  have s3 := s2.put (p := p) (by simp) [.slice (some ⟨u, 0, none⟩) (xs.length + 1) ucap, lf]
  have hb : HB w0 1 (h2.put p [.slice (some ⟨u, 0, none⟩) (xs.length + 1) ucap, lf]) p u (xs.length + 1) lf ((xs ++ [a]).flatMap e_string ++ []) :=
    ⟨by simp, by rw [put_blk, if_neg (Ne.symm hpu), u3, List.append_nil, List.flatMap_append]; simp, wp, u1, hpu, by have := s2.1; simp; omega, u2, u4⟩
  generalize h2.put p [.slice (some ⟨u, 0, none⟩) (xs.length + 1) ucap, lf] = h3 at s3 hb ⊢
  have e1 : IntKind.i64.wrap (((xs.length + 1 : Nat) : Int) - 1) = (xs.length : Int) := by rw [IntWalk.i64_in _ (by omega)]; omega
  refine loadA_at wp hb.bp rfl ?_
  simp only [lenSl_slice, lenStr_string, str_size, fpureA_some, fnilA_ptr, faddA_ptr, addr_add, Nat.zero_add, Nat.add_zero, fpureQ_k, fpureQ_nilA, fpureQ_addA, fpureQ_pureA, fpureQ_guardA, fpureQ_idxSlA, fpureQ_pickA, freadQ_loadA, freadQ_loadNA, freadQ_b2sA, freadQ_guardA, freadQ_slSlA, freadQ_k, fendA, fallA_one, fstillA_nil, fguardA_tt, fguardA_ff, fguardA_tf, fguardA_ft, fguardA_undef, fpickA_true, fpickA_false, fcondA_true, fcondA_false, binA_add, binA_sub, binA_mul, binA_eql, binA_neq, binA_lss, binA_leq, binA_gtr, binA_geq, unA_not, Bool.not_true, Bool.not_false, convA_int, extA_tuple, List.getElem?_toArray, List.getElem?_cons_zero, List.getElem?_cons_succ, e1]
  refine ⟨xs.length + 1, ?_⟩
  refine push_loop_string (hh := h3) (Z := []) (lt := lt) (L := a :: xs) (fun h4 s4 x y hx hy => hlt h4 _ (s3.trans s4) x y hx hy) (by omega) _ _ (xs ++ [a]) h3 (by omega) (by omega) (by simp) (fun b hb => by simp at hb ⊢; exact hb.symm) hb.refl hb fun h5 s5 hb5 => ?_
  simp only [retA_iff]
  have hpl : (up lt (xs.length + 1) (xs ++ [a]) xs.length) = pushL lt xs a := rfl
  have hlen := pushL_length (lt := lt) xs a
  rw [hpl, List.append_nil] at hb5
  rw [hlen]
  exact ⟨by simp, [p, u], hb5.hq (by rw [fm_length e_string_len, hlen]), s3.trans s5⟩
theorem pop_string {r : Key} (q : Hq w0 1 h p lf xs.length (xs.flatMap e_string) S) (hr : xs[0]? = some r) (hl : xs.length < 1000000000)
    (hlt : ∀ h1 S1, Step h h1 S S1 → ∀ x y, x ∈ xs → y ∈ xs → callVA prog w0 lf [(Value.string (str x)), (Value.string (str y))] (fun r h2 => r = .bool (lt x y) ∧ Step h1 h2 [] []) h1) :
    ACalls prog w0 n_seq_heap_string_pop [ptr p] h fun v h' => v = (Value.string (str r)) ∧ ∃ S', Hq w0 1 h' p lf (popL lt xs).length ((popL lt xs).flatMap e_string) S' ∧ Step h h' S S' := by
  have hpos : 0 < xs.length := (List.getElem?_eq_some_iff.1 hr).1
  obtain ⟨n, hn⟩ : ∃ n, xs.length = n + 1 := ⟨xs.length - 1, by omega⟩
  have hplen : (popL lt xs).length = n := by rw [popL_length hpos]; omega
  obtain ⟨u, rfl, hb, hcl⟩ := q.hb hpos
  obtain ⟨z, hz⟩ : ∃ z, xs[n]? = some z := ⟨xs[n], List.getElem?_eq_getElem (by omega)⟩
  have main : ACalls prog w0 n_seq_heap_string_pop [ptr p] h fun v h' => v = (Value.string (str r)) ∧ Step h h' [p, u] [p, u] ∧ HB w0 1 h' p u n lf ((popL lt xs).flatMap e_string ++ [(Value.string .empty)]) := by
    refine ACalls.of_fit (by simp [ptr]) fun f => c_seq_heap_string_pop (by simp [ptr]) ?_
    have e1 : IntKind.i64.wrap ((xs.length : Int) - 1) = (n : Int) := by rw [IntWalk.i64_in _ (by omega)]; omega
    have g0 := fm_get e_string_len [] hr
    have gz := fm_get e_string_len [] hz
    rw [List.append_nil] at g0 gz
    simp only [s_seq_heap_string_pop, lenSl_slice, lenStr_string, str_size, fpureA_some, fnilA_ptr, faddA_ptr, addr_add, Nat.zero_add, Nat.add_zero, fpureQ_k, fpureQ_nilA, fpureQ_addA, fpureQ_pureA, fpureQ_guardA, fpureQ_idxSlA, fpureQ_pickA, freadQ_loadA, freadQ_loadNA, freadQ_b2sA, freadQ_guardA, freadQ_slSlA, freadQ_k, fendA, fallA_one, fstillA_nil, fguardA_tt, fguardA_ff, fguardA_tf, fguardA_ft, fguardA_undef, fpickA_true, fpickA_false, fcondA_true, fcondA_false, binA_add, binA_sub, binA_mul, binA_eql, binA_neq, binA_lss, binA_leq, binA_gtr, binA_geq, unA_not, Bool.not_true, Bool.not_false, convA_int, extA_tuple, List.getElem?_toArray, List.getElem?_cons_zero, List.getElem?_cons_succ, ptr]
    refine loadA_at hb.wp hb.bp rfl ?_
    refine rd1 (i := 0) hb.wu hb.bu hpos g0 ?_
    refine loadA_at hb.wp hb.bp rfl ?_
    simp only [lenSl_slice, lenStr_string, str_size, fpureA_some, fnilA_ptr, faddA_ptr, addr_add, Nat.zero_add, Nat.add_zero, fpureQ_k, fpureQ_nilA, fpureQ_addA, fpureQ_pureA, fpureQ_guardA, fpureQ_idxSlA, fpureQ_pickA, freadQ_loadA, freadQ_loadNA, freadQ_b2sA, freadQ_guardA, freadQ_slSlA, freadQ_k, fendA, fallA_one, fstillA_nil, fguardA_tt, fguardA_ff, fguardA_tf, fguardA_ft, fguardA_undef, fpickA_true, fpickA_false, fcondA_true, fcondA_false, binA_add, binA_sub, binA_mul, binA_eql, binA_neq, binA_lss, binA_leq, binA_gtr, binA_geq, unA_not, Bool.not_true, Bool.not_false, convA_int, extA_tuple, List.getElem?_toArray, List.getElem?_cons_zero, List.getElem?_cons_succ, e1]
    refine loadA_at hb.wp hb.bp rfl ?_
    refine loadA_at hb.wp hb.bp rfl ?_
    refine rd1 hb.wu hb.bu (by omega) gz ?_
    refine wr1 (i := 0) hb.wu hb.bu hpos (by omega) rfl ?_
    have hf1 := fm_set e_string_len [] hpos z
    rw [List.append_nil, List.append_nil] at hf1
    rw [hf1]
    have hb1 := hb.put ((xs.set 0 z).flatMap e_string)
    have hx1 : (xs.set 0 z).length = n + 1 := by rw [List.length_set, hn]
    refine loadA_at hb.wp hb1.bp rfl ?_
    have hcl1 : ((xs.set 0 z).flatMap e_string).length = (n + 1) * 1 := by rw [fm_length e_string_len, hx1]
    refine wr1 hb.wu hb1.bu (by omega) (by omega) rfl ?_
    rw [fm_last e_string_len hx1 rfl]
    have hb2 := hb1.put (((xs.set 0 z).take n).flatMap e_string ++ [(Value.string .empty)])
    have st2 : Step h _ [p, u] [p, u] := (hb.refl.put (p := u) (by simp) ((xs.set 0 z).flatMap e_string)).put (p := u) (by simp) (((xs.set 0 z).take n).flatMap e_string ++ [(Value.string .empty)])
    generalize ((h.put u ((xs.set 0 z).flatMap e_string)).put u (((xs.set 0 z).take n).flatMap e_string ++ [(Value.string .empty)])) = h2 at hb2 st2 ⊢
    refine loadA_at hb.wp hb2.bp rfl ?_
    have htl : ((xs.set 0 z).take n).length = n := by rw [List.length_take, hx1]; omega
    refine slSl_own (l := 0) (u := n) rfl boundA_nat (Nat.zero_le _) hb2.bu hb2.es (by omega) (by rw [List.length_append, fm_length e_string_len, htl]; omega) ?_
    refine storeA_at hb.wp hb2.bp (by simp) rfl ?_
    rw [Nat.zero_mul, Nat.zero_add, Nat.sub_zero]
    simp only [List.set_cons_zero]
    have hb3 := hb2.put_p n
    have st3 := st2.put (p := p) (by simp) [.slice (some ⟨u, 0, none⟩) n ucap, lf]
    generalize h2.put p [.slice (some ⟨u, 0, none⟩) n ucap, lf] = h3 at hb3 st3 ⊢
    refine ⟨n + 1 + 1, ?_⟩
    refine pop_loop_string (hh := h3) (Z := [(Value.string .empty)]) (lt := lt) (L := xs) (fun h4 s4 x y hx hy => hlt h4 _ (st3.trans s4) x y hx hy) (by omega) (n + 1) 0 _ h3 (by omega) (by omega) htl (fun b hb => ?_) hb3.refl hb3 fun h5 s5 hb5 => ?_
    · have := List.mem_of_mem_take hb
      rcases List.mem_or_eq_of_mem_set this with q | q
      · exact q
      · rw [q]; exact List.mem_of_getElem? hz
    · simp only [retA_iff, oneOf_one]
      have hpl : down lt (n + 1 + 1) ((xs.set 0 z).take n) 0 = popL lt xs := by
        unfold popL
        rw [show xs.length - 1 = n by omega, hz, hn]
      rw [hpl] at hb5
      exact ⟨by simp, trivial, st3.trans s5, hb5⟩
  refine main.forget fun v h' ⟨e, st, hb'⟩ f => .inr ⟨u, _, n * 1, hb'.wu, hb'.bu, e, [p, u], ?_, st.put (by simp) _⟩
  have hl' : ((popL lt xs).flatMap e_string).length = n * 1 := by rw [fm_length e_string_len, hplen]
  rw [← hl', List.take_left, hplen]
  exact (hb'.put _).hq hl'
end

end
set_option maxHeartbeats 0
/-- What is left of a list, and which one it is. -/
structure Hd where
  x : Value
  l : List (Key × Int)
  n : Int
abbrev e_head (a : Hd) : List Value := [a.x, .int .i64 a.n]
section
variable {w0 : World} {hh : Hp} {p u n : Nat} {lf : Value} {Z : List Value} {L : List Hd} {lt : Hd → Hd → Bool}
theorem e_head_len (a : Hd) : (e_head a).length = 2 := rfl
/-- What the order needs: it is called at any heap of the walk. -/
def Lt_head (w0 : World) (hh : Hp) (p u : Nat) (lf : Value) (lt : Hd → Hd → Bool) (L : List Hd) : Prop :=
  ∀ h1, Step hh h1 [p, u] [p, u] → ∀ a b, a ∈ L → b ∈ L → callVA prog w0 lf [(Value.agg (e_head a).toArray), (Value.agg (e_head b).toArray)] (fun r h2 => r = .bool (lt a b) ∧ Step h1 h2 [] []) h1
theorem push_loop_head {K : Hp → Prop} (hlt : Lt_head w0 hh p u lf lt L) (hn : n ≤ 1000000000) :
    ∀ (m i : Nat) (ys : List Hd) (h1 : Hp), i < m → i < n → ys.length = n → (∀ a, a ∈ ys → a ∈ L) → Step hh h1 [p, u] [p, u] → HB w0 2 h1 p u n lf (ys.flatMap e_head ++ Z) →
    (∀ h2, Step hh h2 [p, u] [p, u] → HB w0 2 h2 p u n lf ((up lt m ys i).flatMap e_head ++ Z) → K h2) → seq_heap_seq_head_string_int_push_L1 prog w0 K K m (ptr p) (.int .i64 (i : Int)) h1 := by
  intro m
  induction m with
  | zero => intro i ys h1 hi; omega
  | succ m ih =>
    intro i ys h1 hi hin hy hL st hb hk
    rw [seq_heap_seq_head_string_int_push_L1]
    have hcl : (ys.flatMap e_head ++ Z).length = n * 2 + Z.length := by rw [List.length_append, fm_length e_head_len, hy]
    by_cases h0 : i = 0
    · have c1 : decide ((0 : Int) < (i : Int)) = false := decide_eq_false (by omega)
      simp only [seq_heap_seq_head_string_int_push_B1, lenSl_slice, lenStr_string, str_size, fpureA_some, fnilA_ptr, faddA_ptr, addr_add, Nat.zero_add, Nat.add_zero, fpureQ_k, fpureQ_nilA, fpureQ_addA, fpureQ_pureA, fpureQ_guardA, fpureQ_idxSlA, fpureQ_pickA, freadQ_loadA, freadQ_loadNA, freadQ_b2sA, freadQ_guardA, freadQ_slSlA, freadQ_k, fendA, fallA_one, fstillA_nil, fguardA_tt, fguardA_ff, fguardA_tf, fguardA_ft, fguardA_undef, fpickA_true, fpickA_false, fcondA_true, fcondA_false, binA_add, binA_sub, binA_mul, binA_eql, binA_neq, binA_lss, binA_leq, binA_gtr, binA_geq, unA_not, Bool.not_true, Bool.not_false, convA_int, extA_tuple, List.getElem?_toArray, List.getElem?_cons_zero, List.getElem?_cons_succ, c1]
      refine hk h1 st ?_
      rw [up, if_pos h0]
      exact hb
    · have c1 : decide ((0 : Int) < (i : Int)) = true := decide_eq_true (by omega)
      have e1 : IntKind.i64.wrap ((i : Int) - 1) = ((i - 1 : Nat) : Int) := by rw [IntWalk.i64_in _ (by omega)]; omega
      have e2 : binA .quo (.int .i64 ((i - 1 : Nat) : Int)) (.int .i64 2) = some (.int .i64 (((i - 1) / 2 : Nat) : Int)) := by
        rw [binA_quo _ _ _ (by omega)]
        congr 2
        rw [Int.tdiv_eq_ediv_of_nonneg (by omega), IntWalk.i64_in _ (by omega)]
        omega
      obtain ⟨v, hv⟩ : ∃ v, v = (i - 1) / 2 := ⟨_, rfl⟩
      rw [← hv] at e2
      have hvn : v < n := by omega
      have ga : ys[i]? = some ys[i] := List.getElem?_eq_getElem (by omega)
      have gb : ys[v]? = some ys[v] := List.getElem?_eq_getElem (by omega)
      simp only [seq_heap_seq_head_string_int_push_B1, lenSl_slice, lenStr_string, str_size, fpureA_some, fnilA_ptr, faddA_ptr, addr_add, Nat.zero_add, Nat.add_zero, fpureQ_k, fpureQ_nilA, fpureQ_addA, fpureQ_pureA, fpureQ_guardA, fpureQ_idxSlA, fpureQ_pickA, freadQ_loadA, freadQ_loadNA, freadQ_b2sA, freadQ_guardA, freadQ_slSlA, freadQ_k, fendA, fallA_one, fstillA_nil, fguardA_tt, fguardA_ff, fguardA_tf, fguardA_ft, fguardA_undef, fpickA_true, fpickA_false, fcondA_true, fcondA_false, binA_add, binA_sub, binA_mul, binA_eql, binA_neq, binA_lss, binA_leq, binA_gtr, binA_geq, unA_not, Bool.not_true, Bool.not_false, convA_int, extA_tuple, List.getElem?_toArray, List.getElem?_cons_zero, List.getElem?_cons_succ, c1, e1, e2, ptr]
      refine loadA_at hb.wp hb.bp rfl ?_
      refine loadA_at hb.wp hb.bp rfl ?_
      refine rd2 hb.wu hb.bu hin (by rw [hcl]; omega) (fm_get e_head_len Z ga) ?_
      refine loadA_at hb.wp hb.bp rfl ?_
      refine rd2 hb.wu hb.bu hvn (by rw [hcl]; omega) (fm_get e_head_len Z gb) ?_
      refine callVA_of (hlt h1 st _ _ (hL _ (List.mem_of_getElem? ga)) (hL _ (List.mem_of_getElem? gb))) fun r h2 ⟨er, s2⟩ f2 => ?_
      subst er
      have st2 := st.in_ s2
      have hb2 := hb.step s2
      have hup : up lt (m + 1) ys i = if lt ys[i] ys[v] = true then up lt m ((ys.set i ys[v]).set v ys[i]) v else ys := by
        rw [up, if_neg h0, ← hv, ga, gb]
      cases hc : lt ys[i] ys[v] with
      | false =>
        rw [hc, if_neg (by simp)] at hup
        simp only [lenSl_slice, lenStr_string, str_size, fpureA_some, fnilA_ptr, faddA_ptr, addr_add, Nat.zero_add, Nat.add_zero, fpureQ_k, fpureQ_nilA, fpureQ_addA, fpureQ_pureA, fpureQ_guardA, fpureQ_idxSlA, fpureQ_pickA, freadQ_loadA, freadQ_loadNA, freadQ_b2sA, freadQ_guardA, freadQ_slSlA, freadQ_k, fendA, fallA_one, fstillA_nil, fguardA_tt, fguardA_ff, fguardA_tf, fguardA_ft, fguardA_undef, fpickA_true, fpickA_false, fcondA_true, fcondA_false, binA_add, binA_sub, binA_mul, binA_eql, binA_neq, binA_lss, binA_leq, binA_gtr, binA_geq, unA_not, Bool.not_true, Bool.not_false, convA_int, extA_tuple, List.getElem?_toArray, List.getElem?_cons_zero, List.getElem?_cons_succ]
        refine hk h2 st2 ?_
        rw [hup]
        exact hb2
      | true =>
        rw [hc, if_pos rfl] at hup
        simp only [lenSl_slice, lenStr_string, str_size, fpureA_some, fnilA_ptr, faddA_ptr, addr_add, Nat.zero_add, Nat.add_zero, fpureQ_k, fpureQ_nilA, fpureQ_addA, fpureQ_pureA, fpureQ_guardA, fpureQ_idxSlA, fpureQ_pickA, freadQ_loadA, freadQ_loadNA, freadQ_b2sA, freadQ_guardA, freadQ_slSlA, freadQ_k, fendA, fallA_one, fstillA_nil, fguardA_tt, fguardA_ff, fguardA_tf, fguardA_ft, fguardA_undef, fpickA_true, fpickA_false, fcondA_true, fcondA_false, binA_add, binA_sub, binA_mul, binA_eql, binA_neq, binA_lss, binA_leq, binA_gtr, binA_geq, unA_not, Bool.not_true, Bool.not_false, convA_int, extA_tuple, List.getElem?_toArray, List.getElem?_cons_zero, List.getElem?_cons_succ]
        refine loadA_at hb.wp hb2.bp rfl ?_
        refine loadA_at hb.wp hb2.bp rfl ?_
        refine loadA_at hb.wp hb2.bp rfl ?_
        refine rd2 hb.wu hb2.bu hvn (by rw [hcl]; omega) (fm_get e_head_len Z gb) ?_
        refine loadA_at hb.wp hb2.bp rfl ?_
        refine rd2 hb.wu hb2.bu hin (by rw [hcl]; omega) (fm_get e_head_len Z ga) ?_
        refine wr2 hb.wu hb2.bu hin (by rw [hcl]; omega) rfl ?_
        have hf1 := fm_set e_head_len Z (by omega : i < ys.length) ys[v]
        have hf2 := fm_set e_head_len Z (by rw [List.length_set]; omega : v < (ys.set i ys[v]).length) ys[i]
        have hb3 := hb2.put ((ys.set i ys[v]).flatMap e_head ++ Z)
        have hcl3 : ((ys.set i ys[v]).flatMap e_head ++ Z).length = n * 2 + Z.length := by rw [List.length_append, fm_length e_head_len, List.length_set, hy]
        rw [hf1]
        refine wr2 hb.wu hb3.bu hvn (by rw [hcl3]; omega) rfl ?_
        rw [hf2]
        have hb4 := hb3.put (((ys.set i ys[v]).set v ys[i]).flatMap e_head ++ Z)
        refine ih v ((ys.set i ys[v]).set v ys[i]) _ (by omega) hvn (by simp [hy]) (fun a ha => hL a ((swap_perm ga gb).mem_iff.1 ha)) ((st2.put (by simp) _).put (by simp) _) hb4 fun h5 st5 hb5 => ?_
        refine hk h5 st5 ?_
        rw [hup]
        exact hb5
theorem pop_loop_head {kr : Value → Hp → Prop} {x2 x3 : Value} (hlt : Lt_head w0 hh p u lf lt L) (hn : n ≤ 1000000000) :
    ∀ (m i : Nat) (ys : List Hd) (h1 : Hp), n ≤ i + m → i ≤ n → ys.length = n → (∀ a, a ∈ ys → a ∈ L) → Step hh h1 [p, u] [p, u] → HB w0 2 h1 p u n lf (ys.flatMap e_head ++ Z) →
    (∀ h2, Step hh h2 [p, u] [p, u] → HB w0 2 h2 p u n lf ((down lt (m + 1) ys i).flatMap e_head ++ Z) → (loadNA w0 x3 2 fun v => storeNA w0 x2 v 2 fun _ => kr x2) h2) → seq_heap_seq_head_string_int_pop_L1 prog w0 kr (m + 1) (ptr p) x2 x3 (.int .i64 (n : Int)) (.int .i64 (i : Int)) h1 := by
  intro m
  induction m with
  | zero =>
    intro i ys h1 hi hin hy hL st hb hk
    rw [seq_heap_seq_head_string_int_pop_L1]
    have e1 : IntKind.i64.wrap (2 * (i : Int)) = ((2 * i : Nat) : Int) := by rw [IntWalk.i64_in _ (by omega)]; omega
    have e2 : IntKind.i64.wrap (((2 * i : Nat) : Int) + 1) = ((2 * i + 1 : Nat) : Int) := by rw [IntWalk.i64_in _ (by omega)]; omega
    have c1 : decide ((n : Int) ≤ ((2 * i + 1 : Nat) : Int)) = true := decide_eq_true (by omega)
    simp only [seq_heap_seq_head_string_int_pop_B1, lenSl_slice, lenStr_string, str_size, fpureA_some, fnilA_ptr, faddA_ptr, addr_add, Nat.zero_add, Nat.add_zero, fpureQ_k, fpureQ_nilA, fpureQ_addA, fpureQ_pureA, fpureQ_guardA, fpureQ_idxSlA, fpureQ_pickA, freadQ_loadA, freadQ_loadNA, freadQ_b2sA, freadQ_guardA, freadQ_slSlA, freadQ_k, fendA, fallA_one, fstillA_nil, fguardA_tt, fguardA_ff, fguardA_tf, fguardA_ft, fguardA_undef, fpickA_true, fpickA_false, fcondA_true, fcondA_false, binA_add, binA_sub, binA_mul, binA_eql, binA_neq, binA_lss, binA_leq, binA_gtr, binA_geq, unA_not, Bool.not_true, Bool.not_false, convA_int, extA_tuple, List.getElem?_toArray, List.getElem?_cons_zero, List.getElem?_cons_succ, e1, e2, c1]
    refine hk h1 st ?_
    have hdn : down lt (0 + 1) ys i = ys := by
      rw [down, List.getElem?_eq_none (show ys.length ≤ kid lt ys i by rcases kid_or (lt := lt) ys i with q | q <;> omega)]
    rw [hdn]
    exact hb
  | succ m0 ih =>
    intro i ys h1 hi hin hy hL st hb hk
    obtain ⟨m, hm⟩ : ∃ m, m = m0 + 1 := ⟨_, rfl⟩
    rw [← hm] at ih hk ⊢
    rw [seq_heap_seq_head_string_int_pop_L1]
    have hcl : (ys.flatMap e_head ++ Z).length = n * 2 + Z.length := by rw [List.length_append, fm_length e_head_len, hy]
    have e1 : IntKind.i64.wrap (2 * (i : Int)) = ((2 * i : Nat) : Int) := by rw [IntWalk.i64_in _ (by omega)]; omega
    have e2 : IntKind.i64.wrap (((2 * i : Nat) : Int) + 1) = ((2 * i + 1 : Nat) : Int) := by rw [IntWalk.i64_in _ (by omega)]; omega
    have e3 : IntKind.i64.wrap (((2 * i + 1 : Nat) : Int) + 1) = ((2 * i + 2 : Nat) : Int) := by rw [IntWalk.i64_in _ (by omega)]; omega
    by_cases h0 : n ≤ 2 * i + 1
    · have c1 : decide ((n : Int) ≤ ((2 * i + 1 : Nat) : Int)) = true := decide_eq_true (by omega)
      simp only [seq_heap_seq_head_string_int_pop_B1, lenSl_slice, lenStr_string, str_size, fpureA_some, fnilA_ptr, faddA_ptr, addr_add, Nat.zero_add, Nat.add_zero, fpureQ_k, fpureQ_nilA, fpureQ_addA, fpureQ_pureA, fpureQ_guardA, fpureQ_idxSlA, fpureQ_pickA, freadQ_loadA, freadQ_loadNA, freadQ_b2sA, freadQ_guardA, freadQ_slSlA, freadQ_k, fendA, fallA_one, fstillA_nil, fguardA_tt, fguardA_ff, fguardA_tf, fguardA_ft, fguardA_undef, fpickA_true, fpickA_false, fcondA_true, fcondA_false, binA_add, binA_sub, binA_mul, binA_eql, binA_neq, binA_lss, binA_leq, binA_gtr, binA_geq, unA_not, Bool.not_true, Bool.not_false, convA_int, extA_tuple, List.getElem?_toArray, List.getElem?_cons_zero, List.getElem?_cons_succ, e1, e2, c1]
      refine hk h1 st ?_
      have hdn : down lt (m + 1) ys i = ys := by
        rw [down, List.getElem?_eq_none (show ys.length ≤ kid lt ys i by rcases kid_or (lt := lt) ys i with q | q <;> omega)]
      rw [hdn]
      exact hb
    · have c1 : decide ((n : Int) ≤ ((2 * i + 1 : Nat) : Int)) = false := decide_eq_false (by omega)
      have hin : i < n := by omega
      have ga : ys[i]? = some ys[i] := List.getElem?_eq_getElem (by omega)
      have g1 : ys[2 * i + 1]? = some ys[2 * i + 1] := List.getElem?_eq_getElem (by omega)
      by_cases h2n : 2 * i + 2 < n
      · have c2 : decide (((2 * i + 2 : Nat) : Int) < (n : Int)) = true := decide_eq_true (by omega)
        have g2 : ys[2 * i + 2]? = some ys[2 * i + 2] := List.getElem?_eq_getElem (by omega)
        simp only [seq_heap_seq_head_string_int_pop_B1, lenSl_slice, lenStr_string, str_size, fpureA_some, fnilA_ptr, faddA_ptr, addr_add, Nat.zero_add, Nat.add_zero, fpureQ_k, fpureQ_nilA, fpureQ_addA, fpureQ_pureA, fpureQ_guardA, fpureQ_idxSlA, fpureQ_pickA, freadQ_loadA, freadQ_loadNA, freadQ_b2sA, freadQ_guardA, freadQ_slSlA, freadQ_k, fendA, fallA_one, fstillA_nil, fguardA_tt, fguardA_ff, fguardA_tf, fguardA_ft, fguardA_undef, fpickA_true, fpickA_false, fcondA_true, fcondA_false, binA_add, binA_sub, binA_mul, binA_eql, binA_neq, binA_lss, binA_leq, binA_gtr, binA_geq, unA_not, Bool.not_true, Bool.not_false, convA_int, extA_tuple, List.getElem?_toArray, List.getElem?_cons_zero, List.getElem?_cons_succ, e1, e2, e3, c1, c2, ptr]
        refine loadA_at hb.wp hb.bp rfl ?_
        refine loadA_at hb.wp hb.bp rfl ?_
        refine rd2 hb.wu hb.bu h2n (by rw [hcl]; omega) (fm_get e_head_len Z g2) ?_
        refine loadA_at hb.wp hb.bp rfl ?_
        refine rd2 hb.wu hb.bu (by omega) (by rw [hcl]; omega) (fm_get e_head_len Z g1) ?_
        refine callVA_of (hlt h1 st _ _ (hL _ (List.mem_of_getElem? g2)) (hL _ (List.mem_of_getElem? g1))) fun r hx ⟨er, s2⟩ f2 => ?_
        subst er
        have stx := st.in_ s2
        have hbx := hb.step s2
        cases hq : lt ys[2 * i + 2] ys[2 * i + 1] with
        | true =>
          simp only [lenSl_slice, lenStr_string, str_size, fpureA_some, fnilA_ptr, faddA_ptr, addr_add, Nat.zero_add, Nat.add_zero, fpureQ_k, fpureQ_nilA, fpureQ_addA, fpureQ_pureA, fpureQ_guardA, fpureQ_idxSlA, fpureQ_pickA, freadQ_loadA, freadQ_loadNA, freadQ_b2sA, freadQ_guardA, freadQ_slSlA, freadQ_k, fendA, fallA_one, fstillA_nil, fguardA_tt, fguardA_ff, fguardA_tf, fguardA_ft, fguardA_undef, fpickA_true, fpickA_false, fcondA_true, fcondA_false, binA_add, binA_sub, binA_mul, binA_eql, binA_neq, binA_lss, binA_leq, binA_gtr, binA_geq, unA_not, Bool.not_true, Bool.not_false, convA_int, extA_tuple, List.getElem?_toArray, List.getElem?_cons_zero, List.getElem?_cons_succ, e3]
          have hkd : kid lt ys i = 2 * i + 2 := by unfold kid; rw [g1, g2]; simp only; rw [hq, if_pos rfl]
          obtain ⟨kd, ek⟩ : ∃ kd, kd = 2 * i + 2 := ⟨_, rfl⟩
          rw [← ek] at hkd ⊢
          have hkn : kd < n := by omega
          have gk : ys[kd]? = some ys[kd] := List.getElem?_eq_getElem (by omega)
          have hdn : down lt (m + 1) ys i = if lt ys[kd] ys[i] = true then down lt m ((ys.set i ys[kd]).set kd ys[i]) kd else ys := by
            rw [down, hkd, gk, ga]
          have ekd : kd = kd := rfl
          refine loadA_at hb.wp hbx.bp rfl ?_
          refine loadA_at hb.wp hbx.bp rfl ?_
          refine rd2 hb.wu hbx.bu hkn (by rw [hcl]; omega) (fm_get e_head_len Z gk) ?_
          refine loadA_at hb.wp hbx.bp rfl ?_
          refine rd2 hb.wu hbx.bu hin (by rw [hcl]; omega) (fm_get e_head_len Z ga) ?_
          refine callVA_of (hlt _ stx _ _ (hL _ (List.mem_of_getElem? gk)) (hL _ (List.mem_of_getElem? ga))) fun r h4 ⟨er, s4⟩ f4 => ?_
          subst er
          have st4 := stx.in_ s4
          have hb4 := hbx.step s4
          cases hc : lt ys[kd] ys[i] with
          | false =>
            rw [hc, if_neg (by simp)] at hdn
            simp only [lenSl_slice, lenStr_string, str_size, fpureA_some, fnilA_ptr, faddA_ptr, addr_add, Nat.zero_add, Nat.add_zero, fpureQ_k, fpureQ_nilA, fpureQ_addA, fpureQ_pureA, fpureQ_guardA, fpureQ_idxSlA, fpureQ_pickA, freadQ_loadA, freadQ_loadNA, freadQ_b2sA, freadQ_guardA, freadQ_slSlA, freadQ_k, fendA, fallA_one, fstillA_nil, fguardA_tt, fguardA_ff, fguardA_tf, fguardA_ft, fguardA_undef, fpickA_true, fpickA_false, fcondA_true, fcondA_false, binA_add, binA_sub, binA_mul, binA_eql, binA_neq, binA_lss, binA_leq, binA_gtr, binA_geq, unA_not, Bool.not_true, Bool.not_false, convA_int, extA_tuple, List.getElem?_toArray, List.getElem?_cons_zero, List.getElem?_cons_succ]
            refine hk h4 st4 ?_
            rw [hdn]
            exact hb4
          | true =>
            rw [hc, if_pos rfl] at hdn
            simp only [lenSl_slice, lenStr_string, str_size, fpureA_some, fnilA_ptr, faddA_ptr, addr_add, Nat.zero_add, Nat.add_zero, fpureQ_k, fpureQ_nilA, fpureQ_addA, fpureQ_pureA, fpureQ_guardA, fpureQ_idxSlA, fpureQ_pickA, freadQ_loadA, freadQ_loadNA, freadQ_b2sA, freadQ_guardA, freadQ_slSlA, freadQ_k, fendA, fallA_one, fstillA_nil, fguardA_tt, fguardA_ff, fguardA_tf, fguardA_ft, fguardA_undef, fpickA_true, fpickA_false, fcondA_true, fcondA_false, binA_add, binA_sub, binA_mul, binA_eql, binA_neq, binA_lss, binA_leq, binA_gtr, binA_geq, unA_not, Bool.not_true, Bool.not_false, convA_int, extA_tuple, List.getElem?_toArray, List.getElem?_cons_zero, List.getElem?_cons_succ]
            refine loadA_at hb.wp hb4.bp rfl ?_
            refine loadA_at hb.wp hb4.bp rfl ?_
            refine loadA_at hb.wp hb4.bp rfl ?_
            refine rd2 hb.wu hb4.bu hkn (by rw [hcl]; omega) (fm_get e_head_len Z gk) ?_
            refine loadA_at hb.wp hb4.bp rfl ?_
            refine rd2 hb.wu hb4.bu hin (by rw [hcl]; omega) (fm_get e_head_len Z ga) ?_
            refine wr2 hb.wu hb4.bu hin (by rw [hcl]; omega) rfl ?_
            have hf1 := fm_set e_head_len Z (by omega : i < ys.length) ys[kd]
            have hf2 := fm_set e_head_len Z (by rw [List.length_set]; omega : kd < (ys.set i ys[kd]).length) ys[i]
            have hb5 := hb4.put ((ys.set i ys[kd]).flatMap e_head ++ Z)
            have hcl5 : ((ys.set i ys[kd]).flatMap e_head ++ Z).length = n * 2 + Z.length := by rw [List.length_append, fm_length e_head_len, List.length_set, hy]
            rw [hf1]
            refine wr2 hb.wu hb5.bu hkn (by rw [hcl5]; omega) rfl ?_
            rw [hf2]
            have hb6 := hb5.put (((ys.set i ys[kd]).set kd ys[i]).flatMap e_head ++ Z)
            refine ih kd ((ys.set i ys[kd]).set kd ys[i]) _ (by omega) (by omega) (by simp [hy]) (fun a ha => hL a ((swap_perm ga gk).mem_iff.1 ha)) ((st4.put (by simp) _).put (by simp) _) hb6 fun h7 st7 hb7 => ?_
            refine hk h7 st7 ?_
            rw [hdn]
            exact hb7
        | false =>
          simp only [lenSl_slice, lenStr_string, str_size, fpureA_some, fnilA_ptr, faddA_ptr, addr_add, Nat.zero_add, Nat.add_zero, fpureQ_k, fpureQ_nilA, fpureQ_addA, fpureQ_pureA, fpureQ_guardA, fpureQ_idxSlA, fpureQ_pickA, freadQ_loadA, freadQ_loadNA, freadQ_b2sA, freadQ_guardA, freadQ_slSlA, freadQ_k, fendA, fallA_one, fstillA_nil, fguardA_tt, fguardA_ff, fguardA_tf, fguardA_ft, fguardA_undef, fpickA_true, fpickA_false, fcondA_true, fcondA_false, binA_add, binA_sub, binA_mul, binA_eql, binA_neq, binA_lss, binA_leq, binA_gtr, binA_geq, unA_not, Bool.not_true, Bool.not_false, convA_int, extA_tuple, List.getElem?_toArray, List.getElem?_cons_zero, List.getElem?_cons_succ]
          have hkd : kid lt ys i = 2 * i + 1 := by unfold kid; rw [g1, g2]; simp only; rw [hq, if_neg (by simp)]
          obtain ⟨kd, ek⟩ : ∃ kd, kd = 2 * i + 1 := ⟨_, rfl⟩
          rw [← ek] at hkd ⊢
          have hkn : kd < n := by omega
          have gk : ys[kd]? = some ys[kd] := List.getElem?_eq_getElem (by omega)
          have hdn : down lt (m + 1) ys i = if lt ys[kd] ys[i] = true then down lt m ((ys.set i ys[kd]).set kd ys[i]) kd else ys := by
            rw [down, hkd, gk, ga]
          have ekd : kd = kd := rfl
          refine loadA_at hb.wp hbx.bp rfl ?_
          refine loadA_at hb.wp hbx.bp rfl ?_
          refine rd2 hb.wu hbx.bu hkn (by rw [hcl]; omega) (fm_get e_head_len Z gk) ?_
          refine loadA_at hb.wp hbx.bp rfl ?_
          refine rd2 hb.wu hbx.bu hin (by rw [hcl]; omega) (fm_get e_head_len Z ga) ?_
          refine callVA_of (hlt _ stx _ _ (hL _ (List.mem_of_getElem? gk)) (hL _ (List.mem_of_getElem? ga))) fun r h4 ⟨er, s4⟩ f4 => ?_
          subst er
          have st4 := stx.in_ s4
          have hb4 := hbx.step s4
          cases hc : lt ys[kd] ys[i] with
          | false =>
            rw [hc, if_neg (by simp)] at hdn
            simp only [lenSl_slice, lenStr_string, str_size, fpureA_some, fnilA_ptr, faddA_ptr, addr_add, Nat.zero_add, Nat.add_zero, fpureQ_k, fpureQ_nilA, fpureQ_addA, fpureQ_pureA, fpureQ_guardA, fpureQ_idxSlA, fpureQ_pickA, freadQ_loadA, freadQ_loadNA, freadQ_b2sA, freadQ_guardA, freadQ_slSlA, freadQ_k, fendA, fallA_one, fstillA_nil, fguardA_tt, fguardA_ff, fguardA_tf, fguardA_ft, fguardA_undef, fpickA_true, fpickA_false, fcondA_true, fcondA_false, binA_add, binA_sub, binA_mul, binA_eql, binA_neq, binA_lss, binA_leq, binA_gtr, binA_geq, unA_not, Bool.not_true, Bool.not_false, convA_int, extA_tuple, List.getElem?_toArray, List.getElem?_cons_zero, List.getElem?_cons_succ]
            refine hk h4 st4 ?_
            rw [hdn]
            exact hb4
          | true =>
            rw [hc, if_pos rfl] at hdn
            simp only [lenSl_slice, lenStr_string, str_size, fpureA_some, fnilA_ptr, faddA_ptr, addr_add, Nat.zero_add, Nat.add_zero, fpureQ_k, fpureQ_nilA, fpureQ_addA, fpureQ_pureA, fpureQ_guardA, fpureQ_idxSlA, fpureQ_pickA, freadQ_loadA, freadQ_loadNA, freadQ_b2sA, freadQ_guardA, freadQ_slSlA, freadQ_k, fendA, fallA_one, fstillA_nil, fguardA_tt, fguardA_ff, fguardA_tf, fguardA_ft, fguardA_undef, fpickA_true, fpickA_false, fcondA_true, fcondA_false, binA_add, binA_sub, binA_mul, binA_eql, binA_neq, binA_lss, binA_leq, binA_gtr, binA_geq, unA_not, Bool.not_true, Bool.not_false, convA_int, extA_tuple, List.getElem?_toArray, List.getElem?_cons_zero, List.getElem?_cons_succ]
            refine loadA_at hb.wp hb4.bp rfl ?_
            refine loadA_at hb.wp hb4.bp rfl ?_
            refine loadA_at hb.wp hb4.bp rfl ?_
            refine rd2 hb.wu hb4.bu hkn (by rw [hcl]; omega) (fm_get e_head_len Z gk) ?_
            refine loadA_at hb.wp hb4.bp rfl ?_
            refine rd2 hb.wu hb4.bu hin (by rw [hcl]; omega) (fm_get e_head_len Z ga) ?_
            refine wr2 hb.wu hb4.bu hin (by rw [hcl]; omega) rfl ?_
            have hf1 := fm_set e_head_len Z (by omega : i < ys.length) ys[kd]
            have hf2 := fm_set e_head_len Z (by rw [List.length_set]; omega : kd < (ys.set i ys[kd]).length) ys[i]
            have hb5 := hb4.put ((ys.set i ys[kd]).flatMap e_head ++ Z)
            have hcl5 : ((ys.set i ys[kd]).flatMap e_head ++ Z).length = n * 2 + Z.length := by rw [List.length_append, fm_length e_head_len, List.length_set, hy]
            rw [hf1]
            refine wr2 hb.wu hb5.bu hkn (by rw [hcl5]; omega) rfl ?_
            rw [hf2]
            have hb6 := hb5.put (((ys.set i ys[kd]).set kd ys[i]).flatMap e_head ++ Z)
            refine ih kd ((ys.set i ys[kd]).set kd ys[i]) _ (by omega) (by omega) (by simp [hy]) (fun a ha => hL a ((swap_perm ga gk).mem_iff.1 ha)) ((st4.put (by simp) _).put (by simp) _) hb6 fun h7 st7 hb7 => ?_
            refine hk h7 st7 ?_
            rw [hdn]
            exact hb7
      · have c2 : decide (((2 * i + 2 : Nat) : Int) < (n : Int)) = false := decide_eq_false (by omega)
        simp only [seq_heap_seq_head_string_int_pop_B1, lenSl_slice, lenStr_string, str_size, fpureA_some, fnilA_ptr, faddA_ptr, addr_add, Nat.zero_add, Nat.add_zero, fpureQ_k, fpureQ_nilA, fpureQ_addA, fpureQ_pureA, fpureQ_guardA, fpureQ_idxSlA, fpureQ_pickA, freadQ_loadA, freadQ_loadNA, freadQ_b2sA, freadQ_guardA, freadQ_slSlA, freadQ_k, fendA, fallA_one, fstillA_nil, fguardA_tt, fguardA_ff, fguardA_tf, fguardA_ft, fguardA_undef, fpickA_true, fpickA_false, fcondA_true, fcondA_false, binA_add, binA_sub, binA_mul, binA_eql, binA_neq, binA_lss, binA_leq, binA_gtr, binA_geq, unA_not, Bool.not_true, Bool.not_false, convA_int, extA_tuple, List.getElem?_toArray, List.getElem?_cons_zero, List.getElem?_cons_succ, e1, e2, e3, c1, c2, ptr]
        have stx := st
        have hbx := hb
        have hkd : kid lt ys i = 2 * i + 1 := by unfold kid; rw [List.getElem?_eq_none (show ys.length ≤ 2 * i + 2 by omega), g1]
        obtain ⟨kd, ek⟩ : ∃ kd, kd = 2 * i + 1 := ⟨_, rfl⟩
        rw [← ek] at hkd ⊢
        have hkn : kd < n := by omega
        have gk : ys[kd]? = some ys[kd] := List.getElem?_eq_getElem (by omega)
        have hdn : down lt (m + 1) ys i = if lt ys[kd] ys[i] = true then down lt m ((ys.set i ys[kd]).set kd ys[i]) kd else ys := by
          rw [down, hkd, gk, ga]
        have ekd : kd = kd := rfl
        refine loadA_at hb.wp hbx.bp rfl ?_
        refine loadA_at hb.wp hbx.bp rfl ?_
        refine rd2 hb.wu hbx.bu hkn (by rw [hcl]; omega) (fm_get e_head_len Z gk) ?_
        refine loadA_at hb.wp hbx.bp rfl ?_
        refine rd2 hb.wu hbx.bu hin (by rw [hcl]; omega) (fm_get e_head_len Z ga) ?_
        refine callVA_of (hlt _ stx _ _ (hL _ (List.mem_of_getElem? gk)) (hL _ (List.mem_of_getElem? ga))) fun r h4 ⟨er, s4⟩ f4 => ?_
        subst er
        have st4 := stx.in_ s4
        have hb4 := hbx.step s4
        cases hc : lt ys[kd] ys[i] with
        | false =>
          rw [hc, if_neg (by simp)] at hdn
          simp only [lenSl_slice, lenStr_string, str_size, fpureA_some, fnilA_ptr, faddA_ptr, addr_add, Nat.zero_add, Nat.add_zero, fpureQ_k, fpureQ_nilA, fpureQ_addA, fpureQ_pureA, fpureQ_guardA, fpureQ_idxSlA, fpureQ_pickA, freadQ_loadA, freadQ_loadNA, freadQ_b2sA, freadQ_guardA, freadQ_slSlA, freadQ_k, fendA, fallA_one, fstillA_nil, fguardA_tt, fguardA_ff, fguardA_tf, fguardA_ft, fguardA_undef, fpickA_true, fpickA_false, fcondA_true, fcondA_false, binA_add, binA_sub, binA_mul, binA_eql, binA_neq, binA_lss, binA_leq, binA_gtr, binA_geq, unA_not, Bool.not_true, Bool.not_false, convA_int, extA_tuple, List.getElem?_toArray, List.getElem?_cons_zero, List.getElem?_cons_succ]
          refine hk h4 st4 ?_
          rw [hdn]
          exact hb4
        | true =>
          rw [hc, if_pos rfl] at hdn
          simp only [lenSl_slice, lenStr_string, str_size, fpureA_some, fnilA_ptr, faddA_ptr, addr_add, Nat.zero_add, Nat.add_zero, fpureQ_k, fpureQ_nilA, fpureQ_addA, fpureQ_pureA, fpureQ_guardA, fpureQ_idxSlA, fpureQ_pickA, freadQ_loadA, freadQ_loadNA, freadQ_b2sA, freadQ_guardA, freadQ_slSlA, freadQ_k, fendA, fallA_one, fstillA_nil, fguardA_tt, fguardA_ff, fguardA_tf, fguardA_ft, fguardA_undef, fpickA_true, fpickA_false, fcondA_true, fcondA_false, binA_add, binA_sub, binA_mul, binA_eql, binA_neq, binA_lss, binA_leq, binA_gtr, binA_geq, unA_not, Bool.not_true, Bool.not_false, convA_int, extA_tuple, List.getElem?_toArray, List.getElem?_cons_zero, List.getElem?_cons_succ]
          refine loadA_at hb.wp hb4.bp rfl ?_
          refine loadA_at hb.wp hb4.bp rfl ?_
          refine loadA_at hb.wp hb4.bp rfl ?_
          refine rd2 hb.wu hb4.bu hkn (by rw [hcl]; omega) (fm_get e_head_len Z gk) ?_
          refine loadA_at hb.wp hb4.bp rfl ?_
          refine rd2 hb.wu hb4.bu hin (by rw [hcl]; omega) (fm_get e_head_len Z ga) ?_
          refine wr2 hb.wu hb4.bu hin (by rw [hcl]; omega) rfl ?_
          have hf1 := fm_set e_head_len Z (by omega : i < ys.length) ys[kd]
          have hf2 := fm_set e_head_len Z (by rw [List.length_set]; omega : kd < (ys.set i ys[kd]).length) ys[i]
          have hb5 := hb4.put ((ys.set i ys[kd]).flatMap e_head ++ Z)
          have hcl5 : ((ys.set i ys[kd]).flatMap e_head ++ Z).length = n * 2 + Z.length := by rw [List.length_append, fm_length e_head_len, List.length_set, hy]
          rw [hf1]
          refine wr2 hb.wu hb5.bu hkn (by rw [hcl5]; omega) rfl ?_
          rw [hf2]
          have hb6 := hb5.put (((ys.set i ys[kd]).set kd ys[i]).flatMap e_head ++ Z)
          refine ih kd ((ys.set i ys[kd]).set kd ys[i]) _ (by omega) (by omega) (by simp [hy]) (fun a ha => hL a ((swap_perm ga gk).mem_iff.1 ha)) ((st4.put (by simp) _).put (by simp) _) hb6 fun h7 st7 hb7 => ?_
          refine hk h7 st7 ?_
          rw [hdn]
          exact hb7
section
variable {h : Hp} {S : List Nat} {xs : List Hd}
theorem push_head {a : Hd} (q : Hq w0 2 h p lf xs.length (xs.flatMap e_head) S) (hl : xs.length < 1000000000)
    (hlt : ∀ h1 S1, Step h h1 S S1 → ∀ x y, x ∈ a :: xs → y ∈ a :: xs → callVA prog w0 lf [(Value.agg (e_head x).toArray), (Value.agg (e_head y).toArray)] (fun r h2 => r = .bool (lt x y) ∧ Step h1 h2 [] []) h1) :
    ACalls prog w0 n_seq_heap_seq_head_string_int_push [ptr p, (Value.agg (e_head a).toArray)] h fun _ h' => ∃ S', Hq w0 2 h' p lf (pushL lt xs a).length ((pushL lt xs a).flatMap e_head) S' ∧ Step h h' S S' := by
  refine ACalls.of_fit (by simp [ptr]) fun f => c_seq_heap_seq_head_string_int_push (by simp [ptr]) ?_
  obtain ⟨x, U, bp, v, wp, lp, nU, rfl⟩ := q
  have hz : zerosL [Value.slice none 0 0, Value.int .i64 0] 1 = [Value.slice none 0 0, Value.int .i64 0] := rfl
  simp only [s_seq_heap_seq_head_string_int_push, lenSl_slice, lenStr_string, str_size, fpureA_some, fnilA_ptr, faddA_ptr, addr_add, Nat.zero_add, Nat.add_zero, fpureQ_k, fpureQ_nilA, fpureQ_addA, fpureQ_pureA, fpureQ_guardA, fpureQ_idxSlA, fpureQ_pickA, freadQ_loadA, freadQ_loadNA, freadQ_b2sA, freadQ_guardA, freadQ_slSlA, freadQ_k, fendA, fallA_one, fstillA_nil, fguardA_tt, fguardA_ff, fguardA_tf, fguardA_ft, fguardA_undef, fpickA_true, fpickA_false, fcondA_true, fcondA_false, binA_add, binA_sub, binA_mul, binA_eql, binA_neq, binA_lss, binA_leq, binA_gtr, binA_geq, unA_not, Bool.not_true, Bool.not_false, convA_int, extA_tuple, List.getElem?_toArray, List.getElem?_cons_zero, List.getElem?_cons_succ, ptr, boxA_agg]
  have s0 : Step h (h.new (e_head a) 2) [] [h.next] := (Step.refl h [] (by simp)).new _ _
  have v0 := v.frame s0 (by simp)
  have bp0 : (h.new (e_head a) 2).blk p = some [x, lf] := by rw [new_blk, if_neg (by omega)]; exact bp
  have bq0 : (h.new (e_head a) 2).blk h.next = some (e_head a) := by simp
  have f0 : w0.heap.size ≤ (h.new (e_head a) 2).next := by have := f.base; simp; omega
  have n0 : (h.new (e_head a) 2).next = h.next + 1 := rfl
  generalize h.new (e_head a) 2 = h0 at s0 v0 bp0 bq0 f0 n0 ⊢
  refine loadA_at wp bp0 rfl ?_
  refine loadNA_whole f.base bq0 rfl ?_
  simp only [bslA_iff, fillA_agg, fillA_nil, hz, stillA_iff, allA_one, sameQ_loadA]
  have hsp : splice [Value.slice none 0 0, Value.int .i64 0] 0 (e_head a) = e_head a := rfl
  refine ⟨rfl, by simp, ?_, ?_⟩
  · refine loadA_at (cs := [x, lf]) wp ?_ rfl rfl
    rw [new_blk, if_neg (by omega)]
    exact bp0
  rw [hsp]
  have s1 : Step h0 (h0.new (e_head a) 2) [] [h0.next] := (Step.refl h0 [] (by simp)).new _ _
  have v1 := v0.frame s1 (by simp)
  have s01 : Step h (h0.new (e_head a) 2) [] [] := (s0.less (by simp)).trans (s1.less (by simp))
  refine appA_vec (m := 1) (by simp; omega) v1 rfl (src_new f0 rfl) rfl (by omega) (by omega) (by omega) fun x' h2 U' v' st => ?_
  obtain ⟨u, rfl, rfl, u1, u2, u3, u4, u5⟩ : ∃ u, x' = .slice (some ⟨u, 0, none⟩) (xs.length + 1) ucap ∧ U' = [u] ∧ w0.heap.size ≤ u ∧ u < h2.next ∧ h2.blk u = some (xs.flatMap e_head ++ e_head a) ∧ h2.esz u = 2 ∧ (xs.flatMap e_head ++ e_head a).length = (xs.length + 1) * 2 := by
    rcases v' with ⟨-, q, -⟩ | q
    · omega
    · exact q
  have bp2 : h2.blk p = some [x, lf] := by rw [(st.keep p (by simp; omega) nU).1, new_blk, if_neg (by omega)]; exact bp0
  have hpu : p ≠ u := fun e => by
    subst e
    rcases (st.own p (by simp)).2 with q | q
    · exact nU q
    · simp at q; omega
  refine storeA_at wp bp2 (by simp) rfl ?_
  simp only [List.set_cons_zero]
  have s2 : Step h h2 (p :: U) [p, u] := (s01.wide (T := p :: U) (T' := p :: U) (by simp) (fun q hq => .inr ⟨hq, by
    rcases List.mem_cons.1 hq with rfl | hq
    · exact lp
    · exact (v.lt q hq).2⟩)).trans (st.wide (fun q hq => by simp [hq]) (fun q hq => by
    rcases List.mem_cons.1 hq with rfl | hq
    · exact .inr ⟨by simp, by simp; omega⟩
    · exact .inl hq))
  have s3 := s2.put (p := p) (by simp) [.slice (some ⟨u, 0, none⟩) (xs.length + 1) ucap, lf]
  have hb : HB w0 2 (h2.put p [.slice (some ⟨u, 0, none⟩) (xs.length + 1) ucap, lf]) p u (xs.length + 1) lf ((xs ++ [a]).flatMap e_head ++ []) :=
    ⟨by simp, by rw [put_blk, if_neg (Ne.symm hpu), u3, List.append_nil, List.flatMap_append]; simp, wp, u1, hpu, by have := s2.1; simp; omega, u2, u4⟩
  generalize h2.put p [.slice (some ⟨u, 0, none⟩) (xs.length + 1) ucap, lf] = h3 at s3 hb ⊢
  have e1 : IntKind.i64.wrap (((xs.length + 1 : Nat) : Int) - 1) = (xs.length : Int) := by rw [IntWalk.i64_in _ (by omega)]; omega
  refine loadA_at wp hb.bp rfl ?_
  simp only [lenSl_slice, lenStr_string, str_size, fpureA_some, fnilA_ptr, faddA_ptr, addr_add, Nat.zero_add, Nat.add_zero, fpureQ_k, fpureQ_nilA, fpureQ_addA, fpureQ_pureA, fpureQ_guardA, fpureQ_idxSlA, fpureQ_pickA, freadQ_loadA, freadQ_loadNA, freadQ_b2sA, freadQ_guardA, freadQ_slSlA, freadQ_k, fendA, fallA_one, fstillA_nil, fguardA_tt, fguardA_ff, fguardA_tf, fguardA_ft, fguardA_undef, fpickA_true, fpickA_false, fcondA_true, fcondA_false, binA_add, binA_sub, binA_mul, binA_eql, binA_neq, binA_lss, binA_leq, binA_gtr, binA_geq, unA_not, Bool.not_true, Bool.not_false, convA_int, extA_tuple, List.getElem?_toArray, List.getElem?_cons_zero, List.getElem?_cons_succ, e1]
  refine ⟨xs.length + 1, ?_⟩
  refine push_loop_head (hh := h3) (Z := []) (lt := lt) (L := a :: xs) (fun h4 s4 x y hx hy => hlt h4 _ (s3.trans s4) x y hx hy) (by omega) _ _ (xs ++ [a]) h3 (by omega) (by omega) (by simp) (fun b hb => by simp at hb ⊢; exact hb.symm) hb.refl hb fun h5 s5 hb5 => ?_
  simp only [retA_iff]
  have hpl : (up lt (xs.length + 1) (xs ++ [a]) xs.length) = pushL lt xs a := rfl
  have hlen := pushL_length (lt := lt) xs a
  rw [hpl, List.append_nil] at hb5
  rw [hlen]
  exact ⟨by simp, [p, u], hb5.hq (by rw [fm_length e_head_len, hlen]), s3.trans s5⟩
theorem pop_head {r : Hd} (q : Hq w0 2 h p lf xs.length (xs.flatMap e_head) S) (hr : xs[0]? = some r) (hl : xs.length < 1000000000)
    (hlt : ∀ h1 S1, Step h h1 S S1 → ∀ x y, x ∈ xs → y ∈ xs → callVA prog w0 lf [(Value.agg (e_head x).toArray), (Value.agg (e_head y).toArray)] (fun r h2 => r = .bool (lt x y) ∧ Step h1 h2 [] []) h1) :
    ACalls prog w0 n_seq_heap_seq_head_string_int_pop [ptr p] h fun v h' => v = (Value.agg (e_head r).toArray) ∧ ∃ S', Hq w0 2 h' p lf (popL lt xs).length ((popL lt xs).flatMap e_head) S' ∧ Step h h' S S' := by
  have hpos : 0 < xs.length := (List.getElem?_eq_some_iff.1 hr).1
  obtain ⟨n, hn⟩ : ∃ n, xs.length = n + 1 := ⟨xs.length - 1, by omega⟩
  have hplen : (popL lt xs).length = n := by rw [popL_length hpos]; omega
  obtain ⟨u, rfl, hb, hcl⟩ := q.hb hpos
  obtain ⟨z, hz⟩ : ∃ z, xs[n]? = some z := ⟨xs[n], List.getElem?_eq_getElem (by omega)⟩
  have main : ACalls prog w0 n_seq_heap_seq_head_string_int_pop [ptr p] h fun v h' => v = (Value.agg (e_head r).toArray) ∧ Step h h' [p, u] [p, u] ∧ HB w0 2 h' p u n lf ((popL lt xs).flatMap e_head ++ [Value.slice none 0 0, Value.int .i64 0]) := by
    refine ACalls.of_fit (by simp [ptr]) fun f => c_seq_heap_seq_head_string_int_pop (by simp [ptr]) ?_
    have e1 : IntKind.i64.wrap ((xs.length : Int) - 1) = (n : Int) := by rw [IntWalk.i64_in _ (by omega)]; omega
    have g0 := fm_get e_head_len [] hr
    have gz := fm_get e_head_len [] hz
    rw [List.append_nil] at g0 gz
    have hp_lt := hb.lp
    have hu_lt := hb.lu
    simp only [s_seq_heap_seq_head_string_int_pop, lenSl_slice, lenStr_string, str_size, fpureA_some, fnilA_ptr, faddA_ptr, addr_add, Nat.zero_add, Nat.add_zero, fpureQ_k, fpureQ_nilA, fpureQ_addA, fpureQ_pureA, fpureQ_guardA, fpureQ_idxSlA, fpureQ_pickA, freadQ_loadA, freadQ_loadNA, freadQ_b2sA, freadQ_guardA, freadQ_slSlA, freadQ_k, fendA, fallA_one, fstillA_nil, fguardA_tt, fguardA_ff, fguardA_tf, fguardA_ft, fguardA_undef, fpickA_true, fpickA_false, fcondA_true, fcondA_false, binA_add, binA_sub, binA_mul, binA_eql, binA_neq, binA_lss, binA_leq, binA_gtr, binA_geq, unA_not, Bool.not_true, Bool.not_false, convA_int, extA_tuple, List.getElem?_toArray, List.getElem?_cons_zero, List.getElem?_cons_succ, ptr, newA_iff]
    refine ⟨by simp [isCell], ?_⟩
    have sA := hb.refl.new [Value.slice none 0 0, Value.int .i64 0] 2
    have hbA : HB w0 2 (h.new [Value.slice none 0 0, Value.int .i64 0] 2) p u xs.length lf (xs.flatMap e_head) := hb.step ((Step.refl h [] (by simp)).new _ _ |>.less (by simp))
    have bqA : (h.new [Value.slice none 0 0, Value.int .i64 0] 2).blk h.next = some [Value.slice none 0 0, Value.int .i64 0] := by simp
    have nA : (h.new [Value.slice none 0 0, Value.int .i64 0] 2).next = h.next + 1 := rfl
    generalize h.new [Value.slice none 0 0, Value.int .i64 0] 2 = hA at sA hbA bqA nA ⊢
    refine loadA_at hb.wp hbA.bp rfl ?_
    refine rd2 (i := 0) hb.wu hbA.bu hpos (by omega) g0 ?_
    simp only [newA_iff]
    refine ⟨by simp [isCell], ?_⟩
    have fA : w0.heap.size ≤ hA.next := by have := f.base; omega
    refine storeNA_whole (cs := [Value.slice none 0 0, Value.int .i64 0]) (e := e_head r) fA (by simp) rfl rfl ?_
    have sB : Step h ((hA.new [Value.slice none 0 0, Value.int .i64 0] 2).put hA.next (e_head r)) [p, u] [h.next, p, u] := ((sA.new [Value.slice none 0 0, Value.int .i64 0] 2).put (by simp) _).less (by simp)
    have hbB : HB w0 2 ((hA.new [Value.slice none 0 0, Value.int .i64 0] 2).put hA.next (e_head r)) p u xs.length lf (xs.flatMap e_head) := (hbA.step ((Step.refl hA [] (by simp)).new [Value.slice none 0 0, Value.int .i64 0] 2 |>.less (by simp))).put_o (by omega) (by omega) _
    have bqB : ((hA.new [Value.slice none 0 0, Value.int .i64 0] 2).put hA.next (e_head r)).blk h.next = some [Value.slice none 0 0, Value.int .i64 0] := by rw [put_blk, if_neg (by omega), new_blk, if_neg (by omega)]; exact bqA
    have brB : ((hA.new [Value.slice none 0 0, Value.int .i64 0] 2).put hA.next (e_head r)).blk hA.next = some (e_head r) := by simp
    have nB : ((hA.new [Value.slice none 0 0, Value.int .i64 0] 2).put hA.next (e_head r)).next = h.next + 2 := by show hA.next + 1 = _; omega
    rw [nA] at brB ⊢
    rw [nA] at sB hbB bqB nB
    generalize (hA.new [Value.slice none 0 0, Value.int .i64 0] 2).put (h.next + 1) (e_head r) = hB at sB hbB bqB brB nB ⊢
    refine loadA_at hb.wp hbB.bp rfl ?_
    simp only [lenSl_slice, lenStr_string, str_size, fpureA_some, fnilA_ptr, faddA_ptr, addr_add, Nat.zero_add, Nat.add_zero, fpureQ_k, fpureQ_nilA, fpureQ_addA, fpureQ_pureA, fpureQ_guardA, fpureQ_idxSlA, fpureQ_pickA, freadQ_loadA, freadQ_loadNA, freadQ_b2sA, freadQ_guardA, freadQ_slSlA, freadQ_k, fendA, fallA_one, fstillA_nil, fguardA_tt, fguardA_ff, fguardA_tf, fguardA_ft, fguardA_undef, fpickA_true, fpickA_false, fcondA_true, fcondA_false, binA_add, binA_sub, binA_mul, binA_eql, binA_neq, binA_lss, binA_leq, binA_gtr, binA_geq, unA_not, Bool.not_true, Bool.not_false, convA_int, extA_tuple, List.getElem?_toArray, List.getElem?_cons_zero, List.getElem?_cons_succ, e1]
    refine loadA_at hb.wp hbB.bp rfl ?_
    refine loadA_at hb.wp hbB.bp rfl ?_
    refine rd2 hb.wu hbB.bu (by omega) (by omega) gz ?_
    refine wr2 (i := 0) hb.wu hbB.bu hpos (by omega) rfl ?_
    have hf1 := fm_set e_head_len [] hpos z
    rw [List.append_nil, List.append_nil] at hf1
    rw [hf1]
    have hb1 := hbB.put ((xs.set 0 z).flatMap e_head)
    have sC := sB.put (p := u) (by simp) ((xs.set 0 z).flatMap e_head)
    have hx1 : (xs.set 0 z).length = n + 1 := by rw [List.length_set, hn]
    have bqC : (hB.put u ((xs.set 0 z).flatMap e_head)).blk h.next = some [Value.slice none 0 0, Value.int .i64 0] := by rw [put_blk, if_neg (by omega)]; exact bqB
    have brC : (hB.put u ((xs.set 0 z).flatMap e_head)).blk (h.next + 1) = some (e_head r) := by rw [put_blk, if_neg (by omega)]; exact brB
    have nC : (hB.put u ((xs.set 0 z).flatMap e_head)).next = h.next + 2 := nB
    generalize hB.put u ((xs.set 0 z).flatMap e_head) = hC at hb1 sC bqC brC nC ⊢
    simp only [newA_iff]
    refine ⟨by simp [isCell], ?_⟩
    have sD := (sC.new [Value.slice none 0 0, Value.int .i64 0] 2).less (T := [h.next, p, u]) (by simp)
    have hbD := hb1.step ((Step.refl hC [] (by simp)).new [Value.slice none 0 0, Value.int .i64 0] 2 |>.less (by simp))
    have bqD : (hC.new [Value.slice none 0 0, Value.int .i64 0] 2).blk h.next = some [Value.slice none 0 0, Value.int .i64 0] := by rw [new_blk, if_neg (by omega)]; exact bqC
    have brD : (hC.new [Value.slice none 0 0, Value.int .i64 0] 2).blk (h.next + 1) = some (e_head r) := by rw [new_blk, if_neg (by omega)]; exact brC
    have bsD : (hC.new [Value.slice none 0 0, Value.int .i64 0] 2).blk hC.next = some [Value.slice none 0 0, Value.int .i64 0] := by simp
    have fC : w0.heap.size ≤ hC.next := by have := f.base; omega
    have nD : (hC.new [Value.slice none 0 0, Value.int .i64 0] 2).next = hC.next + 1 := rfl
    generalize hC.new [Value.slice none 0 0, Value.int .i64 0] 2 = hD at sD hbD bqD brD bsD nD ⊢
    refine loadA_at hb.wp hbD.bp rfl ?_
    refine loadNA_whole fC bsD rfl ?_
    have hcl1 : ((xs.set 0 z).flatMap e_head).length = (n + 1) * 2 := by rw [fm_length e_head_len, hx1]
    refine wr2 hb.wu hbD.bu (by omega) (by omega) rfl ?_
    rw [fm_last e_head_len hx1 rfl]
    have hb2 := hbD.put (((xs.set 0 z).take n).flatMap e_head ++ [Value.slice none 0 0, Value.int .i64 0])
    have st2 := sD.put (p := u) (by simp) (((xs.set 0 z).take n).flatMap e_head ++ [Value.slice none 0 0, Value.int .i64 0])
    have bqE : (hD.put u (((xs.set 0 z).take n).flatMap e_head ++ [Value.slice none 0 0, Value.int .i64 0])).blk h.next = some [Value.slice none 0 0, Value.int .i64 0] := by rw [put_blk, if_neg (by omega)]; exact bqD
    have brE : (hD.put u (((xs.set 0 z).take n).flatMap e_head ++ [Value.slice none 0 0, Value.int .i64 0])).blk (h.next + 1) = some (e_head r) := by rw [put_blk, if_neg (by omega)]; exact brD
    have nE : h.next + 2 ≤ (hD.put u (((xs.set 0 z).take n).flatMap e_head ++ [Value.slice none 0 0, Value.int .i64 0])).next := by
      show h.next + 2 ≤ hD.next
      omega
    generalize hD.put u (((xs.set 0 z).take n).flatMap e_head ++ [Value.slice none 0 0, Value.int .i64 0]) = h2 at hb2 st2 bqE brE nE ⊢
    refine loadA_at hb.wp hb2.bp rfl ?_
    have htl : ((xs.set 0 z).take n).length = n := by rw [List.length_take, hx1]; omega
    refine slSl_own (l := 0) (u := n) rfl boundA_nat (Nat.zero_le _) hb2.bu hb2.es (by omega) (by rw [List.length_append, fm_length e_head_len, htl]; omega) ?_
    refine storeA_at hb.wp hb2.bp (by simp) rfl ?_
    rw [Nat.zero_mul, Nat.zero_add, Nat.sub_zero]
    simp only [List.set_cons_zero]
    have hb3 := hb2.put_p n
    have st3 := st2.put (p := p) (by simp) [.slice (some ⟨u, 0, none⟩) n ucap, lf]
    have bqF : (h2.put p [.slice (some ⟨u, 0, none⟩) n ucap, lf]).blk h.next = some [Value.slice none 0 0, Value.int .i64 0] := by rw [put_blk, if_neg (by omega)]; exact bqE
    have brF : (h2.put p [.slice (some ⟨u, 0, none⟩) n ucap, lf]).blk (h.next + 1) = some (e_head r) := by rw [put_blk, if_neg (by omega)]; exact brE
    have nF : h.next + 2 ≤ (h2.put p [.slice (some ⟨u, 0, none⟩) n ucap, lf]).next := nE
    generalize h2.put p [.slice (some ⟨u, 0, none⟩) n ucap, lf] = h3 at hb3 st3 bqF brF nF ⊢
    refine ⟨n + 1 + 1, ?_⟩
    refine pop_loop_head (hh := h3) (Z := [Value.slice none 0 0, Value.int .i64 0]) (lt := lt) (L := xs) (fun h4 s4 x y hx hy => hlt h4 _ (st3.trans (s4.tail (by omega))) x y hx hy) (by omega) (n + 1) 0 _ h3 (by omega) (by omega) htl (fun b hb => ?_) hb3.refl hb3 fun h5 s5 hb5 => ?_
    · have := List.mem_of_mem_take hb
      rcases List.mem_or_eq_of_mem_set this with q | q
      · exact q
      · rw [q]; exact List.mem_of_getElem? hz
    · have bq5 : h5.blk h.next = some [Value.slice none 0 0, Value.int .i64 0] := by rw [(s5.keep h.next (by omega) (by simp; omega)).1]; exact bqF
      have br5 : h5.blk (h.next + 1) = some (e_head r) := by rw [(s5.keep (h.next + 1) (by omega) (by simp; omega)).1]; exact brF
      have fb := f.base
      refine loadNA_whole (by omega) br5 rfl ?_
      refine storeNA_whole (cs := [Value.slice none 0 0, Value.int .i64 0]) (e := e_head r) fb bq5 rfl rfl ?_
      refine loadNA_whole (cs := e_head r) fb (by simp) rfl ?_
      simp only [retA_iff, oneOf_one]
      have hpl : down lt (n + 1 + 1) ((xs.set 0 z).take n) 0 = popL lt xs := by
        unfold popL
        rw [show xs.length - 1 = n by omega, hz, hn]
      rw [hpl] at hb5
      have s6 : Step h (h5.put h.next (e_head r)) [p, u] [p, u] := ((st3.trans (s5.tail (by omega))).put (by simp) _).less (by simp)
      exact ⟨by simp, trivial, s6, hb5.put_o (by omega) (by omega) _⟩
  refine main.forget fun v h' ⟨e, st, hb'⟩ f => .inr ⟨u, _, n * 2, hb'.wu, hb'.bu, e, [p, u], ?_, st.put (by simp) _⟩
  have hl' : ((popL lt xs).flatMap e_head).length = n * 2 := by rw [fm_length e_head_len, hplen]
  rw [← hl', List.take_left, hplen]
  exact (hb'.put _).hq hl'
end

end
abbrev ltI (a b : Int) : Bool := decide (a < b)
theorem blt_ntr {a b c : Key} (h1 : blt a b = false) (h2 : blt b c = false) : blt a c = false := by
  rcases blt_or h1 with rfl | q
  · exact h2
  · cases e : blt a c with
    | false => rfl
    | true => rw [blt_trans q e] at h2; cases h2
/-- A heap of numbers. -/
def Hp_int (w0 : World) (h : Hp) (p : Nat) (xs : List Int) (S : List Nat) : Prop := Hq w0 1 h p (.func (.func n_cmp_Less_int) #[] #[]) xs.length (xs.flatMap e_int) S ∧ HeapL ltI xs
section
variable {w0 : World} {h h' : Hp} {p : Nat} {xs : List Int} {S : List Nat}
theorem Hp_int.frame (m : Hp_int w0 h p xs S) {T T' : List Nat} (st : Step h h' T T') (hd : ∀ b, b ∈ S → b ∉ T) : Hp_int w0 h' p xs S := ⟨m.1.frame st hd, m.2⟩
theorem less_int (a b : Int) : callVA prog w0 (.func (.func n_cmp_Less_int) #[] #[]) [(Value.int .i64 a), (Value.int .i64 b)] (fun r h2 => r = .bool (ltI a b) ∧ Step h h2 [] []) h :=
  callVA_func (by kernel_rfl) (Less_i a b) fun r h2 ⟨e, e'⟩ _ => ⟨e, by rw [e']; exact .refl _ _ (by simp)⟩
theorem ord_int : Ord ltI := ⟨fun a => by simp [ltI], fun h => by simp [ltI] at h ⊢; omega, fun h1 h2 => by simp [ltI] at h1 h2 ⊢; omega, fun h1 h2 => by simp [ltI] at h1 h2 ⊢; omega⟩
theorem NewHeap_int : ACalls prog w0 n_seq_NewHeap_int [] h fun r h' => r = ptr h.next ∧ Hp_int w0 h' h.next [] [h.next] ∧ Step h h' [] [h.next] := by
  refine ACalls.of_fit (by simp) fun f => c_seq_NewHeap_int (by simp) ?_
  have hb := f.base
  simp only [s_seq_NewHeap_int, buildA_iff, fillA_one, fillA_nil, List.set_cons_zero, List.set_cons_succ, fillA_agg, boxA_agg, retA_iff, oneOf_one]
  have hsp : splice [Value.slice none 0 0, Value.nilFunc] 0 [.slice none 0 0, .func (.func n_cmp_Less_int) #[] #[]] = [.slice none 0 0, .func (.func n_cmp_Less_int) #[] #[]] := rfl
  rw [hsp]
  exact ⟨rfl, by simp, rfl, by simp, by simp, rfl, ⟨⟨.slice none 0 0, [], by simp, .nil, hb, by simp, by simp, rfl⟩, fun j a b _ ha => by simp at ha⟩, (Step.refl h [] (by simp)).new _ _⟩
theorem Len_int (m : Hp_int w0 h p xs S) : ACalls prog w0 n_seq_Heap_int_Len [ptr p] h fun r h' => r = .int .i64 (xs.length : Int) ∧ h' = h := by
  refine ACalls.of_fit (by simp [ptr]) fun f => c_seq_Heap_int_Len (by simp [ptr]) ?_
  obtain ⟨⟨x, U, a, v, b, c, d, rfl⟩, -⟩ := m
  obtain ⟨ax, cx, ex⟩ := v.slice
  have elx : lenSl x = some (.int .i64 (xs.length : Int)) := by rw [ex]; rfl
  have c0 : binPtrA .eql (.pointer (some ⟨p, 0, none⟩)) (.pointer none) = some (.bool false) := rfl
  simp only [s_seq_Heap_int_Len, c0, lenSl_slice, lenStr_string, str_size, fpureA_some, fnilA_ptr, faddA_ptr, addr_add, Nat.zero_add, Nat.add_zero, fpureQ_k, fpureQ_nilA, fpureQ_addA, fpureQ_pureA, fpureQ_guardA, fpureQ_idxSlA, fpureQ_pickA, freadQ_loadA, freadQ_loadNA, freadQ_b2sA, freadQ_guardA, freadQ_slSlA, freadQ_k, fendA, fallA_one, fstillA_nil, fguardA_tt, fguardA_ff, fguardA_tf, fguardA_ft, fguardA_undef, fpickA_true, fpickA_false, fcondA_true, fcondA_false, binA_add, binA_sub, binA_mul, binA_eql, binA_neq, binA_lss, binA_leq, binA_gtr, binA_geq, unA_not, Bool.not_true, Bool.not_false, convA_int, extA_tuple, List.getElem?_toArray, List.getElem?_cons_zero, List.getElem?_cons_succ, ptr]
  refine loadA_at b a rfl ?_
  simp only [elx, lenSl_slice, lenStr_string, str_size, fpureA_some, fnilA_ptr, faddA_ptr, addr_add, Nat.zero_add, Nat.add_zero, fpureQ_k, fpureQ_nilA, fpureQ_addA, fpureQ_pureA, fpureQ_guardA, fpureQ_idxSlA, fpureQ_pickA, freadQ_loadA, freadQ_loadNA, freadQ_b2sA, freadQ_guardA, freadQ_slSlA, freadQ_k, fendA, fallA_one, fstillA_nil, fguardA_tt, fguardA_ff, fguardA_tf, fguardA_ft, fguardA_undef, fpickA_true, fpickA_false, fcondA_true, fcondA_false, binA_add, binA_sub, binA_mul, binA_eql, binA_neq, binA_lss, binA_leq, binA_gtr, binA_geq, unA_not, Bool.not_true, Bool.not_false, convA_int, extA_tuple, List.getElem?_toArray, List.getElem?_cons_zero, List.getElem?_cons_succ, retA_iff, oneOf_one]
  exact ⟨by simp, trivial, trivial⟩
theorem Push_int (m : Hp_int w0 h p xs S) (a : Int) (hl : xs.length < 1000000000) : ACalls prog w0 n_seq_Heap_int_Push [ptr p, (Value.int .i64 a)] h fun _ h' => ∃ S', Hp_int w0 h' p (pushL ltI xs a) S' ∧ Step h h' S S' := by
  refine ACalls.of_fit (by simp [ptr]) fun f => c_seq_Heap_int_Push (by simp [ptr]) ?_
  obtain ⟨m, hh⟩ := m
  obtain ⟨x, U, b1, v, b, c, d, e⟩ := id m
  have c0 : binPtrA .eql (.pointer (some ⟨p, 0, none⟩)) (.pointer none) = some (.bool false) := rfl
  have c1 : binFnA .eql (.func (.func n_cmp_Less_int) #[] #[]) .nilFunc = some (.bool false) := rfl
  simp only [s_seq_Heap_int_Push, c0, lenSl_slice, lenStr_string, str_size, fpureA_some, fnilA_ptr, faddA_ptr, addr_add, Nat.zero_add, Nat.add_zero, fpureQ_k, fpureQ_nilA, fpureQ_addA, fpureQ_pureA, fpureQ_guardA, fpureQ_idxSlA, fpureQ_pickA, freadQ_loadA, freadQ_loadNA, freadQ_b2sA, freadQ_guardA, freadQ_slSlA, freadQ_k, fendA, fallA_one, fstillA_nil, fguardA_tt, fguardA_ff, fguardA_tf, fguardA_ft, fguardA_undef, fpickA_true, fpickA_false, fcondA_true, fcondA_false, binA_add, binA_sub, binA_mul, binA_eql, binA_neq, binA_lss, binA_leq, binA_gtr, binA_geq, unA_not, Bool.not_true, Bool.not_false, convA_int, extA_tuple, List.getElem?_toArray, List.getElem?_cons_zero, List.getElem?_cons_succ, ptr]
  refine loadA_at b b1 rfl ?_
  simp only [c1, lenSl_slice, lenStr_string, str_size, fpureA_some, fnilA_ptr, faddA_ptr, addr_add, Nat.zero_add, Nat.add_zero, fpureQ_k, fpureQ_nilA, fpureQ_addA, fpureQ_pureA, fpureQ_guardA, fpureQ_idxSlA, fpureQ_pickA, freadQ_loadA, freadQ_loadNA, freadQ_b2sA, freadQ_guardA, freadQ_slSlA, freadQ_k, fendA, fallA_one, fstillA_nil, fguardA_tt, fguardA_ff, fguardA_tf, fguardA_ft, fguardA_undef, fpickA_true, fpickA_false, fcondA_true, fcondA_false, binA_add, binA_sub, binA_mul, binA_eql, binA_neq, binA_lss, binA_leq, binA_gtr, binA_geq, unA_not, Bool.not_true, Bool.not_false, convA_int, extA_tuple, List.getElem?_toArray, List.getElem?_cons_zero, List.getElem?_cons_succ]
  refine callA_of (push_int (lt := ltI) (a := a) m hl fun h1 S1 s1 x y _ _ => less_int x y) fun r h1 ⟨S1, m1, s1⟩ f1 => ?_
  simp only [retA_iff]
  exact ⟨by simp, S1, ⟨m1, push_heap ord_int a hh⟩, s1⟩
theorem Pop_int (m : Hp_int w0 h p xs S) (hl : xs.length < 1000000000) : ACalls prog w0 n_seq_Heap_int_Pop [ptr p] h fun v h' =>
    (xs = [] → v = .tuple #[(Value.int .i64 0), .bool false] ∧ h' = h) ∧ (∀ r, xs[0]? = some r → v = .tuple #[(Value.int .i64 r), .bool true] ∧ ∃ S', Hp_int w0 h' p (popL ltI xs) S' ∧ Step h h' S S') := by
  refine ACalls.of_fit (by simp [ptr]) fun f => c_seq_Heap_int_Pop (by simp [ptr]) ?_
  simp only [s_seq_Heap_int_Pop]
  refine callA_of (Len_int m) fun r h1 ⟨e, e'⟩ f1 => ?_
  subst e
  have e'' := e'.symm
  subst e''
  cases xs with
  | nil =>
    have c1 : (((([] : List Int).length : Nat) : Int) == 0) = true := rfl
    simp only [lenSl_slice, lenStr_string, str_size, fpureA_some, fnilA_ptr, faddA_ptr, addr_add, Nat.zero_add, Nat.add_zero, fpureQ_k, fpureQ_nilA, fpureQ_addA, fpureQ_pureA, fpureQ_guardA, fpureQ_idxSlA, fpureQ_pickA, freadQ_loadA, freadQ_loadNA, freadQ_b2sA, freadQ_guardA, freadQ_slSlA, freadQ_k, fendA, fallA_one, fstillA_nil, fguardA_tt, fguardA_ff, fguardA_tf, fguardA_ft, fguardA_undef, fpickA_true, fpickA_false, fcondA_true, fcondA_false, binA_add, binA_sub, binA_mul, binA_eql, binA_neq, binA_lss, binA_leq, binA_gtr, binA_geq, unA_not, Bool.not_true, Bool.not_false, convA_int, extA_tuple, List.getElem?_toArray, List.getElem?_cons_zero, List.getElem?_cons_succ, c1, retA_iff, oneOf_two]
    exact ⟨by simp, fun _ => ⟨trivial, trivial⟩, fun r hr => by simp at hr⟩
  | cons z zs =>
    have c1 : (((z :: zs).length : Int) == 0) = false := by simp only [List.length_cons, beq_eq_false_iff_ne]; omega
    simp only [lenSl_slice, lenStr_string, str_size, fpureA_some, fnilA_ptr, faddA_ptr, addr_add, Nat.zero_add, Nat.add_zero, fpureQ_k, fpureQ_nilA, fpureQ_addA, fpureQ_pureA, fpureQ_guardA, fpureQ_idxSlA, fpureQ_pickA, freadQ_loadA, freadQ_loadNA, freadQ_b2sA, freadQ_guardA, freadQ_slSlA, freadQ_k, fendA, fallA_one, fstillA_nil, fguardA_tt, fguardA_ff, fguardA_tf, fguardA_ft, fguardA_undef, fpickA_true, fpickA_false, fcondA_true, fcondA_false, binA_add, binA_sub, binA_mul, binA_eql, binA_neq, binA_lss, binA_leq, binA_gtr, binA_geq, unA_not, Bool.not_true, Bool.not_false, convA_int, extA_tuple, List.getElem?_toArray, List.getElem?_cons_zero, List.getElem?_cons_succ, c1, ptr]
    refine callA_of (pop_int (r := z) (lt := ltI) m.1 rfl hl fun h1 S1 s1 x y _ _ => less_int x y) fun r h1 ⟨e, S1, m1, s1⟩ f1 => ?_
    subst e
    simp only [retA_iff, oneOf_two]
    refine ⟨by simp, by simp, fun r hr => ?_⟩
    simp at hr
    subst hr
    exact ⟨rfl, S1, ⟨m1, pop_heap ord_int m.2⟩, s1⟩
theorem Least_int (m : Hp_int w0 h p xs S) : ACalls prog w0 n_seq_Heap_int_Least [ptr p] h fun v h' =>
    (xs = [] → v = .tuple #[(Value.int .i64 0), .bool false]) ∧ (∀ r, xs[0]? = some r → v = .tuple #[(Value.int .i64 r), .bool true]) ∧ h' = h := by
  refine ACalls.of_fit (by simp [ptr]) fun f => c_seq_Heap_int_Least (by simp [ptr]) ?_
  simp only [s_seq_Heap_int_Least]
  refine callA_of (Len_int m) fun r h1 ⟨e, e'⟩ f1 => ?_
  subst e
  have e'' := e'.symm
  subst e''
  cases xs with
  | nil =>
    have c1 : (((([] : List Int).length : Nat) : Int) == 0) = true := rfl
    simp only [lenSl_slice, lenStr_string, str_size, fpureA_some, fnilA_ptr, faddA_ptr, addr_add, Nat.zero_add, Nat.add_zero, fpureQ_k, fpureQ_nilA, fpureQ_addA, fpureQ_pureA, fpureQ_guardA, fpureQ_idxSlA, fpureQ_pickA, freadQ_loadA, freadQ_loadNA, freadQ_b2sA, freadQ_guardA, freadQ_slSlA, freadQ_k, fendA, fallA_one, fstillA_nil, fguardA_tt, fguardA_ff, fguardA_tf, fguardA_ft, fguardA_undef, fpickA_true, fpickA_false, fcondA_true, fcondA_false, binA_add, binA_sub, binA_mul, binA_eql, binA_neq, binA_lss, binA_leq, binA_gtr, binA_geq, unA_not, Bool.not_true, Bool.not_false, convA_int, extA_tuple, List.getElem?_toArray, List.getElem?_cons_zero, List.getElem?_cons_succ, c1, retA_iff, oneOf_two]
    exact ⟨by simp, fun _ => trivial, fun r hr => by simp at hr, trivial⟩
  | cons z zs =>
    have c1 : (((z :: zs).length : Int) == 0) = false := by simp only [List.length_cons, beq_eq_false_iff_ne]; omega
    obtain ⟨u, rfl, hb, hcl⟩ := m.1.hb (by simp)
    simp only [lenSl_slice, lenStr_string, str_size, fpureA_some, fnilA_ptr, faddA_ptr, addr_add, Nat.zero_add, Nat.add_zero, fpureQ_k, fpureQ_nilA, fpureQ_addA, fpureQ_pureA, fpureQ_guardA, fpureQ_idxSlA, fpureQ_pickA, freadQ_loadA, freadQ_loadNA, freadQ_b2sA, freadQ_guardA, freadQ_slSlA, freadQ_k, fendA, fallA_one, fstillA_nil, fguardA_tt, fguardA_ff, fguardA_tf, fguardA_ft, fguardA_undef, fpickA_true, fpickA_false, fcondA_true, fcondA_false, binA_add, binA_sub, binA_mul, binA_eql, binA_neq, binA_lss, binA_leq, binA_gtr, binA_geq, unA_not, Bool.not_true, Bool.not_false, convA_int, extA_tuple, List.getElem?_toArray, List.getElem?_cons_zero, List.getElem?_cons_succ, c1, ptr]
    refine loadA_at hb.wp hb.bp rfl ?_
    refine rd1 (i := 0) hb.wu hb.bu (by simp) (v := e_int z |>.head (by simp)) (by simp) ?_
    simp only [retA_iff, oneOf_two]
    refine ⟨by simp, by simp, fun r hr => ?_, trivial⟩
    simp at hr
    subst hr
    rfl
theorem HPush_nil (a : Int) : ACalls prog w0 n_seq_Heap_int_Push [.pointer none, (Value.int .i64 a)] h fun _ h' => h' = h := by
  refine ACalls.of_fit (by simp) fun f => c_seq_Heap_int_Push (by simp) ?_
  have nil_eq : binPtrA .eql (.pointer none) (.pointer none) = some (.bool true) := rfl
  simp only [s_seq_Heap_int_Push, nil_eq, lenSl_slice, lenStr_string, str_size, fpureA_some, fnilA_ptr, faddA_ptr, addr_add, Nat.zero_add, Nat.add_zero, fpureQ_k, fpureQ_nilA, fpureQ_addA, fpureQ_pureA, fpureQ_guardA, fpureQ_idxSlA, fpureQ_pickA, freadQ_loadA, freadQ_loadNA, freadQ_b2sA, freadQ_guardA, freadQ_slSlA, freadQ_k, fendA, fallA_one, fstillA_nil, fguardA_tt, fguardA_ff, fguardA_tf, fguardA_ft, fguardA_undef, fpickA_true, fpickA_false, fcondA_true, fcondA_false, binA_add, binA_sub, binA_mul, binA_eql, binA_neq, binA_lss, binA_leq, binA_gtr, binA_geq, unA_not, Bool.not_true, Bool.not_false, convA_int, extA_tuple, List.getElem?_toArray, List.getElem?_cons_zero, List.getElem?_cons_succ, retA_iff]
  exact ⟨by simp, trivial⟩
theorem HLen_nil : ACalls prog w0 n_seq_Heap_int_Len [.pointer none] h fun r h' => r = .int .i64 0 ∧ h' = h := by
  refine ACalls.of_fit (by simp) fun f => c_seq_Heap_int_Len (by simp) ?_
  have nil_eq : binPtrA .eql (.pointer none) (.pointer none) = some (.bool true) := rfl
  simp only [s_seq_Heap_int_Len, nil_eq, lenSl_slice, lenStr_string, str_size, fpureA_some, fnilA_ptr, faddA_ptr, addr_add, Nat.zero_add, Nat.add_zero, fpureQ_k, fpureQ_nilA, fpureQ_addA, fpureQ_pureA, fpureQ_guardA, fpureQ_idxSlA, fpureQ_pickA, freadQ_loadA, freadQ_loadNA, freadQ_b2sA, freadQ_guardA, freadQ_slSlA, freadQ_k, fendA, fallA_one, fstillA_nil, fguardA_tt, fguardA_ff, fguardA_tf, fguardA_ft, fguardA_undef, fpickA_true, fpickA_false, fcondA_true, fcondA_false, binA_add, binA_sub, binA_mul, binA_eql, binA_neq, binA_lss, binA_leq, binA_gtr, binA_geq, unA_not, Bool.not_true, Bool.not_false, convA_int, extA_tuple, List.getElem?_toArray, List.getElem?_cons_zero, List.getElem?_cons_succ, retA_iff, oneOf_one]
  exact ⟨by simp, trivial, trivial⟩
theorem HPop_nil : ACalls prog w0 n_seq_Heap_int_Pop [.pointer none] h fun r h' => r = .tuple #[(Value.int .i64 0), .bool false] ∧ h' = h := by
  refine ACalls.of_fit (by simp) fun f => c_seq_Heap_int_Pop (by simp) ?_
  simp only [s_seq_Heap_int_Pop]
  refine callA_of HLen_nil fun r h1 ⟨e, e'⟩ f1 => ?_
  subst e e'
  simp only [lenSl_slice, lenStr_string, str_size, fpureA_some, fnilA_ptr, faddA_ptr, addr_add, Nat.zero_add, Nat.add_zero, fpureQ_k, fpureQ_nilA, fpureQ_addA, fpureQ_pureA, fpureQ_guardA, fpureQ_idxSlA, fpureQ_pickA, freadQ_loadA, freadQ_loadNA, freadQ_b2sA, freadQ_guardA, freadQ_slSlA, freadQ_k, fendA, fallA_one, fstillA_nil, fguardA_tt, fguardA_ff, fguardA_tf, fguardA_ft, fguardA_undef, fpickA_true, fpickA_false, fcondA_true, fcondA_false, binA_add, binA_sub, binA_mul, binA_eql, binA_neq, binA_lss, binA_leq, binA_gtr, binA_geq, unA_not, Bool.not_true, Bool.not_false, convA_int, extA_tuple, List.getElem?_toArray, List.getElem?_cons_zero, List.getElem?_cons_succ, beq_self_eq_true, retA_iff, oneOf_two]
  exact ⟨by simp, trivial, trivial⟩
theorem HLeast_nil : ACalls prog w0 n_seq_Heap_int_Least [.pointer none] h fun r h' => r = .tuple #[(Value.int .i64 0), .bool false] ∧ h' = h := by
  refine ACalls.of_fit (by simp) fun f => c_seq_Heap_int_Least (by simp) ?_
  simp only [s_seq_Heap_int_Least]
  refine callA_of HLen_nil fun r h1 ⟨e, e'⟩ f1 => ?_
  subst e e'
  simp only [lenSl_slice, lenStr_string, str_size, fpureA_some, fnilA_ptr, faddA_ptr, addr_add, Nat.zero_add, Nat.add_zero, fpureQ_k, fpureQ_nilA, fpureQ_addA, fpureQ_pureA, fpureQ_guardA, fpureQ_idxSlA, fpureQ_pickA, freadQ_loadA, freadQ_loadNA, freadQ_b2sA, freadQ_guardA, freadQ_slSlA, freadQ_k, fendA, fallA_one, fstillA_nil, fguardA_tt, fguardA_ff, fguardA_tf, fguardA_ft, fguardA_undef, fpickA_true, fpickA_false, fcondA_true, fcondA_false, binA_add, binA_sub, binA_mul, binA_eql, binA_neq, binA_lss, binA_leq, binA_gtr, binA_geq, unA_not, Bool.not_true, Bool.not_false, convA_int, extA_tuple, List.getElem?_toArray, List.getElem?_cons_zero, List.getElem?_cons_succ, beq_self_eq_true, retA_iff, oneOf_two]
  exact ⟨by simp, trivial, trivial⟩
end
/-- A heap of texts. -/
def Hp_string (w0 : World) (h : Hp) (p : Nat) (xs : List Key) (S : List Nat) : Prop := Hq w0 1 h p (.func (.func n_cmp_Less_string) #[] #[]) xs.length (xs.flatMap e_string) S ∧ HeapL blt xs
section
variable {w0 : World} {h h' : Hp} {p : Nat} {xs : List Key} {S : List Nat}
theorem Hp_string.frame (m : Hp_string w0 h p xs S) {T T' : List Nat} (st : Step h h' T T') (hd : ∀ b, b ∈ S → b ∉ T) : Hp_string w0 h' p xs S := ⟨m.1.frame st hd, m.2⟩
theorem less_string (a b : Key) : callVA prog w0 (.func (.func n_cmp_Less_string) #[] #[]) [(Value.string (str a)), (Value.string (str b))] (fun r h2 => r = .bool (blt a b) ∧ Step h h2 [] []) h :=
  callVA_func (by kernel_rfl) (Less_s a b) fun r h2 ⟨e, e'⟩ _ => ⟨e, by rw [e']; exact .refl _ _ (by simp)⟩
theorem ord_string : Ord blt := ⟨blt_irrefl, blt_asymm, blt_trans, blt_ntr⟩
theorem NewHeap_string : ACalls prog w0 n_seq_NewHeap_string [] h fun r h' => r = ptr h.next ∧ Hp_string w0 h' h.next [] [h.next] ∧ Step h h' [] [h.next] := by
  refine ACalls.of_fit (by simp) fun f => c_seq_NewHeap_string (by simp) ?_
  have hb := f.base
  simp only [s_seq_NewHeap_string, buildA_iff, fillA_one, fillA_nil, List.set_cons_zero, List.set_cons_succ, fillA_agg, boxA_agg, retA_iff, oneOf_one]
  have hsp : splice [Value.slice none 0 0, Value.nilFunc] 0 [.slice none 0 0, .func (.func n_cmp_Less_string) #[] #[]] = [.slice none 0 0, .func (.func n_cmp_Less_string) #[] #[]] := rfl
  rw [hsp]
  exact ⟨rfl, by simp, rfl, by simp, by simp, rfl, ⟨⟨.slice none 0 0, [], by simp, .nil, hb, by simp, by simp, rfl⟩, fun j a b _ ha => by simp at ha⟩, (Step.refl h [] (by simp)).new _ _⟩
theorem Len_string (m : Hp_string w0 h p xs S) : ACalls prog w0 n_seq_Heap_string_Len [ptr p] h fun r h' => r = .int .i64 (xs.length : Int) ∧ h' = h := by
  refine ACalls.of_fit (by simp [ptr]) fun f => c_seq_Heap_string_Len (by simp [ptr]) ?_
  obtain ⟨⟨x, U, a, v, b, c, d, rfl⟩, -⟩ := m
  obtain ⟨ax, cx, ex⟩ := v.slice
  have elx : lenSl x = some (.int .i64 (xs.length : Int)) := by rw [ex]; rfl
  have c0 : binPtrA .eql (.pointer (some ⟨p, 0, none⟩)) (.pointer none) = some (.bool false) := rfl
  simp only [s_seq_Heap_string_Len, c0, lenSl_slice, lenStr_string, str_size, fpureA_some, fnilA_ptr, faddA_ptr, addr_add, Nat.zero_add, Nat.add_zero, fpureQ_k, fpureQ_nilA, fpureQ_addA, fpureQ_pureA, fpureQ_guardA, fpureQ_idxSlA, fpureQ_pickA, freadQ_loadA, freadQ_loadNA, freadQ_b2sA, freadQ_guardA, freadQ_slSlA, freadQ_k, fendA, fallA_one, fstillA_nil, fguardA_tt, fguardA_ff, fguardA_tf, fguardA_ft, fguardA_undef, fpickA_true, fpickA_false, fcondA_true, fcondA_false, binA_add, binA_sub, binA_mul, binA_eql, binA_neq, binA_lss, binA_leq, binA_gtr, binA_geq, unA_not, Bool.not_true, Bool.not_false, convA_int, extA_tuple, List.getElem?_toArray, List.getElem?_cons_zero, List.getElem?_cons_succ, ptr]
  refine loadA_at b a rfl ?_
  simp only [elx, lenSl_slice, lenStr_string, str_size, fpureA_some, fnilA_ptr, faddA_ptr, addr_add, Nat.zero_add, Nat.add_zero, fpureQ_k, fpureQ_nilA, fpureQ_addA, fpureQ_pureA, fpureQ_guardA, fpureQ_idxSlA, fpureQ_pickA, freadQ_loadA, freadQ_loadNA, freadQ_b2sA, freadQ_guardA, freadQ_slSlA, freadQ_k, fendA, fallA_one, fstillA_nil, fguardA_tt, fguardA_ff, fguardA_tf, fguardA_ft, fguardA_undef, fpickA_true, fpickA_false, fcondA_true, fcondA_false, binA_add, binA_sub, binA_mul, binA_eql, binA_neq, binA_lss, binA_leq, binA_gtr, binA_geq, unA_not, Bool.not_true, Bool.not_false, convA_int, extA_tuple, List.getElem?_toArray, List.getElem?_cons_zero, List.getElem?_cons_succ, retA_iff, oneOf_one]
  exact ⟨by simp, trivial, trivial⟩
theorem Push_string (m : Hp_string w0 h p xs S) (a : Key) (hl : xs.length < 1000000000) : ACalls prog w0 n_seq_Heap_string_Push [ptr p, (Value.string (str a))] h fun _ h' => ∃ S', Hp_string w0 h' p (pushL blt xs a) S' ∧ Step h h' S S' := by
  refine ACalls.of_fit (by simp [ptr]) fun f => c_seq_Heap_string_Push (by simp [ptr]) ?_
  obtain ⟨m, hh⟩ := m
  obtain ⟨x, U, b1, v, b, c, d, e⟩ := id m
  have c0 : binPtrA .eql (.pointer (some ⟨p, 0, none⟩)) (.pointer none) = some (.bool false) := rfl
  have c1 : binFnA .eql (.func (.func n_cmp_Less_string) #[] #[]) .nilFunc = some (.bool false) := rfl
  simp only [s_seq_Heap_string_Push, c0, lenSl_slice, lenStr_string, str_size, fpureA_some, fnilA_ptr, faddA_ptr, addr_add, Nat.zero_add, Nat.add_zero, fpureQ_k, fpureQ_nilA, fpureQ_addA, fpureQ_pureA, fpureQ_guardA, fpureQ_idxSlA, fpureQ_pickA, freadQ_loadA, freadQ_loadNA, freadQ_b2sA, freadQ_guardA, freadQ_slSlA, freadQ_k, fendA, fallA_one, fstillA_nil, fguardA_tt, fguardA_ff, fguardA_tf, fguardA_ft, fguardA_undef, fpickA_true, fpickA_false, fcondA_true, fcondA_false, binA_add, binA_sub, binA_mul, binA_eql, binA_neq, binA_lss, binA_leq, binA_gtr, binA_geq, unA_not, Bool.not_true, Bool.not_false, convA_int, extA_tuple, List.getElem?_toArray, List.getElem?_cons_zero, List.getElem?_cons_succ, ptr]
  refine loadA_at b b1 rfl ?_
  simp only [c1, lenSl_slice, lenStr_string, str_size, fpureA_some, fnilA_ptr, faddA_ptr, addr_add, Nat.zero_add, Nat.add_zero, fpureQ_k, fpureQ_nilA, fpureQ_addA, fpureQ_pureA, fpureQ_guardA, fpureQ_idxSlA, fpureQ_pickA, freadQ_loadA, freadQ_loadNA, freadQ_b2sA, freadQ_guardA, freadQ_slSlA, freadQ_k, fendA, fallA_one, fstillA_nil, fguardA_tt, fguardA_ff, fguardA_tf, fguardA_ft, fguardA_undef, fpickA_true, fpickA_false, fcondA_true, fcondA_false, binA_add, binA_sub, binA_mul, binA_eql, binA_neq, binA_lss, binA_leq, binA_gtr, binA_geq, unA_not, Bool.not_true, Bool.not_false, convA_int, extA_tuple, List.getElem?_toArray, List.getElem?_cons_zero, List.getElem?_cons_succ]
  refine callA_of (push_string (lt := blt) (a := a) m hl fun h1 S1 s1 x y _ _ => less_string x y) fun r h1 ⟨S1, m1, s1⟩ f1 => ?_
  simp only [retA_iff]
  exact ⟨by simp, S1, ⟨m1, push_heap ord_string a hh⟩, s1⟩
theorem Pop_string (m : Hp_string w0 h p xs S) (hl : xs.length < 1000000000) : ACalls prog w0 n_seq_Heap_string_Pop [ptr p] h fun v h' =>
    (xs = [] → v = .tuple #[(Value.string .empty), .bool false] ∧ h' = h) ∧ (∀ r, xs[0]? = some r → v = .tuple #[(Value.string (str r)), .bool true] ∧ ∃ S', Hp_string w0 h' p (popL blt xs) S' ∧ Step h h' S S') := by
  refine ACalls.of_fit (by simp [ptr]) fun f => c_seq_Heap_string_Pop (by simp [ptr]) ?_
  simp only [s_seq_Heap_string_Pop]
  refine callA_of (Len_string m) fun r h1 ⟨e, e'⟩ f1 => ?_
  subst e
  have e'' := e'.symm
  subst e''
  cases xs with
  | nil =>
    have c1 : (((([] : List Key).length : Nat) : Int) == 0) = true := rfl
    simp only [lenSl_slice, lenStr_string, str_size, fpureA_some, fnilA_ptr, faddA_ptr, addr_add, Nat.zero_add, Nat.add_zero, fpureQ_k, fpureQ_nilA, fpureQ_addA, fpureQ_pureA, fpureQ_guardA, fpureQ_idxSlA, fpureQ_pickA, freadQ_loadA, freadQ_loadNA, freadQ_b2sA, freadQ_guardA, freadQ_slSlA, freadQ_k, fendA, fallA_one, fstillA_nil, fguardA_tt, fguardA_ff, fguardA_tf, fguardA_ft, fguardA_undef, fpickA_true, fpickA_false, fcondA_true, fcondA_false, binA_add, binA_sub, binA_mul, binA_eql, binA_neq, binA_lss, binA_leq, binA_gtr, binA_geq, unA_not, Bool.not_true, Bool.not_false, convA_int, extA_tuple, List.getElem?_toArray, List.getElem?_cons_zero, List.getElem?_cons_succ, c1, retA_iff, oneOf_two]
    exact ⟨by simp, fun _ => ⟨trivial, trivial⟩, fun r hr => by simp at hr⟩
  | cons z zs =>
    have c1 : (((z :: zs).length : Int) == 0) = false := by simp only [List.length_cons, beq_eq_false_iff_ne]; omega
    simp only [lenSl_slice, lenStr_string, str_size, fpureA_some, fnilA_ptr, faddA_ptr, addr_add, Nat.zero_add, Nat.add_zero, fpureQ_k, fpureQ_nilA, fpureQ_addA, fpureQ_pureA, fpureQ_guardA, fpureQ_idxSlA, fpureQ_pickA, freadQ_loadA, freadQ_loadNA, freadQ_b2sA, freadQ_guardA, freadQ_slSlA, freadQ_k, fendA, fallA_one, fstillA_nil, fguardA_tt, fguardA_ff, fguardA_tf, fguardA_ft, fguardA_undef, fpickA_true, fpickA_false, fcondA_true, fcondA_false, binA_add, binA_sub, binA_mul, binA_eql, binA_neq, binA_lss, binA_leq, binA_gtr, binA_geq, unA_not, Bool.not_true, Bool.not_false, convA_int, extA_tuple, List.getElem?_toArray, List.getElem?_cons_zero, List.getElem?_cons_succ, c1, ptr]
    refine callA_of (pop_string (r := z) (lt := blt) m.1 rfl hl fun h1 S1 s1 x y _ _ => less_string x y) fun r h1 ⟨e, S1, m1, s1⟩ f1 => ?_
    subst e
    simp only [retA_iff, oneOf_two]
    refine ⟨by simp, by simp, fun r hr => ?_⟩
    simp at hr
    subst hr
    exact ⟨rfl, S1, ⟨m1, pop_heap ord_string m.2⟩, s1⟩
end
end Go.Proofs.Ytpdpponbhejlpaa.Ah
