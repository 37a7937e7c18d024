/- Slices inside of slices. -/
import Derived.Test.YthjpddggnhgjhaaAh32
set_option linter.unusedVariables false
set_option linter.unusedSimpArgs false
namespace Go.Proofs.Ythjpddggnhgjhaa.Ah
open Go
def dSls {α : Type} (w0 : World) (s : Nat) (D : Dec α) : Dec (Value × List α) := ⟨fun p => [p.1], fun p => ExtSl w0 s p.1 p.2.length (p.2.flatMap D.e) ∧ ∀ a, a ∈ p.2 → D.ok a, fun p => (p.2.map D.b).sum + 1⟩
section
open Go.ChangeShapes
theorem dSls_of {α : Type} {D : Dec α} {P : Program} {w0 : World} {t e : TypeId} {s : Nat} (ht : P.underlying t = some (.slice e)) (hc : P.cellsOf t = 1) (hs : 0 < s) (hD : D.Of P w0 e s) : (dSls w0 s D).Of P w0 t 1 := by
  refine ⟨hc, fun _ => rfl, fun p hp v hv => ?_, fun {H enc fuel cs x} hx hp => ?_⟩
  · simp only [dSls, List.mem_singleton] at hv
    subst hv
    obtain ⟨a, c, e, -⟩ := hp.1.sl
    exact ⟨hp.1.cl, by rw [e]; rfl⟩
  · rcases DataW.trod_slice ht hx with ⟨rfl, rfl⟩ | ⟨a, n, c, elems, rest, m, rfl, rfl, rfl, hb, hl, hm, hlen, hel, hrest, -⟩
    · exact ⟨(.slice none 0 0, []), rfl, ⟨⟨⟨none, 0, rfl, Nat.le_refl _, by decide⟩, fun _ _ => .snil, fun h f => by simp [Src]⟩, by simp⟩, by simp [dSls, Rows.uptoBulk]⟩
    · have hcu : c < ucap := by
        have hm' : c ≤ 9223372036854775807 := hm
        show c < 18446744073709551616
        omega
      have ha : a.block < w0.heap.size ∨ c = 0 := by
        by_cases h0 : c = 0
        · exact .inr h0
        · left
          have hrl := (hrest rfl).1
          have hlen' : 0 < (elems.length + rest.length) * P.cellsOf e := by rw [hD.size]; exact Nat.mul_pos (by omega) hs
          exact hp (.cell a.block (a.off + 0)) (by
            simp only [List.mem_append, MemPlace.row, List.mem_map, List.mem_range]
            exact .inl ⟨0, hlen', rfl⟩)
      rw [hD.size] at hel
      -- the elements, one by one
      have each : ∀ i, i < n → ∃ y, elems[i]? = some y ∧ ∃ b, D.ok b ∧ D.b b ≤ Rows.uptoBulk y.1 ∧ ∀ j, j < s → w0.cell? (a.add (i * s + j)) = (D.e b)[j]? := by
        intro i hi
        have h2 := hel i hi
        rw [List.getElem?_eq_getElem (by omega : i < elems.length)] at h2 ⊢
        rw [Option.bind_eq_some_iff] at h2
        obtain ⟨cs, h3, h4⟩ := h2
        obtain ⟨b, rfl, o1, b1⟩ := hD.opens h4 (fun p hq => hp p (by simp only [List.mem_append, List.mem_flatMap]; exact .inr ⟨_, .inl (List.getElem_mem _), hq⟩))
        obtain ⟨-, -, h5⟩ := World.cells?_some h3
        refine ⟨_, rfl, b, o1, b1, fun j hj => ?_⟩
        rw [← h5 j hj]
        congr 1
        obtain ⟨bl, o, sp⟩ := a
        unfold Addr.add
        split <;> split <;> split <;> simp_all <;> omega
      have all : ∀ k, k ≤ n → ∃ xs : List α, xs.length = k ∧ (∀ b, b ∈ xs → D.ok b) ∧ (xs.map D.b).sum ≤ Rows.uptoBulkAll ((elems.take k).map (·.1)) ∧ ∀ j, j < k * s → w0.cell? (a.add j) = (xs.flatMap D.e)[j]? := by
        intro k
        induction k with
        | zero => intro _; exact ⟨[], rfl, by simp, by simp, fun j hj => by omega⟩
        | succ k ih =>
          intro hk
          obtain ⟨xs, l1, o1, b1, c1⟩ := ih (by omega)
          obtain ⟨y, hy, b, o2, b2, c2⟩ := each k (by omega)
          have hfl : (xs.flatMap D.e).length = k * s := by
            have : ∀ l : List α, (l.flatMap D.e).length = l.length * s := by
              intro l
              induction l with
              | nil => simp
              | cons x l ih => simp [hD.len, ih, Nat.add_mul]; omega
            rw [this, l1]
          refine ⟨xs ++ [b], by simp [l1], fun b' hb' => ?_, ?_, fun j hj => ?_⟩
          · rcases List.mem_append.1 hb' with q | q
            · exact o1 _ q
            · simp at q; subst q; exact o2
          · have ht : elems.take (k + 1) = elems.take k ++ [y] := by
              rw [List.take_add_one, hy]; rfl
            have happ : ∀ l m : List (DataW H), Rows.uptoBulkAll (l ++ m) = Rows.uptoBulkAll l + Rows.uptoBulkAll m := by
              intro l m
              induction l with
              | nil => simp [Rows.uptoBulkAll]
              | cons x l ih => simp [Rows.uptoBulkAll, ih]; omega
            rw [ht, List.map_append, List.map_append, happ]
            simp only [List.map_cons, List.map_nil, List.sum_append, List.sum_cons, List.sum_nil, Rows.uptoBulkAll]
            omega
          · rw [Nat.add_mul, Nat.one_mul] at hj
            rw [List.flatMap_append]
            by_cases hjk : j < k * s
            · rw [c1 j hjk, List.getElem?_append_left (by omega)]
            · rw [List.getElem?_append_right (by omega), hfl]
              have := c2 (j - k * s) (by omega)
              rw [show k * s + (j - k * s) = j by omega] at this
              simpa using this
      obtain ⟨xs, l1, o1, b1, c1⟩ := all n (Nat.le_refl _)
      have hfl : (xs.flatMap D.e).length = n * s := by
        have : ∀ l : List α, (l.flatMap D.e).length = l.length * s := by
          intro l
          induction l with
          | nil => simp
          | cons x l ih => simp [hD.len, ih, Nat.add_mul]; omega
        rw [this, l1]
      refine ⟨(.slice (some a) n c, xs), rfl, ⟨?_, o1⟩, ?_⟩
      · show ExtSl w0 s (.slice (some a) n c) xs.length (xs.flatMap D.e)
        rw [l1]
        refine ⟨⟨_, _, rfl, hl, hcu⟩, fun nx ι => by
          by_cases hlt : a.block < w0.heap.size
          · exact .sext a n c hlt hl hcu
          · have hc0 := ha.resolve_left hlt
            subst hc0
            have hn0 : n = 0 := by omega
            subst hn0
            exact .sempty a a (by omega), fun h f => ⟨Nat.le_refl _, ?_⟩⟩
        by_cases h0 : n = 0
        · subst h0; left; exact ⟨rfl, List.eq_nil_of_length_eq_zero (by simpa using hfl)⟩
        · right
          have hpos : 0 < n * s := Nat.mul_pos (by omega) hs
          obtain ⟨q1, q2, q3⟩ := cells_ext hpos c1 hfl f
          refine ⟨by omega, a, rfl, q3, fun _ v hv => ?_⟩
          obtain ⟨b, hb, hv⟩ := List.mem_flatMap.1 hv
          exact hD.cl b (o1 b hb) v hv
      · rw [List.take_of_length_le (by omega)] at b1
        simp only [dSls, Rows.uptoBulk]
        omega
end
end Go.Proofs.Ythjpddggnhgjhaa.Ah
