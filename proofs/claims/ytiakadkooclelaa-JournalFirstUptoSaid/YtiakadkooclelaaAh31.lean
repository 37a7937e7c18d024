/- Appending one element; loops that read a slice and write a vector. -/
import Derived.Test.YtiakadkooclelaaAh30
set_option linter.unusedVariables false
set_option linter.unusedSimpArgs false
namespace Go.Proofs.Ytiakadkooclelaa.Ah
open Go
section
variable {w0 : World} {h h' : Hp} {s n : Nat} {x : Value} {cs e z : List Value} {S : List Nat}
theorem bsl1 {K : Kont} {v z1 : Value} (hv : isCell v = true) (hk : K (.slice (some ⟨h.next, 0, none⟩) 1 1) (h.new [v] 1)) : bslA [(0, 1, false, v)] (zerosL [z1] 1) 1 1 K h := by
  have hz1 : zerosL [z1] 1 = [z1] := rfl
  rw [bslA_iff, fillA_one, fillA_nil, hz1]
  exact ⟨hv, by simp, hk⟩
theorem app1_vec {by_ : Nat} {K : Kont} {v z1 : Value} (hf : w0.heap.size ≤ h.next) (g : GV w0 h 1 x n cs S) (hv : isCell v = true) (hb : (n + 1) * by_ ≤ 140737488355328) (hn : n + 1 ≤ 140737488355328)
    (hk : ∀ x' h' S', Vec w0 h' 1 x' (n + 1) (cs ++ [v]) S' → Step h h' S S' → K x' h') : bslA [(0, 1, false, v)] (zerosL [z1] 1) 1 1 (fun v => appA w0 1 by_ x v K) h := by
  refine bsl1 hv ?_
  have s0 : Step h (h.new [v] 1) [] [h.next] := (Step.refl h [] (by simp)).new _ _
  refine appA_gv_pos (m := 1) (by simp; omega) (g.frame s0 (by simp)) (by omega) rfl (src_new hf (by simp)) (by simp) hb hn (by omega) fun x' h2 S' v' st => ?_
  exact hk x' h2 S' v' ((s0.less (T := []) (by simp)).wide (T := S) (T' := S) (by simp) (fun b hb => .inr ⟨hb, (g.lt b hb).2⟩) |>.trans st)
theorem Step.keepS (a : Step h h' [] []) (hS : ∀ b, b ∈ S → b < h.next) : Step h h' S S := a.wide (by simp) (fun b hb => .inr ⟨hb, hS b hb⟩)
theorem Step.claim {T : List Nat} (a : Step h h' S []) (hT : ∀ b, b ∈ T → b < h'.next ∧ h.next ≤ b) : Step h h' S T := ⟨a.1, a.2, fun b hb => ⟨(hT b hb).1, .inr (hT b hb).2⟩, a.4⟩
theorem Step.base {S' : List Nat} (a : Step h h' S S') (hf : w0.heap.size ≤ h.next) : w0.heap.size ≤ h'.next := Nat.le_trans hf a.1
theorem Sl.elem {i : Nat} {ys : List Value} {k : IntKind} {K : Kont} (v : Sl w0 h s x n ys) (hi : i < n) (he : (ys.drop (i * s)).take s = e) (hk : K (.agg e.toArray) h) : idxSlA s x (.int k (i : Int)) (fun p => loadNA w0 p s K) h := by
  obtain ⟨a, c, rfl⟩ := v.slice
  refine idx_loadN v.src hi ?_
  rw [he]
  exact hk
theorem Sl.place {i : Nat} {ys : List Value} {k : IntKind} {K : Kont} (v : Sl w0 h s x n ys) (hi : i < n) (he : (ys.drop (i * s)).take s = e)
    (hk : ∀ p, (∀ h' K', Sl w0 h' s x n ys → K' (.agg e.toArray) h' → loadNA w0 p s K' h') → K p h) : idxSlA s x (.int k (i : Int)) K h := by
  obtain ⟨a, c, rfl⟩ := v.slice
  rcases v.src.2 with ⟨q, -⟩ | ⟨-, ad, rfl, -⟩
  · omega
  · refine ⟨ad, n, c, k, i, rfl, rfl, by omega, by omega, hk _ fun h' K' v' k' => ?_⟩
    have := v'.elem (k := k) hi he k'
    obtain ⟨ad', n', c', k2, j, e1, e2, -, -, r⟩ := this
    cases e1
    cases e2
    exact r
theorem Sl.lenv {ys : List Value} (v : Sl w0 h s x n ys) : lenSl x = some (.int .i64 (n : Int)) := by
  obtain ⟨a, c, rfl⟩ := v.slice
  rfl
theorem Sl.one {i : Nat} {ys : List Value} {u : Value} {k : IntKind} {K : Kont} (v : Sl w0 h 1 x n ys) (hv : ys[i]? = some u) (hk : K u h) : idxSlA 1 x (.int k (i : Int)) (fun p => loadA w0 p K) h := by
  obtain ⟨a, c, rfl⟩ := v.slice
  exact idx_load1 v.src (by simpa using v.len) hv hk
end
end Go.Proofs.Ytiakadkooclelaa.Ah
