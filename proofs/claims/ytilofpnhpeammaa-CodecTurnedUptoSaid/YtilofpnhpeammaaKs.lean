/- Numbers in slices; sameNumbers. -/
import Derived.Test.YtilofpnhpeammaaKu
import Derived.Test.YtilofpnhpeammaaAh20
set_option linter.unusedVariables false
set_option linter.unusedSimpArgs false
namespace Go.Proofs.Ytilofpnhpeammaa.Ah
open Go

def uv (n : Nat) : Value := .int .u64 (n : Int)
def uvs (l : List Nat) : List Value := l.map uv
@[simp] theorem uvs_length (l : List Nat) : (uvs l).length = l.length := by simp [uvs]
@[simp] theorem uvs_append (l m : List Nat) : uvs (l ++ m) = uvs l ++ uvs m := by simp [uvs]
theorem uvs_get (l : List Nat) (i : Nat) : (uvs l)[i]? = (l[i]?).map uv := by simp [uvs]

theorem same_loop {w0 : World} {k0 kr : Value → Hp → Prop} {h : Hp} {ax ay : Option Addr} {cx cy : Nat} {l m : List Nat} (hlm : l.length = m.length) (hll : l.length ≤ 140737488355328) (hx : Src w0.heap.size h 1 (.slice ax l.length cx) l.length (uvs l)) (hy : Src w0.heap.size h 1 (.slice ay m.length cy) m.length (uvs m)) :
    ∀ (k i : Nat), i + k = l.length → l.take i = m.take i → (l = m → k0 (.bool false) h) → (l ≠ m → kr (.bool false) h) →
    deduplaw02_sameNumbers_L1 prog w0 k0 kr (k + 1) (.slice ax l.length cx) (.slice ay m.length cy) (.bool false) (.int .i64 (l.length : Int)) (.int .i64 (i : Int)) h := by
  intro k
  induction k with
  | zero =>
    intro i hi ht h0 hr
    have c1 : decide ((i : Int) < (l.length : Int)) = false := decide_eq_false (by omega)
    have e : l = m := by rw [← List.take_length (l := l), ← List.take_length (l := m), ← hlm, show l.length = i by omega]; exact ht
    rw [deduplaw02_sameNumbers_L1]
    simp only [deduplaw02_sameNumbers_B1, binA_lss, pureA_some, c1, condA_false]
    exact h0 e
  | succ k ih =>
    intro i hi ht h0 hr
    have c1 : decide ((i : Int) < (l.length : Int)) = true := decide_eq_true (by omega)
    have hil : i < l.length := by omega
    have him : i < m.length := by omega
    have e6 : IntKind.i64.wrap ((i : Int) + 1) = ((i + 1 : Nat) : Int) := by rw [IntWalk.i64_in _ (by omega)]; simp
    rw [deduplaw02_sameNumbers_L1]
    simp only [deduplaw02_sameNumbers_B1, binA_lss, pureA_some, c1, condA_true, fpureQ_k, fpureQ_idxSlA, freadQ_loadA, fpureQ_pureA, fendA]
    refine idx_load1 (v := uv l[i]) hx (by simp) (by rw [uvs_get, List.getElem?_eq_getElem hil]; rfl) ?_
    refine idx_load1 (v := uv m[i]) hy (by simp) (by rw [uvs_get, List.getElem?_eq_getElem him]; rfl) ?_
    simp only [uv, binA_neq, pureA_some]
    by_cases he : l[i] = m[i]
    · have c2 : (((l[i] : Nat) : Int) != ((m[i] : Nat) : Int)) = false := by rw [he]; simp
      simp only [c2, condA_false, binA_add, pureA_some, e6]
      refine ih (i + 1) (by omega) ?_ h0 hr
      rw [List.take_add_one, List.take_add_one, ht, List.getElem?_eq_getElem hil, List.getElem?_eq_getElem him, he]
    · have c2 : (((l[i] : Nat) : Int) != ((m[i] : Nat) : Int)) = true := by simp only [bne_iff_ne, ne_eq]; omega
      simp only [c2, condA_true]
      exact hr (fun e => he (by subst e; rfl))
theorem sameNumbers_spec {w0 : World} {h : Hp} {ax ay : Option Addr} {cx cy : Nat} {l m : List Nat} (hll : l.length ≤ 140737488355328) (hx : Src w0.heap.size h 1 (.slice ax l.length cx) l.length (uvs l)) (hy : Src w0.heap.size h 1 (.slice ay m.length cy) m.length (uvs m)) :
    ACalls prog w0 n_deduplaw02_sameNumbers [.slice ax l.length cx, .slice ay m.length cy] h fun v h' => v = .bool (decide (l = m)) ∧ h' = h := by
  refine ACalls.of_fit (by simp) fun f => c_deduplaw02_sameNumbers (by simp) ?_
  simp only [s_deduplaw02_sameNumbers, lenSl_slice, pureA_some, binA_neq]
  by_cases hlm : l.length = m.length
  · have c1 : ((l.length : Int) != (m.length : Int)) = false := by simp; omega
    simp only [c1, condA_false, pureA_some]
    refine ⟨l.length + 1, same_loop hlm hll hx hy l.length 0 (by omega) rfl (fun e => ?_) (fun e => ?_)⟩
    · simp [e]
    · simp [e]
  · have c1 : ((l.length : Int) != (m.length : Int)) = true := by simp; omega
    have e : ¬ l = m := fun e => hlm (by rw [e])
    simp only [c1, condA_true]
    simp [e]
end Go.Proofs.Ytilofpnhpeammaa.Ah
