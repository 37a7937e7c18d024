/- Split, the program's and the document's. -/
import Derived.Test.YtihebhdgjnibfaaKs
set_option linter.unusedVariables false
set_option linter.unusedSimpArgs false
namespace Go.Proofs.Ytihebhdgjnibfaa.Ah
open Go

def nums : Nat → List UInt8 → List Nat
  | 0, _ => []
  | k + 1, l => rdn (l.take 8) :: nums k (l.drop 8)
@[simp] theorem nums_length (k : Nat) (l : List UInt8) : (nums k l).length = k := by
  induction k generalizing l with
  | zero => rfl
  | succ k ih => simp [nums, ih]
def rdk : Nat → RS → List Nat × RS
  | 0, st => ([], st)
  | k + 1, st => (rdn (st.raw 8).1 :: (rdk k (st.raw 8).2).1, (rdk k (st.raw 8).2).2)
@[simp] theorem rdk_length (k : Nat) (st : RS) : (rdk k st).1.length = k := by
  induction k generalizing st with
  | zero => rfl
  | succ k ih => simp [rdk, ih]
theorem rdk_err (k : Nat) (s : List UInt8) : (rdk k ⟨s, 20⟩).2.err = 20 := by
  induction k with
  | zero => rfl
  | succ k ih => rw [rdk, raw_err (by omega)]; exact ih
theorem rdk_ok : ∀ (k : Nat) (s : List UInt8), 8 * k ≤ s.length → rdk k ⟨s, 0⟩ = (nums k s, ⟨s.drop (8 * k), 0⟩) := by
  intro k
  induction k with
  | zero => intro s h; simp [rdk, nums]
  | succ k ih =>
    intro s h
    have h8 : (⟨s, 0⟩ : RS).raw 8 = (s.take 8, ⟨s.drop 8, 0⟩) := raw_ok (k := 8) (by omega)
    rw [rdk, h8, ih _ (by simp; omega), nums]
    simp [List.drop_drop, Nat.mul_add, Nat.add_comm]
theorem rdk_short : ∀ (k : Nat) (s : List UInt8), s.length < 8 * k → (rdk k ⟨s, 0⟩).2.err = 20 := by
  intro k
  induction k with
  | zero => intro s h; omega
  | succ k ih =>
    intro s h
    rw [rdk]
    by_cases h9 : s.length < 8
    · have h8 : (⟨s, 0⟩ : RS).raw 8 = ([], ⟨s, 20⟩) := raw_short (k := 8) h9
      rw [h8]
      exact rdk_err k s
    · have h8 : (⟨s, 0⟩ : RS).raw 8 = (s.take 8, ⟨s.drop 8, 0⟩) := raw_ok (k := 8) (by omega)
      rw [h8]
      exact ih _ (by simp; omega)
def spl (l : List UInt8) (k : Int) : Nat × List Nat × List UInt8 × Int :=
  if k < 0 ∨ 4 < k then (0, [], [], 1) else if (l.length : Int) < 1 + 8 * k then (0, [], [], 20) else (rdn (l.take 1), nums k.toNat (l.drop 1), l.drop (1 + 8 * k.toNat), 0)
/-- The four results of Split, as they lie in memory. -/
def splV (w0 : World) (h : Hp) (u : Nat × List Nat × List UInt8 × Int) (v : Value) (S : List Nat) : Prop :=
  ∃ x, v = .tuple #[.int .u8 (u.1 : Nat), x, .string (str u.2.2.1), .int .i64 u.2.2.2] ∧ Vec w0 h 1 x u.2.1.length (uvs u.2.1) S

theorem raw_all (q : List UInt8) : (⟨q, 0⟩ : RS).raw ((q.length : Nat) : Int) = (q, ⟨[], 0⟩) := by
  rw [raw_ok (Nat.le_refl _), List.take_length, List.drop_length]
end Go.Proofs.Ytihebhdgjnibfaa.Ah
