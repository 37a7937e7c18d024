/- deduplaw02.awake: true. -/
import Derived.Test.YtiakadkooclelaaKc
import Derived.Test.YtiakadkooclelaaGlaw02
set_option linter.unusedVariables false
set_option linter.unusedSimpArgs false
namespace Go.Proofs.Ytiakadkooclelaa.Ah
open Go

theorem vi300 : vi 300 = [172, 2] := by
  unfold vi; rw [dif_neg (by omega)]; unfold vi; rw [dif_pos (by omega)]; rfl
theorem vi2 : vi 2 = [2] := by unfold vi; rw [dif_pos (by omega)]; rfl
theorem binPtr_ptr (p : Nat) : binPtrA .eql (ptr p) (.pointer none) = some (.bool false) := rfl
@[simp] theorem ptr_junk (p : Nat) : ¬ (ptr p = junk) := by simp [ptr]
theorem binA_strneq (a b : ByteArray) : binA .neq (.string a) (.string b) = some (.bool (!decide (a = b))) := by
  simp only [binA, strA]
  congr 2
  by_cases h : a = b
  · subst h; simp
  · simp [h, toList_eq]
theorem binA_streql (a b : ByteArray) : binA .eql (.string a) (.string b) = some (.bool (decide (a = b))) := by
  simp only [binA, strA]
  congr 2
  by_cases h : a = b
  · subst h; simp
  · simp [h, toList_eq]

end Go.Proofs.Ytiakadkooclelaa.Ah
