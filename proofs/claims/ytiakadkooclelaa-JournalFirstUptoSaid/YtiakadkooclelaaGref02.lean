/- PRINTED by wip/tools/shallow.py: functions of the program as readable words, and that each is what its text says. -/
import Derived.Test.YtiakadkooclelaaGn
set_option linter.unusedVariables false
set_option linter.unusedSimpArgs false
namespace Go.Proofs.Ytiakadkooclelaa.Ah
open Go Go.Proofs.Try
noncomputable section

abbrev fn_dedupref02_Crc : Func := f38
def ks_dedupref02_Crc : List (Nat × List Nat × List Nat) := [(3, [0, 3, 4], [3]), (7, [0, 3, 4, 5], [0, 3, 4])]
def dedupref02_Crc_B2 (P : Program) (w0 : World) (R : Value → Value → Value → Value → Hp → Prop) (k2 : Value → Value → Value → Hp → Prop) (x0 x3 x4 x5 : Value) : Hp → Prop :=
 pureA (binA .lss x5 (.int .i64 8)) fun v19_6 =>
 condA v19_6 (
 pureA (binA .rem x3 (.int .u32 2)) fun v23_7 =>
 pureA (binA .eql v23_7 (.int .u32 1)) fun v24_8 =>
 condA v24_8 (
 pureA (binA .quo x3 (.int .u32 2)) fun v26_9 =>
 pureA (binA .xor v26_9 (.int .u32 2197175160)) fun v27_10 =>
 pureA (binA .add x5 (.int .i64 1)) fun v21_11 =>
 R x0 v27_10 x4 v21_11) (
 pureA (binA .quo x3 (.int .u32 2)) fun v29_12 =>
 pureA (binA .add x5 (.int .i64 1)) fun v21_13 =>
 R x0 v29_12 x4 v21_13)) (
 k2 x0 x3 x4)
def dedupref02_Crc_L2 (P : Program) (w0 : World) (k2 : Value → Value → Value → Hp → Prop) : Nat → Value → Value → Value → Value → Hp → Prop
  | 0, _, _, _, _ => fun _ => False
  | m + 1, x0, x3, x4, x5 => dedupref02_Crc_B2 P w0 (dedupref02_Crc_L2 P w0 k2 m) k2 x0 x3 x4 x5
def dedupref02_Crc_E2 (P : Program) (w0 : World) (k2 : Value → Value → Value → Hp → Prop) (x0 x3 x4 x5 : Value) : Hp → Prop := fun h => ∃ m, dedupref02_Crc_L2 P w0 k2 m x0 x3 x4 x5 h
def dedupref02_Crc_B1 (P : Program) (w0 : World) (R : Value → Value → Value → Hp → Prop) (k0 : Value → Hp → Prop) (x0 x3 x4 : Value) : Hp → Prop :=
 pureA (lenStr x0) fun v8_1 =>
 pureA (binA .lss x4 v8_1) fun v9_2 =>
 condA v9_2 (
 pureA (strIdxA x0 x4) fun v15_3 =>
 pureA (convA .u32 v15_3) fun v16_4 =>
 pureA (binA .xor x3 v16_4) fun v17_5 =>
 dedupref02_Crc_E2 P w0 (fun y0_14 y3_15 y4_16 =>
 pureA (binA .add y4_16 (.int .i64 1)) fun v11_17 =>
 R y0_14 y3_15 v11_17) x0 v17_5 x4 (.int .i64 0)) (
 k0 x3)
def dedupref02_Crc_L1 (P : Program) (w0 : World) (k0 : Value → Hp → Prop) : Nat → Value → Value → Value → Hp → Prop
  | 0, _, _, _ => fun _ => False
  | m + 1, x0, x3, x4 => dedupref02_Crc_B1 P w0 (dedupref02_Crc_L1 P w0 k0 m) k0 x0 x3 x4
def dedupref02_Crc_E1 (P : Program) (w0 : World) (k0 : Value → Hp → Prop) (x0 x3 x4 : Value) : Hp → Prop := fun h => ∃ m, dedupref02_Crc_L1 P w0 k0 m x0 x3 x4 h
def s_dedupref02_Crc (P : Program) (w0 : World) (a0 : Value) (R : Kont) : Hp → Prop :=
 dedupref02_Crc_E1 P w0 (fun y3_18 =>
 pureA (binA .xor y3_18 (.int .u32 4294967295)) fun v31_19 =>
 retA [v31_19] R) a0 (.int .u32 4294967295) (.int .i64 0)
def dedupref02_Crc_F2 (w0 : World) (k2 : Value → Value → Value → Hp → Prop) (m : Nat) (x0 x3 x4 x5 : Value) : Hp → Prop := loopA (stepL ⟨prog, w0, 32, ks_dedupref02_Crc⟩ (drw w0 32) (loopAt fn_dedupref02_Crc 1)) m (mkFr [(0, x0), (3, x3), (4, x4), (5, x5)]) [fun t => k2 (t 0) (t 3) (t 4)]
theorem dedupref02_Crc_L2_eq (w0 : World) (k2 : Value → Value → Value → Hp → Prop) : ∀ m, dedupref02_Crc_F2 w0 k2 m = dedupref02_Crc_L2 prog w0 k2 m := by
  intro m
  induction m with
  | zero => kernel_rfl
  | succ m ih =>
    show _ = fun x0 x3 x4 x5 => dedupref02_Crc_B2 prog w0 (dedupref02_Crc_L2 prog w0 k2 m) k2 x0 x3 x4 x5
    rw [← ih]
    kernel_rfl
theorem dedupref02_Crc_E2_eq (w0 : World) : dedupref02_Crc_E2 prog w0 = fun k2 x0 x3 x4 x5 h => ∃ m, dedupref02_Crc_F2 w0 k2 m x0 x3 x4 x5 h := by
  funext k2 x0 x3 x4 x5 h
  simp only [dedupref02_Crc_L2_eq]
  rfl
def dedupref02_Crc_F1 (w0 : World) (k0 : Value → Hp → Prop) (m : Nat) (x0 x3 x4 : Value) : Hp → Prop := loopA (stepL ⟨prog, w0, 32, ks_dedupref02_Crc⟩ (drw w0 32) (loopAt fn_dedupref02_Crc 0)) m (mkFr [(0, x0), (3, x3), (4, x4)]) [fun t => k0 (t 3)]
theorem dedupref02_Crc_L1_eq (w0 : World) (k0 : Value → Hp → Prop) : ∀ m, dedupref02_Crc_F1 w0 k0 m = dedupref02_Crc_L1 prog w0 k0 m := by
  intro m
  induction m with
  | zero => kernel_rfl
  | succ m ih =>
    show _ = fun x0 x3 x4 => dedupref02_Crc_B1 prog w0 (dedupref02_Crc_L1 prog w0 k0 m) k0 x0 x3 x4
    rw [← ih]
    unfold dedupref02_Crc_B1
    rw [dedupref02_Crc_E2_eq w0]
    kernel_rfl
theorem dedupref02_Crc_E1_eq (w0 : World) : dedupref02_Crc_E1 prog w0 = fun k0 x0 x3 x4 h => ∃ m, dedupref02_Crc_F1 w0 k0 m x0 x3 x4 h := by
  funext k0 x0 x3 x4 h
  simp only [dedupref02_Crc_L1_eq]
  rfl
theorem c_dedupref02_Crc {w0 : World} {h : Hp} {R : Kont} {a0 : Value} (hj : ∀ v, v ∈ [a0] → v ≠ junk) (hv : s_dedupref02_Crc prog w0 a0 R h) : ACalls prog w0 n_dedupref02_Crc [a0] h R :=
  c_of fn_dedupref02_Crc ks_dedupref02_Crc 32 (by kernel_rfl) (by kernel_rfl) (by simp) hj (by
    unfold s_dedupref02_Crc
    rw [dedupref02_Crc_E1_eq w0]
    kernel_rfl) hv

end
end Go.Proofs.Ytiakadkooclelaa.Ah
