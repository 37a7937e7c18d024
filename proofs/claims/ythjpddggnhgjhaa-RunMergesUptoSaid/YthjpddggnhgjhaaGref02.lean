/- PRINTED by wip/tools/shallow.py: functions of the program as readable words, and that each is what its text says. -/
import Derived.Test.YthjpddggnhgjhaaGn
set_option linter.unusedVariables false
set_option linter.unusedSimpArgs false
namespace Go.Proofs.Ythjpddggnhgjhaa.Ah
open Go Go.Proofs.Try
noncomputable section

abbrev fn_dedupref02_Text : Func := f44
def ks_dedupref02_Text : List (Nat × List Nat × List Nat) := []
def s_dedupref02_Text (P : Program) (w0 : World) (a0 : Value) (R : Kont) : Hp → Prop :=
 pureA (lenStr a0) fun v4_1 =>
 pureA (convA .u64 v4_1) fun v5_2 =>
 callA P w0 n_dedupref02_Varint [v5_2] fun v6_3 =>
 pureA (binA .add v6_3 a0) fun v8_4 =>
 retA [v8_4] R
theorem c_dedupref02_Text {w0 : World} {h : Hp} {R : Kont} {a0 : Value} (hj : ∀ v, v ∈ [a0] → v ≠ junk) (hv : s_dedupref02_Text prog w0 a0 R h) : ACalls prog w0 n_dedupref02_Text [a0] h R := by
  have e : vcFn ⟨prog, w0, 9, ks_dedupref02_Text⟩ (drw w0 9) fn_dedupref02_Text [a0] R h = s_dedupref02_Text prog w0 a0 R h := by
    kernel_rfl
  exact acalls_of_eq (fn := fn_dedupref02_Text) (ks := ks_dedupref02_Text) (n := 9) (by kernel_rfl) (by kernel_rfl) (draw_ok (by kernel_rfl)) (by simp) hj e hv

abbrev fn_dedupref02_Varint : Func := f45
def ks_dedupref02_Varint : List (Nat × List Nat × List Nat) := [(2, [0, 3], [0, 3])]
def dedupref02_Varint_B1 (P : Program) (w0 : World) (R : Value → Value → Hp → Prop) (k0 : Value → Value → Hp → Prop) (x0 x3 : Value) : Hp → Prop :=
 pureA (binA .geq x0 (.int .u64 128)) fun v5_1 =>
 condA v5_1 (
 pureA (binA .rem x0 (.int .u64 128)) fun v8_2 =>
 pureA (convA .u8 v8_2) fun v9_3 =>
 pureA (binA .add v9_3 (.int .u8 128)) fun v10_4 =>
 bslA [(0, 1, false, v10_4)] (zerosL [(.int .u8 0)] 1) 1 1 fun v11_5 =>
 appA w0 1 1 x3 v11_5 fun v12_6 =>
 pureA (binA .quo x0 (.int .u64 128)) fun v14_7 =>
 R v14_7 v12_6) (
 k0 x0 x3)
def dedupref02_Varint_L1 (P : Program) (w0 : World) (k0 : Value → Value → Hp → Prop) : Nat → Value → Value → Hp → Prop
  | 0, _, _ => fun _ => False
  | m + 1, x0, x3 => dedupref02_Varint_B1 P w0 (dedupref02_Varint_L1 P w0 k0 m) k0 x0 x3
def dedupref02_Varint_E1 (P : Program) (w0 : World) (k0 : Value → Value → Hp → Prop) (x0 x3 : Value) : Hp → Prop := fun h => ∃ m, dedupref02_Varint_L1 P w0 k0 m x0 x3 h
def s_dedupref02_Varint (P : Program) (w0 : World) (a0 : Value) (R : Kont) : Hp → Prop :=
 dedupref02_Varint_E1 P w0 (fun y0_8 y3_9 =>
 pureA (convA .u8 y0_8) fun v17_10 =>
 bslA [(0, 1, false, v17_10)] (zerosL [(.int .u8 0)] 1) 1 1 fun v18_11 =>
 appA w0 1 1 y3_9 v18_11 fun v19_12 =>
 b2sA w0 v19_12 fun v20_13 =>
 retA [v20_13] R) a0 (.slice none 0 0)
theorem dedupref02_Varint_L1_eq (w0 : World) (k0 : Value → Value → Hp → Prop) : ∀ (m : Nat) (x0 x3 : Value) (h : Hp), loopA (stepL ⟨prog, w0, 21, ks_dedupref02_Varint⟩ (drw w0 21) (loopAt fn_dedupref02_Varint 0)) m (mkFr [(0, x0), (3, x3)]) [fun t => k0 (t 0) (t 3)] h = dedupref02_Varint_L1 prog w0 k0 m x0 x3 h := by
  intro m
  induction m with
  | zero => intros; kernel_rfl
  | succ m ih =>
    intro x0 x3 h
    have e : dedupref02_Varint_L1 prog w0 k0 m = fun x0 x3 h => loopA (stepL ⟨prog, w0, 21, ks_dedupref02_Varint⟩ (drw w0 21) (loopAt fn_dedupref02_Varint 0)) m (mkFr [(0, x0), (3, x3)]) [fun t => k0 (t 0) (t 3)] h := by funext x0 x3 h; exact (ih x0 x3 h).symm
    show _ = dedupref02_Varint_B1 prog w0 (dedupref02_Varint_L1 prog w0 k0 m) k0 x0 x3 h
    rw [e]
    kernel_rfl
theorem dedupref02_Varint_E1_eq (w0 : World) : dedupref02_Varint_E1 prog w0 = fun k0 x0 x3 h => ∃ m, loopA (stepL ⟨prog, w0, 21, ks_dedupref02_Varint⟩ (drw w0 21) (loopAt fn_dedupref02_Varint 0)) m (mkFr [(0, x0), (3, x3)]) [fun t => k0 (t 0) (t 3)] h := by
  funext k0 x0 x3 h
  exact congrArg Exists (funext fun m => (dedupref02_Varint_L1_eq w0 k0 m x0 x3 h).symm)
theorem c_dedupref02_Varint {w0 : World} {h : Hp} {R : Kont} {a0 : Value} (hj : ∀ v, v ∈ [a0] → v ≠ junk) (hv : s_dedupref02_Varint prog w0 a0 R h) : ACalls prog w0 n_dedupref02_Varint [a0] h R := by
  have e : vcFn ⟨prog, w0, 21, ks_dedupref02_Varint⟩ (drw w0 21) fn_dedupref02_Varint [a0] R h = s_dedupref02_Varint prog w0 a0 R h := by
    unfold s_dedupref02_Varint
    rw [dedupref02_Varint_E1_eq w0]
    kernel_rfl
  exact acalls_of_eq (fn := fn_dedupref02_Varint) (ks := ks_dedupref02_Varint) (n := 21) (by kernel_rfl) (by kernel_rfl) (draw_ok (by kernel_rfl)) (by simp) hj e hv

abbrev fn_dedupref02_Number : Func := f46
def ks_dedupref02_Number : List (Nat × List Nat × List Nat) := [(3, [0, 5, 6], [5])]
def dedupref02_Number_B1 (P : Program) (w0 : World) (R : Value → Value → Value → Hp → Prop) (k0 : Value → Hp → Prop) (x0 x5 x6 : Value) : Hp → Prop :=
 pureA (binA .geq x6 (.int .i64 0)) fun v10_2 =>
 condA v10_2 (
 pureA (binA .mul (.int .i64 8) x6) fun v16_3 =>
 pureA (binA .shr x0 v16_3) fun v17_4 =>
 pureA (convA .u8 v17_4) fun v18_5 =>
 bslA [(0, 1, false, v18_5)] (zerosL [(.int .u8 0)] 1) 1 1 fun v19_6 =>
 appA w0 1 1 x5 v19_6 fun v20_7 =>
 pureA (binA .sub x6 (.int .i64 1)) fun v12_8 =>
 R x0 v20_7 v12_8) (
 k0 x5)
def dedupref02_Number_L1 (P : Program) (w0 : World) (k0 : Value → Hp → Prop) : Nat → Value → Value → Value → Hp → Prop
  | 0, _, _, _ => fun _ => False
  | m + 1, x0, x5, x6 => dedupref02_Number_B1 P w0 (dedupref02_Number_L1 P w0 k0 m) k0 x0 x5 x6
def dedupref02_Number_E1 (P : Program) (w0 : World) (k0 : Value → Hp → Prop) (x0 x5 x6 : Value) : Hp → Prop := fun h => ∃ m, dedupref02_Number_L1 P w0 k0 m x0 x5 x6 h
def s_dedupref02_Number (P : Program) (w0 : World) (a0 a1 : Value) (R : Kont) : Hp → Prop :=
 pureA (binA .sub a1 (.int .i64 1)) fun v8_1 =>
 dedupref02_Number_E1 P w0 (fun y5_9 =>
 b2sA w0 y5_9 fun v22_10 =>
 retA [v22_10] R) a0 (.slice none 0 0) v8_1
theorem dedupref02_Number_L1_eq (w0 : World) (k0 : Value → Hp → Prop) : ∀ (m : Nat) (x0 x5 x6 : Value) (h : Hp), loopA (stepL ⟨prog, w0, 23, ks_dedupref02_Number⟩ (drw w0 23) (loopAt fn_dedupref02_Number 0)) m (mkFr [(0, x0), (5, x5), (6, x6)]) [fun t => k0 (t 5)] h = dedupref02_Number_L1 prog w0 k0 m x0 x5 x6 h := by
  intro m
  induction m with
  | zero => intros; kernel_rfl
  | succ m ih =>
    intro x0 x5 x6 h
    have e : dedupref02_Number_L1 prog w0 k0 m = fun x0 x5 x6 h => loopA (stepL ⟨prog, w0, 23, ks_dedupref02_Number⟩ (drw w0 23) (loopAt fn_dedupref02_Number 0)) m (mkFr [(0, x0), (5, x5), (6, x6)]) [fun t => k0 (t 5)] h := by funext x0 x5 x6 h; exact (ih x0 x5 x6 h).symm
    show _ = dedupref02_Number_B1 prog w0 (dedupref02_Number_L1 prog w0 k0 m) k0 x0 x5 x6 h
    rw [e]
    kernel_rfl
theorem dedupref02_Number_E1_eq (w0 : World) : dedupref02_Number_E1 prog w0 = fun k0 x0 x5 x6 h => ∃ m, loopA (stepL ⟨prog, w0, 23, ks_dedupref02_Number⟩ (drw w0 23) (loopAt fn_dedupref02_Number 0)) m (mkFr [(0, x0), (5, x5), (6, x6)]) [fun t => k0 (t 5)] h := by
  funext k0 x0 x5 x6 h
  exact congrArg Exists (funext fun m => (dedupref02_Number_L1_eq w0 k0 m x0 x5 x6 h).symm)
theorem c_dedupref02_Number {w0 : World} {h : Hp} {R : Kont} {a0 a1 : Value} (hj : ∀ v, v ∈ [a0, a1] → v ≠ junk) (hv : s_dedupref02_Number prog w0 a0 a1 R h) : ACalls prog w0 n_dedupref02_Number [a0, a1] h R := by
  have e : vcFn ⟨prog, w0, 23, ks_dedupref02_Number⟩ (drw w0 23) fn_dedupref02_Number [a0, a1] R h = s_dedupref02_Number prog w0 a0 a1 R h := by
    unfold s_dedupref02_Number
    rw [dedupref02_Number_E1_eq w0]
    kernel_rfl
  exact acalls_of_eq (fn := fn_dedupref02_Number) (ks := ks_dedupref02_Number) (n := 23) (by kernel_rfl) (by kernel_rfl) (draw_ok (by kernel_rfl)) (by simp) hj e hv

abbrev fn_dedupref02_Crc : Func := f47
def ks_dedupref02_Crc : List (Nat × List Nat × List Nat) := [(3, [0, 3, 4], [3]), (7, [0, 3, 4, 5], [0, 3, 4])]
def dedupref02_Crc_B2 (P : Program) (w0 : World) (R : Value → Value → Value → Value → Hp → Prop) (k2 : Value → Value → Value → Hp → Prop) (x0 x3 x4 x5 : Value) : Hp → Prop :=
 pureA (binA .lss x5 (.int .i64 8)) fun v19_6 =>
 condA v19_6 (
 pureA (binA .rem x3 (.int .u32 2)) fun v23_7 =>
 pureA (binA .eql v23_7 (.int .u32 1)) fun v24_8 =>
 condA v24_8 (
 pureA (binA .quo x3 (.int .u32 2)) fun v26_9 =>
 pureA (binA .xor v26_9 (.int .u32 2197175160)) fun v27_10 =>
 pureA (binA .add x5 (.int .i64 1)) fun v21_11 =>
 R x0 v27_10 x4 v21_11) (
 pureA (binA .quo x3 (.int .u32 2)) fun v29_12 =>
 pureA (binA .add x5 (.int .i64 1)) fun v21_13 =>
 R x0 v29_12 x4 v21_13)) (
 k2 x0 x3 x4)
def dedupref02_Crc_L2 (P : Program) (w0 : World) (k2 : Value → Value → Value → Hp → Prop) : Nat → Value → Value → Value → Value → Hp → Prop
  | 0, _, _, _, _ => fun _ => False
  | m + 1, x0, x3, x4, x5 => dedupref02_Crc_B2 P w0 (dedupref02_Crc_L2 P w0 k2 m) k2 x0 x3 x4 x5
def dedupref02_Crc_E2 (P : Program) (w0 : World) (k2 : Value → Value → Value → Hp → Prop) (x0 x3 x4 x5 : Value) : Hp → Prop := fun h => ∃ m, dedupref02_Crc_L2 P w0 k2 m x0 x3 x4 x5 h
def dedupref02_Crc_B1 (P : Program) (w0 : World) (R : Value → Value → Value → Hp → Prop) (k0 : Value → Hp → Prop) (x0 x3 x4 : Value) : Hp → Prop :=
 pureA (lenStr x0) fun v8_1 =>
 pureA (binA .lss x4 v8_1) fun v9_2 =>
 condA v9_2 (
 pureA (strIdxA x0 x4) fun v15_3 =>
 pureA (convA .u32 v15_3) fun v16_4 =>
 pureA (binA .xor x3 v16_4) fun v17_5 =>
 dedupref02_Crc_E2 P w0 (fun y0_14 y3_15 y4_16 =>
 pureA (binA .add y4_16 (.int .i64 1)) fun v11_17 =>
 R y0_14 y3_15 v11_17) x0 v17_5 x4 (.int .i64 0)) (
 k0 x3)
def dedupref02_Crc_L1 (P : Program) (w0 : World) (k0 : Value → Hp → Prop) : Nat → Value → Value → Value → Hp → Prop
  | 0, _, _, _ => fun _ => False
  | m + 1, x0, x3, x4 => dedupref02_Crc_B1 P w0 (dedupref02_Crc_L1 P w0 k0 m) k0 x0 x3 x4
def dedupref02_Crc_E1 (P : Program) (w0 : World) (k0 : Value → Hp → Prop) (x0 x3 x4 : Value) : Hp → Prop := fun h => ∃ m, dedupref02_Crc_L1 P w0 k0 m x0 x3 x4 h
def s_dedupref02_Crc (P : Program) (w0 : World) (a0 : Value) (R : Kont) : Hp → Prop :=
 dedupref02_Crc_E1 P w0 (fun y3_18 =>
 pureA (binA .xor y3_18 (.int .u32 4294967295)) fun v31_19 =>
 retA [v31_19] R) a0 (.int .u32 4294967295) (.int .i64 0)
theorem dedupref02_Crc_L2_eq (w0 : World) (k2 : Value → Value → Value → Hp → Prop) : ∀ (m : Nat) (x0 x3 x4 x5 : Value) (h : Hp), loopA (stepL ⟨prog, w0, 32, ks_dedupref02_Crc⟩ (drw w0 32) (loopAt fn_dedupref02_Crc 1)) m (mkFr [(0, x0), (3, x3), (4, x4), (5, x5)]) [fun t => k2 (t 0) (t 3) (t 4)] h = dedupref02_Crc_L2 prog w0 k2 m x0 x3 x4 x5 h := by
  intro m
  induction m with
  | zero => intros; kernel_rfl
  | succ m ih =>
    intro x0 x3 x4 x5 h
    have e : dedupref02_Crc_L2 prog w0 k2 m = fun x0 x3 x4 x5 h => loopA (stepL ⟨prog, w0, 32, ks_dedupref02_Crc⟩ (drw w0 32) (loopAt fn_dedupref02_Crc 1)) m (mkFr [(0, x0), (3, x3), (4, x4), (5, x5)]) [fun t => k2 (t 0) (t 3) (t 4)] h := by funext x0 x3 x4 x5 h; exact (ih x0 x3 x4 x5 h).symm
    show _ = dedupref02_Crc_B2 prog w0 (dedupref02_Crc_L2 prog w0 k2 m) k2 x0 x3 x4 x5 h
    rw [e]
    kernel_rfl
theorem dedupref02_Crc_E2_eq (w0 : World) : dedupref02_Crc_E2 prog w0 = fun k2 x0 x3 x4 x5 h => ∃ m, loopA (stepL ⟨prog, w0, 32, ks_dedupref02_Crc⟩ (drw w0 32) (loopAt fn_dedupref02_Crc 1)) m (mkFr [(0, x0), (3, x3), (4, x4), (5, x5)]) [fun t => k2 (t 0) (t 3) (t 4)] h := by
  funext k2 x0 x3 x4 x5 h
  exact congrArg Exists (funext fun m => (dedupref02_Crc_L2_eq w0 k2 m x0 x3 x4 x5 h).symm)
theorem dedupref02_Crc_L1_eq (w0 : World) (k0 : Value → Hp → Prop) : ∀ (m : Nat) (x0 x3 x4 : Value) (h : Hp), loopA (stepL ⟨prog, w0, 32, ks_dedupref02_Crc⟩ (drw w0 32) (loopAt fn_dedupref02_Crc 0)) m (mkFr [(0, x0), (3, x3), (4, x4)]) [fun t => k0 (t 3)] h = dedupref02_Crc_L1 prog w0 k0 m x0 x3 x4 h := by
  intro m
  induction m with
  | zero => intros; kernel_rfl
  | succ m ih =>
    intro x0 x3 x4 h
    have e : dedupref02_Crc_L1 prog w0 k0 m = fun x0 x3 x4 h => loopA (stepL ⟨prog, w0, 32, ks_dedupref02_Crc⟩ (drw w0 32) (loopAt fn_dedupref02_Crc 0)) m (mkFr [(0, x0), (3, x3), (4, x4)]) [fun t => k0 (t 3)] h := by funext x0 x3 x4 h; exact (ih x0 x3 x4 h).symm
    show _ = dedupref02_Crc_B1 prog w0 (dedupref02_Crc_L1 prog w0 k0 m) k0 x0 x3 x4 h
    rw [e]
    unfold dedupref02_Crc_B1
    rw [dedupref02_Crc_E2_eq w0]
    kernel_rfl
theorem dedupref02_Crc_E1_eq (w0 : World) : dedupref02_Crc_E1 prog w0 = fun k0 x0 x3 x4 h => ∃ m, loopA (stepL ⟨prog, w0, 32, ks_dedupref02_Crc⟩ (drw w0 32) (loopAt fn_dedupref02_Crc 0)) m (mkFr [(0, x0), (3, x3), (4, x4)]) [fun t => k0 (t 3)] h := by
  funext k0 x0 x3 x4 h
  exact congrArg Exists (funext fun m => (dedupref02_Crc_L1_eq w0 k0 m x0 x3 x4 h).symm)
theorem c_dedupref02_Crc {w0 : World} {h : Hp} {R : Kont} {a0 : Value} (hj : ∀ v, v ∈ [a0] → v ≠ junk) (hv : s_dedupref02_Crc prog w0 a0 R h) : ACalls prog w0 n_dedupref02_Crc [a0] h R := by
  have e : vcFn ⟨prog, w0, 32, ks_dedupref02_Crc⟩ (drw w0 32) fn_dedupref02_Crc [a0] R h = s_dedupref02_Crc prog w0 a0 R h := by
    unfold s_dedupref02_Crc
    rw [dedupref02_Crc_E1_eq w0]
    kernel_rfl
  exact acalls_of_eq (fn := fn_dedupref02_Crc) (ks := ks_dedupref02_Crc) (n := 32) (by kernel_rfl) (by kernel_rfl) (draw_ok (by kernel_rfl)) (by simp) hj e hv

end
end Go.Proofs.Ythjpddggnhgjhaa.Ah
