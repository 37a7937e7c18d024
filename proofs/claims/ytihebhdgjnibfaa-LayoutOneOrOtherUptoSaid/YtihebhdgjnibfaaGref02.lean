/- PRINTED by wip/tools/shallow.py: functions of the program as readable words, and that each is what its text says. -/
import Derived.Test.YtihebhdgjnibfaaGn
set_option linter.unusedVariables false
set_option linter.unusedSimpArgs false
namespace Go.Proofs.Ytihebhdgjnibfaa.Ah
open Go Go.Proofs.Try
noncomputable section

abbrev fn_dedupref02_Number : Func := f42
def ks_dedupref02_Number : List (Nat × List Nat × List Nat) := [(3, [0, 5, 6], [5])]
def dedupref02_Number_B1 (P : Program) (w0 : World) (R : Value → Value → Value → Hp → Prop) (k0 : Value → Hp → Prop) (x0 x5 x6 : Value) : Hp → Prop :=
 pureA (binA .geq x6 (.int .i64 0)) fun v10_2 =>
 condA v10_2 (
 pureA (binA .mul (.int .i64 8) x6) fun v16_3 =>
 pureA (binA .shr x0 v16_3) fun v17_4 =>
 pureA (convA .u8 v17_4) fun v18_5 =>
 bslA [(0, 1, false, v18_5)] (zerosL [(.int .u8 0)] 1) 1 1 fun v19_6 =>
 appA w0 1 1 x5 v19_6 fun v20_7 =>
 pureA (binA .sub x6 (.int .i64 1)) fun v12_8 =>
 R x0 v20_7 v12_8) (
 k0 x5)
def dedupref02_Number_L1 (P : Program) (w0 : World) (k0 : Value → Hp → Prop) : Nat → Value → Value → Value → Hp → Prop
  | 0, _, _, _ => fun _ => False
  | m + 1, x0, x5, x6 => dedupref02_Number_B1 P w0 (dedupref02_Number_L1 P w0 k0 m) k0 x0 x5 x6
def dedupref02_Number_E1 (P : Program) (w0 : World) (k0 : Value → Hp → Prop) (x0 x5 x6 : Value) : Hp → Prop := fun h => ∃ m, dedupref02_Number_L1 P w0 k0 m x0 x5 x6 h
def s_dedupref02_Number (P : Program) (w0 : World) (a0 a1 : Value) (R : Kont) : Hp → Prop :=
 pureA (binA .sub a1 (.int .i64 1)) fun v8_1 =>
 dedupref02_Number_E1 P w0 (fun y5_9 =>
 b2sA w0 y5_9 fun v22_10 =>
 retA [v22_10] R) a0 (.slice none 0 0) v8_1
theorem dedupref02_Number_L1_eq (w0 : World) (k0 : Value → Hp → Prop) : ∀ (m : Nat) (x0 x5 x6 : Value) (h : Hp), loopA (stepL ⟨prog, w0, 23, ks_dedupref02_Number⟩ (drw w0 23) (loopAt fn_dedupref02_Number 0)) m (mkFr [(0, x0), (5, x5), (6, x6)]) [fun t => k0 (t 5)] h = dedupref02_Number_L1 prog w0 k0 m x0 x5 x6 h := by
  intro m
  induction m with
  | zero => intros; kernel_rfl
  | succ m ih =>
    intro x0 x5 x6 h
    have e : dedupref02_Number_L1 prog w0 k0 m = fun x0 x5 x6 h => loopA (stepL ⟨prog, w0, 23, ks_dedupref02_Number⟩ (drw w0 23) (loopAt fn_dedupref02_Number 0)) m (mkFr [(0, x0), (5, x5), (6, x6)]) [fun t => k0 (t 5)] h := by funext x0 x5 x6 h; exact (ih x0 x5 x6 h).symm
    show _ = dedupref02_Number_B1 prog w0 (dedupref02_Number_L1 prog w0 k0 m) k0 x0 x5 x6 h
    rw [e]
    kernel_rfl
theorem dedupref02_Number_E1_eq (w0 : World) : dedupref02_Number_E1 prog w0 = fun k0 x0 x5 x6 h => ∃ m, loopA (stepL ⟨prog, w0, 23, ks_dedupref02_Number⟩ (drw w0 23) (loopAt fn_dedupref02_Number 0)) m (mkFr [(0, x0), (5, x5), (6, x6)]) [fun t => k0 (t 5)] h := by
  funext k0 x0 x5 x6 h
  exact congrArg Exists (funext fun m => (dedupref02_Number_L1_eq w0 k0 m x0 x5 x6 h).symm)
theorem c_dedupref02_Number {w0 : World} {h : Hp} {R : Kont} {a0 a1 : Value} (hj : ∀ v, v ∈ [a0, a1] → v ≠ junk) (hv : s_dedupref02_Number prog w0 a0 a1 R h) : ACalls prog w0 n_dedupref02_Number [a0, a1] h R := by
  have e : vcFn ⟨prog, w0, 23, ks_dedupref02_Number⟩ (drw w0 23) fn_dedupref02_Number [a0, a1] R h = s_dedupref02_Number prog w0 a0 a1 R h := by
    unfold s_dedupref02_Number
    rw [dedupref02_Number_E1_eq w0]
    kernel_rfl
  exact acalls_of_eq (fn := fn_dedupref02_Number) (ks := ks_dedupref02_Number) (n := 23) (by kernel_rfl) (by kernel_rfl) (draw_ok (by kernel_rfl)) (by simp) hj e hv

abbrev fn_dedupref02_Frame : Func := f43
def ks_dedupref02_Frame : List (Nat × List Nat × List Nat) := []
def s_dedupref02_Frame (P : Program) (w0 : World) (a0 a1 : Value) (R : Kont) : Hp → Prop :=
 pureA (lenStr a1) fun v8_1 =>
 pureA (binA .gtr v8_1 (.int .i64 1048576)) fun v9_2 =>
 condA v9_2 (
 retA [(.string .empty), (.int .i64 3)] R) (
 pureQ (fun K => K a0) fun v10_3 =>
 pureQ (fun K => K a1) fun v14_4 =>
 pureQ (pureA (lenStr v14_4)) fun v15_5 =>
 pureQ (pureA (convA .u64 v15_5)) fun v16_6 =>
 pureQ (fun K => K a1) fun v19_7 =>
 allA [
 (bslA [(0, 1, false, v10_3), (1, 1, false, (.int .u8 0))] (zerosL [(.int .u8 0)] 2) 2 1 fun v11_8 =>
 stillA [] (
 readQ (b2sA w0 v11_8) fun v12_9 =>
 pureQ (pureA (binA .add (.string ⟨#[68, 70]⟩) v12_9)) fun v13_10 =>
 allA [
 (callA P w0 n_dedupref02_Number [v16_6, (.int .i64 4)] fun v17_11 =>
 stillA [(sameQ (b2sA w0 v11_8) v12_9)] (
 pureQ (pureA (binA .add v13_10 v17_11)) fun v18_12 =>
 pureQ (pureA (binA .add v18_12 v19_7)) fun v20_13 =>
 pureQ (fun K => K v20_13) fun v6_14 =>
 endA (
 callA P w0 n_dedupref02_Crc [v6_14] fun v23_15 =>
 pureA (convA .u64 v23_15) fun v24_16 =>
 callA P w0 n_dedupref02_Number [v24_16, (.int .i64 4)] fun v25_17 =>
 pureA (binA .add v6_14 v25_17) fun v26_18 =>
 retA [v26_18, (.int .i64 0)] R)))])),
 (callA P w0 n_dedupref02_Number [v16_6, (.int .i64 4)] fun v17_19 =>
 stillA [] (
 allA [
 (bslA [(0, 1, false, v10_3), (1, 1, false, (.int .u8 0))] (zerosL [(.int .u8 0)] 2) 2 1 fun v11_20 =>
 stillA [] (
 readQ (b2sA w0 v11_20) fun v12_21 =>
 pureQ (pureA (binA .add (.string ⟨#[68, 70]⟩) v12_21)) fun v13_22 =>
 pureQ (pureA (binA .add v13_22 v17_19)) fun v18_23 =>
 pureQ (pureA (binA .add v18_23 v19_7)) fun v20_24 =>
 pureQ (fun K => K v20_24) fun v6_25 =>
 endA (
 callA P w0 n_dedupref02_Crc [v6_25] fun v23_26 =>
 pureA (convA .u64 v23_26) fun v24_27 =>
 callA P w0 n_dedupref02_Number [v24_27, (.int .i64 4)] fun v25_28 =>
 pureA (binA .add v6_25 v25_28) fun v26_29 =>
 retA [v26_29, (.int .i64 0)] R)))]))])
theorem c_dedupref02_Frame {w0 : World} {h : Hp} {R : Kont} {a0 a1 : Value} (hj : ∀ v, v ∈ [a0, a1] → v ≠ junk) (hv : s_dedupref02_Frame prog w0 a0 a1 R h) : ACalls prog w0 n_dedupref02_Frame [a0, a1] h R := by
  have e : vcFn ⟨prog, w0, 27, ks_dedupref02_Frame⟩ (drw w0 27) fn_dedupref02_Frame [a0, a1] R h = s_dedupref02_Frame prog w0 a0 a1 R h := by
    kernel_rfl
  exact acalls_of_eq (fn := fn_dedupref02_Frame) (ks := ks_dedupref02_Frame) (n := 27) (by kernel_rfl) (by kernel_rfl) (draw_ok (by kernel_rfl)) (by simp) hj e hv

abbrev fn_dedupref02_Unframe : Func := f46
def ks_dedupref02_Unframe : List (Nat × List Nat × List Nat) := []
def s_dedupref02_Unframe (P : Program) (w0 : World) (a0 : Value) (R : Kont) : Hp → Prop :=
 pureA (lenStr a0) fun v9_1 =>
 pureA (binA .lss v9_1 (.int .i64 8)) fun v10_2 =>
 condA v10_2 (
 retA [(.int .u8 0), (.string .empty), (.int .i64 0), (.int .i64 20)] R) (
 pureA (strSlA a0 (some (.int .i64 4)) (some (.int .i64 8))) fun v12_3 =>
 callA P w0 n_dedupref02_Read [v12_3] fun v13_4 =>
 pureA (strSlA a0 none (some (.int .i64 2))) fun v15_5 =>
 pureA (binA .neq v15_5 (.string ⟨#[68, 70]⟩)) fun v16_6 =>
 guardA v16_6 false (fun K => K a0) fun v18_7 =>
 guardA v16_6 false (pureA (strIdxA v18_7 (.int .i64 3))) fun v19_8 =>
 guardA v16_6 false (pureA (binA .neq v19_8 (.int .u8 0))) fun v20_9 =>
 pickA v16_6 (.bool true) v20_9 fun v21_10 =>
 guardA v21_10 false (fun K => K v13_4) fun v23_11 =>
 guardA v21_10 false (pureA (binA .gtr v23_11 (.int .u64 1048576))) fun v24_12 =>
 pickA v21_10 (.bool true) v24_12 fun v25_13 =>
 condA v25_13 (
 retA [(.int .u8 0), (.string .empty), (.int .i64 0), (.int .i64 21)] R) (
 pureA (convA .i64 v13_4) fun v27_14 =>
 pureA (binA .add (.int .i64 12) v27_14) fun v28_15 =>
 pureA (lenStr a0) fun v30_16 =>
 pureA (binA .lss v30_16 v28_15) fun v32_17 =>
 condA v32_17 (
 retA [(.int .u8 0), (.string .empty), (.int .i64 0), (.int .i64 20)] R) (
 pureQ (fun K => K a0) fun v33_18 =>
 pureQ (fun K => K v28_15) fun v34_19 =>
 pureQ (pureA (binA .sub v34_19 (.int .i64 4))) fun v35_20 =>
 pureQ (fun K => K v28_15) fun v36_21 =>
 pureQ (pureA (strSlA v33_18 (some v35_20) (some v36_21))) fun v37_22 =>
 pureQ (fun K => K a0) fun v39_23 =>
 pureQ (fun K => K v28_15) fun v40_24 =>
 pureQ (pureA (binA .sub v40_24 (.int .i64 4))) fun v41_25 =>
 pureQ (pureA (strSlA v39_23 none (some v41_25))) fun v42_26 =>
 allA [
 (callA P w0 n_dedupref02_Read [v37_22] fun v38_27 =>
 stillA [] (
 allA [
 (callA P w0 n_dedupref02_Crc [v42_26] fun v43_28 =>
 stillA [] (
 pureQ (pureA (convA .u64 v43_28)) fun v44_29 =>
 pureQ (pureA (binA .neq v38_27 v44_29)) fun v45_30 =>
 endA (
 condA v45_30 (
 retA [(.int .u8 0), (.string .empty), (.int .i64 0), (.int .i64 23)] R) (
 pureQ (fun K => K a0) fun v46_31 =>
 pureQ (pureA (strIdxA v46_31 (.int .i64 2))) fun v47_32 =>
 pureQ (fun K => K a0) fun v48_33 =>
 pureQ (fun K => K v28_15) fun v49_34 =>
 pureQ (pureA (binA .sub v49_34 (.int .i64 4))) fun v50_35 =>
 pureQ (pureA (strSlA v48_33 (some (.int .i64 8)) (some v50_35))) fun v51_36 =>
 pureQ (fun K => K v28_15) fun v52_37 =>
 pureQ (fun K => K v47_32) fun v2_38 =>
 pureQ (fun K => K v51_36) fun v3_39 =>
 pureQ (fun K => K v52_37) fun v4_40 =>
 pureQ (fun K => K (.int .i64 0)) fun v5_41 =>
 endA (
 retA [v2_38, v3_39, v4_40, v5_41] R)))))]))])))
theorem c_dedupref02_Unframe {w0 : World} {h : Hp} {R : Kont} {a0 : Value} (hj : ∀ v, v ∈ [a0] → v ≠ junk) (hv : s_dedupref02_Unframe prog w0 a0 R h) : ACalls prog w0 n_dedupref02_Unframe [a0] h R := by
  have e : vcFn ⟨prog, w0, 53, ks_dedupref02_Unframe⟩ (drw w0 53) fn_dedupref02_Unframe [a0] R h = s_dedupref02_Unframe prog w0 a0 R h := by
    kernel_rfl
  exact acalls_of_eq (fn := fn_dedupref02_Unframe) (ks := ks_dedupref02_Unframe) (n := 53) (by kernel_rfl) (by kernel_rfl) (draw_ok (by kernel_rfl)) (by simp) hj e hv

abbrev fn_dedupref02_Read : Func := f47
def ks_dedupref02_Read : List (Nat × List Nat × List Nat) := [(3, [0, 3, 4], [3])]
def dedupref02_Read_B1 (P : Program) (w0 : World) (R : Value → Value → Value → Hp → Prop) (k0 : Value → Hp → Prop) (x0 x3 x4 : Value) : Hp → Prop :=
 pureA (lenStr x0) fun v7_1 =>
 pureA (binA .lss x4 v7_1) fun v8_2 =>
 condA v8_2 (
 pureA (binA .mul x3 (.int .u64 256)) fun v12_3 =>
 pureA (strIdxA x0 x4) fun v15_4 =>
 pureA (convA .u64 v15_4) fun v16_5 =>
 pureA (binA .add v12_3 v16_5) fun v17_6 =>
 pureA (binA .add x4 (.int .i64 1)) fun v10_7 =>
 R x0 v17_6 v10_7) (
 k0 x3)
def dedupref02_Read_L1 (P : Program) (w0 : World) (k0 : Value → Hp → Prop) : Nat → Value → Value → Value → Hp → Prop
  | 0, _, _, _ => fun _ => False
  | m + 1, x0, x3, x4 => dedupref02_Read_B1 P w0 (dedupref02_Read_L1 P w0 k0 m) k0 x0 x3 x4
def dedupref02_Read_E1 (P : Program) (w0 : World) (k0 : Value → Hp → Prop) (x0 x3 x4 : Value) : Hp → Prop := fun h => ∃ m, dedupref02_Read_L1 P w0 k0 m x0 x3 x4 h
def s_dedupref02_Read (P : Program) (w0 : World) (a0 : Value) (R : Kont) : Hp → Prop :=
 dedupref02_Read_E1 P w0 (fun y3_8 =>
 retA [y3_8] R) a0 (.int .u64 0) (.int .i64 0)
theorem dedupref02_Read_L1_eq (w0 : World) (k0 : Value → Hp → Prop) : ∀ (m : Nat) (x0 x3 x4 : Value) (h : Hp), loopA (stepL ⟨prog, w0, 19, ks_dedupref02_Read⟩ (drw w0 19) (loopAt fn_dedupref02_Read 0)) m (mkFr [(0, x0), (3, x3), (4, x4)]) [fun t => k0 (t 3)] h = dedupref02_Read_L1 prog w0 k0 m x0 x3 x4 h := by
  intro m
  induction m with
  | zero => intros; kernel_rfl
  | succ m ih =>
    intro x0 x3 x4 h
    have e : dedupref02_Read_L1 prog w0 k0 m = fun x0 x3 x4 h => loopA (stepL ⟨prog, w0, 19, ks_dedupref02_Read⟩ (drw w0 19) (loopAt fn_dedupref02_Read 0)) m (mkFr [(0, x0), (3, x3), (4, x4)]) [fun t => k0 (t 3)] h := by funext x0 x3 x4 h; exact (ih x0 x3 x4 h).symm
    show _ = dedupref02_Read_B1 prog w0 (dedupref02_Read_L1 prog w0 k0 m) k0 x0 x3 x4 h
    rw [e]
    kernel_rfl
theorem dedupref02_Read_E1_eq (w0 : World) : dedupref02_Read_E1 prog w0 = fun k0 x0 x3 x4 h => ∃ m, loopA (stepL ⟨prog, w0, 19, ks_dedupref02_Read⟩ (drw w0 19) (loopAt fn_dedupref02_Read 0)) m (mkFr [(0, x0), (3, x3), (4, x4)]) [fun t => k0 (t 3)] h := by
  funext k0 x0 x3 x4 h
  exact congrArg Exists (funext fun m => (dedupref02_Read_L1_eq w0 k0 m x0 x3 x4 h).symm)
theorem c_dedupref02_Read {w0 : World} {h : Hp} {R : Kont} {a0 : Value} (hj : ∀ v, v ∈ [a0] → v ≠ junk) (hv : s_dedupref02_Read prog w0 a0 R h) : ACalls prog w0 n_dedupref02_Read [a0] h R := by
  have e : vcFn ⟨prog, w0, 19, ks_dedupref02_Read⟩ (drw w0 19) fn_dedupref02_Read [a0] R h = s_dedupref02_Read prog w0 a0 R h := by
    unfold s_dedupref02_Read
    rw [dedupref02_Read_E1_eq w0]
    kernel_rfl
  exact acalls_of_eq (fn := fn_dedupref02_Read) (ks := ks_dedupref02_Read) (n := 19) (by kernel_rfl) (by kernel_rfl) (draw_ok (by kernel_rfl)) (by simp) hj e hv

abbrev fn_dedupref02_Crc : Func := f57
def ks_dedupref02_Crc : List (Nat × List Nat × List Nat) := [(3, [0, 3, 4], [3]), (7, [0, 3, 4, 5], [0, 3, 4])]
def dedupref02_Crc_B2 (P : Program) (w0 : World) (R : Value → Value → Value → Value → Hp → Prop) (k2 : Value → Value → Value → Hp → Prop) (x0 x3 x4 x5 : Value) : Hp → Prop :=
 pureA (binA .lss x5 (.int .i64 8)) fun v19_6 =>
 condA v19_6 (
 pureA (binA .rem x3 (.int .u32 2)) fun v23_7 =>
 pureA (binA .eql v23_7 (.int .u32 1)) fun v24_8 =>
 condA v24_8 (
 pureA (binA .quo x3 (.int .u32 2)) fun v26_9 =>
 pureA (binA .xor v26_9 (.int .u32 2197175160)) fun v27_10 =>
 pureA (binA .add x5 (.int .i64 1)) fun v21_11 =>
 R x0 v27_10 x4 v21_11) (
 pureA (binA .quo x3 (.int .u32 2)) fun v29_12 =>
 pureA (binA .add x5 (.int .i64 1)) fun v21_13 =>
 R x0 v29_12 x4 v21_13)) (
 k2 x0 x3 x4)
def dedupref02_Crc_L2 (P : Program) (w0 : World) (k2 : Value → Value → Value → Hp → Prop) : Nat → Value → Value → Value → Value → Hp → Prop
  | 0, _, _, _, _ => fun _ => False
  | m + 1, x0, x3, x4, x5 => dedupref02_Crc_B2 P w0 (dedupref02_Crc_L2 P w0 k2 m) k2 x0 x3 x4 x5
def dedupref02_Crc_E2 (P : Program) (w0 : World) (k2 : Value → Value → Value → Hp → Prop) (x0 x3 x4 x5 : Value) : Hp → Prop := fun h => ∃ m, dedupref02_Crc_L2 P w0 k2 m x0 x3 x4 x5 h
def dedupref02_Crc_B1 (P : Program) (w0 : World) (R : Value → Value → Value → Hp → Prop) (k0 : Value → Hp → Prop) (x0 x3 x4 : Value) : Hp → Prop :=
 pureA (lenStr x0) fun v8_1 =>
 pureA (binA .lss x4 v8_1) fun v9_2 =>
 condA v9_2 (
 pureA (strIdxA x0 x4) fun v15_3 =>
 pureA (convA .u32 v15_3) fun v16_4 =>
 pureA (binA .xor x3 v16_4) fun v17_5 =>
 dedupref02_Crc_E2 P w0 (fun y0_14 y3_15 y4_16 =>
 pureA (binA .add y4_16 (.int .i64 1)) fun v11_17 =>
 R y0_14 y3_15 v11_17) x0 v17_5 x4 (.int .i64 0)) (
 k0 x3)
def dedupref02_Crc_L1 (P : Program) (w0 : World) (k0 : Value → Hp → Prop) : Nat → Value → Value → Value → Hp → Prop
  | 0, _, _, _ => fun _ => False
  | m + 1, x0, x3, x4 => dedupref02_Crc_B1 P w0 (dedupref02_Crc_L1 P w0 k0 m) k0 x0 x3 x4
def dedupref02_Crc_E1 (P : Program) (w0 : World) (k0 : Value → Hp → Prop) (x0 x3 x4 : Value) : Hp → Prop := fun h => ∃ m, dedupref02_Crc_L1 P w0 k0 m x0 x3 x4 h
def s_dedupref02_Crc (P : Program) (w0 : World) (a0 : Value) (R : Kont) : Hp → Prop :=
 dedupref02_Crc_E1 P w0 (fun y3_18 =>
 pureA (binA .xor y3_18 (.int .u32 4294967295)) fun v31_19 =>
 retA [v31_19] R) a0 (.int .u32 4294967295) (.int .i64 0)
theorem dedupref02_Crc_L2_eq (w0 : World) (k2 : Value → Value → Value → Hp → Prop) : ∀ (m : Nat) (x0 x3 x4 x5 : Value) (h : Hp), loopA (stepL ⟨prog, w0, 32, ks_dedupref02_Crc⟩ (drw w0 32) (loopAt fn_dedupref02_Crc 1)) m (mkFr [(0, x0), (3, x3), (4, x4), (5, x5)]) [fun t => k2 (t 0) (t 3) (t 4)] h = dedupref02_Crc_L2 prog w0 k2 m x0 x3 x4 x5 h := by
  intro m
  induction m with
  | zero => intros; kernel_rfl
  | succ m ih =>
    intro x0 x3 x4 x5 h
    have e : dedupref02_Crc_L2 prog w0 k2 m = fun x0 x3 x4 x5 h => loopA (stepL ⟨prog, w0, 32, ks_dedupref02_Crc⟩ (drw w0 32) (loopAt fn_dedupref02_Crc 1)) m (mkFr [(0, x0), (3, x3), (4, x4), (5, x5)]) [fun t => k2 (t 0) (t 3) (t 4)] h := by funext x0 x3 x4 x5 h; exact (ih x0 x3 x4 x5 h).symm
    show _ = dedupref02_Crc_B2 prog w0 (dedupref02_Crc_L2 prog w0 k2 m) k2 x0 x3 x4 x5 h
    rw [e]
    kernel_rfl
theorem dedupref02_Crc_E2_eq (w0 : World) : dedupref02_Crc_E2 prog w0 = fun k2 x0 x3 x4 x5 h => ∃ m, loopA (stepL ⟨prog, w0, 32, ks_dedupref02_Crc⟩ (drw w0 32) (loopAt fn_dedupref02_Crc 1)) m (mkFr [(0, x0), (3, x3), (4, x4), (5, x5)]) [fun t => k2 (t 0) (t 3) (t 4)] h := by
  funext k2 x0 x3 x4 x5 h
  exact congrArg Exists (funext fun m => (dedupref02_Crc_L2_eq w0 k2 m x0 x3 x4 x5 h).symm)
theorem dedupref02_Crc_L1_eq (w0 : World) (k0 : Value → Hp → Prop) : ∀ (m : Nat) (x0 x3 x4 : Value) (h : Hp), loopA (stepL ⟨prog, w0, 32, ks_dedupref02_Crc⟩ (drw w0 32) (loopAt fn_dedupref02_Crc 0)) m (mkFr [(0, x0), (3, x3), (4, x4)]) [fun t => k0 (t 3)] h = dedupref02_Crc_L1 prog w0 k0 m x0 x3 x4 h := by
  intro m
  induction m with
  | zero => intros; kernel_rfl
  | succ m ih =>
    intro x0 x3 x4 h
    have e : dedupref02_Crc_L1 prog w0 k0 m = fun x0 x3 x4 h => loopA (stepL ⟨prog, w0, 32, ks_dedupref02_Crc⟩ (drw w0 32) (loopAt fn_dedupref02_Crc 0)) m (mkFr [(0, x0), (3, x3), (4, x4)]) [fun t => k0 (t 3)] h := by funext x0 x3 x4 h; exact (ih x0 x3 x4 h).symm
    show _ = dedupref02_Crc_B1 prog w0 (dedupref02_Crc_L1 prog w0 k0 m) k0 x0 x3 x4 h
    rw [e]
    unfold dedupref02_Crc_B1
    rw [dedupref02_Crc_E2_eq w0]
    kernel_rfl
theorem dedupref02_Crc_E1_eq (w0 : World) : dedupref02_Crc_E1 prog w0 = fun k0 x0 x3 x4 h => ∃ m, loopA (stepL ⟨prog, w0, 32, ks_dedupref02_Crc⟩ (drw w0 32) (loopAt fn_dedupref02_Crc 0)) m (mkFr [(0, x0), (3, x3), (4, x4)]) [fun t => k0 (t 3)] h := by
  funext k0 x0 x3 x4 h
  exact congrArg Exists (funext fun m => (dedupref02_Crc_L1_eq w0 k0 m x0 x3 x4 h).symm)
theorem c_dedupref02_Crc {w0 : World} {h : Hp} {R : Kont} {a0 : Value} (hj : ∀ v, v ∈ [a0] → v ≠ junk) (hv : s_dedupref02_Crc prog w0 a0 R h) : ACalls prog w0 n_dedupref02_Crc [a0] h R := by
  have e : vcFn ⟨prog, w0, 32, ks_dedupref02_Crc⟩ (drw w0 32) fn_dedupref02_Crc [a0] R h = s_dedupref02_Crc prog w0 a0 R h := by
    unfold s_dedupref02_Crc
    rw [dedupref02_Crc_E1_eq w0]
    kernel_rfl
  exact acalls_of_eq (fn := fn_dedupref02_Crc) (ks := ks_dedupref02_Crc) (n := 32) (by kernel_rfl) (by kernel_rfl) (draw_ok (by kernel_rfl)) (by simp) hj e hv

end
end Go.Proofs.Ytihebhdgjnibfaa.Ah
