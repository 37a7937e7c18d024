/- PRINTED by wip/tools/shallow.py: functions of the program as readable words, and that each is what its text says. -/
import Derived.Test.YthjpddggnhgjhaaGn
set_option linter.unusedVariables false
set_option linter.unusedSimpArgs false
namespace Go.Proofs.Ythjpddggnhgjhaa.Ah
open Go Go.Proofs.Try
noncomputable section

abbrev fn_dedupref12_Build : Func := f12
def ks_dedupref12_Build : List (Nat × List Nat × List Nat) := [(9, [0, 1, 7, 8, 9, 10, 31, 32, 33], [0, 1, 7, 8, 9])]
def dedupref12_Build_B1 (P : Program) (w0 : World) (R : Value → Value → Value → Value → Value → Value → Value → Value → Value → Hp → Prop) (k0 : Value → Value → Value → Value → Value → Hp → Prop) (x0 x1 x7 x8 x9 x10 x31 x32 x33 : Value) : Hp → Prop :=
 pureA (binA .lss x33 x32) fun v34_11 =>
 condA v34_11 (
 idxSlA 1 x31 x33 fun v36_12 =>
 loadA w0 v36_12 fun v37_13 =>
 idxSlA 1 x10 x33 fun v41_14 =>
 loadA w0 v41_14 fun v42_15 =>
 callA P w0 n_dedupref02_Text [v42_15] fun v43_16 =>
 pureA (lenStr x7) fun v45_17 =>
 pureA (convA .u64 v45_17) fun v46_18 =>
 callA P w0 n_dedupref02_Varint [v46_18] fun v47_19 =>
 pureA (binA .add v43_16 v47_19) fun v48_20 =>
 pureA (lenStr v37_13) fun v50_21 =>
 pureA (convA .u64 v50_21) fun v51_22 =>
 callA P w0 n_dedupref02_Varint [v51_22] fun v52_23 =>
 pureA (binA .add v48_20 v52_23) fun v53_24 =>
 pureA (binA .add x8 v53_24) fun v54_25 =>
 callA P w0 n_dedupref02_Crc [v37_13] fun v58_26 =>
 pureA (convA .u64 v58_26) fun v59_27 =>
 callA P w0 n_dedupref02_Number [v59_27, (.int .i64 4)] fun v60_28 =>
 pureA (binA .add v37_13 v60_28) fun v61_29 =>
 pureA (binA .add x7 v61_29) fun v62_30 =>
 pureA (binA .add x33 (.int .i64 1)) fun v63_31 =>
 R x0 x1 v62_30 v54_25 x9 x10 x31 x32 v63_31) (
 k0 x0 x1 x7 x8 x9)
def dedupref12_Build_L1 (P : Program) (w0 : World) (k0 : Value → Value → Value → Value → Value → Hp → Prop) : Nat → Value → Value → Value → Value → Value → Value → Value → Value → Value → Hp → Prop
  | 0, _, _, _, _, _, _, _, _, _ => fun _ => False
  | m + 1, x0, x1, x7, x8, x9, x10, x31, x32, x33 => dedupref12_Build_B1 P w0 (dedupref12_Build_L1 P w0 k0 m) k0 x0 x1 x7 x8 x9 x10 x31 x32 x33
def dedupref12_Build_E1 (P : Program) (w0 : World) (k0 : Value → Value → Value → Value → Value → Hp → Prop) (x0 x1 x7 x8 x9 x10 x31 x32 x33 : Value) : Hp → Prop := fun h => ∃ m, dedupref12_Build_L1 P w0 k0 m x0 x1 x7 x8 x9 x10 x31 x32 x33 h
def s_dedupref12_Build (P : Program) (w0 : World) (a0 a1 : Value) (R : Kont) : Hp → Prop :=
 pureA (binA .lss a1 (.int .i64 256)) fun v15_1 =>
 guardA v15_1 false (fun K => K a1) fun v17_2 =>
 guardA v15_1 false (pureA (binA .gtr v17_2 (.int .i64 4096))) fun v18_3 =>
 pickA v15_1 (.bool true) v18_3 fun v19_4 =>
 condA v19_4 (
 retA [(.string .empty), (.int .i64 1)] R) (
 callA P w0 n_dedupref12_Check [a0] fun v21_5 =>
 pureA (binA .neq v21_5 (.int .i64 0)) fun v23_6 =>
 condA v23_6 (
 retA [(.string .empty), v21_5] R) (
 callA P w0 n_dedupref12_blocks [a0, a1] fun v28_7 =>
 pureA (extA v28_7 0) fun v29_8 =>
 pureA (extA v28_7 1) fun v30_9 =>
 pureA (lenSl v29_8) fun v32_10 =>
 dedupref12_Build_E1 P w0 (fun y0_32 y1_33 y7_34 y8_35 y9_36 =>
 pureA (convA .u64 y1_33) fun v65_37 =>
 callA P w0 n_dedupref02_Number [v65_37, (.int .i64 4)] fun v66_38 =>
 pureA (lenSl y0_32) fun v68_39 =>
 pureA (convA .u64 v68_39) fun v69_40 =>
 callA P w0 n_dedupref02_Number [v69_40, (.int .i64 4)] fun v70_41 =>
 pureA (binA .add v66_38 v70_41) fun v71_42 =>
 pureA (lenSl y9_36) fun v73_43 =>
 pureA (convA .u64 v73_43) fun v74_44 =>
 callA P w0 n_dedupref02_Number [v74_44, (.int .i64 4)] fun v75_45 =>
 pureA (binA .add v71_42 v75_45) fun v76_46 =>
 pureA (lenStr y7_34) fun v78_47 =>
 pureA (convA .u64 v78_47) fun v79_48 =>
 callA P w0 n_dedupref02_Number [v79_48, (.int .i64 4)] fun v80_49 =>
 pureA (binA .add v76_46 v80_49) fun v81_50 =>
 pureA (binA .add y7_34 y8_35) fun v84_51 =>
 pureA (binA .add v84_51 v81_50) fun v86_52 =>
 pureA (binA .add y8_35 v81_50) fun v89_53 =>
 callA P w0 n_dedupref02_Crc [v89_53] fun v90_54 =>
 pureA (convA .u64 v90_54) fun v91_55 =>
 callA P w0 n_dedupref02_Number [v91_55, (.int .i64 4)] fun v92_56 =>
 pureA (binA .add v86_52 v92_56) fun v93_57 =>
 pureA (binA .add v93_57 (.string ⟨#[68, 82, 85, 78]⟩)) fun v94_58 =>
 retA [v94_58, (.int .i64 0)] R) a0 a1 (.string .empty) (.string .empty) v29_8 v30_9 v29_8 v32_10 (.int .i64 0)))
theorem dedupref12_Build_L1_eq (w0 : World) (k0 : Value → Value → Value → Value → Value → Hp → Prop) : ∀ (m : Nat) (x0 x1 x7 x8 x9 x10 x31 x32 x33 : Value) (h : Hp), loopA (stepL ⟨prog, w0, 95, ks_dedupref12_Build⟩ (drw w0 95) (loopAt fn_dedupref12_Build 0)) m (mkFr [(0, x0), (1, x1), (7, x7), (8, x8), (9, x9), (10, x10), (31, x31), (32, x32), (33, x33)]) [fun t => k0 (t 0) (t 1) (t 7) (t 8) (t 9)] h = dedupref12_Build_L1 prog w0 k0 m x0 x1 x7 x8 x9 x10 x31 x32 x33 h := by
  intro m
  induction m with
  | zero => intros; kernel_rfl
  | succ m ih =>
    intro x0 x1 x7 x8 x9 x10 x31 x32 x33 h
    have e : dedupref12_Build_L1 prog w0 k0 m = fun x0 x1 x7 x8 x9 x10 x31 x32 x33 h => loopA (stepL ⟨prog, w0, 95, ks_dedupref12_Build⟩ (drw w0 95) (loopAt fn_dedupref12_Build 0)) m (mkFr [(0, x0), (1, x1), (7, x7), (8, x8), (9, x9), (10, x10), (31, x31), (32, x32), (33, x33)]) [fun t => k0 (t 0) (t 1) (t 7) (t 8) (t 9)] h := by funext x0 x1 x7 x8 x9 x10 x31 x32 x33 h; exact (ih x0 x1 x7 x8 x9 x10 x31 x32 x33 h).symm
    show _ = dedupref12_Build_B1 prog w0 (dedupref12_Build_L1 prog w0 k0 m) k0 x0 x1 x7 x8 x9 x10 x31 x32 x33 h
    rw [e]
    kernel_rfl
theorem dedupref12_Build_E1_eq (w0 : World) : dedupref12_Build_E1 prog w0 = fun k0 x0 x1 x7 x8 x9 x10 x31 x32 x33 h => ∃ m, loopA (stepL ⟨prog, w0, 95, ks_dedupref12_Build⟩ (drw w0 95) (loopAt fn_dedupref12_Build 0)) m (mkFr [(0, x0), (1, x1), (7, x7), (8, x8), (9, x9), (10, x10), (31, x31), (32, x32), (33, x33)]) [fun t => k0 (t 0) (t 1) (t 7) (t 8) (t 9)] h := by
  funext k0 x0 x1 x7 x8 x9 x10 x31 x32 x33 h
  exact congrArg Exists (funext fun m => (dedupref12_Build_L1_eq w0 k0 m x0 x1 x7 x8 x9 x10 x31 x32 x33 h).symm)
theorem c_dedupref12_Build {w0 : World} {h : Hp} {R : Kont} {a0 a1 : Value} (hj : ∀ v, v ∈ [a0, a1] → v ≠ junk) (hv : s_dedupref12_Build prog w0 a0 a1 R h) : ACalls prog w0 n_dedupref12_Build [a0, a1] h R := by
  have e : vcFn ⟨prog, w0, 95, ks_dedupref12_Build⟩ (drw w0 95) fn_dedupref12_Build [a0, a1] R h = s_dedupref12_Build prog w0 a0 a1 R h := by
    unfold s_dedupref12_Build
    rw [dedupref12_Build_E1_eq w0]
    kernel_rfl
  exact acalls_of_eq (fn := fn_dedupref12_Build) (ks := ks_dedupref12_Build) (n := 95) (by kernel_rfl) (by kernel_rfl) (draw_ok (by kernel_rfl)) (by simp) hj e hv

abbrev fn_dedupref12_Check : Func := f14
def ks_dedupref12_Check : List (Nat × List Nat × List Nat) := [(2, [0, 2, 5, 6, 7], [2])]
def dedupref12_Check_B1 (P : Program) (w0 : World) (R : Value → Value → Value → Value → Value → Hp → Prop) (k0 : Value → Hp → Prop) (kr : Value → Hp → Prop) (x0 x2 x5 x6 x7 : Value) : Hp → Prop :=
 pureA (binA .lss x7 x6) fun v8_2 =>
 condA v8_2 (
 idxSlA 3 x5 x7 fun v10_3 =>
 loadNA w0 v10_3 3 fun v11_4 =>
 newA [(.string .empty), (.string .empty), (.bool false)] 3 fun v4_5 =>
 storeNA w0 v4_5 v11_4 3 fun _ =>
 readQ (loadNA w0 v4_5 3) fun v12_6 =>
 allA [
 (callA P w0 n_dedupref12_Right [v12_6] fun v13_7 =>
 stillA [] (
 pureQ (pureA (unA .not v13_7)) fun v14_8 =>
 pureQ (fun K => K v14_8) fun v15_9 =>
 pureQ (guardA v15_9 false (fun K => K x7)) fun v16_10 =>
 pureQ (guardA v15_9 false (pureA (binA .gtr v16_10 (.int .i64 0)))) fun v17_11 =>
 pureQ (guardA v15_9 false (fun K => K v17_11)) fun v18_12 =>
 pureQ (guardA v18_12 true (fun K => K x0)) fun v19_13 =>
 pureQ (guardA v18_12 true (fun K => K x7)) fun v20_14 =>
 pureQ (guardA v18_12 true (pureA (binA .sub v20_14 (.int .i64 1)))) fun v21_15 =>
 pureQ (guardA v18_12 true (idxSlA 3 v19_13 v21_15)) fun v22_16 =>
 pureQ (guardA v18_12 true (addA v22_16 0)) fun v23_17 =>
 readQ (guardA v18_12 true (loadA w0 v23_17)) fun v24_18 =>
 pureQ (guardA v18_12 true (addA v4_5 0)) fun v25_19 =>
 readQ (guardA v18_12 true (loadA w0 v25_19)) fun v26_20 =>
 pureQ (guardA v18_12 true (pureA (binA .geq v24_18 v26_20))) fun v27_21 =>
 pureQ (guardA v15_9 false (pickA v18_12 v27_21 (.bool false))) fun v28_22 =>
 pureQ (pickA v15_9 (.bool true) v28_22) fun v29_23 =>
 endA (
 condA v29_23 (
 kr (.int .i64 120)) (
 pureA (binA .add x7 (.int .i64 1)) fun v30_24 =>
 R x0 x2 x5 x6 v30_24))))]) (
 k0 x2)
def dedupref12_Check_L1 (P : Program) (w0 : World) (k0 : Value → Hp → Prop) (kr : Value → Hp → Prop) : Nat → Value → Value → Value → Value → Value → Hp → Prop
  | 0, _, _, _, _, _ => fun _ => False
  | m + 1, x0, x2, x5, x6, x7 => dedupref12_Check_B1 P w0 (dedupref12_Check_L1 P w0 k0 kr m) k0 kr x0 x2 x5 x6 x7
def dedupref12_Check_E1 (P : Program) (w0 : World) (k0 : Value → Hp → Prop) (kr : Value → Hp → Prop) (x0 x2 x5 x6 x7 : Value) : Hp → Prop := fun h => ∃ m, dedupref12_Check_L1 P w0 k0 kr m x0 x2 x5 x6 x7 h
def s_dedupref12_Check (P : Program) (w0 : World) (a0 : Value) (R : Kont) : Hp → Prop :=
 pureA (lenSl a0) fun v6_1 =>
 dedupref12_Check_E1 P w0 (fun y2_25 =>
 retA [(.int .i64 0)] R) (fun y2_26 =>
 retA [y2_26] R) a0 (.int .i64 0) a0 v6_1 (.int .i64 0)
theorem dedupref12_Check_L1_eq (w0 : World) (k0 : Value → Hp → Prop) (kr : Value → Hp → Prop) : ∀ (m : Nat) (x0 x2 x5 x6 x7 : Value) (h : Hp), loopA (stepL ⟨prog, w0, 31, ks_dedupref12_Check⟩ (drw w0 31) (loopAt fn_dedupref12_Check 0)) m (mkFr [(0, x0), (2, x2), (5, x5), (6, x6), (7, x7)]) [fun t => k0 (t 2), fun t => kr (t 2)] h = dedupref12_Check_L1 prog w0 k0 kr m x0 x2 x5 x6 x7 h := by
  intro m
  induction m with
  | zero => intros; kernel_rfl
  | succ m ih =>
    intro x0 x2 x5 x6 x7 h
    have e : dedupref12_Check_L1 prog w0 k0 kr m = fun x0 x2 x5 x6 x7 h => loopA (stepL ⟨prog, w0, 31, ks_dedupref12_Check⟩ (drw w0 31) (loopAt fn_dedupref12_Check 0)) m (mkFr [(0, x0), (2, x2), (5, x5), (6, x6), (7, x7)]) [fun t => k0 (t 2), fun t => kr (t 2)] h := by funext x0 x2 x5 x6 x7 h; exact (ih x0 x2 x5 x6 x7 h).symm
    show _ = dedupref12_Check_B1 prog w0 (dedupref12_Check_L1 prog w0 k0 kr m) k0 kr x0 x2 x5 x6 x7 h
    rw [e]
    kernel_rfl
theorem dedupref12_Check_E1_eq (w0 : World) : dedupref12_Check_E1 prog w0 = fun k0 kr x0 x2 x5 x6 x7 h => ∃ m, loopA (stepL ⟨prog, w0, 31, ks_dedupref12_Check⟩ (drw w0 31) (loopAt fn_dedupref12_Check 0)) m (mkFr [(0, x0), (2, x2), (5, x5), (6, x6), (7, x7)]) [fun t => k0 (t 2), fun t => kr (t 2)] h := by
  funext k0 kr x0 x2 x5 x6 x7 h
  exact congrArg Exists (funext fun m => (dedupref12_Check_L1_eq w0 k0 kr m x0 x2 x5 x6 x7 h).symm)
theorem c_dedupref12_Check {w0 : World} {h : Hp} {R : Kont} {a0 : Value} (hj : ∀ v, v ∈ [a0] → v ≠ junk) (hv : s_dedupref12_Check prog w0 a0 R h) : ACalls prog w0 n_dedupref12_Check [a0] h R := by
  have e : vcFn ⟨prog, w0, 31, ks_dedupref12_Check⟩ (drw w0 31) fn_dedupref12_Check [a0] R h = s_dedupref12_Check prog w0 a0 R h := by
    unfold s_dedupref12_Check
    rw [dedupref12_Check_E1_eq w0]
    kernel_rfl
  exact acalls_of_eq (fn := fn_dedupref12_Check) (ks := ks_dedupref12_Check) (n := 31) (by kernel_rfl) (by kernel_rfl) (draw_ok (by kernel_rfl)) (by simp) hj e hv

abbrev fn_dedupref12_Blocks : Func := f20
def ks_dedupref12_Blocks : List (Nat × List Nat × List Nat) := []
def s_dedupref12_Blocks (P : Program) (w0 : World) (a0 a1 : Value) (R : Kont) : Hp → Prop :=
 callA P w0 n_dedupref12_blocks [a0, a1] fun v10_1 =>
 pureA (extA v10_1 0) fun v11_2 =>
 pureA (extA v10_1 1) fun v12_3 =>
 pureA (lenSl v11_2) fun v14_4 =>
 retA [v14_4] R
theorem c_dedupref12_Blocks {w0 : World} {h : Hp} {R : Kont} {a0 a1 : Value} (hj : ∀ v, v ∈ [a0, a1] → v ≠ junk) (hv : s_dedupref12_Blocks prog w0 a0 a1 R h) : ACalls prog w0 n_dedupref12_Blocks [a0, a1] h R := by
  have e : vcFn ⟨prog, w0, 15, ks_dedupref12_Blocks⟩ (drw w0 15) fn_dedupref12_Blocks [a0, a1] R h = s_dedupref12_Blocks prog w0 a0 a1 R h := by
    kernel_rfl
  exact acalls_of_eq (fn := fn_dedupref12_Blocks) (ks := ks_dedupref12_Blocks) (n := 15) (by kernel_rfl) (by kernel_rfl) (draw_ok (by kernel_rfl)) (by simp) hj e hv

abbrev fn_dedupref12_Merge : Func := f22
def ks_dedupref12_Merge : List (Nat × List Nat × List Nat) := [(3, [1, 5, 15, 16, 17], [1, 5]), (6, [1, 5, 15, 16, 17, 21, 22, 23], [1, 5, 15, 16, 17]), (15, [1, 12, 41, 42, 43], [12])]
def dedupref12_Merge_B2 (P : Program) (w0 : World) (R : Value → Value → Value → Value → Value → Value → Value → Value → Hp → Prop) (k2 : Value → Value → Value → Value → Value → Hp → Prop) (x1 x5 x15 x16 x17 x21 x22 x23 : Value) : Hp → Prop :=
 pureA (binA .lss x23 x22) fun v24_6 =>
 condA v24_6 (
 idxSlA 3 x21 x23 fun v25_7 =>
 loadNA w0 v25_7 3 fun v26_8 =>
 newA [(.string .empty), (.string .empty), (.bool false)] 3 fun v9_9 =>
 storeNA w0 v9_9 v26_8 3 fun _ =>
 addA v9_9 0 fun v29_10 =>
 loadA w0 v29_10 fun v30_11 =>
 callA P w0 n_dedupref12_Find [x5, v30_11] fun v31_12 =>
 pureA (extA v31_12 0) fun v32_13 =>
 pureA (extA v31_12 1) fun v33_14 =>
 pureA (unA .not v33_14) fun v35_15 =>
 condA v35_15 (
 loadNA w0 v9_9 3 fun v37_16 =>
 callA P w0 n_dedupref12_With [x5, v37_16] fun v38_17 =>
 pureA (binA .add x23 (.int .i64 1)) fun v39_18 =>
 R x1 v38_17 x15 x16 x17 x21 x22 v39_18) (
 pureA (binA .add x23 (.int .i64 1)) fun v39_19 =>
 R x1 x5 x15 x16 x17 x21 x22 v39_19)) (
 k2 x1 x5 x15 x16 x17)
def dedupref12_Merge_L2 (P : Program) (w0 : World) (k2 : Value → Value → Value → Value → Value → Hp → Prop) : Nat → Value → Value → Value → Value → Value → Value → Value → Value → Hp → Prop
  | 0, _, _, _, _, _, _, _, _ => fun _ => False
  | m + 1, x1, x5, x15, x16, x17, x21, x22, x23 => dedupref12_Merge_B2 P w0 (dedupref12_Merge_L2 P w0 k2 m) k2 x1 x5 x15 x16 x17 x21 x22 x23
def dedupref12_Merge_E2 (P : Program) (w0 : World) (k2 : Value → Value → Value → Value → Value → Hp → Prop) (x1 x5 x15 x16 x17 x21 x22 x23 : Value) : Hp → Prop := fun h => ∃ m, dedupref12_Merge_L2 P w0 k2 m x1 x5 x15 x16 x17 x21 x22 x23 h
def dedupref12_Merge_B1 (P : Program) (w0 : World) (R : Value → Value → Value → Value → Value → Hp → Prop) (k0 : Value → Value → Hp → Prop) (x1 x5 x15 x16 x17 : Value) : Hp → Prop :=
 pureA (binA .lss x17 x16) fun v18_2 =>
 condA v18_2 (
 idxSlA 1 x15 x17 fun v19_3 =>
 loadA w0 v19_3 fun v20_4 =>
 pureA (lenSl v20_4) fun v22_5 =>
 dedupref12_Merge_E2 P w0 (fun y1_20 y5_21 y15_22 y16_23 y17_24 =>
 pureA (binA .add y17_24 (.int .i64 1)) fun v40_25 =>
 R y1_20 y5_21 y15_22 y16_23 v40_25) x1 x5 x15 x16 x17 v20_4 v22_5 (.int .i64 0)) (
 k0 x1 x5)
def dedupref12_Merge_L1 (P : Program) (w0 : World) (k0 : Value → Value → Hp → Prop) : Nat → Value → Value → Value → Value → Value → Hp → Prop
  | 0, _, _, _, _, _ => fun _ => False
  | m + 1, x1, x5, x15, x16, x17 => dedupref12_Merge_B1 P w0 (dedupref12_Merge_L1 P w0 k0 m) k0 x1 x5 x15 x16 x17
def dedupref12_Merge_E1 (P : Program) (w0 : World) (k0 : Value → Value → Hp → Prop) (x1 x5 x15 x16 x17 : Value) : Hp → Prop := fun h => ∃ m, dedupref12_Merge_L1 P w0 k0 m x1 x5 x15 x16 x17 h
def dedupref12_Merge_B3 (P : Program) (w0 : World) (R : Value → Value → Value → Value → Value → Hp → Prop) (k4 : Value → Hp → Prop) (x1 x12 x41 x42 x43 : Value) : Hp → Prop :=
 pureA (binA .lss x43 x42) fun v44_29 =>
 condA v44_29 (
 idxSlA 3 x41 x43 fun v45_30 =>
 loadNA w0 v45_30 3 fun v46_31 =>
 newA [(.string .empty), (.string .empty), (.bool false)] 3 fun v14_32 =>
 storeNA w0 v14_32 v46_31 3 fun _ =>
 pureA (unA .not x1) fun v48_33 =>
 guardA v48_33 false (addA v14_32 2) fun v50_34 =>
 guardA v48_33 false (loadA w0 v50_34) fun v51_35 =>
 guardA v48_33 false (pureA (unA .not v51_35)) fun v52_36 =>
 pickA v48_33 (.bool true) v52_36 fun v53_37 =>
 condA v53_37 (
 loadNA w0 v14_32 3 fun v55_38 =>
 bslA [(0, 3, true, v55_38)] (zerosL [(.string .empty), (.string .empty), (.bool false)] 1) 1 3 fun v56_39 =>
 appA w0 3 40 x12 v56_39 fun v57_40 =>
 pureA (binA .add x43 (.int .i64 1)) fun v58_41 =>
 R x1 v57_40 x41 x42 v58_41) (
 pureA (binA .add x43 (.int .i64 1)) fun v58_42 =>
 R x1 x12 x41 x42 v58_42)) (
 k4 x12)
def dedupref12_Merge_L3 (P : Program) (w0 : World) (k4 : Value → Hp → Prop) : Nat → Value → Value → Value → Value → Value → Hp → Prop
  | 0, _, _, _, _, _ => fun _ => False
  | m + 1, x1, x12, x41, x42, x43 => dedupref12_Merge_B3 P w0 (dedupref12_Merge_L3 P w0 k4 m) k4 x1 x12 x41 x42 x43
def dedupref12_Merge_E3 (P : Program) (w0 : World) (k4 : Value → Hp → Prop) (x1 x12 x41 x42 x43 : Value) : Hp → Prop := fun h => ∃ m, dedupref12_Merge_L3 P w0 k4 m x1 x12 x41 x42 x43 h
def s_dedupref12_Merge (P : Program) (w0 : World) (a0 a1 : Value) (R : Kont) : Hp → Prop :=
 pureA (lenSl a0) fun v16_1 =>
 dedupref12_Merge_E1 P w0 (fun y1_26 y5_27 =>
 pureA (lenSl y5_27) fun v42_28 =>
 dedupref12_Merge_E3 P w0 (fun y12_43 =>
 retA [y12_43] R) y1_26 (.slice none 0 0) y5_27 v42_28 (.int .i64 0)) a1 (.slice none 0 0) a0 v16_1 (.int .i64 0)
theorem dedupref12_Merge_L3_eq (w0 : World) (k4 : Value → Hp → Prop) : ∀ (m : Nat) (x1 x12 x41 x42 x43 : Value) (h : Hp), loopA (stepL ⟨prog, w0, 60, ks_dedupref12_Merge⟩ (drw w0 60) (loopAt fn_dedupref12_Merge 2)) m (mkFr [(1, x1), (12, x12), (41, x41), (42, x42), (43, x43)]) [fun t => k4 (t 12)] h = dedupref12_Merge_L3 prog w0 k4 m x1 x12 x41 x42 x43 h := by
  intro m
  induction m with
  | zero => intros; kernel_rfl
  | succ m ih =>
    intro x1 x12 x41 x42 x43 h
    have e : dedupref12_Merge_L3 prog w0 k4 m = fun x1 x12 x41 x42 x43 h => loopA (stepL ⟨prog, w0, 60, ks_dedupref12_Merge⟩ (drw w0 60) (loopAt fn_dedupref12_Merge 2)) m (mkFr [(1, x1), (12, x12), (41, x41), (42, x42), (43, x43)]) [fun t => k4 (t 12)] h := by funext x1 x12 x41 x42 x43 h; exact (ih x1 x12 x41 x42 x43 h).symm
    show _ = dedupref12_Merge_B3 prog w0 (dedupref12_Merge_L3 prog w0 k4 m) k4 x1 x12 x41 x42 x43 h
    rw [e]
    kernel_rfl
theorem dedupref12_Merge_E3_eq (w0 : World) : dedupref12_Merge_E3 prog w0 = fun k4 x1 x12 x41 x42 x43 h => ∃ m, loopA (stepL ⟨prog, w0, 60, ks_dedupref12_Merge⟩ (drw w0 60) (loopAt fn_dedupref12_Merge 2)) m (mkFr [(1, x1), (12, x12), (41, x41), (42, x42), (43, x43)]) [fun t => k4 (t 12)] h := by
  funext k4 x1 x12 x41 x42 x43 h
  exact congrArg Exists (funext fun m => (dedupref12_Merge_L3_eq w0 k4 m x1 x12 x41 x42 x43 h).symm)
theorem dedupref12_Merge_L2_eq (w0 : World) (k2 : Value → Value → Value → Value → Value → Hp → Prop) : ∀ (m : Nat) (x1 x5 x15 x16 x17 x21 x22 x23 : Value) (h : Hp), loopA (stepL ⟨prog, w0, 60, ks_dedupref12_Merge⟩ (drw w0 60) (loopAt fn_dedupref12_Merge 1)) m (mkFr [(1, x1), (5, x5), (15, x15), (16, x16), (17, x17), (21, x21), (22, x22), (23, x23)]) [fun t => k2 (t 1) (t 5) (t 15) (t 16) (t 17)] h = dedupref12_Merge_L2 prog w0 k2 m x1 x5 x15 x16 x17 x21 x22 x23 h := by
  intro m
  induction m with
  | zero => intros; kernel_rfl
  | succ m ih =>
    intro x1 x5 x15 x16 x17 x21 x22 x23 h
    have e : dedupref12_Merge_L2 prog w0 k2 m = fun x1 x5 x15 x16 x17 x21 x22 x23 h => loopA (stepL ⟨prog, w0, 60, ks_dedupref12_Merge⟩ (drw w0 60) (loopAt fn_dedupref12_Merge 1)) m (mkFr [(1, x1), (5, x5), (15, x15), (16, x16), (17, x17), (21, x21), (22, x22), (23, x23)]) [fun t => k2 (t 1) (t 5) (t 15) (t 16) (t 17)] h := by funext x1 x5 x15 x16 x17 x21 x22 x23 h; exact (ih x1 x5 x15 x16 x17 x21 x22 x23 h).symm
    show _ = dedupref12_Merge_B2 prog w0 (dedupref12_Merge_L2 prog w0 k2 m) k2 x1 x5 x15 x16 x17 x21 x22 x23 h
    rw [e]
    kernel_rfl
theorem dedupref12_Merge_E2_eq (w0 : World) : dedupref12_Merge_E2 prog w0 = fun k2 x1 x5 x15 x16 x17 x21 x22 x23 h => ∃ m, loopA (stepL ⟨prog, w0, 60, ks_dedupref12_Merge⟩ (drw w0 60) (loopAt fn_dedupref12_Merge 1)) m (mkFr [(1, x1), (5, x5), (15, x15), (16, x16), (17, x17), (21, x21), (22, x22), (23, x23)]) [fun t => k2 (t 1) (t 5) (t 15) (t 16) (t 17)] h := by
  funext k2 x1 x5 x15 x16 x17 x21 x22 x23 h
  exact congrArg Exists (funext fun m => (dedupref12_Merge_L2_eq w0 k2 m x1 x5 x15 x16 x17 x21 x22 x23 h).symm)
theorem dedupref12_Merge_L1_eq (w0 : World) (k0 : Value → Value → Hp → Prop) : ∀ (m : Nat) (x1 x5 x15 x16 x17 : Value) (h : Hp), loopA (stepL ⟨prog, w0, 60, ks_dedupref12_Merge⟩ (drw w0 60) (loopAt fn_dedupref12_Merge 0)) m (mkFr [(1, x1), (5, x5), (15, x15), (16, x16), (17, x17)]) [fun t => k0 (t 1) (t 5)] h = dedupref12_Merge_L1 prog w0 k0 m x1 x5 x15 x16 x17 h := by
  intro m
  induction m with
  | zero => intros; kernel_rfl
  | succ m ih =>
    intro x1 x5 x15 x16 x17 h
    have e : dedupref12_Merge_L1 prog w0 k0 m = fun x1 x5 x15 x16 x17 h => loopA (stepL ⟨prog, w0, 60, ks_dedupref12_Merge⟩ (drw w0 60) (loopAt fn_dedupref12_Merge 0)) m (mkFr [(1, x1), (5, x5), (15, x15), (16, x16), (17, x17)]) [fun t => k0 (t 1) (t 5)] h := by funext x1 x5 x15 x16 x17 h; exact (ih x1 x5 x15 x16 x17 h).symm
    show _ = dedupref12_Merge_B1 prog w0 (dedupref12_Merge_L1 prog w0 k0 m) k0 x1 x5 x15 x16 x17 h
    rw [e]
    unfold dedupref12_Merge_B1
    rw [dedupref12_Merge_E2_eq w0]
    kernel_rfl
theorem dedupref12_Merge_E1_eq (w0 : World) : dedupref12_Merge_E1 prog w0 = fun k0 x1 x5 x15 x16 x17 h => ∃ m, loopA (stepL ⟨prog, w0, 60, ks_dedupref12_Merge⟩ (drw w0 60) (loopAt fn_dedupref12_Merge 0)) m (mkFr [(1, x1), (5, x5), (15, x15), (16, x16), (17, x17)]) [fun t => k0 (t 1) (t 5)] h := by
  funext k0 x1 x5 x15 x16 x17 h
  exact congrArg Exists (funext fun m => (dedupref12_Merge_L1_eq w0 k0 m x1 x5 x15 x16 x17 h).symm)
theorem c_dedupref12_Merge {w0 : World} {h : Hp} {R : Kont} {a0 a1 : Value} (hj : ∀ v, v ∈ [a0, a1] → v ≠ junk) (hv : s_dedupref12_Merge prog w0 a0 a1 R h) : ACalls prog w0 n_dedupref12_Merge [a0, a1] h R := by
  have e : vcFn ⟨prog, w0, 60, ks_dedupref12_Merge⟩ (drw w0 60) fn_dedupref12_Merge [a0, a1] R h = s_dedupref12_Merge prog w0 a0 a1 R h := by
    unfold s_dedupref12_Merge
    rw [dedupref12_Merge_E1_eq w0, dedupref12_Merge_E3_eq w0]
    kernel_rfl
  exact acalls_of_eq (fn := fn_dedupref12_Merge) (ks := ks_dedupref12_Merge) (n := 60) (by kernel_rfl) (by kernel_rfl) (draw_ok (by kernel_rfl)) (by simp) hj e hv

abbrev fn_dedupref12_blocks : Func := f43
def ks_dedupref12_blocks : List (Nat × List Nat × List Nat) := [(3, [1, 4, 5, 6, 11, 12, 13], [4, 5])]
def dedupref12_blocks_B1 (P : Program) (w0 : World) (R : Value → Value → Value → Value → Value → Value → Value → Hp → Prop) (k0 : Value → Value → Hp → Prop) (x1 x4 x5 x6 x11 x12 x13 : Value) : Hp → Prop :=
 pureA (binA .lss x13 x12) fun v14_2 =>
 condA v14_2 (
 idxSlA 3 x11 x13 fun v15_3 =>
 loadNA w0 v15_3 3 fun v16_4 =>
 newA [(.string .empty), (.string .empty), (.bool false)] 3 fun v8_5 =>
 storeNA w0 v8_5 v16_4 3 fun _ =>
 loadNA w0 v8_5 3 fun v17_6 =>
 callA P w0 n_dedupref12_bytes [v17_6, x6] fun v19_7 =>
 pureA (lenSl x4) fun v21_8 =>
 pureA (binA .eql v21_8 (.int .i64 0)) fun v23_9 =>
 guardA v23_9 false (fun K => K x4) fun v25_10 =>
 guardA v23_9 false (fun K => K v21_8) fun v26_11 =>
 guardA v23_9 false (pureA (binA .sub v26_11 (.int .i64 1))) fun v27_12 =>
 guardA v23_9 false (idxSlA 1 v25_10 v27_12) fun v28_13 =>
 guardA v23_9 false (loadA w0 v28_13) fun v29_14 =>
 guardA v23_9 false (pureA (lenStr v29_14)) fun v30_15 =>
 guardA v23_9 false (fun K => K v19_7) fun v31_16 =>
 guardA v23_9 false (pureA (lenStr v31_16)) fun v32_17 =>
 guardA v23_9 false (pureA (binA .add v30_15 v32_17)) fun v33_18 =>
 guardA v23_9 false (fun K => K x1) fun v34_19 =>
 guardA v23_9 false (pureA (binA .gtr v33_18 v34_19)) fun v35_20 =>
 pickA v23_9 (.bool true) v35_20 fun v36_21 =>
 condA v36_21 (
 loadNA w0 v8_5 3 fun v38_22 =>
 callA P w0 n_dedupref12_bytes [v38_22, (.string .empty)] fun v39_23 =>
 bslA [(0, 1, false, v39_23)] (zerosL [(.string .empty)] 1) 1 1 fun v40_24 =>
 appA w0 1 16 x4 v40_24 fun v41_25 =>
 addA v8_5 0 fun v43_26 =>
 loadA w0 v43_26 fun v44_27 =>
 bslA [(0, 1, false, v44_27)] (zerosL [(.string .empty)] 1) 1 1 fun v45_28 =>
 appA w0 1 16 x5 v45_28 fun v46_29 =>
 addA v8_5 0 fun v55_30 =>
 loadA w0 v55_30 fun v56_31 =>
 pureA (binA .add x13 (.int .i64 1)) fun v57_32 =>
 R x1 v41_25 v46_29 v56_31 x11 x12 v57_32) (
 pureA (binA .sub v21_8 (.int .i64 1)) fun v49_33 =>
 idxSlA 1 x4 v49_33 fun v50_34 =>
 loadA w0 v50_34 fun v51_35 =>
 pureA (binA .add v51_35 v19_7) fun v53_36 =>
 idxSlA 1 x4 v49_33 fun v54_37 =>
 storeA w0 v54_37 v53_36 fun _ =>
 addA v8_5 0 fun v55_38 =>
 loadA w0 v55_38 fun v56_39 =>
 pureA (binA .add x13 (.int .i64 1)) fun v57_40 =>
 R x1 x4 x5 v56_39 x11 x12 v57_40)) (
 k0 x4 x5)
def dedupref12_blocks_L1 (P : Program) (w0 : World) (k0 : Value → Value → Hp → Prop) : Nat → Value → Value → Value → Value → Value → Value → Value → Hp → Prop
  | 0, _, _, _, _, _, _, _ => fun _ => False
  | m + 1, x1, x4, x5, x6, x11, x12, x13 => dedupref12_blocks_B1 P w0 (dedupref12_blocks_L1 P w0 k0 m) k0 x1 x4 x5 x6 x11 x12 x13
def dedupref12_blocks_E1 (P : Program) (w0 : World) (k0 : Value → Value → Hp → Prop) (x1 x4 x5 x6 x11 x12 x13 : Value) : Hp → Prop := fun h => ∃ m, dedupref12_blocks_L1 P w0 k0 m x1 x4 x5 x6 x11 x12 x13 h
def s_dedupref12_blocks (P : Program) (w0 : World) (a0 a1 : Value) (R : Kont) : Hp → Prop :=
 pureA (lenSl a0) fun v12_1 =>
 dedupref12_blocks_E1 P w0 (fun y4_41 y5_42 =>
 retA [y4_41, y5_42] R) a1 (.slice none 0 0) (.slice none 0 0) (.string .empty) a0 v12_1 (.int .i64 0)
theorem dedupref12_blocks_L1_eq (w0 : World) (k0 : Value → Value → Hp → Prop) : ∀ (m : Nat) (x1 x4 x5 x6 x11 x12 x13 : Value) (h : Hp), loopA (stepL ⟨prog, w0, 60, ks_dedupref12_blocks⟩ (drw w0 60) (loopAt fn_dedupref12_blocks 0)) m (mkFr [(1, x1), (4, x4), (5, x5), (6, x6), (11, x11), (12, x12), (13, x13)]) [fun t => k0 (t 4) (t 5)] h = dedupref12_blocks_L1 prog w0 k0 m x1 x4 x5 x6 x11 x12 x13 h := by
  intro m
  induction m with
  | zero => intros; kernel_rfl
  | succ m ih =>
    intro x1 x4 x5 x6 x11 x12 x13 h
    have e : dedupref12_blocks_L1 prog w0 k0 m = fun x1 x4 x5 x6 x11 x12 x13 h => loopA (stepL ⟨prog, w0, 60, ks_dedupref12_blocks⟩ (drw w0 60) (loopAt fn_dedupref12_blocks 0)) m (mkFr [(1, x1), (4, x4), (5, x5), (6, x6), (11, x11), (12, x12), (13, x13)]) [fun t => k0 (t 4) (t 5)] h := by funext x1 x4 x5 x6 x11 x12 x13 h; exact (ih x1 x4 x5 x6 x11 x12 x13 h).symm
    show _ = dedupref12_blocks_B1 prog w0 (dedupref12_blocks_L1 prog w0 k0 m) k0 x1 x4 x5 x6 x11 x12 x13 h
    rw [e]
    kernel_rfl
theorem dedupref12_blocks_E1_eq (w0 : World) : dedupref12_blocks_E1 prog w0 = fun k0 x1 x4 x5 x6 x11 x12 x13 h => ∃ m, loopA (stepL ⟨prog, w0, 60, ks_dedupref12_blocks⟩ (drw w0 60) (loopAt fn_dedupref12_blocks 0)) m (mkFr [(1, x1), (4, x4), (5, x5), (6, x6), (11, x11), (12, x12), (13, x13)]) [fun t => k0 (t 4) (t 5)] h := by
  funext k0 x1 x4 x5 x6 x11 x12 x13 h
  exact congrArg Exists (funext fun m => (dedupref12_blocks_L1_eq w0 k0 m x1 x4 x5 x6 x11 x12 x13 h).symm)
theorem c_dedupref12_blocks {w0 : World} {h : Hp} {R : Kont} {a0 a1 : Value} (hj : ∀ v, v ∈ [a0, a1] → v ≠ junk) (hv : s_dedupref12_blocks prog w0 a0 a1 R h) : ACalls prog w0 n_dedupref12_blocks [a0, a1] h R := by
  have e : vcFn ⟨prog, w0, 60, ks_dedupref12_blocks⟩ (drw w0 60) fn_dedupref12_blocks [a0, a1] R h = s_dedupref12_blocks prog w0 a0 a1 R h := by
    unfold s_dedupref12_blocks
    rw [dedupref12_blocks_E1_eq w0]
    kernel_rfl
  exact acalls_of_eq (fn := fn_dedupref12_blocks) (ks := ks_dedupref12_blocks) (n := 60) (by kernel_rfl) (by kernel_rfl) (draw_ok (by kernel_rfl)) (by simp) hj e hv

abbrev fn_dedupref12_Right : Func := f49
def ks_dedupref12_Right : List (Nat × List Nat × List Nat) := []
def s_dedupref12_Right (P : Program) (w0 : World) (a0 : Value) (R : Kont) : Hp → Prop :=
 boxA true 3 a0 fun v1_1 =>
 addA v1_1 0 fun v3_2 =>
 loadA w0 v3_2 fun v4_3 =>
 pureA (lenStr v4_3) fun v5_4 =>
 pureA (binA .geq v5_4 (.int .i64 1)) fun v6_5 =>
 guardA v6_5 true (addA v1_1 0) fun v8_6 =>
 guardA v6_5 true (loadA w0 v8_6) fun v9_7 =>
 guardA v6_5 true (pureA (lenStr v9_7)) fun v10_8 =>
 guardA v6_5 true (pureA (binA .leq v10_8 (.int .i64 64))) fun v11_9 =>
 pickA v6_5 v11_9 (.bool false) fun v12_10 =>
 guardA v12_10 true (addA v1_1 1) fun v14_11 =>
 guardA v12_10 true (loadA w0 v14_11) fun v15_12 =>
 guardA v12_10 true (pureA (lenStr v15_12)) fun v16_13 =>
 guardA v12_10 true (pureA (binA .leq v16_13 (.int .i64 64))) fun v17_14 =>
 pickA v12_10 v17_14 (.bool false) fun v18_15 =>
 guardA v18_15 true (addA v1_1 2) fun v20_16 =>
 guardA v18_15 true (loadA w0 v20_16) fun v21_17 =>
 guardA v18_15 true (pureA (unA .not v21_17)) fun v22_18 =>
 guardA v18_15 true (fun K => K v22_18) fun v23_19 =>
 guardA v23_19 false (addA v1_1 1) fun v24_20 =>
 guardA v23_19 false (loadA w0 v24_20) fun v25_21 =>
 guardA v23_19 false (pureA (binA .eql v25_21 (.string .empty))) fun v26_22 =>
 guardA v18_15 true (pickA v23_19 (.bool true) v26_22) fun v27_23 =>
 pickA v18_15 v27_23 (.bool false) fun v28_24 =>
 retA [v28_24] R
theorem c_dedupref12_Right {w0 : World} {h : Hp} {R : Kont} {a0 : Value} (hj : ∀ v, v ∈ [a0] → v ≠ junk) (hv : s_dedupref12_Right prog w0 a0 R h) : ACalls prog w0 n_dedupref12_Right [a0] h R := by
  have e : vcFn ⟨prog, w0, 29, ks_dedupref12_Right⟩ (drw w0 29) fn_dedupref12_Right [a0] R h = s_dedupref12_Right prog w0 a0 R h := by
    kernel_rfl
  exact acalls_of_eq (fn := fn_dedupref12_Right) (ks := ks_dedupref12_Right) (n := 29) (by kernel_rfl) (by kernel_rfl) (draw_ok (by kernel_rfl)) (by simp) hj e hv

abbrev fn_dedupref12_Find : Func := f56
def ks_dedupref12_Find : List (Nat × List Nat × List Nat) := [(2, [0, 1, 4, 5, 8, 9, 10], [0, 4, 5])]
def dedupref12_Find_B1 (P : Program) (w0 : World) (R : Value → Value → Value → Value → Value → Value → Value → Hp → Prop) (k0 : Value → Value → Value → Hp → Prop) (kr : Value → Value → Value → Hp → Prop) (x0 x1 x4 x5 x8 x9 x10 : Value) : Hp → Prop :=
 pureA (binA .lss x10 x9) fun v11_2 =>
 condA v11_2 (
 idxSlA 3 x8 x10 fun v13_3 =>
 loadNA w0 v13_3 3 fun v14_4 =>
 newA [(.string .empty), (.string .empty), (.bool false)] 3 fun v7_5 =>
 storeNA w0 v7_5 v14_4 3 fun _ =>
 addA v7_5 0 fun v15_6 =>
 loadA w0 v15_6 fun v16_7 =>
 pureA (binA .geq v16_7 x1) fun v18_8 =>
 condA v18_8 (
 pureQ (fun K => K x10) fun v19_9 =>
 pureQ (addA v7_5 0) fun v20_10 =>
 readQ (loadA w0 v20_10) fun v21_11 =>
 pureQ (fun K => K x1) fun v22_12 =>
 pureQ (pureA (binA .eql v21_11 v22_12)) fun v23_13 =>
 pureQ (fun K => K v19_9) fun v4_14 =>
 pureQ (fun K => K v23_13) fun v5_15 =>
 endA (
 kr x0 v4_14 v5_15)) (
 pureA (binA .add x10 (.int .i64 1)) fun v24_16 =>
 R x0 x1 x4 x5 x8 x9 v24_16)) (
 k0 x0 x4 x5)
def dedupref12_Find_L1 (P : Program) (w0 : World) (k0 : Value → Value → Value → Hp → Prop) (kr : Value → Value → Value → Hp → Prop) : Nat → Value → Value → Value → Value → Value → Value → Value → Hp → Prop
  | 0, _, _, _, _, _, _, _ => fun _ => False
  | m + 1, x0, x1, x4, x5, x8, x9, x10 => dedupref12_Find_B1 P w0 (dedupref12_Find_L1 P w0 k0 kr m) k0 kr x0 x1 x4 x5 x8 x9 x10
def dedupref12_Find_E1 (P : Program) (w0 : World) (k0 : Value → Value → Value → Hp → Prop) (kr : Value → Value → Value → Hp → Prop) (x0 x1 x4 x5 x8 x9 x10 : Value) : Hp → Prop := fun h => ∃ m, dedupref12_Find_L1 P w0 k0 kr m x0 x1 x4 x5 x8 x9 x10 h
def s_dedupref12_Find (P : Program) (w0 : World) (a0 a1 : Value) (R : Kont) : Hp → Prop :=
 pureA (lenSl a0) fun v9_1 =>
 dedupref12_Find_E1 P w0 (fun y0_17 y4_18 y5_19 =>
 pureA (lenSl y0_17) fun v26_20 =>
 retA [v26_20, (.bool false)] R) (fun y0_21 y4_22 y5_23 =>
 retA [y4_22, y5_23] R) a0 a1 (.int .i64 0) (.bool false) a0 v9_1 (.int .i64 0)
theorem dedupref12_Find_L1_eq (w0 : World) (k0 : Value → Value → Value → Hp → Prop) (kr : Value → Value → Value → Hp → Prop) : ∀ (m : Nat) (x0 x1 x4 x5 x8 x9 x10 : Value) (h : Hp), loopA (stepL ⟨prog, w0, 27, ks_dedupref12_Find⟩ (drw w0 27) (loopAt fn_dedupref12_Find 0)) m (mkFr [(0, x0), (1, x1), (4, x4), (5, x5), (8, x8), (9, x9), (10, x10)]) [fun t => k0 (t 0) (t 4) (t 5), fun t => kr (t 0) (t 4) (t 5)] h = dedupref12_Find_L1 prog w0 k0 kr m x0 x1 x4 x5 x8 x9 x10 h := by
  intro m
  induction m with
  | zero => intros; kernel_rfl
  | succ m ih =>
    intro x0 x1 x4 x5 x8 x9 x10 h
    have e : dedupref12_Find_L1 prog w0 k0 kr m = fun x0 x1 x4 x5 x8 x9 x10 h => loopA (stepL ⟨prog, w0, 27, ks_dedupref12_Find⟩ (drw w0 27) (loopAt fn_dedupref12_Find 0)) m (mkFr [(0, x0), (1, x1), (4, x4), (5, x5), (8, x8), (9, x9), (10, x10)]) [fun t => k0 (t 0) (t 4) (t 5), fun t => kr (t 0) (t 4) (t 5)] h := by funext x0 x1 x4 x5 x8 x9 x10 h; exact (ih x0 x1 x4 x5 x8 x9 x10 h).symm
    show _ = dedupref12_Find_B1 prog w0 (dedupref12_Find_L1 prog w0 k0 kr m) k0 kr x0 x1 x4 x5 x8 x9 x10 h
    rw [e]
    kernel_rfl
theorem dedupref12_Find_E1_eq (w0 : World) : dedupref12_Find_E1 prog w0 = fun k0 kr x0 x1 x4 x5 x8 x9 x10 h => ∃ m, loopA (stepL ⟨prog, w0, 27, ks_dedupref12_Find⟩ (drw w0 27) (loopAt fn_dedupref12_Find 0)) m (mkFr [(0, x0), (1, x1), (4, x4), (5, x5), (8, x8), (9, x9), (10, x10)]) [fun t => k0 (t 0) (t 4) (t 5), fun t => kr (t 0) (t 4) (t 5)] h := by
  funext k0 kr x0 x1 x4 x5 x8 x9 x10 h
  exact congrArg Exists (funext fun m => (dedupref12_Find_L1_eq w0 k0 kr m x0 x1 x4 x5 x8 x9 x10 h).symm)
theorem c_dedupref12_Find {w0 : World} {h : Hp} {R : Kont} {a0 a1 : Value} (hj : ∀ v, v ∈ [a0, a1] → v ≠ junk) (hv : s_dedupref12_Find prog w0 a0 a1 R h) : ACalls prog w0 n_dedupref12_Find [a0, a1] h R := by
  have e : vcFn ⟨prog, w0, 27, ks_dedupref12_Find⟩ (drw w0 27) fn_dedupref12_Find [a0, a1] R h = s_dedupref12_Find prog w0 a0 a1 R h := by
    unfold s_dedupref12_Find
    rw [dedupref12_Find_E1_eq w0]
    kernel_rfl
  exact acalls_of_eq (fn := fn_dedupref12_Find) (ks := ks_dedupref12_Find) (n := 27) (by kernel_rfl) (by kernel_rfl) (draw_ok (by kernel_rfl)) (by simp) hj e hv

abbrev fn_dedupref12_With : Func := f57
def ks_dedupref12_With : List (Nat × List Nat × List Nat) := []
def s_dedupref12_With (P : Program) (w0 : World) (a0 a1 : Value) (R : Kont) : Hp → Prop :=
 boxA true 3 a1 fun v3_1 =>
 addA v3_1 0 fun v10_2 =>
 loadA w0 v10_2 fun v11_3 =>
 callA P w0 n_dedupref12_Find [a0, v11_3] fun v12_4 =>
 pureA (extA v12_4 0) fun v13_5 =>
 pureA (extA v12_4 1) fun v14_6 =>
 bslA [] (zerosL [(.string .empty), (.string .empty), (.bool false)] 0) 0 3 fun v15_7 =>
 slSlA 3 a0 none (some v13_5) none fun v18_8 =>
 appA w0 3 40 v15_7 v18_8 fun v19_9 =>
 loadNA w0 v3_1 3 fun v21_10 =>
 bslA [(0, 3, true, v21_10)] (zerosL [(.string .empty), (.string .empty), (.bool false)] 1) 1 3 fun v22_11 =>
 appA w0 3 40 v19_9 v22_11 fun v23_12 =>
 condA v14_6 (
 pureA (binA .add v13_5 (.int .i64 1)) fun v26_13 =>
 slSlA 3 a0 (some v26_13) none none fun v30_14 =>
 appA w0 3 40 v23_12 v30_14 fun v31_15 =>
 retA [v31_15] R) (
 slSlA 3 a0 (some v13_5) none none fun v30_16 =>
 appA w0 3 40 v23_12 v30_16 fun v31_17 =>
 retA [v31_17] R)
theorem c_dedupref12_With {w0 : World} {h : Hp} {R : Kont} {a0 a1 : Value} (hj : ∀ v, v ∈ [a0, a1] → v ≠ junk) (hv : s_dedupref12_With prog w0 a0 a1 R h) : ACalls prog w0 n_dedupref12_With [a0, a1] h R := by
  have e : vcFn ⟨prog, w0, 32, ks_dedupref12_With⟩ (drw w0 32) fn_dedupref12_With [a0, a1] R h = s_dedupref12_With prog w0 a0 a1 R h := by
    kernel_rfl
  exact acalls_of_eq (fn := fn_dedupref12_With) (ks := ks_dedupref12_With) (n := 32) (by kernel_rfl) (by kernel_rfl) (draw_ok (by kernel_rfl)) (by simp) hj e hv

abbrev fn_dedupref12_bytes : Func := f72
def ks_dedupref12_bytes : List (Nat × List Nat × List Nat) := []
def s_dedupref12_bytes (P : Program) (w0 : World) (a0 a1 : Value) (R : Kont) : Hp → Prop :=
 boxA true 3 a0 fun v2_1 =>
 addA v2_1 0 fun v7_2 =>
 loadA w0 v7_2 fun v8_3 =>
 callA P w0 n_dedupref12_shared [v8_3, a1] fun v10_4 =>
 addA v2_1 2 fun v11_5 =>
 loadA w0 v11_5 fun v12_6 =>
 condA v12_6 (
 pureQ (fun K => K v10_4) fun v13_7 =>
 pureQ (pureA (convA .u8 v13_7)) fun v14_8 =>
 pureQ (addA v2_1 0) fun v15_9 =>
 readQ (loadA w0 v15_9) fun v16_10 =>
 pureQ (pureA (lenStr v16_10)) fun v17_11 =>
 pureQ (fun K => K v10_4) fun v18_12 =>
 pureQ (pureA (binA .sub v17_11 v18_12)) fun v19_13 =>
 pureQ (pureA (convA .u8 v19_13)) fun v20_14 =>
 pureQ (fun K => K (.int .u8 1)) fun v21_15 =>
 pureQ (addA v2_1 1) fun v22_16 =>
 readQ (loadA w0 v22_16) fun v23_17 =>
 pureQ (pureA (lenStr v23_17)) fun v24_18 =>
 pureQ (pureA (convA .u8 v24_18)) fun v25_19 =>
 pureQ (addA v2_1 0) fun v28_20 =>
 readQ (loadA w0 v28_20) fun v29_21 =>
 pureQ (fun K => K v10_4) fun v30_22 =>
 pureQ (pureA (strSlA v29_21 (some v30_22) none)) fun v31_23 =>
 pureQ (addA v2_1 1) fun v33_24 =>
 readQ (loadA w0 v33_24) fun v34_25 =>
 allA [
 (bslA [(0, 1, false, v14_8), (1, 1, false, v20_14), (2, 1, false, v21_15), (3, 1, false, v25_19)] (zerosL [(.int .u8 0)] 4) 4 1 fun v26_26 =>
 stillA [(sameQ (loadA w0 v33_24) v34_25), (sameQ (loadA w0 v28_20) v29_21)] (
 readQ (b2sA w0 v26_26) fun v27_27 =>
 pureQ (pureA (binA .add v27_27 v31_23)) fun v32_28 =>
 pureQ (pureA (binA .add v32_28 v34_25)) fun v35_29 =>
 pureQ (fun K => K v35_29) fun v4_30 =>
 endA (
 retA [v4_30] R)))]) (
 pureQ (fun K => K v10_4) fun v13_31 =>
 pureQ (pureA (convA .u8 v13_31)) fun v14_32 =>
 pureQ (addA v2_1 0) fun v15_33 =>
 readQ (loadA w0 v15_33) fun v16_34 =>
 pureQ (pureA (lenStr v16_34)) fun v17_35 =>
 pureQ (fun K => K v10_4) fun v18_36 =>
 pureQ (pureA (binA .sub v17_35 v18_36)) fun v19_37 =>
 pureQ (pureA (convA .u8 v19_37)) fun v20_38 =>
 pureQ (fun K => K (.int .u8 0)) fun v21_39 =>
 pureQ (addA v2_1 1) fun v22_40 =>
 readQ (loadA w0 v22_40) fun v23_41 =>
 pureQ (pureA (lenStr v23_41)) fun v24_42 =>
 pureQ (pureA (convA .u8 v24_42)) fun v25_43 =>
 pureQ (addA v2_1 0) fun v28_44 =>
 readQ (loadA w0 v28_44) fun v29_45 =>
 pureQ (fun K => K v10_4) fun v30_46 =>
 pureQ (pureA (strSlA v29_45 (some v30_46) none)) fun v31_47 =>
 pureQ (addA v2_1 1) fun v33_48 =>
 readQ (loadA w0 v33_48) fun v34_49 =>
 allA [
 (bslA [(0, 1, false, v14_32), (1, 1, false, v20_38), (2, 1, false, v21_39), (3, 1, false, v25_43)] (zerosL [(.int .u8 0)] 4) 4 1 fun v26_50 =>
 stillA [(sameQ (loadA w0 v33_48) v34_49), (sameQ (loadA w0 v28_44) v29_45)] (
 readQ (b2sA w0 v26_50) fun v27_51 =>
 pureQ (pureA (binA .add v27_51 v31_47)) fun v32_52 =>
 pureQ (pureA (binA .add v32_52 v34_49)) fun v35_53 =>
 pureQ (fun K => K v35_53) fun v4_54 =>
 endA (
 retA [v4_54] R)))])
theorem c_dedupref12_bytes {w0 : World} {h : Hp} {R : Kont} {a0 a1 : Value} (hj : ∀ v, v ∈ [a0, a1] → v ≠ junk) (hv : s_dedupref12_bytes prog w0 a0 a1 R h) : ACalls prog w0 n_dedupref12_bytes [a0, a1] h R := by
  have e : vcFn ⟨prog, w0, 36, ks_dedupref12_bytes⟩ (drw w0 36) fn_dedupref12_bytes [a0, a1] R h = s_dedupref12_bytes prog w0 a0 a1 R h := by
    kernel_rfl
  exact acalls_of_eq (fn := fn_dedupref12_bytes) (ks := ks_dedupref12_bytes) (n := 36) (by kernel_rfl) (by kernel_rfl) (draw_ok (by kernel_rfl)) (by simp) hj e hv

abbrev fn_dedupref12_shared : Func := f93
def ks_dedupref12_shared : List (Nat × List Nat × List Nat) := [(2, [0, 1, 5], [5])]
def dedupref12_shared_B1 (P : Program) (w0 : World) (R : Value → Value → Value → Hp → Prop) (k0 : Value → Hp → Prop) (x0 x1 x5 : Value) : Hp → Prop :=
 pureQ (fun K => K x5) fun v6_1 =>
 pureQ (fun K => K x0) fun v7_2 =>
 pureQ (pureA (lenStr v7_2)) fun v8_3 =>
 pureQ (pureA (binA .lss v6_1 v8_3)) fun v9_4 =>
 pureQ (fun K => K v9_4) fun v10_5 =>
 pureQ (guardA v10_5 true (fun K => K x5)) fun v11_6 =>
 pureQ (guardA v10_5 true (fun K => K x1)) fun v12_7 =>
 pureQ (guardA v10_5 true (pureA (lenStr v12_7))) fun v13_8 =>
 pureQ (guardA v10_5 true (pureA (binA .lss v11_6 v13_8))) fun v14_9 =>
 pureQ (pickA v10_5 v14_9 (.bool false)) fun v15_10 =>
 pureQ (fun K => K v15_10) fun v16_11 =>
 pureQ (guardA v16_11 true (fun K => K x0)) fun v17_12 =>
 pureQ (guardA v16_11 true (fun K => K x5)) fun v18_13 =>
 pureQ (guardA v16_11 true (pureA (strIdxA v17_12 v18_13))) fun v19_14 =>
 pureQ (guardA v16_11 true (fun K => K x1)) fun v20_15 =>
 pureQ (guardA v16_11 true (fun K => K x5)) fun v21_16 =>
 pureQ (guardA v16_11 true (pureA (strIdxA v20_15 v21_16))) fun v22_17 =>
 pureQ (guardA v16_11 true (pureA (binA .eql v19_14 v22_17))) fun v23_18 =>
 pureQ (pickA v16_11 v23_18 (.bool false)) fun v24_19 =>
 endA (
 condA v24_19 (
 pureA (binA .add x5 (.int .i64 1)) fun v26_20 =>
 R x0 x1 v26_20) (
 k0 x5))
def dedupref12_shared_L1 (P : Program) (w0 : World) (k0 : Value → Hp → Prop) : Nat → Value → Value → Value → Hp → Prop
  | 0, _, _, _ => fun _ => False
  | m + 1, x0, x1, x5 => dedupref12_shared_B1 P w0 (dedupref12_shared_L1 P w0 k0 m) k0 x0 x1 x5
def dedupref12_shared_E1 (P : Program) (w0 : World) (k0 : Value → Hp → Prop) (x0 x1 x5 : Value) : Hp → Prop := fun h => ∃ m, dedupref12_shared_L1 P w0 k0 m x0 x1 x5 h
def s_dedupref12_shared (P : Program) (w0 : World) (a0 a1 : Value) (R : Kont) : Hp → Prop :=
 dedupref12_shared_E1 P w0 (fun y5_21 =>
 retA [y5_21] R) a0 a1 (.int .i64 0)
theorem dedupref12_shared_L1_eq (w0 : World) (k0 : Value → Hp → Prop) : ∀ (m : Nat) (x0 x1 x5 : Value) (h : Hp), loopA (stepL ⟨prog, w0, 28, ks_dedupref12_shared⟩ (drw w0 28) (loopAt fn_dedupref12_shared 0)) m (mkFr [(0, x0), (1, x1), (5, x5)]) [fun t => k0 (t 5)] h = dedupref12_shared_L1 prog w0 k0 m x0 x1 x5 h := by
  intro m
  induction m with
  | zero => intros; kernel_rfl
  | succ m ih =>
    intro x0 x1 x5 h
    have e : dedupref12_shared_L1 prog w0 k0 m = fun x0 x1 x5 h => loopA (stepL ⟨prog, w0, 28, ks_dedupref12_shared⟩ (drw w0 28) (loopAt fn_dedupref12_shared 0)) m (mkFr [(0, x0), (1, x1), (5, x5)]) [fun t => k0 (t 5)] h := by funext x0 x1 x5 h; exact (ih x0 x1 x5 h).symm
    show _ = dedupref12_shared_B1 prog w0 (dedupref12_shared_L1 prog w0 k0 m) k0 x0 x1 x5 h
    rw [e]
    kernel_rfl
theorem dedupref12_shared_E1_eq (w0 : World) : dedupref12_shared_E1 prog w0 = fun k0 x0 x1 x5 h => ∃ m, loopA (stepL ⟨prog, w0, 28, ks_dedupref12_shared⟩ (drw w0 28) (loopAt fn_dedupref12_shared 0)) m (mkFr [(0, x0), (1, x1), (5, x5)]) [fun t => k0 (t 5)] h := by
  funext k0 x0 x1 x5 h
  exact congrArg Exists (funext fun m => (dedupref12_shared_L1_eq w0 k0 m x0 x1 x5 h).symm)
theorem c_dedupref12_shared {w0 : World} {h : Hp} {R : Kont} {a0 a1 : Value} (hj : ∀ v, v ∈ [a0, a1] → v ≠ junk) (hv : s_dedupref12_shared prog w0 a0 a1 R h) : ACalls prog w0 n_dedupref12_shared [a0, a1] h R := by
  have e : vcFn ⟨prog, w0, 28, ks_dedupref12_shared⟩ (drw w0 28) fn_dedupref12_shared [a0, a1] R h = s_dedupref12_shared prog w0 a0 a1 R h := by
    unfold s_dedupref12_shared
    rw [dedupref12_shared_E1_eq w0]
    kernel_rfl
  exact acalls_of_eq (fn := fn_dedupref12_shared) (ks := ks_dedupref12_shared) (n := 28) (by kernel_rfl) (by kernel_rfl) (draw_ok (by kernel_rfl)) (by simp) hj e hv

end
end Go.Proofs.Ythjpddggnhgjhaa.Ah
