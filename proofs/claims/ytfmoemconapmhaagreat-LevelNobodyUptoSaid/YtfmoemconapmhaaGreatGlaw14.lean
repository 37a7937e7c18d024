/- PRINTED by wip/tools/shallow.py: functions of the program as readable words, and that each is what its text says. -/
import Derived.Test.YtfmoemconapmhaaGreatGn
set_option linter.unusedVariables false
set_option linter.unusedSimpArgs false
namespace Go.Proofs.YtfmoemconapmhaaGreat.Ah
open Go Go.Proofs.Tryz
noncomputable section

abbrev fn_deduplaw14_LevelNobody : Func := f6
def ks_deduplaw14_LevelNobody : List (Nat × List Nat × List Nat) := [(4, [1, 2, 11, 12, 13], [2])]
def deduplaw14_LevelNobody_R1 (P : Program) (w0 : World) (b : Nat) (g : Lp) (K : Kont) (x2 y78 y79 : Value) : Hp → Prop :=
 beginA b g (
 storeA w0 x2 (.bool false) fun _ =>
 endR b g (some none) K)
def deduplaw14_LevelNobody_B1 (P : Program) (w0 : World) (R : Value → Value → Value → Value → Value → Hp → Prop) (k0 : Value → Hp → Prop) (kr : Value → Hp → Prop) (x1 x2 x11 x12 x13 : Value) : Hp → Prop :=
 pureA (binA .lss x13 x12) fun v14_10 =>
 condA v14_10 (
 idxSlA 1 x11 x13 fun v15_11 =>
 loadA w0 v15_11 fun v16_12 =>
 addA x1 1 fun v19_13 =>
 loadA w0 v19_13 fun v20_14 =>
 callA P w0 n_level_Levels_Get [v16_12, v20_14] fun v21_15 =>
 pureA (extA v21_15 0) fun v22_16 =>
 pureA (extA v21_15 1) fun v23_17 =>
 addA x1 1 fun v25_18 =>
 loadA w0 v25_18 fun v26_19 =>
 addA x1 3 fun v27_20 =>
 loadA w0 v27_20 fun v28_21 =>
 callA P w0 n_level_Levels_Put [v16_12, v26_19, v28_21] fun v29_22 =>
 pureA (binA .neq v29_22 (.int .i64 6)) fun v30_23 =>
 guardA v30_23 false (fun K => K v16_12) fun v32_24 =>
 guardA v30_23 false (addA x1 1) fun v33_25 =>
 guardA v30_23 false (loadA w0 v33_25) fun v34_26 =>
 guardA v30_23 false (callA P w0 n_level_Levels_Delete [v32_24, v34_26]) fun v35_27 =>
 guardA v30_23 false (pureA (binA .neq v35_27 (.int .i64 6))) fun v36_28 =>
 pickA v30_23 (.bool true) v36_28 fun v37_29 =>
 guardA v37_29 false (fun K => K v22_16) fun v39_30 =>
 guardA v37_29 false (pureA (binA .neq v39_30 (.string .empty))) fun v40_31 =>
 pickA v37_29 (.bool true) v40_31 fun v41_32 =>
 guardA v41_32 false (fun K => K v23_17) fun v43_33 =>
 pickA v41_32 (.bool true) v43_33 fun v44_34 =>
 guardA v44_34 false (fun K => K v16_12) fun v46_35 =>
 guardA v44_34 false (callA P w0 n_level_Levels_Flush [v46_35]) fun v47_36 =>
 pickA v44_34 (.bool true) v47_36 fun v48_37 =>
 guardA v48_37 false (fun K => K v16_12) fun v50_38 =>
 guardA v48_37 false (callA P w0 n_level_Levels_Step [v50_38]) fun v51_39 =>
 pickA v48_37 (.bool true) v51_39 fun v52_40 =>
 guardA v52_40 false (fun K => K v16_12) fun v54_41 =>
 guardA v52_40 false (callA P w0 n_level_Levels_Runs [v54_41]) fun v55_42 =>
 guardA v52_40 false (pureA (lenSl v55_42)) fun v56_43 =>
 guardA v52_40 false (pureA (binA .neq v56_43 (.int .i64 0))) fun v57_44 =>
 pickA v52_40 (.bool true) v57_44 fun v58_45 =>
 guardA v58_45 false (fun K => K v16_12) fun v60_46 =>
 guardA v58_45 false (callA P w0 n_level_Levels_Manifest [v60_46]) fun v61_47 =>
 guardA v58_45 false (pureA (lenSl v61_47)) fun v62_48 =>
 guardA v58_45 false (pureA (binA .neq v62_48 (.int .i64 0))) fun v63_49 =>
 pickA v58_45 (.bool true) v63_49 fun v64_50 =>
 guardA v64_50 false (fun K => K v16_12) fun v66_51 =>
 guardA v64_50 false (callA P w0 n_level_Levels_Files [v66_51]) fun v67_52 =>
 guardA v64_50 false (pureA (lenSl v67_52)) fun v68_53 =>
 guardA v64_50 false (pureA (binA .neq v68_53 (.int .i64 0))) fun v69_54 =>
 pickA v64_50 (.bool true) v69_54 fun v70_55 =>
 guardA v70_55 false (fun K => K v16_12) fun v72_56 =>
 guardA v70_55 false (callA P w0 n_level_Levels_Fork [v72_56]) fun v73_57 =>
 guardA v70_55 false (pureA (binPtrA .neq v73_57 (.pointer none))) fun v74_58 =>
 pickA v70_55 (.bool true) v74_58 fun v75_59 =>
 condA v75_59 (
 storeA w0 x2 (.bool false) fun _ =>
 kr x2) (
 callA P w0 n_level_Levels_Scan [v16_12, (.string .empty), (.string .empty)] fun v77_60 =>
 rangeA P w0 v77_60 2 (fun b g args K => deduplaw14_LevelNobody_R1 P w0 b g K x2 (args.getD 0 undef) (args.tail.getD 0 undef)) (
 pureA (binA .add x13 (.int .i64 1)) fun v80_61 =>
 R x1 x2 x11 x12 v80_61) [(none, (
 kr x2))])) (
 k0 x2)
def deduplaw14_LevelNobody_L1 (P : Program) (w0 : World) (k0 : Value → Hp → Prop) (kr : Value → Hp → Prop) : Nat → Value → Value → Value → Value → Value → Hp → Prop
  | 0, _, _, _, _, _ => fun _ => False
  | m + 1, x1, x2, x11, x12, x13 => deduplaw14_LevelNobody_B1 P w0 (deduplaw14_LevelNobody_L1 P w0 k0 kr m) k0 kr x1 x2 x11 x12 x13
def deduplaw14_LevelNobody_E1 (P : Program) (w0 : World) (k0 : Value → Hp → Prop) (kr : Value → Hp → Prop) (x1 x2 x11 x12 x13 : Value) : Hp → Prop := fun h => ∃ m, deduplaw14_LevelNobody_L1 P w0 k0 kr m x1 x2 x11 x12 x13 h
def s_deduplaw14_LevelNobody (P : Program) (w0 : World) (a0 : Value) (R : Kont) : Hp → Prop :=
 fun h0 => (boxA true 5 a0 fun v1_1 =>
 newA [(.bool false)] 1 fun v2_2 =>
 callA P w0 n_deduplaw14_awake [] fun v7_3 =>
 pureA (unA .not v7_3) fun v8_4 =>
 condA v8_4 (
 storeA w0 v2_2 (.bool false) fun _ =>
 cutA h0 (
 loadA w0 v2_2 fun v2_5 =>
 retA [v2_5] R)) (
 buildA [] [(.int .i64 0), (.int .i64 0), (.int .i64 0), (.pointer none), (.slice none 0 0), (.slice none 0 0), (.slice none 0 0), (.slice none 0 0), (.slice none 0 0), (.slice none 0 0), (.slice none 0 0), (.slice none 0 0), (.slice none 0 0), (.slice none 0 0), (.slice none 0 0), (.slice none 0 0), (.slice none 0 0), (.slice none 0 0), (.slice none 0 0), (.slice none 0 0)] fun v9_6 =>
 boxA true 20 v9_6 fun v10_7 =>
 bslA [(0, 1, false, (.pointer none)), (1, 1, false, v10_7)] (zerosL [(.pointer none)] 2) 2 1 fun v11_8 =>
 pureA (lenSl v11_8) fun v12_9 =>
 deduplaw14_LevelNobody_E1 P w0 (fun y2_62 =>
 storeA w0 y2_62 (.bool true) fun _ =>
 cutA h0 (
 loadA w0 y2_62 fun v2_63 =>
 retA [v2_63] R)) (fun y2_64 =>
 cutA h0 (
 loadA w0 y2_64 fun v2_65 =>
 retA [v2_65] R)) v1_1 v2_2 v11_8 v12_9 (.int .i64 0))) h0
theorem deduplaw14_LevelNobody_L1_eq (w0 : World) (k0 : Value → Hp → Prop) (kr : Value → Hp → Prop) : ∀ (m : Nat) (x1 x2 x11 x12 x13 : Value) (h : Hp), loopA (stepLM ⟨prog, w0, 81, ks_deduplaw14_LevelNobody⟩ (drw w0 81) (loopAt fn_deduplaw14_LevelNobody 0)) m (mkFr [(1, x1), (2, x2), (11, x11), (12, x12), (13, x13)]) [fun t => k0 (t 2), fun t => kr (t 2)] h = deduplaw14_LevelNobody_L1 prog w0 k0 kr m x1 x2 x11 x12 x13 h := by
  intro m
  induction m with
  | zero => intros; kernel_rfl
  | succ m ih =>
    intro x1 x2 x11 x12 x13 h
    have e : deduplaw14_LevelNobody_L1 prog w0 k0 kr m = fun x1 x2 x11 x12 x13 h => loopA (stepLM ⟨prog, w0, 81, ks_deduplaw14_LevelNobody⟩ (drw w0 81) (loopAt fn_deduplaw14_LevelNobody 0)) m (mkFr [(1, x1), (2, x2), (11, x11), (12, x12), (13, x13)]) [fun t => k0 (t 2), fun t => kr (t 2)] h := by funext x1 x2 x11 x12 x13 h; exact (ih x1 x2 x11 x12 x13 h).symm
    show _ = deduplaw14_LevelNobody_B1 prog w0 (deduplaw14_LevelNobody_L1 prog w0 k0 kr m) k0 kr x1 x2 x11 x12 x13 h
    rw [e]
    kernel_rfl
theorem deduplaw14_LevelNobody_E1_eq (w0 : World) : deduplaw14_LevelNobody_E1 prog w0 = fun k0 kr x1 x2 x11 x12 x13 h => ∃ m, loopA (stepLM ⟨prog, w0, 81, ks_deduplaw14_LevelNobody⟩ (drw w0 81) (loopAt fn_deduplaw14_LevelNobody 0)) m (mkFr [(1, x1), (2, x2), (11, x11), (12, x12), (13, x13)]) [fun t => k0 (t 2), fun t => kr (t 2)] h := by
  funext k0 kr x1 x2 x11 x12 x13 h
  exact congrArg Exists (funext fun m => (deduplaw14_LevelNobody_L1_eq w0 k0 kr m x1 x2 x11 x12 x13 h).symm)
theorem c_deduplaw14_LevelNobody {w0 : World} {h : Hp} {R : Kont} {a0 : Value} (hj : ∀ v, v ∈ [a0] → v ≠ junk) (hv : s_deduplaw14_LevelNobody prog w0 a0 R h) : ACalls prog w0 n_deduplaw14_LevelNobody [a0] h R := by
  have e : vcFnM ⟨prog, w0, 81, ks_deduplaw14_LevelNobody⟩ (drw w0 81) fn_deduplaw14_LevelNobody [a0] R h = s_deduplaw14_LevelNobody prog w0 a0 R h := by
    unfold s_deduplaw14_LevelNobody
    rw [deduplaw14_LevelNobody_E1_eq w0]
    kernel_rfl
  exact acalls_of_eqM (fn := fn_deduplaw14_LevelNobody) (ks := ks_deduplaw14_LevelNobody) (n := 81) (by kernel_rfl) (by kernel_rfl) (draw_ok (by kernel_rfl)) (by simp) hj e hv

abbrev fn_deduplaw14_awake : Func := f30
def ks_deduplaw14_awake : List (Nat × List Nat × List Nat) := []
def s_deduplaw14_awake (P : Program) (w0 : World) (R : Kont) : Hp → Prop :=
 buildA [(0, 1, false, (.int .i64 256)), (1, 1, false, (.int .i64 2)), (2, 1, false, (.int .i64 2))] [(.int .i64 0), (.int .i64 0), (.int .i64 0)] fun v9_1 =>
 callA P w0 n_level_New [v9_1] fun v10_2 =>
 pureA (extA v10_2 0) fun v11_3 =>
 pureA (extA v10_2 1) fun v12_4 =>
 pureA (binA .neq v12_4 (.int .i64 0)) fun v14_5 =>
 guardA v14_5 false (fun K => K v11_3) fun v16_6 =>
 guardA v14_5 false (pureA (binPtrA .eql v16_6 (.pointer none))) fun v17_7 =>
 pickA v14_5 (.bool true) v17_7 fun v18_8 =>
 guardA v18_8 false (fun K => K v11_3) fun v20_9 =>
 guardA v18_8 false (callA P w0 n_level_Levels_Scan [v20_9, (.string .empty), (.string .empty)]) fun v21_10 =>
 guardA v18_8 false (pureA (binFnA .eql v21_10 .nilFunc)) fun v22_11 =>
 pickA v18_8 (.bool true) v22_11 fun v23_12 =>
 condA v23_12 (
 retA [(.bool false)] R) (
 callA P w0 n_level_Levels_Put [v11_3, (.string ⟨#[97]⟩), (.string ⟨#[49]⟩)] fun v25_13 =>
 callA P w0 n_level_Levels_Put [v11_3, (.string ⟨#[98]⟩), (.string ⟨#[50]⟩)] fun v27_14 =>
 callA P w0 n_level_Levels_Put [v11_3, (.string ⟨#[97]⟩), (.string ⟨#[51]⟩)] fun v29_15 =>
 callA P w0 n_level_Levels_Delete [v11_3, (.string ⟨#[98]⟩)] fun v31_16 =>
 callA P w0 n_level_Levels_Runs [v11_3] fun v33_17 =>
 bslA [(0, 1, false, (.int .i64 2))] (zerosL [(.int .i64 0)] 1) 1 1 fun v34_18 =>
 callA P w0 n_deduplaw14_sameInts [v33_17, v34_18] fun v35_19 =>
 callA P w0 n_level_Levels_Get [v11_3, (.string ⟨#[97]⟩)] fun v38_20 =>
 pureA (extA v38_20 0) fun v39_21 =>
 pureA (extA v38_20 1) fun v40_22 =>
 callA P w0 n_level_Levels_Get [v11_3, (.string ⟨#[98]⟩)] fun v43_23 =>
 pureA (extA v43_23 0) fun v44_24 =>
 pureA (extA v43_23 1) fun v45_25 =>
 guardA v35_19 true (fun K => K v11_3) fun v48_26 =>
 guardA v35_19 true (callA P w0 n_level_Levels_Step [v48_26]) fun v49_27 =>
 pickA v35_19 v49_27 (.bool false) fun v50_28 =>
 guardA v50_28 true (fun K => K v11_3) fun v52_29 =>
 guardA v50_28 true (callA P w0 n_level_Levels_Runs [v52_29]) fun v53_30 =>
 guardA v50_28 true (bslA [(0, 1, false, (.int .i64 0)), (1, 1, false, (.int .i64 1))] (zerosL [(.int .i64 0)] 2) 2 1) fun v54_31 =>
 guardA v50_28 true (callA P w0 n_deduplaw14_sameInts [v53_30, v54_31]) fun v55_32 =>
 pickA v50_28 v55_32 (.bool false) fun v56_33 =>
 guardA v56_33 true (fun K => K v39_21) fun v58_34 =>
 guardA v56_33 true (pureA (binA .eql v58_34 (.string ⟨#[51]⟩))) fun v59_35 =>
 pickA v56_33 v59_35 (.bool false) fun v60_36 =>
 guardA v60_36 true (fun K => K v40_22) fun v62_37 =>
 pickA v60_36 v62_37 (.bool false) fun v63_38 =>
 guardA v63_38 true (fun K => K v45_25) fun v65_39 =>
 guardA v63_38 true (pureA (unA .not v65_39)) fun v66_40 =>
 pickA v63_38 v66_40 (.bool false) fun v67_41 =>
 retA [v67_41] R)
theorem c_deduplaw14_awake {w0 : World} {h : Hp} {R : Kont} (hj : ∀ v, v ∈ [] → v ≠ junk) (hv : s_deduplaw14_awake prog w0  R h) : ACalls prog w0 n_deduplaw14_awake [] h R := by
  have e : vcFn ⟨prog, w0, 68, ks_deduplaw14_awake⟩ (drw w0 68) fn_deduplaw14_awake [] R h = s_deduplaw14_awake prog w0  R h := by
    kernel_rfl
  exact acalls_of_eq (fn := fn_deduplaw14_awake) (ks := ks_deduplaw14_awake) (n := 68) (by kernel_rfl) (by kernel_rfl) (draw_ok (by kernel_rfl)) (by simp) hj e hv

abbrev fn_deduplaw14_sameInts : Func := f79
def ks_deduplaw14_sameInts : List (Nat × List Nat × List Nat) := [(4, [0, 1, 4, 12, 13], [4])]
def deduplaw14_sameInts_B1 (P : Program) (w0 : World) (R : Value → Value → Value → Value → Value → Hp → Prop) (k0 : Value → Hp → Prop) (kr : Value → Hp → Prop) (x0 x1 x4 x12 x13 : Value) : Hp → Prop :=
 pureA (binA .lss x13 x12) fun v14_5 =>
 condA v14_5 (
 pureQ (fun K => K x0) fun v16_6 =>
 pureQ (fun K => K x13) fun v17_7 =>
 pureQ (idxSlA 1 v16_6 v17_7) fun v18_8 =>
 readQ (loadA w0 v18_8) fun v19_9 =>
 pureQ (fun K => K x1) fun v20_10 =>
 pureQ (fun K => K x13) fun v21_11 =>
 pureQ (idxSlA 1 v20_10 v21_11) fun v22_12 =>
 readQ (loadA w0 v22_12) fun v23_13 =>
 pureQ (pureA (binA .neq v19_9 v23_13)) fun v24_14 =>
 endA (
 condA v24_14 (
 kr (.bool false)) (
 pureA (binA .add x13 (.int .i64 1)) fun v25_15 =>
 R x0 x1 x4 x12 v25_15))) (
 k0 x4)
def deduplaw14_sameInts_L1 (P : Program) (w0 : World) (k0 : Value → Hp → Prop) (kr : Value → Hp → Prop) : Nat → Value → Value → Value → Value → Value → Hp → Prop
  | 0, _, _, _, _, _ => fun _ => False
  | m + 1, x0, x1, x4, x12, x13 => deduplaw14_sameInts_B1 P w0 (deduplaw14_sameInts_L1 P w0 k0 kr m) k0 kr x0 x1 x4 x12 x13
def deduplaw14_sameInts_E1 (P : Program) (w0 : World) (k0 : Value → Hp → Prop) (kr : Value → Hp → Prop) (x0 x1 x4 x12 x13 : Value) : Hp → Prop := fun h => ∃ m, deduplaw14_sameInts_L1 P w0 k0 kr m x0 x1 x4 x12 x13 h
def s_deduplaw14_sameInts (P : Program) (w0 : World) (a0 a1 : Value) (R : Kont) : Hp → Prop :=
 pureA (lenSl a0) fun v7_1 =>
 pureA (lenSl a1) fun v9_2 =>
 pureA (binA .neq v7_1 v9_2) fun v10_3 =>
 condA v10_3 (
 retA [(.bool false)] R) (
 pureA (lenSl a0) fun v12_4 =>
 deduplaw14_sameInts_E1 P w0 (fun y4_16 =>
 retA [(.bool true)] R) (fun y4_17 =>
 retA [y4_17] R) a0 a1 (.bool false) v12_4 (.int .i64 0))
theorem deduplaw14_sameInts_L1_eq (w0 : World) (k0 : Value → Hp → Prop) (kr : Value → Hp → Prop) : ∀ (m : Nat) (x0 x1 x4 x12 x13 : Value) (h : Hp), loopA (stepL ⟨prog, w0, 26, ks_deduplaw14_sameInts⟩ (drw w0 26) (loopAt fn_deduplaw14_sameInts 0)) m (mkFr [(0, x0), (1, x1), (4, x4), (12, x12), (13, x13)]) [fun t => k0 (t 4), fun t => kr (t 4)] h = deduplaw14_sameInts_L1 prog w0 k0 kr m x0 x1 x4 x12 x13 h := by
  intro m
  induction m with
  | zero => intros; kernel_rfl
  | succ m ih =>
    intro x0 x1 x4 x12 x13 h
    have e : deduplaw14_sameInts_L1 prog w0 k0 kr m = fun x0 x1 x4 x12 x13 h => loopA (stepL ⟨prog, w0, 26, ks_deduplaw14_sameInts⟩ (drw w0 26) (loopAt fn_deduplaw14_sameInts 0)) m (mkFr [(0, x0), (1, x1), (4, x4), (12, x12), (13, x13)]) [fun t => k0 (t 4), fun t => kr (t 4)] h := by funext x0 x1 x4 x12 x13 h; exact (ih x0 x1 x4 x12 x13 h).symm
    show _ = deduplaw14_sameInts_B1 prog w0 (deduplaw14_sameInts_L1 prog w0 k0 kr m) k0 kr x0 x1 x4 x12 x13 h
    rw [e]
    kernel_rfl
theorem deduplaw14_sameInts_E1_eq (w0 : World) : deduplaw14_sameInts_E1 prog w0 = fun k0 kr x0 x1 x4 x12 x13 h => ∃ m, loopA (stepL ⟨prog, w0, 26, ks_deduplaw14_sameInts⟩ (drw w0 26) (loopAt fn_deduplaw14_sameInts 0)) m (mkFr [(0, x0), (1, x1), (4, x4), (12, x12), (13, x13)]) [fun t => k0 (t 4), fun t => kr (t 4)] h := by
  funext k0 kr x0 x1 x4 x12 x13 h
  exact congrArg Exists (funext fun m => (deduplaw14_sameInts_L1_eq w0 k0 kr m x0 x1 x4 x12 x13 h).symm)
theorem c_deduplaw14_sameInts {w0 : World} {h : Hp} {R : Kont} {a0 a1 : Value} (hj : ∀ v, v ∈ [a0, a1] → v ≠ junk) (hv : s_deduplaw14_sameInts prog w0 a0 a1 R h) : ACalls prog w0 n_deduplaw14_sameInts [a0, a1] h R := by
  have e : vcFn ⟨prog, w0, 26, ks_deduplaw14_sameInts⟩ (drw w0 26) fn_deduplaw14_sameInts [a0, a1] R h = s_deduplaw14_sameInts prog w0 a0 a1 R h := by
    unfold s_deduplaw14_sameInts
    rw [deduplaw14_sameInts_E1_eq w0]
    kernel_rfl
  exact acalls_of_eq (fn := fn_deduplaw14_sameInts) (ks := ks_deduplaw14_sameInts) (n := 26) (by kernel_rfl) (by kernel_rfl) (draw_ok (by kernel_rfl)) (by simp) hj e hv

end
end Go.Proofs.YtfmoemconapmhaaGreat.Ah
