/- PRINTED by wip/tools/shallow.py: functions of the program as readable words, and that each is what its text says. -/
import Derived.Test.YthjpddggnhgjhaaGn
set_option linter.unusedVariables false
set_option linter.unusedSimpArgs false
namespace Go.Proofs.Ythjpddggnhgjhaa.Ah
open Go Go.Proofs.Try
noncomputable section

abbrev fn_deduplaw12_RunBuilds : Func := f3
def ks_deduplaw12_RunBuilds : List (Nat × List Nat × List Nat) := []
def s_deduplaw12_RunBuilds (P : Program) (w0 : World) (a0 a1 : Value) (R : Kont) : Hp → Prop :=
 callA P w0 n_deduplaw12_awake [] fun v10_1 =>
 pureA (unA .not v10_1) fun v11_2 =>
 condA v11_2 (
 retA [(.bool false)] R) (
 bslA [] (zerosL [(.string .empty), (.string .empty), (.bool false)] 0) 0 3 fun v12_3 =>
 appA w0 3 40 v12_3 a0 fun v14_4 =>
 callA P w0 n_run_Build [v14_4, a1] fun v18_5 =>
 pureA (extA v18_5 0) fun v19_6 =>
 pureA (extA v18_5 1) fun v20_7 =>
 callA P w0 n_dedupref12_Build [a0, a1] fun v24_8 =>
 pureA (extA v24_8 0) fun v25_9 =>
 pureA (extA v24_8 1) fun v26_10 =>
 b2sA w0 v19_6 fun v28_11 =>
 pureA (binA .eql v28_11 v25_9) fun v30_12 =>
 guardA v30_12 true (fun K => K v20_7) fun v32_13 =>
 guardA v30_12 true (fun K => K v26_10) fun v33_14 =>
 guardA v30_12 true (pureA (binA .eql v32_13 v33_14)) fun v34_15 =>
 pickA v30_12 v34_15 (.bool false) fun v35_16 =>
 guardA v35_16 true (fun K => K v14_4) fun v37_17 =>
 guardA v35_16 true (callA P w0 n_run_Check [v37_17]) fun v38_18 =>
 guardA v35_16 true (fun K => K a0) fun v39_19 =>
 guardA v35_16 true (callA P w0 n_dedupref12_Check [v39_19]) fun v40_20 =>
 guardA v35_16 true (pureA (binA .eql v38_18 v40_20)) fun v41_21 =>
 pickA v35_16 v41_21 (.bool false) fun v42_22 =>
 guardA v42_22 true (fun K => K v14_4) fun v44_23 =>
 guardA v42_22 true (fun K => K a0) fun v45_24 =>
 guardA v42_22 true (callA P w0 n_deduplaw12_same [v44_23, v45_24]) fun v46_25 =>
 pickA v42_22 v46_25 (.bool false) fun v47_26 =>
 retA [v47_26] R)
theorem c_deduplaw12_RunBuilds {w0 : World} {h : Hp} {R : Kont} {a0 a1 : Value} (hj : ∀ v, v ∈ [a0, a1] → v ≠ junk) (hv : s_deduplaw12_RunBuilds prog w0 a0 a1 R h) : ACalls prog w0 n_deduplaw12_RunBuilds [a0, a1] h R := by
  have e : vcFn ⟨prog, w0, 48, ks_deduplaw12_RunBuilds⟩ (drw w0 48) fn_deduplaw12_RunBuilds [a0, a1] R h = s_deduplaw12_RunBuilds prog w0 a0 a1 R h := by
    kernel_rfl
  exact acalls_of_eq (fn := fn_deduplaw12_RunBuilds) (ks := ks_deduplaw12_RunBuilds) (n := 48) (by kernel_rfl) (by kernel_rfl) (draw_ok (by kernel_rfl)) (by simp) hj e hv

abbrev fn_deduplaw12_RunBack : Func := f4
def ks_deduplaw12_RunBack : List (Nat × List Nat × List Nat) := [(17, [1, 2, 6, 7, 9, 10, 12, 75, 76, 77], [1, 2, 6, 7, 9, 10, 12])]
def deduplaw12_RunBack_R1 (P : Program) (w0 : World) (b : Nat) (g : Lp) (K : Kont) (x10 y66 : Value) : Hp → Prop :=
 newA [(.string .empty), (.string .empty), (.bool false)] 3 fun v11_36 =>
 storeNA w0 v11_36 y66 3 fun _ =>
 beginA b g (
 loadA w0 x10 fun v67_37 =>
 loadNA w0 v11_36 3 fun v68_38 =>
 bslA [(0, 3, true, v68_38)] (zerosL [(.string .empty), (.string .empty), (.bool false)] 1) 1 3 fun v69_39 =>
 appA w0 3 40 v67_37 v69_39 fun v70_40 =>
 storeA w0 x10 v70_40 fun _ =>
 endR b g none K)
def deduplaw12_RunBack_B1 (P : Program) (w0 : World) (R : Value → Value → Value → Value → Value → Value → Value → Value → Value → Value → Hp → Prop) (k2 : Value → Value → Value → Value → Value → Value → Value → Hp → Prop) (kr : Value → Value → Value → Value → Value → Value → Value → Hp → Prop) (x1 x2 x6 x7 x9 x10 x12 x75 x76 x77 : Value) : Hp → Prop :=
 pureA (binA .lss x77 x76) fun v78_45 =>
 condA v78_45 (
 idxSlA 3 x75 x77 fun v79_46 =>
 loadNA w0 v79_46 3 fun v80_47 =>
 newA [(.string .empty), (.string .empty), (.bool false)] 3 fun v14_48 =>
 storeNA w0 v14_48 v80_47 3 fun _ =>
 addA v14_48 0 fun v83_49 =>
 loadA w0 v83_49 fun v84_50 =>
 callA P w0 n_run_Run_Get [x9, v84_50] fun v85_51 =>
 pureA (extA v85_51 0) fun v86_52 =>
 pureA (extA v85_51 1) fun v87_53 =>
 newA [(.string .empty), (.string .empty), (.bool false)] 3 fun v15_54 =>
 storeNA w0 v15_54 v86_52 3 fun _ =>
 pureA (unA .not v87_53) fun v89_55 =>
 guardA v89_55 false (loadNA w0 v15_54 3) fun v91_56 =>
 guardA v89_55 false (loadNA w0 v14_48 3) fun v92_57 =>
 guardA v89_55 false (eqStA P .neq 41 v91_56 v92_57) fun v93_58 =>
 pickA v89_55 (.bool true) v93_58 fun v94_59 =>
 condA v94_59 (
 kr x1 x2 (.bool false) x7 x9 x10 x12) (
 guardA x12 false (addA v14_48 0) fun v97_60 =>
 guardA x12 false (loadA w0 v97_60) fun v98_61 =>
 guardA x12 false (fun K => K x2) fun v99_62 =>
 guardA x12 false (pureA (binA .eql v98_61 v99_62)) fun v100_63 =>
 pickA x12 (.bool true) v100_63 fun v101_64 =>
 pureA (binA .add x77 (.int .i64 1)) fun v102_65 =>
 R x1 x2 x6 x7 x9 x10 v101_64 x75 x76 v102_65)) (
 k2 x1 x2 x6 x7 x9 x10 x12)
def deduplaw12_RunBack_L1 (P : Program) (w0 : World) (k2 : Value → Value → Value → Value → Value → Value → Value → Hp → Prop) (kr : Value → Value → Value → Value → Value → Value → Value → Hp → Prop) : Nat → Value → Value → Value → Value → Value → Value → Value → Value → Value → Value → Hp → Prop
  | 0, _, _, _, _, _, _, _, _, _, _ => fun _ => False
  | m + 1, x1, x2, x6, x7, x9, x10, x12, x75, x76, x77 => deduplaw12_RunBack_B1 P w0 (deduplaw12_RunBack_L1 P w0 k2 kr m) k2 kr x1 x2 x6 x7 x9 x10 x12 x75 x76 x77
def deduplaw12_RunBack_E1 (P : Program) (w0 : World) (k2 : Value → Value → Value → Value → Value → Value → Value → Hp → Prop) (kr : Value → Value → Value → Value → Value → Value → Value → Hp → Prop) (x1 x2 x6 x7 x9 x10 x12 x75 x76 x77 : Value) : Hp → Prop := fun h => ∃ m, deduplaw12_RunBack_L1 P w0 k2 kr m x1 x2 x6 x7 x9 x10 x12 x75 x76 x77 h
def s_deduplaw12_RunBack (P : Program) (w0 : World) (a0 a1 a2 : Value) (R : Kont) : Hp → Prop :=
 fun h0 => (callA P w0 n_deduplaw12_awake [] fun v20_1 =>
 pureA (unA .not v20_1) fun v21_2 =>
 condA v21_2 (
 cutA h0 (
 retA [(.bool false)] R)) (
 callA P w0 n_run_Build [a0, a1] fun v25_3 =>
 pureA (extA v25_3 0) fun v26_4 =>
 pureA (extA v25_3 1) fun v27_5 =>
 pureA (binA .neq v27_5 (.int .i64 0)) fun v29_6 =>
 condA v29_6 (
 pureA (lenSl v26_4) fun v31_7 =>
 pureA (binA .eql v31_7 (.int .i64 0)) fun v32_8 =>
 guardA v32_8 true (fun K => K a1) fun v34_9 =>
 guardA v32_8 true (pureA (binA .lss v34_9 (.int .i64 256))) fun v35_10 =>
 guardA v32_8 true (fun K => K v35_10) fun v36_11 =>
 guardA v36_11 false (fun K => K a1) fun v37_12 =>
 guardA v36_11 false (pureA (binA .gtr v37_12 (.int .i64 4096))) fun v38_13 =>
 guardA v32_8 true (pickA v36_11 (.bool true) v38_13) fun v39_14 =>
 guardA v32_8 true (fun K => K v39_14) fun v40_15 =>
 guardA v40_15 false (fun K => K a0) fun v41_16 =>
 guardA v40_15 false (callA P w0 n_dedupref12_Check [v41_16]) fun v42_17 =>
 guardA v40_15 false (pureA (binA .neq v42_17 (.int .i64 0))) fun v43_18 =>
 guardA v32_8 true (pickA v40_15 (.bool true) v43_18) fun v44_19 =>
 pickA v32_8 v44_19 (.bool false) fun v45_20 =>
 cutA h0 (
 retA [v45_20] R)) (
 callA P w0 n_run_Open [v26_4] fun v48_21 =>
 pureA (extA v48_21 0) fun v49_22 =>
 pureA (extA v48_21 1) fun v50_23 =>
 pureA (binA .neq v50_23 (.int .i64 0)) fun v52_24 =>
 guardA v52_24 false (fun K => K v49_22) fun v54_25 =>
 guardA v52_24 false (pureA (binPtrA .eql v54_25 (.pointer none))) fun v55_26 =>
 pickA v52_24 (.bool true) v55_26 fun v56_27 =>
 guardA v56_27 false (fun K => K v49_22) fun v58_28 =>
 guardA v56_27 false (callA P w0 n_run_Run_Len [v58_28]) fun v59_29 =>
 guardA v56_27 false (fun K => K a0) fun v60_30 =>
 guardA v56_27 false (pureA (lenSl v60_30)) fun v61_31 =>
 guardA v56_27 false (pureA (binA .neq v59_29 v61_31)) fun v62_32 =>
 pickA v56_27 (.bool true) v62_32 fun v63_33 =>
 condA v63_33 (
 cutA h0 (
 retA [(.bool false)] R)) (
 newA [(.slice none 0 0)] 1 fun v10_34 =>
 callA P w0 n_run_Run_Scan [v49_22, (.string .empty), (.string .empty)] fun v65_35 =>
 rangeA P w0 v65_35 1 (fun b g args K => deduplaw12_RunBack_R1 P w0 b g K v10_34 (args.getD 0 undef)) (
 loadA w0 v10_34 fun v71_41 =>
 callA P w0 n_deduplaw12_same [v71_41, a0] fun v73_42 =>
 pureA (unA .not v73_42) fun v74_43 =>
 condA v74_43 (
 cutA h0 (
 retA [(.bool false)] R)) (
 pureA (lenSl a0) fun v76_44 =>
 deduplaw12_RunBack_E1 P w0 (fun y1_66 y2_67 y6_68 y7_69 y9_70 y10_71 y12_72 =>
 callA P w0 n_run_Run_Get [y9_70, y2_67] fun v106_73 =>
 pureA (extA v106_73 0) fun v107_74 =>
 pureA (extA v106_73 1) fun v108_75 =>
 newA [(.string .empty), (.string .empty), (.bool false)] 3 fun v17_76 =>
 storeNA w0 v17_76 v107_74 3 fun _ =>
 loadA w0 y10_71 fun v110_77 =>
 callA P w0 n_run_Build [v110_77, y1_66] fun v112_78 =>
 pureA (extA v112_78 0) fun v113_79 =>
 pureA (extA v112_78 1) fun v114_80 =>
 pureA (binBoolA .eql v108_75 y12_72) fun v117_81 =>
 guardA v117_81 true (fun K => K v114_80) fun v119_82 =>
 guardA v117_81 true (pureA (binA .eql v119_82 (.int .i64 0))) fun v120_83 =>
 pickA v117_81 v120_83 (.bool false) fun v121_84 =>
 guardA v121_84 true (fun K => K v113_79) fun v123_85 =>
 guardA v121_84 true (b2sA w0 v123_85) fun v124_86 =>
 guardA v121_84 true (fun K => K y7_69) fun v125_87 =>
 guardA v121_84 true (b2sA w0 v125_87) fun v126_88 =>
 guardA v121_84 true (pureA (binA .eql v124_86 v126_88)) fun v127_89 =>
 pickA v121_84 v127_89 (.bool false) fun v128_90 =>
 cutA h0 (
 retA [v128_90] R)) (fun y1_91 y2_92 y6_93 y7_94 y9_95 y10_96 y12_97 =>
 cutA h0 (
 retA [y6_93] R)) a1 a2 (.bool false) v26_4 v49_22 v10_34 (.bool false) a0 v76_44 (.int .i64 0))) [])))) h0
theorem deduplaw12_RunBack_L1_eq (w0 : World) (k2 : Value → Value → Value → Value → Value → Value → Value → Hp → Prop) (kr : Value → Value → Value → Value → Value → Value → Value → Hp → Prop) : ∀ (m : Nat) (x1 x2 x6 x7 x9 x10 x12 x75 x76 x77 : Value) (h : Hp), loopA (stepLM ⟨prog, w0, 129, ks_deduplaw12_RunBack⟩ (drw w0 129) (loopAt fn_deduplaw12_RunBack 0)) m (mkFr [(1, x1), (2, x2), (6, x6), (7, x7), (9, x9), (10, x10), (12, x12), (75, x75), (76, x76), (77, x77)]) [fun t => k2 (t 1) (t 2) (t 6) (t 7) (t 9) (t 10) (t 12), fun t => kr (t 1) (t 2) (t 6) (t 7) (t 9) (t 10) (t 12)] h = deduplaw12_RunBack_L1 prog w0 k2 kr m x1 x2 x6 x7 x9 x10 x12 x75 x76 x77 h := by
  intro m
  induction m with
  | zero => intros; kernel_rfl
  | succ m ih =>
    intro x1 x2 x6 x7 x9 x10 x12 x75 x76 x77 h
    have e : deduplaw12_RunBack_L1 prog w0 k2 kr m = fun x1 x2 x6 x7 x9 x10 x12 x75 x76 x77 h => loopA (stepLM ⟨prog, w0, 129, ks_deduplaw12_RunBack⟩ (drw w0 129) (loopAt fn_deduplaw12_RunBack 0)) m (mkFr [(1, x1), (2, x2), (6, x6), (7, x7), (9, x9), (10, x10), (12, x12), (75, x75), (76, x76), (77, x77)]) [fun t => k2 (t 1) (t 2) (t 6) (t 7) (t 9) (t 10) (t 12), fun t => kr (t 1) (t 2) (t 6) (t 7) (t 9) (t 10) (t 12)] h := by funext x1 x2 x6 x7 x9 x10 x12 x75 x76 x77 h; exact (ih x1 x2 x6 x7 x9 x10 x12 x75 x76 x77 h).symm
    show _ = deduplaw12_RunBack_B1 prog w0 (deduplaw12_RunBack_L1 prog w0 k2 kr m) k2 kr x1 x2 x6 x7 x9 x10 x12 x75 x76 x77 h
    rw [e]
    kernel_rfl
theorem deduplaw12_RunBack_E1_eq (w0 : World) : deduplaw12_RunBack_E1 prog w0 = fun k2 kr x1 x2 x6 x7 x9 x10 x12 x75 x76 x77 h => ∃ m, loopA (stepLM ⟨prog, w0, 129, ks_deduplaw12_RunBack⟩ (drw w0 129) (loopAt fn_deduplaw12_RunBack 0)) m (mkFr [(1, x1), (2, x2), (6, x6), (7, x7), (9, x9), (10, x10), (12, x12), (75, x75), (76, x76), (77, x77)]) [fun t => k2 (t 1) (t 2) (t 6) (t 7) (t 9) (t 10) (t 12), fun t => kr (t 1) (t 2) (t 6) (t 7) (t 9) (t 10) (t 12)] h := by
  funext k2 kr x1 x2 x6 x7 x9 x10 x12 x75 x76 x77 h
  exact congrArg Exists (funext fun m => (deduplaw12_RunBack_L1_eq w0 k2 kr m x1 x2 x6 x7 x9 x10 x12 x75 x76 x77 h).symm)
theorem c_deduplaw12_RunBack {w0 : World} {h : Hp} {R : Kont} {a0 a1 a2 : Value} (hj : ∀ v, v ∈ [a0, a1, a2] → v ≠ junk) (hv : s_deduplaw12_RunBack prog w0 a0 a1 a2 R h) : ACalls prog w0 n_deduplaw12_RunBack [a0, a1, a2] h R := by
  have e : vcFnM ⟨prog, w0, 129, ks_deduplaw12_RunBack⟩ (drw w0 129) fn_deduplaw12_RunBack [a0, a1, a2] R h = s_deduplaw12_RunBack prog w0 a0 a1 a2 R h := by
    unfold s_deduplaw12_RunBack
    rw [deduplaw12_RunBack_E1_eq w0]
    kernel_rfl
  exact acalls_of_eqM (fn := fn_deduplaw12_RunBack) (ks := ks_deduplaw12_RunBack) (n := 129) (by kernel_rfl) (by kernel_rfl) (draw_ok (by kernel_rfl)) (by simp) hj e hv

abbrev fn_deduplaw12_RunTurned : Func := f5
def ks_deduplaw12_RunTurned : List (Nat × List Nat × List Nat) := [(9, [1, 2, 7, 9, 10, 51, 52, 53], [1, 2, 7, 9]), (12, [1, 2, 7, 9, 10, 12, 13, 51, 52, 53], [1, 2, 7, 9, 12, 13, 51, 52, 53]), (22, [2, 7, 9, 14, 15, 16], [7, 15])]
def deduplaw12_RunTurned_B2 (P : Program) (w0 : World) (R : Value → Value → Value → Value → Value → Value → Value → Value → Value → Value → Hp → Prop) (k2 : Value → Value → Value → Value → Value → Value → Value → Value → Value → Hp → Prop) (x1 x2 x7 x9 x10 x12 x13 x51 x52 x53 : Value) : Hp → Prop :=
 pureQ (fun K => K x13) fun v57_31 =>
 pureQ (addA x12 0) fun v58_32 =>
 readQ (loadA w0 v58_32) fun v59_33 =>
 pureQ (pureA (lenStr v59_33)) fun v60_34 =>
 pureQ (pureA (binA .lss v57_31 v60_34)) fun v61_35 =>
 pureQ (fun K => K v61_35) fun v62_36 =>
 pureQ (guardA v62_36 true (fun K => K x13)) fun v63_37 =>
 pureQ (guardA v62_36 true (fun K => K x10)) fun v64_38 =>
 pureQ (guardA v62_36 true (pureA (lenStr v64_38))) fun v65_39 =>
 pureQ (guardA v62_36 true (pureA (binA .lss v63_37 v65_39))) fun v66_40 =>
 pureQ (pickA v62_36 v66_40 (.bool false)) fun v67_41 =>
 pureQ (fun K => K v67_41) fun v68_42 =>
 pureQ (guardA v68_42 true (addA x12 0)) fun v69_43 =>
 readQ (guardA v68_42 true (loadA w0 v69_43)) fun v70_44 =>
 pureQ (guardA v68_42 true (fun K => K x13)) fun v71_45 =>
 pureQ (guardA v68_42 true (pureA (strIdxA v70_44 v71_45))) fun v72_46 =>
 pureQ (guardA v68_42 true (fun K => K x10)) fun v73_47 =>
 pureQ (guardA v68_42 true (fun K => K x13)) fun v74_48 =>
 pureQ (guardA v68_42 true (pureA (strIdxA v73_47 v74_48))) fun v75_49 =>
 pureQ (guardA v68_42 true (pureA (binA .eql v72_46 v75_49))) fun v76_50 =>
 pureQ (pickA v68_42 v76_50 (.bool false)) fun v77_51 =>
 endA (
 condA v77_51 (
 pureA (binA .add x13 (.int .i64 1)) fun v79_52 =>
 R x1 x2 x7 x9 x10 x12 v79_52 x51 x52 x53) (
 k2 x1 x2 x7 x9 x12 x13 x51 x52 x53))
def deduplaw12_RunTurned_L2 (P : Program) (w0 : World) (k2 : Value → Value → Value → Value → Value → Value → Value → Value → Value → Hp → Prop) : Nat → Value → Value → Value → Value → Value → Value → Value → Value → Value → Value → Hp → Prop
  | 0, _, _, _, _, _, _, _, _, _, _ => fun _ => False
  | m + 1, x1, x2, x7, x9, x10, x12, x13, x51, x52, x53 => deduplaw12_RunTurned_B2 P w0 (deduplaw12_RunTurned_L2 P w0 k2 m) k2 x1 x2 x7 x9 x10 x12 x13 x51 x52 x53
def deduplaw12_RunTurned_E2 (P : Program) (w0 : World) (k2 : Value → Value → Value → Value → Value → Value → Value → Value → Value → Hp → Prop) (x1 x2 x7 x9 x10 x12 x13 x51 x52 x53 : Value) : Hp → Prop := fun h => ∃ m, deduplaw12_RunTurned_L2 P w0 k2 m x1 x2 x7 x9 x10 x12 x13 x51 x52 x53 h
def deduplaw12_RunTurned_B1 (P : Program) (w0 : World) (R : Value → Value → Value → Value → Value → Value → Value → Value → Hp → Prop) (k0 : Value → Value → Value → Value → Hp → Prop) (x1 x2 x7 x9 x10 x51 x52 x53 : Value) : Hp → Prop :=
 pureA (binA .lss x53 x52) fun v54_27 =>
 condA v54_27 (
 idxSlA 3 x51 x53 fun v55_28 =>
 loadNA w0 v55_28 3 fun v56_29 =>
 newA [(.string .empty), (.string .empty), (.bool false)] 3 fun v12_30 =>
 storeNA w0 v12_30 v56_29 3 fun _ =>
 deduplaw12_RunTurned_E2 P w0 (fun y1_53 y2_54 y7_55 y9_56 y12_57 y13_58 y51_59 y52_60 y53_61 =>
 addA y12_57 0 fun v81_62 =>
 loadA w0 v81_62 fun v82_63 =>
 pureA (lenStr v82_63) fun v83_64 =>
 pureA (binA .add (.int .i64 4) v83_64) fun v84_65 =>
 pureA (binA .sub v84_65 y13_58) fun v86_66 =>
 addA y12_57 1 fun v87_67 =>
 loadA w0 v87_67 fun v88_68 =>
 pureA (lenStr v88_68) fun v89_69 =>
 pureA (binA .add v86_66 v89_69) fun v90_70 =>
 pureA (binA .add y9_56 v90_70) fun v91_71 =>
 addA y12_57 0 fun v92_72 =>
 loadA w0 v92_72 fun v93_73 =>
 pureA (binA .add y53_61 (.int .i64 1)) fun v94_74 =>
 R y1_53 y2_54 y7_55 v91_71 v93_73 y51_59 y52_60 v94_74) x1 x2 x7 x9 x10 v12_30 (.int .i64 0) x51 x52 x53) (
 k0 x1 x2 x7 x9)
def deduplaw12_RunTurned_L1 (P : Program) (w0 : World) (k0 : Value → Value → Value → Value → Hp → Prop) : Nat → Value → Value → Value → Value → Value → Value → Value → Value → Hp → Prop
  | 0, _, _, _, _, _, _, _, _ => fun _ => False
  | m + 1, x1, x2, x7, x9, x10, x51, x52, x53 => deduplaw12_RunTurned_B1 P w0 (deduplaw12_RunTurned_L1 P w0 k0 m) k0 x1 x2 x7 x9 x10 x51 x52 x53
def deduplaw12_RunTurned_E1 (P : Program) (w0 : World) (k0 : Value → Value → Value → Value → Hp → Prop) (x1 x2 x7 x9 x10 x51 x52 x53 : Value) : Hp → Prop := fun h => ∃ m, deduplaw12_RunTurned_L1 P w0 k0 m x1 x2 x7 x9 x10 x51 x52 x53 h
def deduplaw12_RunTurned_B3 (P : Program) (w0 : World) (R : Value → Value → Value → Value → Value → Value → Hp → Prop) (k4 : Value → Value → Hp → Prop) (x2 x7 x9 x14 x15 x16 : Value) : Hp → Prop :=
 pureA (binA .lss x16 (.int .i64 32)) fun v106_84 =>
 condA v106_84 (
 pureA (binA .add x14 x16) fun v111_85 =>
 pureA (binA .shr x2 x16) fun v114_86 =>
 pureA (binA .rem v114_86 (.int .u32 2)) fun v115_87 =>
 pureA (binA .eql v115_87 (.int .u32 1)) fun v116_88 =>
 guardA v116_88 true (fun K => K v111_85) fun v118_89 =>
 guardA v116_88 true (fun K => K x9) fun v119_90 =>
 guardA v116_88 true (pureA (binA .mul (.int .i64 8) v119_90)) fun v120_91 =>
 guardA v116_88 true (pureA (binA .lss v118_89 v120_91)) fun v121_92 =>
 pickA v116_88 v121_92 (.bool false) fun v122_93 =>
 condA v122_93 (
 pureQ (fun K => K x7) fun v123_94 =>
 pureQ (fun K => K v111_85) fun v124_95 =>
 pureQ (pureA (binA .quo v124_95 (.int .i64 8))) fun v125_96 =>
 pureQ (idxSlA 1 v123_94 v125_96) fun v126_97 =>
 readQ (loadA w0 v126_97) fun v127_98 =>
 pureQ (fun K => K v111_85) fun v128_99 =>
 pureQ (pureA (binA .rem v128_99 (.int .i64 8))) fun v129_100 =>
 pureQ (pureA (binA .shl (.int .u8 1) v129_100)) fun v130_101 =>
 pureQ (pureA (binA .xor v127_98 v130_101)) fun v131_102 =>
 pureQ (idxSlA 1 v123_94 v125_96) fun v132_103 =>
 allA [
 (storeA w0 v132_103 v131_102 fun _ =>
 stillA [] (
 endA (
 pureA (binA .add x16 (.int .i64 1)) fun v108_104 =>
 R x2 x7 x9 x14 (.bool true) v108_104)))]) (
 pureA (binA .add x16 (.int .i64 1)) fun v108_105 =>
 R x2 x7 x9 x14 x15 v108_105)) (
 k4 x7 x15)
def deduplaw12_RunTurned_L3 (P : Program) (w0 : World) (k4 : Value → Value → Hp → Prop) : Nat → Value → Value → Value → Value → Value → Value → Hp → Prop
  | 0, _, _, _, _, _, _ => fun _ => False
  | m + 1, x2, x7, x9, x14, x15, x16 => deduplaw12_RunTurned_B3 P w0 (deduplaw12_RunTurned_L3 P w0 k4 m) k4 x2 x7 x9 x14 x15 x16
def deduplaw12_RunTurned_E3 (P : Program) (w0 : World) (k4 : Value → Value → Hp → Prop) (x2 x7 x9 x14 x15 x16 : Value) : Hp → Prop := fun h => ∃ m, deduplaw12_RunTurned_L3 P w0 k4 m x2 x7 x9 x14 x15 x16 h
def s_deduplaw12_RunTurned (P : Program) (w0 : World) (a0 a1 a2 : Value) (R : Kont) : Hp → Prop :=
 callA P w0 n_run_Build [a0, (.int .i64 4096)] fun v21_1 =>
 pureA (extA v21_1 0) fun v22_2 =>
 pureA (extA v21_1 1) fun v23_3 =>
 callA P w0 n_deduplaw12_awake [] fun v24_4 =>
 pureA (unA .not v24_4) fun v25_5 =>
 guardA v25_5 false (fun K => K v23_3) fun v27_6 =>
 guardA v25_5 false (pureA (binA .eql v27_6 (.int .i64 0))) fun v28_7 =>
 guardA v25_5 false (fun K => K a0) fun v29_8 =>
 guardA v25_5 false (callA P w0 n_dedupref12_Check [v29_8]) fun v30_9 =>
 guardA v25_5 false (pureA (binA .eql v30_9 (.int .i64 0))) fun v31_10 =>
 guardA v25_5 false (pureA (binBoolA .neq v28_7 v31_10)) fun v32_11 =>
 pickA v25_5 (.bool true) v32_11 fun v33_12 =>
 condA v33_12 (
 retA [(.bool false)] R) (
 pureA (binA .neq v23_3 (.int .i64 0)) fun v35_13 =>
 guardA v35_13 false (fun K => K a0) fun v37_14 =>
 guardA v35_13 false (pureA (lenSl v37_14)) fun v38_15 =>
 guardA v35_13 false (pureA (binA .eql v38_15 (.int .i64 0))) fun v39_16 =>
 pickA v35_13 (.bool true) v39_16 fun v40_17 =>
 guardA v40_17 false (fun K => K a0) fun v42_18 =>
 guardA v40_17 false (callA P w0 n_dedupref12_Blocks [v42_18, (.int .i64 4096)]) fun v43_19 =>
 guardA v40_17 false (pureA (binA .neq v43_19 (.int .i64 1))) fun v44_20 =>
 pickA v40_17 (.bool true) v44_20 fun v45_21 =>
 guardA v45_21 false (fun K => K v22_2) fun v47_22 =>
 guardA v45_21 false (pureA (lenSl v47_22)) fun v48_23 =>
 guardA v45_21 false (pureA (binA .lss v48_23 (.int .i64 28))) fun v49_24 =>
 pickA v45_21 (.bool true) v49_24 fun v50_25 =>
 condA v50_25 (
 retA [(.bool true)] R) (
 pureA (lenSl a0) fun v52_26 =>
 deduplaw12_RunTurned_E1 P w0 (fun y1_75 y2_76 y7_77 y9_78 =>
 pureA (binA .mul (.int .i64 8) y9_78) fun v97_79 =>
 pureA (binA .rem y1_75 v97_79) fun v98_80 =>
 pureA (binA .lss v98_80 (.int .i64 0)) fun v100_81 =>
 condA v100_81 (
 pureA (binA .mul (.int .i64 8) y9_78) fun v103_82 =>
 pureA (binA .add v98_80 v103_82) fun v104_83 =>
 deduplaw12_RunTurned_E3 P w0 (fun y7_106 y15_107 =>
 callA P w0 n_run_Open [y7_106] fun v135_108 =>
 pureA (extA v135_108 0) fun v136_109 =>
 pureA (extA v135_108 1) fun v137_110 =>
 pureA (binA .eql v137_110 (.int .i64 121)) fun v139_111 =>
 pureA (binBoolA .eql v139_111 y15_107) fun v141_112 =>
 guardA v141_112 true (fun K => K v136_109) fun v143_113 =>
 guardA v141_112 true (pureA (binPtrA .eql v143_113 (.pointer none))) fun v144_114 =>
 guardA v141_112 true (fun K => K y15_107) fun v145_115 =>
 guardA v141_112 true (pureA (binBoolA .eql v144_114 v145_115)) fun v146_116 =>
 pickA v141_112 v146_116 (.bool false) fun v147_117 =>
 retA [v147_117] R) y2_76 y7_77 y9_78 v104_83 (.bool false) (.int .i64 0)) (
 deduplaw12_RunTurned_E3 P w0 (fun y7_118 y15_119 =>
 callA P w0 n_run_Open [y7_118] fun v135_120 =>
 pureA (extA v135_120 0) fun v136_121 =>
 pureA (extA v135_120 1) fun v137_122 =>
 pureA (binA .eql v137_122 (.int .i64 121)) fun v139_123 =>
 pureA (binBoolA .eql v139_123 y15_119) fun v141_124 =>
 guardA v141_124 true (fun K => K v136_121) fun v143_125 =>
 guardA v141_124 true (pureA (binPtrA .eql v143_125 (.pointer none))) fun v144_126 =>
 guardA v141_124 true (fun K => K y15_119) fun v145_127 =>
 guardA v141_124 true (pureA (binBoolA .eql v144_126 v145_127)) fun v146_128 =>
 pickA v141_124 v146_128 (.bool false) fun v147_129 =>
 retA [v147_129] R) y2_76 y7_77 y9_78 v98_80 (.bool false) (.int .i64 0))) a1 a2 v22_2 (.int .i64 0) (.string .empty) a0 v52_26 (.int .i64 0)))
theorem deduplaw12_RunTurned_L3_eq (w0 : World) (k4 : Value → Value → Hp → Prop) : ∀ (m : Nat) (x2 x7 x9 x14 x15 x16 : Value) (h : Hp), loopA (stepL ⟨prog, w0, 148, ks_deduplaw12_RunTurned⟩ (drw w0 148) (loopAt fn_deduplaw12_RunTurned 2)) m (mkFr [(2, x2), (7, x7), (9, x9), (14, x14), (15, x15), (16, x16)]) [fun t => k4 (t 7) (t 15)] h = deduplaw12_RunTurned_L3 prog w0 k4 m x2 x7 x9 x14 x15 x16 h := by
  intro m
  induction m with
  | zero => intros; kernel_rfl
  | succ m ih =>
    intro x2 x7 x9 x14 x15 x16 h
    have e : deduplaw12_RunTurned_L3 prog w0 k4 m = fun x2 x7 x9 x14 x15 x16 h => loopA (stepL ⟨prog, w0, 148, ks_deduplaw12_RunTurned⟩ (drw w0 148) (loopAt fn_deduplaw12_RunTurned 2)) m (mkFr [(2, x2), (7, x7), (9, x9), (14, x14), (15, x15), (16, x16)]) [fun t => k4 (t 7) (t 15)] h := by funext x2 x7 x9 x14 x15 x16 h; exact (ih x2 x7 x9 x14 x15 x16 h).symm
    show _ = deduplaw12_RunTurned_B3 prog w0 (deduplaw12_RunTurned_L3 prog w0 k4 m) k4 x2 x7 x9 x14 x15 x16 h
    rw [e]
    kernel_rfl
theorem deduplaw12_RunTurned_E3_eq (w0 : World) : deduplaw12_RunTurned_E3 prog w0 = fun k4 x2 x7 x9 x14 x15 x16 h => ∃ m, loopA (stepL ⟨prog, w0, 148, ks_deduplaw12_RunTurned⟩ (drw w0 148) (loopAt fn_deduplaw12_RunTurned 2)) m (mkFr [(2, x2), (7, x7), (9, x9), (14, x14), (15, x15), (16, x16)]) [fun t => k4 (t 7) (t 15)] h := by
  funext k4 x2 x7 x9 x14 x15 x16 h
  exact congrArg Exists (funext fun m => (deduplaw12_RunTurned_L3_eq w0 k4 m x2 x7 x9 x14 x15 x16 h).symm)
theorem deduplaw12_RunTurned_L2_eq (w0 : World) (k2 : Value → Value → Value → Value → Value → Value → Value → Value → Value → Hp → Prop) : ∀ (m : Nat) (x1 x2 x7 x9 x10 x12 x13 x51 x52 x53 : Value) (h : Hp), loopA (stepL ⟨prog, w0, 148, ks_deduplaw12_RunTurned⟩ (drw w0 148) (loopAt fn_deduplaw12_RunTurned 1)) m (mkFr [(1, x1), (2, x2), (7, x7), (9, x9), (10, x10), (12, x12), (13, x13), (51, x51), (52, x52), (53, x53)]) [fun t => k2 (t 1) (t 2) (t 7) (t 9) (t 12) (t 13) (t 51) (t 52) (t 53)] h = deduplaw12_RunTurned_L2 prog w0 k2 m x1 x2 x7 x9 x10 x12 x13 x51 x52 x53 h := by
  intro m
  induction m with
  | zero => intros; kernel_rfl
  | succ m ih =>
    intro x1 x2 x7 x9 x10 x12 x13 x51 x52 x53 h
    have e : deduplaw12_RunTurned_L2 prog w0 k2 m = fun x1 x2 x7 x9 x10 x12 x13 x51 x52 x53 h => loopA (stepL ⟨prog, w0, 148, ks_deduplaw12_RunTurned⟩ (drw w0 148) (loopAt fn_deduplaw12_RunTurned 1)) m (mkFr [(1, x1), (2, x2), (7, x7), (9, x9), (10, x10), (12, x12), (13, x13), (51, x51), (52, x52), (53, x53)]) [fun t => k2 (t 1) (t 2) (t 7) (t 9) (t 12) (t 13) (t 51) (t 52) (t 53)] h := by funext x1 x2 x7 x9 x10 x12 x13 x51 x52 x53 h; exact (ih x1 x2 x7 x9 x10 x12 x13 x51 x52 x53 h).symm
    show _ = deduplaw12_RunTurned_B2 prog w0 (deduplaw12_RunTurned_L2 prog w0 k2 m) k2 x1 x2 x7 x9 x10 x12 x13 x51 x52 x53 h
    rw [e]
    kernel_rfl
theorem deduplaw12_RunTurned_E2_eq (w0 : World) : deduplaw12_RunTurned_E2 prog w0 = fun k2 x1 x2 x7 x9 x10 x12 x13 x51 x52 x53 h => ∃ m, loopA (stepL ⟨prog, w0, 148, ks_deduplaw12_RunTurned⟩ (drw w0 148) (loopAt fn_deduplaw12_RunTurned 1)) m (mkFr [(1, x1), (2, x2), (7, x7), (9, x9), (10, x10), (12, x12), (13, x13), (51, x51), (52, x52), (53, x53)]) [fun t => k2 (t 1) (t 2) (t 7) (t 9) (t 12) (t 13) (t 51) (t 52) (t 53)] h := by
  funext k2 x1 x2 x7 x9 x10 x12 x13 x51 x52 x53 h
  exact congrArg Exists (funext fun m => (deduplaw12_RunTurned_L2_eq w0 k2 m x1 x2 x7 x9 x10 x12 x13 x51 x52 x53 h).symm)
theorem deduplaw12_RunTurned_L1_eq (w0 : World) (k0 : Value → Value → Value → Value → Hp → Prop) : ∀ (m : Nat) (x1 x2 x7 x9 x10 x51 x52 x53 : Value) (h : Hp), loopA (stepL ⟨prog, w0, 148, ks_deduplaw12_RunTurned⟩ (drw w0 148) (loopAt fn_deduplaw12_RunTurned 0)) m (mkFr [(1, x1), (2, x2), (7, x7), (9, x9), (10, x10), (51, x51), (52, x52), (53, x53)]) [fun t => k0 (t 1) (t 2) (t 7) (t 9)] h = deduplaw12_RunTurned_L1 prog w0 k0 m x1 x2 x7 x9 x10 x51 x52 x53 h := by
  intro m
  induction m with
  | zero => intros; kernel_rfl
  | succ m ih =>
    intro x1 x2 x7 x9 x10 x51 x52 x53 h
    have e : deduplaw12_RunTurned_L1 prog w0 k0 m = fun x1 x2 x7 x9 x10 x51 x52 x53 h => loopA (stepL ⟨prog, w0, 148, ks_deduplaw12_RunTurned⟩ (drw w0 148) (loopAt fn_deduplaw12_RunTurned 0)) m (mkFr [(1, x1), (2, x2), (7, x7), (9, x9), (10, x10), (51, x51), (52, x52), (53, x53)]) [fun t => k0 (t 1) (t 2) (t 7) (t 9)] h := by funext x1 x2 x7 x9 x10 x51 x52 x53 h; exact (ih x1 x2 x7 x9 x10 x51 x52 x53 h).symm
    show _ = deduplaw12_RunTurned_B1 prog w0 (deduplaw12_RunTurned_L1 prog w0 k0 m) k0 x1 x2 x7 x9 x10 x51 x52 x53 h
    rw [e]
    unfold deduplaw12_RunTurned_B1
    rw [deduplaw12_RunTurned_E2_eq w0]
    kernel_rfl
theorem deduplaw12_RunTurned_E1_eq (w0 : World) : deduplaw12_RunTurned_E1 prog w0 = fun k0 x1 x2 x7 x9 x10 x51 x52 x53 h => ∃ m, loopA (stepL ⟨prog, w0, 148, ks_deduplaw12_RunTurned⟩ (drw w0 148) (loopAt fn_deduplaw12_RunTurned 0)) m (mkFr [(1, x1), (2, x2), (7, x7), (9, x9), (10, x10), (51, x51), (52, x52), (53, x53)]) [fun t => k0 (t 1) (t 2) (t 7) (t 9)] h := by
  funext k0 x1 x2 x7 x9 x10 x51 x52 x53 h
  exact congrArg Exists (funext fun m => (deduplaw12_RunTurned_L1_eq w0 k0 m x1 x2 x7 x9 x10 x51 x52 x53 h).symm)
theorem c_deduplaw12_RunTurned {w0 : World} {h : Hp} {R : Kont} {a0 a1 a2 : Value} (hj : ∀ v, v ∈ [a0, a1, a2] → v ≠ junk) (hv : s_deduplaw12_RunTurned prog w0 a0 a1 a2 R h) : ACalls prog w0 n_deduplaw12_RunTurned [a0, a1, a2] h R := by
  have e : vcFn ⟨prog, w0, 148, ks_deduplaw12_RunTurned⟩ (drw w0 148) fn_deduplaw12_RunTurned [a0, a1, a2] R h = s_deduplaw12_RunTurned prog w0 a0 a1 a2 R h := by
    unfold s_deduplaw12_RunTurned
    rw [deduplaw12_RunTurned_E1_eq w0, deduplaw12_RunTurned_E3_eq w0]
    kernel_rfl
  exact acalls_of_eq (fn := fn_deduplaw12_RunTurned) (ks := ks_deduplaw12_RunTurned) (n := 148) (by kernel_rfl) (by kernel_rfl) (draw_ok (by kernel_rfl)) (by simp) hj e hv

abbrev fn_deduplaw12_RunMerges : Func := f6
def ks_deduplaw12_RunMerges : List (Nat × List Nat × List Nat) := [(6, [0, 1, 4, 5, 6, 14, 15, 16], [1, 4, 5, 6])]
def deduplaw12_RunMerges_B1 (P : Program) (w0 : World) (R : Value → Value → Value → Value → Value → Value → Value → Value → Hp → Prop) (k0 : Value → Value → Value → Value → Hp → Prop) (kr : Value → Value → Value → Value → Hp → Prop) (x0 x1 x4 x5 x6 x14 x15 x16 : Value) : Hp → Prop :=
 pureA (binA .lss x16 x15) fun v17_4 =>
 condA v17_4 (
 idxSlA 1 x14 x16 fun v19_5 =>
 loadA w0 v19_5 fun v20_6 =>
 callA P w0 n_run_Build [v20_6, (.int .i64 256)] fun v23_7 =>
 pureA (extA v23_7 0) fun v24_8 =>
 pureA (extA v23_7 1) fun v25_9 =>
 pureA (binA .neq v25_9 (.int .i64 0)) fun v27_10 =>
 condA v27_10 (
 bslA [(0, 1, false, (.pointer none))] (zerosL [(.pointer none)] 1) 1 1 fun v29_11 =>
 appA w0 1 8 x5 v29_11 fun v30_12 =>
 pureA (binA .add x16 (.int .i64 1)) fun v53_13 =>
 R x0 x1 x4 v30_12 x6 x14 x15 v53_13) (
 callA P w0 n_run_Open [v24_8] fun v33_14 =>
 pureA (extA v33_14 0) fun v34_15 =>
 pureA (extA v33_14 1) fun v35_16 =>
 pureA (binA .neq v35_16 (.int .i64 0)) fun v37_17 =>
 guardA v37_17 false (fun K => K v34_15) fun v39_18 =>
 guardA v37_17 false (pureA (binPtrA .eql v39_18 (.pointer none))) fun v40_19 =>
 pickA v37_17 (.bool true) v40_19 fun v41_20 =>
 condA v41_20 (
 kr x1 (.bool false) x5 x6) (
 bslA [(0, 1, false, v34_15)] (zerosL [(.pointer none)] 1) 1 1 fun v44_21 =>
 appA w0 1 8 x5 v44_21 fun v45_22 =>
 idxSlA 1 x0 x16 fun v49_23 =>
 loadA w0 v49_23 fun v50_24 =>
 bslA [(0, 1, false, v50_24)] (zerosL [(.slice none 0 0)] 1) 1 1 fun v51_25 =>
 appA w0 1 24 x6 v51_25 fun v52_26 =>
 pureA (binA .add x16 (.int .i64 1)) fun v53_27 =>
 R x0 x1 x4 v45_22 v52_26 x14 x15 v53_27))) (
 k0 x1 x4 x5 x6)
def deduplaw12_RunMerges_L1 (P : Program) (w0 : World) (k0 : Value → Value → Value → Value → Hp → Prop) (kr : Value → Value → Value → Value → Hp → Prop) : Nat → Value → Value → Value → Value → Value → Value → Value → Value → Hp → Prop
  | 0, _, _, _, _, _, _, _, _ => fun _ => False
  | m + 1, x0, x1, x4, x5, x6, x14, x15, x16 => deduplaw12_RunMerges_B1 P w0 (deduplaw12_RunMerges_L1 P w0 k0 kr m) k0 kr x0 x1 x4 x5 x6 x14 x15 x16
def deduplaw12_RunMerges_E1 (P : Program) (w0 : World) (k0 : Value → Value → Value → Value → Hp → Prop) (kr : Value → Value → Value → Value → Hp → Prop) (x0 x1 x4 x5 x6 x14 x15 x16 : Value) : Hp → Prop := fun h => ∃ m, deduplaw12_RunMerges_L1 P w0 k0 kr m x0 x1 x4 x5 x6 x14 x15 x16 h
def s_deduplaw12_RunMerges (P : Program) (w0 : World) (a0 a1 : Value) (R : Kont) : Hp → Prop :=
 callA P w0 n_deduplaw12_awake [] fun v12_1 =>
 pureA (unA .not v12_1) fun v13_2 =>
 condA v13_2 (
 retA [(.bool false)] R) (
 pureA (lenSl a0) fun v15_3 =>
 deduplaw12_RunMerges_E1 P w0 (fun y1_28 y4_29 y5_30 y6_31 =>
 callA P w0 n_run_Merge [y5_30, y1_28] fun v56_32 =>
 callA P w0 n_dedupref12_Merge [y6_31, y1_28] fun v59_33 =>
 callA P w0 n_deduplaw12_same [v56_32, v59_33] fun v60_34 =>
 retA [v60_34] R) (fun y1_35 y4_36 y5_37 y6_38 =>
 retA [y4_36] R) a0 a1 (.bool false) (.slice none 0 0) (.slice none 0 0) a0 v15_3 (.int .i64 0))
theorem deduplaw12_RunMerges_L1_eq (w0 : World) (k0 : Value → Value → Value → Value → Hp → Prop) (kr : Value → Value → Value → Value → Hp → Prop) : ∀ (m : Nat) (x0 x1 x4 x5 x6 x14 x15 x16 : Value) (h : Hp), loopA (stepL ⟨prog, w0, 61, ks_deduplaw12_RunMerges⟩ (drw w0 61) (loopAt fn_deduplaw12_RunMerges 0)) m (mkFr [(0, x0), (1, x1), (4, x4), (5, x5), (6, x6), (14, x14), (15, x15), (16, x16)]) [fun t => k0 (t 1) (t 4) (t 5) (t 6), fun t => kr (t 1) (t 4) (t 5) (t 6)] h = deduplaw12_RunMerges_L1 prog w0 k0 kr m x0 x1 x4 x5 x6 x14 x15 x16 h := by
  intro m
  induction m with
  | zero => intros; kernel_rfl
  | succ m ih =>
    intro x0 x1 x4 x5 x6 x14 x15 x16 h
    have e : deduplaw12_RunMerges_L1 prog w0 k0 kr m = fun x0 x1 x4 x5 x6 x14 x15 x16 h => loopA (stepL ⟨prog, w0, 61, ks_deduplaw12_RunMerges⟩ (drw w0 61) (loopAt fn_deduplaw12_RunMerges 0)) m (mkFr [(0, x0), (1, x1), (4, x4), (5, x5), (6, x6), (14, x14), (15, x15), (16, x16)]) [fun t => k0 (t 1) (t 4) (t 5) (t 6), fun t => kr (t 1) (t 4) (t 5) (t 6)] h := by funext x0 x1 x4 x5 x6 x14 x15 x16 h; exact (ih x0 x1 x4 x5 x6 x14 x15 x16 h).symm
    show _ = deduplaw12_RunMerges_B1 prog w0 (deduplaw12_RunMerges_L1 prog w0 k0 kr m) k0 kr x0 x1 x4 x5 x6 x14 x15 x16 h
    rw [e]
    kernel_rfl
theorem deduplaw12_RunMerges_E1_eq (w0 : World) : deduplaw12_RunMerges_E1 prog w0 = fun k0 kr x0 x1 x4 x5 x6 x14 x15 x16 h => ∃ m, loopA (stepL ⟨prog, w0, 61, ks_deduplaw12_RunMerges⟩ (drw w0 61) (loopAt fn_deduplaw12_RunMerges 0)) m (mkFr [(0, x0), (1, x1), (4, x4), (5, x5), (6, x6), (14, x14), (15, x15), (16, x16)]) [fun t => k0 (t 1) (t 4) (t 5) (t 6), fun t => kr (t 1) (t 4) (t 5) (t 6)] h := by
  funext k0 kr x0 x1 x4 x5 x6 x14 x15 x16 h
  exact congrArg Exists (funext fun m => (deduplaw12_RunMerges_L1_eq w0 k0 kr m x0 x1 x4 x5 x6 x14 x15 x16 h).symm)
theorem c_deduplaw12_RunMerges {w0 : World} {h : Hp} {R : Kont} {a0 a1 : Value} (hj : ∀ v, v ∈ [a0, a1] → v ≠ junk) (hv : s_deduplaw12_RunMerges prog w0 a0 a1 R h) : ACalls prog w0 n_deduplaw12_RunMerges [a0, a1] h R := by
  have e : vcFn ⟨prog, w0, 61, ks_deduplaw12_RunMerges⟩ (drw w0 61) fn_deduplaw12_RunMerges [a0, a1] R h = s_deduplaw12_RunMerges prog w0 a0 a1 R h := by
    unfold s_deduplaw12_RunMerges
    rw [deduplaw12_RunMerges_E1_eq w0]
    kernel_rfl
  exact acalls_of_eq (fn := fn_deduplaw12_RunMerges) (ks := ks_deduplaw12_RunMerges) (n := 61) (by kernel_rfl) (by kernel_rfl) (draw_ok (by kernel_rfl)) (by simp) hj e hv

abbrev fn_deduplaw12_RunMems : Func := f7
def ks_deduplaw12_RunMems : List (Nat × List Nat × List Nat) := [(7, [2, 3, 4, 16, 17, 18], [2, 3, 4])]
def deduplaw12_RunMems_B1 (P : Program) (w0 : World) (R : Value → Value → Value → Value → Value → Value → Hp → Prop) (k0 : Value → Value → Value → Hp → Prop) (kr : Value → Value → Value → Hp → Prop) (x2 x3 x4 x16 x17 x18 : Value) : Hp → Prop :=
 pureA (binA .lss x18 x17) fun v19_8 =>
 condA v19_8 (
 idxSlA 4 x16 x18 fun v20_9 =>
 loadNA w0 v20_9 4 fun v21_10 =>
 newA [(.int .i64 0), (.string .empty), (.string .empty), (.int .i64 0)] 4 fun v7_11 =>
 storeNA w0 v7_11 v21_10 4 fun _ =>
 addA v7_11 0 fun v22_12 =>
 loadA w0 v22_12 fun v23_13 =>
 pureA (binA .eql v23_13 (.int .i64 6)) fun v24_14 =>
 condA v24_14 (
 callA P w0 n_run_Mem_Fork [x3] fun v26_15 =>
 pureA (binPtrA .eql v26_15 (.pointer none)) fun v28_16 =>
 condA v28_16 (
 kr (.bool false) x3 x4) (
 callA P w0 n_run_Mem_Put [x3, (.string ⟨#[97, 32, 102, 111, 114, 107, 39, 115, 32, 111, 119, 110]⟩), (.string ⟨#[120]⟩)] fun v30_17 =>
 callA P w0 n_run_Mem_Delete [x3, (.string ⟨#[98]⟩)] fun v32_18 =>
 pureA (binA .add x18 (.int .i64 1)) fun v43_19 =>
 R x2 v26_15 x4 x16 x17 v43_19)) (
 loadNA w0 v7_11 4 fun v37_20 =>
 callA P w0 n_deduplaw12_step [x3, x4, v37_20] fun v38_21 =>
 pureA (extA v38_21 0) fun v39_22 =>
 pureA (extA v38_21 1) fun v40_23 =>
 pureA (unA .not v40_23) fun v42_24 =>
 condA v42_24 (
 kr (.bool false) x3 v39_22) (
 pureA (binA .add x18 (.int .i64 1)) fun v43_25 =>
 R x2 x3 v39_22 x16 x17 v43_25))) (
 k0 x2 x3 x4)
def deduplaw12_RunMems_L1 (P : Program) (w0 : World) (k0 : Value → Value → Value → Hp → Prop) (kr : Value → Value → Value → Hp → Prop) : Nat → Value → Value → Value → Value → Value → Value → Hp → Prop
  | 0, _, _, _, _, _, _ => fun _ => False
  | m + 1, x2, x3, x4, x16, x17, x18 => deduplaw12_RunMems_B1 P w0 (deduplaw12_RunMems_L1 P w0 k0 kr m) k0 kr x2 x3 x4 x16 x17 x18
def deduplaw12_RunMems_E1 (P : Program) (w0 : World) (k0 : Value → Value → Value → Hp → Prop) (kr : Value → Value → Value → Hp → Prop) (x2 x3 x4 x16 x17 x18 : Value) : Hp → Prop := fun h => ∃ m, deduplaw12_RunMems_L1 P w0 k0 kr m x2 x3 x4 x16 x17 x18 h
def s_deduplaw12_RunMems (P : Program) (w0 : World) (a0 : Value) (R : Kont) : Hp → Prop :=
 callA P w0 n_run_NewMem [] fun v9_1 =>
 callA P w0 n_deduplaw12_awake [] fun v10_2 =>
 pureA (unA .not v10_2) fun v11_3 =>
 guardA v11_3 false (fun K => K v9_1) fun v13_4 =>
 guardA v11_3 false (pureA (binPtrA .eql v13_4 (.pointer none))) fun v14_5 =>
 pickA v11_3 (.bool true) v14_5 fun v15_6 =>
 condA v15_6 (
 retA [(.bool false)] R) (
 pureA (lenSl a0) fun v17_7 =>
 deduplaw12_RunMems_E1 P w0 (fun y2_26 y3_27 y4_28 =>
 callA P w0 n_deduplaw12_all [y3_27, y4_28, (.int .i64 1)] fun v46_29 =>
 retA [v46_29] R) (fun y2_30 y3_31 y4_32 =>
 retA [y2_30] R) (.bool false) v9_1 (.slice none 0 0) a0 v17_7 (.int .i64 0))
theorem deduplaw12_RunMems_L1_eq (w0 : World) (k0 : Value → Value → Value → Hp → Prop) (kr : Value → Value → Value → Hp → Prop) : ∀ (m : Nat) (x2 x3 x4 x16 x17 x18 : Value) (h : Hp), loopA (stepL ⟨prog, w0, 47, ks_deduplaw12_RunMems⟩ (drw w0 47) (loopAt fn_deduplaw12_RunMems 0)) m (mkFr [(2, x2), (3, x3), (4, x4), (16, x16), (17, x17), (18, x18)]) [fun t => k0 (t 2) (t 3) (t 4), fun t => kr (t 2) (t 3) (t 4)] h = deduplaw12_RunMems_L1 prog w0 k0 kr m x2 x3 x4 x16 x17 x18 h := by
  intro m
  induction m with
  | zero => intros; kernel_rfl
  | succ m ih =>
    intro x2 x3 x4 x16 x17 x18 h
    have e : deduplaw12_RunMems_L1 prog w0 k0 kr m = fun x2 x3 x4 x16 x17 x18 h => loopA (stepL ⟨prog, w0, 47, ks_deduplaw12_RunMems⟩ (drw w0 47) (loopAt fn_deduplaw12_RunMems 0)) m (mkFr [(2, x2), (3, x3), (4, x4), (16, x16), (17, x17), (18, x18)]) [fun t => k0 (t 2) (t 3) (t 4), fun t => kr (t 2) (t 3) (t 4)] h := by funext x2 x3 x4 x16 x17 x18 h; exact (ih x2 x3 x4 x16 x17 x18 h).symm
    show _ = deduplaw12_RunMems_B1 prog w0 (deduplaw12_RunMems_L1 prog w0 k0 kr m) k0 kr x2 x3 x4 x16 x17 x18 h
    rw [e]
    kernel_rfl
theorem deduplaw12_RunMems_E1_eq (w0 : World) : deduplaw12_RunMems_E1 prog w0 = fun k0 kr x2 x3 x4 x16 x17 x18 h => ∃ m, loopA (stepL ⟨prog, w0, 47, ks_deduplaw12_RunMems⟩ (drw w0 47) (loopAt fn_deduplaw12_RunMems 0)) m (mkFr [(2, x2), (3, x3), (4, x4), (16, x16), (17, x17), (18, x18)]) [fun t => k0 (t 2) (t 3) (t 4), fun t => kr (t 2) (t 3) (t 4)] h := by
  funext k0 kr x2 x3 x4 x16 x17 x18 h
  exact congrArg Exists (funext fun m => (deduplaw12_RunMems_L1_eq w0 k0 kr m x2 x3 x4 x16 x17 x18 h).symm)
theorem c_deduplaw12_RunMems {w0 : World} {h : Hp} {R : Kont} {a0 : Value} (hj : ∀ v, v ∈ [a0] → v ≠ junk) (hv : s_deduplaw12_RunMems prog w0 a0 R h) : ACalls prog w0 n_deduplaw12_RunMems [a0] h R := by
  have e : vcFn ⟨prog, w0, 47, ks_deduplaw12_RunMems⟩ (drw w0 47) fn_deduplaw12_RunMems [a0] R h = s_deduplaw12_RunMems prog w0 a0 R h := by
    unfold s_deduplaw12_RunMems
    rw [deduplaw12_RunMems_E1_eq w0]
    kernel_rfl
  exact acalls_of_eq (fn := fn_deduplaw12_RunMems) (ks := ks_deduplaw12_RunMems) (n := 47) (by kernel_rfl) (by kernel_rfl) (draw_ok (by kernel_rfl)) (by simp) hj e hv

abbrev fn_deduplaw12_RunOver : Func := f8
def ks_deduplaw12_RunOver : List (Nat × List Nat × List Nat) := [(15, [9, 10, 11, 63, 64, 65], [9, 10, 11]), (18, [9, 10, 11, 63, 64, 65, 69, 70, 71], [9, 10, 11, 63, 64, 65])]
def deduplaw12_RunOver_B2 (P : Program) (w0 : World) (R : Value → Value → Value → Value → Value → Value → Value → Value → Value → Hp → Prop) (k2 : Value → Value → Value → Value → Value → Value → Hp → Prop) (x9 x10 x11 x63 x64 x65 x69 x70 x71 : Value) : Hp → Prop :=
 pureA (binA .lss x71 x70) fun v72_37 =>
 condA v72_37 (
 idxSlA 3 x69 x71 fun v73_38 =>
 loadNA w0 v73_38 3 fun v74_39 =>
 newA [(.string .empty), (.string .empty), (.bool false)] 3 fun v15_40 =>
 storeNA w0 v15_40 v74_39 3 fun _ =>
 addA v15_40 2 fun v75_41 =>
 loadA w0 v75_41 fun v76_42 =>
 condA v76_42 (
 addA v15_40 0 fun v78_43 =>
 loadA w0 v78_43 fun v79_44 =>
 callA P w0 n_run_Mem_Delete [x11, v79_44] fun v80_45 =>
 pureA (binA .add x71 (.int .i64 1)) fun v87_46 =>
 R x9 x10 x11 x63 x64 x65 x69 x70 v87_46) (
 addA v15_40 0 fun v82_47 =>
 loadA w0 v82_47 fun v83_48 =>
 addA v15_40 1 fun v84_49 =>
 loadA w0 v84_49 fun v85_50 =>
 callA P w0 n_run_Mem_Put [x11, v83_48, v85_50] fun v86_51 =>
 pureA (binA .add x71 (.int .i64 1)) fun v87_52 =>
 R x9 x10 x11 x63 x64 x65 x69 x70 v87_52)) (
 k2 x9 x10 x11 x63 x64 x65)
def deduplaw12_RunOver_L2 (P : Program) (w0 : World) (k2 : Value → Value → Value → Value → Value → Value → Hp → Prop) : Nat → Value → Value → Value → Value → Value → Value → Value → Value → Value → Hp → Prop
  | 0, _, _, _, _, _, _, _, _, _ => fun _ => False
  | m + 1, x9, x10, x11, x63, x64, x65, x69, x70, x71 => deduplaw12_RunOver_B2 P w0 (deduplaw12_RunOver_L2 P w0 k2 m) k2 x9 x10 x11 x63 x64 x65 x69 x70 x71
def deduplaw12_RunOver_E2 (P : Program) (w0 : World) (k2 : Value → Value → Value → Value → Value → Value → Hp → Prop) (x9 x10 x11 x63 x64 x65 x69 x70 x71 : Value) : Hp → Prop := fun h => ∃ m, deduplaw12_RunOver_L2 P w0 k2 m x9 x10 x11 x63 x64 x65 x69 x70 x71 h
def deduplaw12_RunOver_B1 (P : Program) (w0 : World) (R : Value → Value → Value → Value → Value → Value → Hp → Prop) (k0 : Value → Value → Value → Hp → Prop) (x9 x10 x11 x63 x64 x65 : Value) : Hp → Prop :=
 pureA (binA .lss x65 x64) fun v66_33 =>
 condA v66_33 (
 idxSlA 1 x63 x65 fun v67_34 =>
 loadA w0 v67_34 fun v68_35 =>
 pureA (lenSl v68_35) fun v70_36 =>
 deduplaw12_RunOver_E2 P w0 (fun y9_53 y10_54 y11_55 y63_56 y64_57 y65_58 =>
 pureA (binA .add y65_58 (.int .i64 1)) fun v88_59 =>
 R y9_53 y10_54 y11_55 y63_56 y64_57 v88_59) x9 x10 x11 x63 x64 x65 v68_35 v70_36 (.int .i64 0)) (
 k0 x9 x10 x11)
def deduplaw12_RunOver_L1 (P : Program) (w0 : World) (k0 : Value → Value → Value → Hp → Prop) : Nat → Value → Value → Value → Value → Value → Value → Hp → Prop
  | 0, _, _, _, _, _, _ => fun _ => False
  | m + 1, x9, x10, x11, x63, x64, x65 => deduplaw12_RunOver_B1 P w0 (deduplaw12_RunOver_L1 P w0 k0 m) k0 x9 x10 x11 x63 x64 x65
def deduplaw12_RunOver_E1 (P : Program) (w0 : World) (k0 : Value → Value → Value → Hp → Prop) (x9 x10 x11 x63 x64 x65 : Value) : Hp → Prop := fun h => ∃ m, deduplaw12_RunOver_L1 P w0 k0 m x9 x10 x11 x63 x64 x65 h
def s_deduplaw12_RunOver (P : Program) (w0 : World) (a0 a1 : Value) (R : Kont) : Hp → Prop :=
 callA P w0 n_deduplaw12_awake [] fun v16_1 =>
 pureA (unA .not v16_1) fun v17_2 =>
 condA v17_2 (
 retA [(.bool false)] R) (
 callA P w0 n_run_Build [a0, (.int .i64 300)] fun v20_3 =>
 pureA (extA v20_3 0) fun v21_4 =>
 pureA (extA v20_3 1) fun v22_5 =>
 callA P w0 n_run_Build [a1, (.int .i64 4000)] fun v25_6 =>
 pureA (extA v25_6 0) fun v26_7 =>
 pureA (extA v25_6 1) fun v27_8 =>
 pureA (binA .neq v22_5 (.int .i64 0)) fun v29_9 =>
 guardA v29_9 false (fun K => K v27_8) fun v31_10 =>
 guardA v29_9 false (pureA (binA .neq v31_10 (.int .i64 0))) fun v32_11 =>
 pickA v29_9 (.bool true) v32_11 fun v33_12 =>
 condA v33_12 (
 callA P w0 n_dedupref12_Check [a0] fun v35_13 =>
 pureA (binA .neq v35_13 (.int .i64 0)) fun v36_14 =>
 guardA v36_14 false (fun K => K a1) fun v38_15 =>
 guardA v36_14 false (callA P w0 n_dedupref12_Check [v38_15]) fun v39_16 =>
 guardA v36_14 false (pureA (binA .neq v39_16 (.int .i64 0))) fun v40_17 =>
 pickA v36_14 (.bool true) v40_17 fun v41_18 =>
 retA [v41_18] R) (
 callA P w0 n_run_Open [v21_4] fun v44_19 =>
 pureA (extA v44_19 0) fun v45_20 =>
 pureA (extA v44_19 1) fun v46_21 =>
 callA P w0 n_run_Open [v26_7] fun v49_22 =>
 pureA (extA v49_22 0) fun v50_23 =>
 pureA (extA v49_22 1) fun v51_24 =>
 pureA (binA .neq v46_21 (.int .i64 0)) fun v53_25 =>
 guardA v53_25 false (fun K => K v51_24) fun v55_26 =>
 guardA v53_25 false (pureA (binA .neq v55_26 (.int .i64 0))) fun v56_27 =>
 pickA v53_25 (.bool true) v56_27 fun v57_28 =>
 condA v57_28 (
 retA [(.bool false)] R) (
 callA P w0 n_run_NewMem [] fun v58_29 =>
 pureA (binPtrA .eql v58_29 (.pointer none)) fun v60_30 =>
 condA v60_30 (
 retA [(.bool false)] R) (
 bslA [(0, 1, false, a1), (1, 1, false, a0)] (zerosL [(.slice none 0 0)] 2) 2 1 fun v63_31 =>
 pureA (lenSl v63_31) fun v64_32 =>
 deduplaw12_RunOver_E1 P w0 (fun y9_60 y10_61 y11_62 =>
 bslA [(0, 1, false, y9_60), (1, 1, false, y10_61)] (zerosL [(.pointer none)] 2) 2 1 fun v92_63 =>
 callA P w0 n_run_Merge [v92_63, (.bool false)] fun v93_64 =>
 callA P w0 n_deduplaw12_all [y11_62, v93_64, (.int .i64 1)] fun v94_65 =>
 retA [v94_65] R) v45_20 v50_23 v58_29 v63_31 v64_32 (.int .i64 0)))))
theorem deduplaw12_RunOver_L2_eq (w0 : World) (k2 : Value → Value → Value → Value → Value → Value → Hp → Prop) : ∀ (m : Nat) (x9 x10 x11 x63 x64 x65 x69 x70 x71 : Value) (h : Hp), loopA (stepL ⟨prog, w0, 95, ks_deduplaw12_RunOver⟩ (drw w0 95) (loopAt fn_deduplaw12_RunOver 1)) m (mkFr [(9, x9), (10, x10), (11, x11), (63, x63), (64, x64), (65, x65), (69, x69), (70, x70), (71, x71)]) [fun t => k2 (t 9) (t 10) (t 11) (t 63) (t 64) (t 65)] h = deduplaw12_RunOver_L2 prog w0 k2 m x9 x10 x11 x63 x64 x65 x69 x70 x71 h := by
  intro m
  induction m with
  | zero => intros; kernel_rfl
  | succ m ih =>
    intro x9 x10 x11 x63 x64 x65 x69 x70 x71 h
    have e : deduplaw12_RunOver_L2 prog w0 k2 m = fun x9 x10 x11 x63 x64 x65 x69 x70 x71 h => loopA (stepL ⟨prog, w0, 95, ks_deduplaw12_RunOver⟩ (drw w0 95) (loopAt fn_deduplaw12_RunOver 1)) m (mkFr [(9, x9), (10, x10), (11, x11), (63, x63), (64, x64), (65, x65), (69, x69), (70, x70), (71, x71)]) [fun t => k2 (t 9) (t 10) (t 11) (t 63) (t 64) (t 65)] h := by funext x9 x10 x11 x63 x64 x65 x69 x70 x71 h; exact (ih x9 x10 x11 x63 x64 x65 x69 x70 x71 h).symm
    show _ = deduplaw12_RunOver_B2 prog w0 (deduplaw12_RunOver_L2 prog w0 k2 m) k2 x9 x10 x11 x63 x64 x65 x69 x70 x71 h
    rw [e]
    kernel_rfl
theorem deduplaw12_RunOver_E2_eq (w0 : World) : deduplaw12_RunOver_E2 prog w0 = fun k2 x9 x10 x11 x63 x64 x65 x69 x70 x71 h => ∃ m, loopA (stepL ⟨prog, w0, 95, ks_deduplaw12_RunOver⟩ (drw w0 95) (loopAt fn_deduplaw12_RunOver 1)) m (mkFr [(9, x9), (10, x10), (11, x11), (63, x63), (64, x64), (65, x65), (69, x69), (70, x70), (71, x71)]) [fun t => k2 (t 9) (t 10) (t 11) (t 63) (t 64) (t 65)] h := by
  funext k2 x9 x10 x11 x63 x64 x65 x69 x70 x71 h
  exact congrArg Exists (funext fun m => (deduplaw12_RunOver_L2_eq w0 k2 m x9 x10 x11 x63 x64 x65 x69 x70 x71 h).symm)
theorem deduplaw12_RunOver_L1_eq (w0 : World) (k0 : Value → Value → Value → Hp → Prop) : ∀ (m : Nat) (x9 x10 x11 x63 x64 x65 : Value) (h : Hp), loopA (stepL ⟨prog, w0, 95, ks_deduplaw12_RunOver⟩ (drw w0 95) (loopAt fn_deduplaw12_RunOver 0)) m (mkFr [(9, x9), (10, x10), (11, x11), (63, x63), (64, x64), (65, x65)]) [fun t => k0 (t 9) (t 10) (t 11)] h = deduplaw12_RunOver_L1 prog w0 k0 m x9 x10 x11 x63 x64 x65 h := by
  intro m
  induction m with
  | zero => intros; kernel_rfl
  | succ m ih =>
    intro x9 x10 x11 x63 x64 x65 h
    have e : deduplaw12_RunOver_L1 prog w0 k0 m = fun x9 x10 x11 x63 x64 x65 h => loopA (stepL ⟨prog, w0, 95, ks_deduplaw12_RunOver⟩ (drw w0 95) (loopAt fn_deduplaw12_RunOver 0)) m (mkFr [(9, x9), (10, x10), (11, x11), (63, x63), (64, x64), (65, x65)]) [fun t => k0 (t 9) (t 10) (t 11)] h := by funext x9 x10 x11 x63 x64 x65 h; exact (ih x9 x10 x11 x63 x64 x65 h).symm
    show _ = deduplaw12_RunOver_B1 prog w0 (deduplaw12_RunOver_L1 prog w0 k0 m) k0 x9 x10 x11 x63 x64 x65 h
    rw [e]
    unfold deduplaw12_RunOver_B1
    rw [deduplaw12_RunOver_E2_eq w0]
    kernel_rfl
theorem deduplaw12_RunOver_E1_eq (w0 : World) : deduplaw12_RunOver_E1 prog w0 = fun k0 x9 x10 x11 x63 x64 x65 h => ∃ m, loopA (stepL ⟨prog, w0, 95, ks_deduplaw12_RunOver⟩ (drw w0 95) (loopAt fn_deduplaw12_RunOver 0)) m (mkFr [(9, x9), (10, x10), (11, x11), (63, x63), (64, x64), (65, x65)]) [fun t => k0 (t 9) (t 10) (t 11)] h := by
  funext k0 x9 x10 x11 x63 x64 x65 h
  exact congrArg Exists (funext fun m => (deduplaw12_RunOver_L1_eq w0 k0 m x9 x10 x11 x63 x64 x65 h).symm)
theorem c_deduplaw12_RunOver {w0 : World} {h : Hp} {R : Kont} {a0 a1 : Value} (hj : ∀ v, v ∈ [a0, a1] → v ≠ junk) (hv : s_deduplaw12_RunOver prog w0 a0 a1 R h) : ACalls prog w0 n_deduplaw12_RunOver [a0, a1] h R := by
  have e : vcFn ⟨prog, w0, 95, ks_deduplaw12_RunOver⟩ (drw w0 95) fn_deduplaw12_RunOver [a0, a1] R h = s_deduplaw12_RunOver prog w0 a0 a1 R h := by
    unfold s_deduplaw12_RunOver
    rw [deduplaw12_RunOver_E1_eq w0]
    kernel_rfl
  exact acalls_of_eq (fn := fn_deduplaw12_RunOver) (ks := ks_deduplaw12_RunOver) (n := 95) (by kernel_rfl) (by kernel_rfl) (draw_ok (by kernel_rfl)) (by simp) hj e hv

abbrev fn_deduplaw12_RunNobody : Func := f9
def ks_deduplaw12_RunNobody : List (Nat × List Nat × List Nat) := [(4, [1, 2, 15, 16, 17], [1, 2]), (14, [1, 2, 68, 69, 70], [2])]
def deduplaw12_RunNobody_R1 (P : Program) (w0 : World) (b : Nat) (g : Lp) (K : Kont) (x2 y64 : Value) : Hp → Prop :=
 beginA b g (
 storeA w0 x2 (.bool false) fun _ =>
 endR b g (some none) K)
def deduplaw12_RunNobody_B1 (P : Program) (w0 : World) (R : Value → Value → Value → Value → Value → Hp → Prop) (k0 : Value → Value → Hp → Prop) (kr : Value → Value → Hp → Prop) (x1 x2 x15 x16 x17 : Value) : Hp → Prop :=
 pureA (binA .lss x17 x16) fun v18_10 =>
 condA v18_10 (
 idxSlA 1 x15 x17 fun v19_11 =>
 loadA w0 v19_11 fun v20_12 =>
 addA x1 1 fun v23_13 =>
 loadA w0 v23_13 fun v24_14 =>
 callA P w0 n_run_Mem_Get [v20_12, v24_14] fun v25_15 =>
 pureA (extA v25_15 0) fun v26_16 =>
 pureA (extA v25_15 1) fun v27_17 =>
 newA [(.string .empty), (.string .empty), (.bool false)] 3 fun v5_18 =>
 storeNA w0 v5_18 v26_16 3 fun _ =>
 callA P w0 n_run_Mem_Clear [v20_12] fun v29_19 =>
 addA x1 1 fun v31_20 =>
 loadA w0 v31_20 fun v32_21 =>
 addA x1 2 fun v33_22 =>
 loadA w0 v33_22 fun v34_23 =>
 callA P w0 n_run_Mem_Put [v20_12, v32_21, v34_23] fun v35_24 =>
 pureA (binA .neq v35_24 (.int .i64 6)) fun v36_25 =>
 guardA v36_25 false (fun K => K v20_12) fun v38_26 =>
 guardA v36_25 false (addA x1 1) fun v39_27 =>
 guardA v36_25 false (loadA w0 v39_27) fun v40_28 =>
 guardA v36_25 false (callA P w0 n_run_Mem_Delete [v38_26, v40_28]) fun v41_29 =>
 guardA v36_25 false (pureA (binA .neq v41_29 (.int .i64 6))) fun v42_30 =>
 pickA v36_25 (.bool true) v42_30 fun v43_31 =>
 guardA v43_31 false (fun K => K v27_17) fun v45_32 =>
 pickA v43_31 (.bool true) v45_32 fun v46_33 =>
 guardA v46_33 false (loadNA w0 v5_18 3) fun v48_34 =>
 guardA v46_33 false (buildA [] [(.string .empty), (.string .empty), (.bool false)]) fun v49_35 =>
 guardA v46_33 false (eqStA P .neq 41 v48_34 v49_35) fun v50_36 =>
 pickA v46_33 (.bool true) v50_36 fun v51_37 =>
 guardA v51_37 false (fun K => K v20_12) fun v53_38 =>
 guardA v51_37 false (callA P w0 n_run_Mem_Len [v53_38]) fun v54_39 =>
 guardA v51_37 false (pureA (binA .neq v54_39 (.int .i64 0))) fun v55_40 =>
 pickA v51_37 (.bool true) v55_40 fun v56_41 =>
 guardA v56_41 false (fun K => K v20_12) fun v58_42 =>
 guardA v56_41 false (callA P w0 n_run_Mem_Fork [v58_42]) fun v59_43 =>
 guardA v56_41 false (pureA (binPtrA .neq v59_43 (.pointer none))) fun v60_44 =>
 pickA v56_41 (.bool true) v60_44 fun v61_45 =>
 condA v61_45 (
 storeA w0 x2 (.bool false) fun _ =>
 kr x1 x2) (
 callA P w0 n_run_Mem_All [v20_12] fun v63_46 =>
 rangeA P w0 v63_46 1 (fun b g args K => deduplaw12_RunNobody_R1 P w0 b g K x2 (args.getD 0 undef)) (
 pureA (binA .add x17 (.int .i64 1)) fun v65_47 =>
 R x1 x2 x15 x16 v65_47) [(none, (
 kr x1 x2))])) (
 k0 x1 x2)
def deduplaw12_RunNobody_L1 (P : Program) (w0 : World) (k0 : Value → Value → Hp → Prop) (kr : Value → Value → Hp → Prop) : Nat → Value → Value → Value → Value → Value → Hp → Prop
  | 0, _, _, _, _, _ => fun _ => False
  | m + 1, x1, x2, x15, x16, x17 => deduplaw12_RunNobody_B1 P w0 (deduplaw12_RunNobody_L1 P w0 k0 kr m) k0 kr x1 x2 x15 x16 x17
def deduplaw12_RunNobody_E1 (P : Program) (w0 : World) (k0 : Value → Value → Hp → Prop) (kr : Value → Value → Hp → Prop) (x1 x2 x15 x16 x17 : Value) : Hp → Prop := fun h => ∃ m, deduplaw12_RunNobody_L1 P w0 k0 kr m x1 x2 x15 x16 x17 h
def deduplaw12_RunNobody_R2 (P : Program) (w0 : World) (b : Nat) (g : Lp) (K : Kont) (x2 y112 : Value) : Hp → Prop :=
 beginA b g (
 storeA w0 x2 (.bool false) fun _ =>
 endR b g (some none) K)
def deduplaw12_RunNobody_B2 (P : Program) (w0 : World) (R : Value → Value → Value → Value → Value → Hp → Prop) (k4 : Value → Hp → Prop) (kr : Value → Hp → Prop) (x1 x2 x68 x69 x70 : Value) : Hp → Prop :=
 pureA (binA .lss x70 x69) fun v71_54 =>
 condA v71_54 (
 idxSlA 1 x68 x70 fun v72_55 =>
 loadA w0 v72_55 fun v73_56 =>
 addA x1 1 fun v76_57 =>
 loadA w0 v76_57 fun v77_58 =>
 callA P w0 n_run_Run_Get [v73_56, v77_58] fun v78_59 =>
 pureA (extA v78_59 0) fun v79_60 =>
 pureA (extA v78_59 1) fun v80_61 =>
 newA [(.string .empty), (.string .empty), (.bool false)] 3 fun v9_62 =>
 storeNA w0 v9_62 v79_60 3 fun _ =>
 guardA v80_61 false (loadNA w0 v9_62 3) fun v83_63 =>
 guardA v80_61 false (buildA [] [(.string .empty), (.string .empty), (.bool false)]) fun v84_64 =>
 guardA v80_61 false (eqStA P .neq 41 v83_63 v84_64) fun v85_65 =>
 pickA v80_61 (.bool true) v85_65 fun v86_66 =>
 guardA v86_66 false (fun K => K v73_56) fun v88_67 =>
 guardA v86_66 false (callA P w0 n_run_Run_Len [v88_67]) fun v89_68 =>
 guardA v86_66 false (pureA (binA .neq v89_68 (.int .i64 0))) fun v90_69 =>
 pickA v86_66 (.bool true) v90_69 fun v91_70 =>
 guardA v91_70 false (fun K => K v73_56) fun v93_71 =>
 guardA v91_70 false (callA P w0 n_run_Run_Blocks [v93_71]) fun v94_72 =>
 guardA v91_70 false (pureA (binA .neq v94_72 (.int .i64 0))) fun v95_73 =>
 pickA v91_70 (.bool true) v95_73 fun v96_74 =>
 guardA v96_74 false (fun K => K v73_56) fun v98_75 =>
 guardA v96_74 false (callA P w0 n_run_Run_Bytes [v98_75]) fun v99_76 =>
 guardA v96_74 false (pureA (lenSl v99_76)) fun v100_77 =>
 guardA v96_74 false (pureA (binA .neq v100_77 (.int .i64 0))) fun v101_78 =>
 pickA v96_74 (.bool true) v101_78 fun v102_79 =>
 guardA v102_79 false (fun K => K v73_56) fun v104_80 =>
 guardA v102_79 false (bslA [(0, 1, false, v104_80)] (zerosL [(.pointer none)] 1) 1 1) fun v105_81 =>
 guardA v102_79 false (callA P w0 n_run_Merge [v105_81, (.bool false)]) fun v106_82 =>
 guardA v102_79 false (pureA (lenSl v106_82)) fun v107_83 =>
 guardA v102_79 false (pureA (binA .neq v107_83 (.int .i64 0))) fun v108_84 =>
 pickA v102_79 (.bool true) v108_84 fun v109_85 =>
 condA v109_85 (
 storeA w0 x2 (.bool false) fun _ =>
 kr x2) (
 callA P w0 n_run_Run_Scan [v73_56, (.string .empty), (.string .empty)] fun v111_86 =>
 rangeA P w0 v111_86 1 (fun b g args K => deduplaw12_RunNobody_R2 P w0 b g K x2 (args.getD 0 undef)) (
 pureA (binA .add x70 (.int .i64 1)) fun v113_87 =>
 R x1 x2 x68 x69 v113_87) [(none, (
 kr x2))])) (
 k4 x2)
def deduplaw12_RunNobody_L2 (P : Program) (w0 : World) (k4 : Value → Hp → Prop) (kr : Value → Hp → Prop) : Nat → Value → Value → Value → Value → Value → Hp → Prop
  | 0, _, _, _, _, _ => fun _ => False
  | m + 1, x1, x2, x68, x69, x70 => deduplaw12_RunNobody_B2 P w0 (deduplaw12_RunNobody_L2 P w0 k4 kr m) k4 kr x1 x2 x68 x69 x70
def deduplaw12_RunNobody_E2 (P : Program) (w0 : World) (k4 : Value → Hp → Prop) (kr : Value → Hp → Prop) (x1 x2 x68 x69 x70 : Value) : Hp → Prop := fun h => ∃ m, deduplaw12_RunNobody_L2 P w0 k4 kr m x1 x2 x68 x69 x70 h
def s_deduplaw12_RunNobody (P : Program) (w0 : World) (a0 : Value) (R : Kont) : Hp → Prop :=
 fun h0 => (boxA true 4 a0 fun v1_1 =>
 newA [(.bool false)] 1 fun v2_2 =>
 callA P w0 n_deduplaw12_awake [] fun v11_3 =>
 pureA (unA .not v11_3) fun v12_4 =>
 condA v12_4 (
 storeA w0 v2_2 (.bool false) fun _ =>
 cutA h0 (
 loadA w0 v2_2 fun v2_5 =>
 retA [v2_5] R)) (
 buildA [] [(.pointer none)] fun v13_6 =>
 boxA true 1 v13_6 fun v14_7 =>
 bslA [(0, 1, false, (.pointer none)), (1, 1, false, v14_7)] (zerosL [(.pointer none)] 2) 2 1 fun v15_8 =>
 pureA (lenSl v15_8) fun v16_9 =>
 deduplaw12_RunNobody_E1 P w0 (fun y1_48 y2_49 =>
 buildA [] [(.slice none 0 0), (.slice none 0 0), (.int .i64 0)] fun v66_50 =>
 boxA true 3 v66_50 fun v67_51 =>
 bslA [(0, 1, false, (.pointer none)), (1, 1, false, v67_51)] (zerosL [(.pointer none)] 2) 2 1 fun v68_52 =>
 pureA (lenSl v68_52) fun v69_53 =>
 deduplaw12_RunNobody_E2 P w0 (fun y2_88 =>
 storeA w0 y2_88 (.bool true) fun _ =>
 cutA h0 (
 loadA w0 y2_88 fun v2_89 =>
 retA [v2_89] R)) (fun y2_90 =>
 cutA h0 (
 loadA w0 y2_90 fun v2_91 =>
 retA [v2_91] R)) y1_48 y2_49 v68_52 v69_53 (.int .i64 0)) (fun y1_92 y2_93 =>
 cutA h0 (
 loadA w0 y2_93 fun v2_94 =>
 retA [v2_94] R)) v1_1 v2_2 v15_8 v16_9 (.int .i64 0))) h0
theorem deduplaw12_RunNobody_L2_eq (w0 : World) (k4 : Value → Hp → Prop) (kr : Value → Hp → Prop) : ∀ (m : Nat) (x1 x2 x68 x69 x70 : Value) (h : Hp), loopA (stepLM ⟨prog, w0, 114, ks_deduplaw12_RunNobody⟩ (drw w0 114) (loopAt fn_deduplaw12_RunNobody 1)) m (mkFr [(1, x1), (2, x2), (68, x68), (69, x69), (70, x70)]) [fun t => k4 (t 2), fun t => kr (t 2)] h = deduplaw12_RunNobody_L2 prog w0 k4 kr m x1 x2 x68 x69 x70 h := by
  intro m
  induction m with
  | zero => intros; kernel_rfl
  | succ m ih =>
    intro x1 x2 x68 x69 x70 h
    have e : deduplaw12_RunNobody_L2 prog w0 k4 kr m = fun x1 x2 x68 x69 x70 h => loopA (stepLM ⟨prog, w0, 114, ks_deduplaw12_RunNobody⟩ (drw w0 114) (loopAt fn_deduplaw12_RunNobody 1)) m (mkFr [(1, x1), (2, x2), (68, x68), (69, x69), (70, x70)]) [fun t => k4 (t 2), fun t => kr (t 2)] h := by funext x1 x2 x68 x69 x70 h; exact (ih x1 x2 x68 x69 x70 h).symm
    show _ = deduplaw12_RunNobody_B2 prog w0 (deduplaw12_RunNobody_L2 prog w0 k4 kr m) k4 kr x1 x2 x68 x69 x70 h
    rw [e]
    kernel_rfl
theorem deduplaw12_RunNobody_E2_eq (w0 : World) : deduplaw12_RunNobody_E2 prog w0 = fun k4 kr x1 x2 x68 x69 x70 h => ∃ m, loopA (stepLM ⟨prog, w0, 114, ks_deduplaw12_RunNobody⟩ (drw w0 114) (loopAt fn_deduplaw12_RunNobody 1)) m (mkFr [(1, x1), (2, x2), (68, x68), (69, x69), (70, x70)]) [fun t => k4 (t 2), fun t => kr (t 2)] h := by
  funext k4 kr x1 x2 x68 x69 x70 h
  exact congrArg Exists (funext fun m => (deduplaw12_RunNobody_L2_eq w0 k4 kr m x1 x2 x68 x69 x70 h).symm)
theorem deduplaw12_RunNobody_L1_eq (w0 : World) (k0 : Value → Value → Hp → Prop) (kr : Value → Value → Hp → Prop) : ∀ (m : Nat) (x1 x2 x15 x16 x17 : Value) (h : Hp), loopA (stepLM ⟨prog, w0, 114, ks_deduplaw12_RunNobody⟩ (drw w0 114) (loopAt fn_deduplaw12_RunNobody 0)) m (mkFr [(1, x1), (2, x2), (15, x15), (16, x16), (17, x17)]) [fun t => k0 (t 1) (t 2), fun t => kr (t 1) (t 2)] h = deduplaw12_RunNobody_L1 prog w0 k0 kr m x1 x2 x15 x16 x17 h := by
  intro m
  induction m with
  | zero => intros; kernel_rfl
  | succ m ih =>
    intro x1 x2 x15 x16 x17 h
    have e : deduplaw12_RunNobody_L1 prog w0 k0 kr m = fun x1 x2 x15 x16 x17 h => loopA (stepLM ⟨prog, w0, 114, ks_deduplaw12_RunNobody⟩ (drw w0 114) (loopAt fn_deduplaw12_RunNobody 0)) m (mkFr [(1, x1), (2, x2), (15, x15), (16, x16), (17, x17)]) [fun t => k0 (t 1) (t 2), fun t => kr (t 1) (t 2)] h := by funext x1 x2 x15 x16 x17 h; exact (ih x1 x2 x15 x16 x17 h).symm
    show _ = deduplaw12_RunNobody_B1 prog w0 (deduplaw12_RunNobody_L1 prog w0 k0 kr m) k0 kr x1 x2 x15 x16 x17 h
    rw [e]
    kernel_rfl
theorem deduplaw12_RunNobody_E1_eq (w0 : World) : deduplaw12_RunNobody_E1 prog w0 = fun k0 kr x1 x2 x15 x16 x17 h => ∃ m, loopA (stepLM ⟨prog, w0, 114, ks_deduplaw12_RunNobody⟩ (drw w0 114) (loopAt fn_deduplaw12_RunNobody 0)) m (mkFr [(1, x1), (2, x2), (15, x15), (16, x16), (17, x17)]) [fun t => k0 (t 1) (t 2), fun t => kr (t 1) (t 2)] h := by
  funext k0 kr x1 x2 x15 x16 x17 h
  exact congrArg Exists (funext fun m => (deduplaw12_RunNobody_L1_eq w0 k0 kr m x1 x2 x15 x16 x17 h).symm)
theorem c_deduplaw12_RunNobody {w0 : World} {h : Hp} {R : Kont} {a0 : Value} (hj : ∀ v, v ∈ [a0] → v ≠ junk) (hv : s_deduplaw12_RunNobody prog w0 a0 R h) : ACalls prog w0 n_deduplaw12_RunNobody [a0] h R := by
  have e : vcFnM ⟨prog, w0, 114, ks_deduplaw12_RunNobody⟩ (drw w0 114) fn_deduplaw12_RunNobody [a0] R h = s_deduplaw12_RunNobody prog w0 a0 R h := by
    unfold s_deduplaw12_RunNobody
    rw [deduplaw12_RunNobody_E1_eq w0, deduplaw12_RunNobody_E2_eq w0]
    kernel_rfl
  exact acalls_of_eqM (fn := fn_deduplaw12_RunNobody) (ks := ks_deduplaw12_RunNobody) (n := 114) (by kernel_rfl) (by kernel_rfl) (draw_ok (by kernel_rfl)) (by simp) hj e hv

abbrev fn_deduplaw12_awake : Func := f10
def ks_deduplaw12_awake : List (Nat × List Nat × List Nat) := []
def s_deduplaw12_awake (P : Program) (w0 : World) (R : Kont) : Hp → Prop :=
 buildA [(0, 1, false, (.string ⟨#[97, 98]⟩)), (1, 1, false, (.string ⟨#[49]⟩))] [(.string .empty), (.string .empty), (.bool false)] fun v9_1 =>
 buildA [(0, 1, false, (.string ⟨#[97, 98, 99]⟩)), (1, 1, false, (.string ⟨#[50]⟩))] [(.string .empty), (.string .empty), (.bool false)] fun v10_2 =>
 bslA [(0, 3, true, v9_1), (3, 3, true, v10_2)] (zerosL [(.string .empty), (.string .empty), (.bool false)] 2) 2 3 fun v11_3 =>
 callA P w0 n_run_Build [v11_3, (.int .i64 256)] fun v12_4 =>
 pureA (extA v12_4 0) fun v13_5 =>
 pureA (extA v12_4 1) fun v14_6 =>
 callA P w0 n_run_Open [v13_5] fun v17_7 =>
 pureA (extA v17_7 0) fun v18_8 =>
 pureA (extA v17_7 1) fun v19_9 =>
 pureA (binA .neq v14_6 (.int .i64 0)) fun v21_10 =>
 guardA v21_10 false (fun K => K v19_9) fun v23_11 =>
 guardA v21_10 false (pureA (binA .neq v23_11 (.int .i64 0))) fun v24_12 =>
 pickA v21_10 (.bool true) v24_12 fun v25_13 =>
 guardA v25_13 false (fun K => K v18_8) fun v27_14 =>
 guardA v25_13 false (pureA (binPtrA .eql v27_14 (.pointer none))) fun v28_15 =>
 pickA v25_13 (.bool true) v28_15 fun v29_16 =>
 guardA v29_16 false (fun K => K v13_5) fun v31_17 =>
 guardA v29_16 false (pureA (lenSl v31_17)) fun v32_18 =>
 guardA v29_16 false (pureA (binA .lss v32_18 (.int .i64 13))) fun v33_19 =>
 pickA v29_16 (.bool true) v33_19 fun v34_20 =>
 guardA v34_20 false (fun K => K v13_5) fun v36_21 =>
 guardA v34_20 false (slSlA 1 v36_21 none (some (.int .i64 13)) none) fun v37_22 =>
 guardA v34_20 false (b2sA w0 v37_22) fun v38_23 =>
 guardA v34_20 false (pureA (binA .neq v38_23 (.string ⟨#[0, 2, 0, 1, 97, 98, 49, 2, 1, 0, 1, 99, 50]⟩))) fun v39_24 =>
 pickA v34_20 (.bool true) v39_24 fun v40_25 =>
 condA v40_25 (
 retA [(.bool false)] R) (
 callA P w0 n_run_NewMem [] fun v41_26 =>
 pureA (binPtrA .eql v41_26 (.pointer none)) fun v43_27 =>
 guardA v43_27 false (fun K => K v41_26) fun v45_28 =>
 guardA v43_27 false (callA P w0 n_run_Mem_All [v45_28]) fun v46_29 =>
 guardA v43_27 false (pureA (binFnA .eql v46_29 .nilFunc)) fun v47_30 =>
 pickA v43_27 (.bool true) v47_30 fun v48_31 =>
 guardA v48_31 false (fun K => K v18_8) fun v50_32 =>
 guardA v48_31 false (callA P w0 n_run_Run_Scan [v50_32, (.string .empty), (.string .empty)]) fun v51_33 =>
 guardA v48_31 false (pureA (binFnA .eql v51_33 .nilFunc)) fun v52_34 =>
 pickA v48_31 (.bool true) v52_34 fun v53_35 =>
 condA v53_35 (
 retA [(.bool false)] R) (
 callA P w0 n_run_Run_Get [v18_8, (.string ⟨#[97, 98, 99]⟩)] fun v56_36 =>
 pureA (extA v56_36 0) fun v57_37 =>
 pureA (extA v56_36 1) fun v58_38 =>
 newA [(.string .empty), (.string .empty), (.bool false)] 3 fun v6_39 =>
 storeNA w0 v6_39 v57_37 3 fun _ =>
 guardA v58_38 true (loadNA w0 v6_39 3) fun v61_40 =>
 guardA v58_38 true (buildA [(0, 1, false, (.string ⟨#[97, 98, 99]⟩)), (1, 1, false, (.string ⟨#[50]⟩))] [(.string .empty), (.string .empty), (.bool false)]) fun v62_41 =>
 guardA v58_38 true (eqStA P .eql 41 v61_40 v62_41) fun v63_42 =>
 pickA v58_38 v63_42 (.bool false) fun v64_43 =>
 guardA v64_43 true (fun K => K v18_8) fun v66_44 =>
 guardA v64_43 true (callA P w0 n_run_Run_Len [v66_44]) fun v67_45 =>
 guardA v64_43 true (pureA (binA .eql v67_45 (.int .i64 2))) fun v68_46 =>
 pickA v64_43 v68_46 (.bool false) fun v69_47 =>
 guardA v69_47 true (fun K => K v18_8) fun v71_48 =>
 guardA v69_47 true (callA P w0 n_run_Run_Blocks [v71_48]) fun v72_49 =>
 guardA v69_47 true (pureA (binA .eql v72_49 (.int .i64 1))) fun v73_50 =>
 pickA v69_47 v73_50 (.bool false) fun v74_51 =>
 retA [v74_51] R))
theorem c_deduplaw12_awake {w0 : World} {h : Hp} {R : Kont} (hj : ∀ v, v ∈ [] → v ≠ junk) (hv : s_deduplaw12_awake prog w0  R h) : ACalls prog w0 n_deduplaw12_awake [] h R := by
  have e : vcFn ⟨prog, w0, 75, ks_deduplaw12_awake⟩ (drw w0 75) fn_deduplaw12_awake [] R h = s_deduplaw12_awake prog w0  R h := by
    kernel_rfl
  exact acalls_of_eq (fn := fn_deduplaw12_awake) (ks := ks_deduplaw12_awake) (n := 75) (by kernel_rfl) (by kernel_rfl) (draw_ok (by kernel_rfl)) (by simp) hj e hv

abbrev fn_deduplaw12_same : Func := f15
def ks_deduplaw12_same : List (Nat × List Nat × List Nat) := [(4, [0, 1, 4, 12, 13], [4])]
def deduplaw12_same_B1 (P : Program) (w0 : World) (R : Value → Value → Value → Value → Value → Hp → Prop) (k0 : Value → Hp → Prop) (kr : Value → Hp → Prop) (x0 x1 x4 x12 x13 : Value) : Hp → Prop :=
 pureA (binA .lss x13 x12) fun v14_5 =>
 condA v14_5 (
 pureQ (fun K => K x0) fun v16_6 =>
 pureQ (fun K => K x13) fun v17_7 =>
 pureQ (idxSlA 3 v16_6 v17_7) fun v18_8 =>
 readQ (loadNA w0 v18_8 3) fun v19_9 =>
 pureQ (fun K => K x1) fun v20_10 =>
 pureQ (fun K => K x13) fun v21_11 =>
 pureQ (idxSlA 3 v20_10 v21_11) fun v22_12 =>
 readQ (loadNA w0 v22_12 3) fun v23_13 =>
 pureQ (eqStA P .neq 41 v19_9 v23_13) fun v24_14 =>
 endA (
 condA v24_14 (
 kr (.bool false)) (
 pureA (binA .add x13 (.int .i64 1)) fun v25_15 =>
 R x0 x1 x4 x12 v25_15))) (
 k0 x4)
def deduplaw12_same_L1 (P : Program) (w0 : World) (k0 : Value → Hp → Prop) (kr : Value → Hp → Prop) : Nat → Value → Value → Value → Value → Value → Hp → Prop
  | 0, _, _, _, _, _ => fun _ => False
  | m + 1, x0, x1, x4, x12, x13 => deduplaw12_same_B1 P w0 (deduplaw12_same_L1 P w0 k0 kr m) k0 kr x0 x1 x4 x12 x13
def deduplaw12_same_E1 (P : Program) (w0 : World) (k0 : Value → Hp → Prop) (kr : Value → Hp → Prop) (x0 x1 x4 x12 x13 : Value) : Hp → Prop := fun h => ∃ m, deduplaw12_same_L1 P w0 k0 kr m x0 x1 x4 x12 x13 h
def s_deduplaw12_same (P : Program) (w0 : World) (a0 a1 : Value) (R : Kont) : Hp → Prop :=
 pureA (lenSl a0) fun v7_1 =>
 pureA (lenSl a1) fun v9_2 =>
 pureA (binA .neq v7_1 v9_2) fun v10_3 =>
 condA v10_3 (
 retA [(.bool false)] R) (
 pureA (lenSl a0) fun v12_4 =>
 deduplaw12_same_E1 P w0 (fun y4_16 =>
 retA [(.bool true)] R) (fun y4_17 =>
 retA [y4_17] R) a0 a1 (.bool false) v12_4 (.int .i64 0))
theorem deduplaw12_same_L1_eq (w0 : World) (k0 : Value → Hp → Prop) (kr : Value → Hp → Prop) : ∀ (m : Nat) (x0 x1 x4 x12 x13 : Value) (h : Hp), loopA (stepL ⟨prog, w0, 26, ks_deduplaw12_same⟩ (drw w0 26) (loopAt fn_deduplaw12_same 0)) m (mkFr [(0, x0), (1, x1), (4, x4), (12, x12), (13, x13)]) [fun t => k0 (t 4), fun t => kr (t 4)] h = deduplaw12_same_L1 prog w0 k0 kr m x0 x1 x4 x12 x13 h := by
  intro m
  induction m with
  | zero => intros; kernel_rfl
  | succ m ih =>
    intro x0 x1 x4 x12 x13 h
    have e : deduplaw12_same_L1 prog w0 k0 kr m = fun x0 x1 x4 x12 x13 h => loopA (stepL ⟨prog, w0, 26, ks_deduplaw12_same⟩ (drw w0 26) (loopAt fn_deduplaw12_same 0)) m (mkFr [(0, x0), (1, x1), (4, x4), (12, x12), (13, x13)]) [fun t => k0 (t 4), fun t => kr (t 4)] h := by funext x0 x1 x4 x12 x13 h; exact (ih x0 x1 x4 x12 x13 h).symm
    show _ = deduplaw12_same_B1 prog w0 (deduplaw12_same_L1 prog w0 k0 kr m) k0 kr x0 x1 x4 x12 x13 h
    rw [e]
    kernel_rfl
theorem deduplaw12_same_E1_eq (w0 : World) : deduplaw12_same_E1 prog w0 = fun k0 kr x0 x1 x4 x12 x13 h => ∃ m, loopA (stepL ⟨prog, w0, 26, ks_deduplaw12_same⟩ (drw w0 26) (loopAt fn_deduplaw12_same 0)) m (mkFr [(0, x0), (1, x1), (4, x4), (12, x12), (13, x13)]) [fun t => k0 (t 4), fun t => kr (t 4)] h := by
  funext k0 kr x0 x1 x4 x12 x13 h
  exact congrArg Exists (funext fun m => (deduplaw12_same_L1_eq w0 k0 kr m x0 x1 x4 x12 x13 h).symm)
theorem c_deduplaw12_same {w0 : World} {h : Hp} {R : Kont} {a0 a1 : Value} (hj : ∀ v, v ∈ [a0, a1] → v ≠ junk) (hv : s_deduplaw12_same prog w0 a0 a1 R h) : ACalls prog w0 n_deduplaw12_same [a0, a1] h R := by
  have e : vcFn ⟨prog, w0, 26, ks_deduplaw12_same⟩ (drw w0 26) fn_deduplaw12_same [a0, a1] R h = s_deduplaw12_same prog w0 a0 a1 R h := by
    unfold s_deduplaw12_same
    rw [deduplaw12_same_E1_eq w0]
    kernel_rfl
  exact acalls_of_eq (fn := fn_deduplaw12_same) (ks := ks_deduplaw12_same) (n := 26) (by kernel_rfl) (by kernel_rfl) (draw_ok (by kernel_rfl)) (by simp) hj e hv

abbrev fn_deduplaw12_step : Func := f27
def ks_deduplaw12_step : List (Nat × List Nat × List Nat) := []
def s_deduplaw12_step (P : Program) (w0 : World) (a0 a1 a2 : Value) (R : Kont) : Hp → Prop :=
 boxA true 4 a2 fun v5_1 =>
 addA v5_1 1 fun v16_2 =>
 loadA w0 v16_2 fun v17_3 =>
 callA P w0 n_dedupref12_Find [a1, v17_3] fun v18_4 =>
 pureA (extA v18_4 0) fun v19_5 =>
 pureA (extA v18_4 1) fun v20_6 =>
 addA v5_1 0 fun v21_7 =>
 loadA w0 v21_7 fun v22_8 =>
 pureA (binA .eql v22_8 (.int .i64 0)) fun v24_9 =>
 condA v24_9 (
 condA v24_9 (
 addA v5_1 1 fun v26_10 =>
 loadA w0 v26_10 fun v27_11 =>
 addA v5_1 2 fun v28_12 =>
 loadA w0 v28_12 fun v29_13 =>
 buildA [(0, 1, false, v27_11), (1, 1, false, v29_13)] [(.string .empty), (.string .empty), (.bool false)] fun v30_14 =>
 newA [(.string .empty), (.string .empty), (.bool false)] 3 fun v10_15 =>
 storeNA w0 v10_15 v30_14 3 fun _ =>
 addA v5_1 0 fun v31_16 =>
 loadA w0 v31_16 fun v32_17 =>
 pureA (binA .eql v32_17 (.int .i64 1)) fun v33_18 =>
 condA v33_18 (
 addA v5_1 1 fun v34_19 =>
 loadA w0 v34_19 fun v35_20 =>
 buildA [(0, 1, false, v35_20), (2, 1, false, (.bool true))] [(.string .empty), (.string .empty), (.bool false)] fun v36_21 =>
 storeNA w0 v10_15 v36_21 3 fun _ =>
 addA v5_1 1 fun v38_22 =>
 loadA w0 v38_22 fun v39_23 =>
 callA P w0 n_run_Mem_Delete [a0, v39_23] fun v40_24 =>
 loadNA w0 v10_15 3 fun v47_25 =>
 callA P w0 n_dedupref12_Right [v47_25] fun v48_26 =>
 pureA (unA .not v48_26) fun v49_27 =>
 condA v49_27 (
 pureA (binA .eql v40_24 (.int .i64 120)) fun v52_28 =>
 retA [a1, v52_28] R) (
 loadNA w0 v10_15 3 fun v54_29 =>
 callA P w0 n_dedupref12_With [a1, v54_29] fun v55_30 =>
 pureA (binA .eql v40_24 (.int .i64 0)) fun v57_31 =>
 retA [v55_30, v57_31] R)) (
 addA v5_1 1 fun v42_32 =>
 loadA w0 v42_32 fun v43_33 =>
 addA v5_1 2 fun v44_34 =>
 loadA w0 v44_34 fun v45_35 =>
 callA P w0 n_run_Mem_Put [a0, v43_33, v45_35] fun v46_36 =>
 loadNA w0 v10_15 3 fun v47_37 =>
 callA P w0 n_dedupref12_Right [v47_37] fun v48_38 =>
 pureA (unA .not v48_38) fun v49_39 =>
 condA v49_39 (
 pureA (binA .eql v46_36 (.int .i64 120)) fun v52_40 =>
 retA [a1, v52_40] R) (
 loadNA w0 v10_15 3 fun v54_41 =>
 callA P w0 n_dedupref12_With [a1, v54_41] fun v55_42 =>
 pureA (binA .eql v46_36 (.int .i64 0)) fun v57_43 =>
 retA [v55_42, v57_43] R))) (
 pureA (binA .eql v22_8 (.int .i64 2)) fun v59_44 =>
 condA v59_44 (
 addA v5_1 1 fun v62_45 =>
 loadA w0 v62_45 fun v63_46 =>
 callA P w0 n_run_Mem_Get [a0, v63_46] fun v64_47 =>
 pureA (extA v64_47 0) fun v65_48 =>
 pureA (extA v64_47 1) fun v66_49 =>
 newA [(.string .empty), (.string .empty), (.bool false)] 3 fun v12_50 =>
 storeNA w0 v12_50 v65_48 3 fun _ =>
 pureQ (fun K => K a1) fun v67_51 =>
 pureQ (fun K => K v66_49) fun v68_52 =>
 pureQ (fun K => K v20_6) fun v69_53 =>
 pureQ (pureA (binBoolA .eql v68_52 v69_53)) fun v70_54 =>
 pureQ (fun K => K v70_54) fun v71_55 =>
 pureQ (guardA v71_55 true (fun K => K v20_6)) fun v72_56 =>
 pureQ (guardA v71_55 true (fun K => K v72_56)) fun v73_57 =>
 readQ (guardA v73_57 true (loadNA w0 v12_50 3)) fun v74_58 =>
 pureQ (guardA v73_57 true (fun K => K a1)) fun v75_59 =>
 pureQ (guardA v73_57 true (fun K => K v19_5)) fun v76_60 =>
 pureQ (guardA v73_57 true (idxSlA 3 v75_59 v76_60)) fun v77_61 =>
 readQ (guardA v73_57 true (loadNA w0 v77_61 3)) fun v78_62 =>
 pureQ (guardA v73_57 true (eqStA P .eql 41 v74_58 v78_62)) fun v79_63 =>
 pureQ (guardA v71_55 true (pickA v73_57 v79_63 (.bool false))) fun v80_64 =>
 pureQ (guardA v71_55 true (fun K => K v80_64)) fun v81_65 =>
 pureQ (guardA v81_65 false (fun K => K v20_6)) fun v82_66 =>
 pureQ (guardA v81_65 false (pureA (unA .not v82_66))) fun v83_67 =>
 pureQ (guardA v81_65 false (fun K => K v83_67)) fun v84_68 =>
 readQ (guardA v84_68 true (loadNA w0 v12_50 3)) fun v85_69 =>
 pureQ (fun K => K v67_51) fun v6_70 =>
 allA [
 (guardA v84_68 true (buildA [] [(.string .empty), (.string .empty), (.bool false)]) fun v86_71 =>
 stillA [(sameQ (guardA v84_68 true (loadNA w0 v12_50 3)) v85_69)] (
 pureQ (guardA v84_68 true (eqStA P .eql 41 v85_69 v86_71)) fun v87_72 =>
 pureQ (guardA v81_65 false (pickA v84_68 v87_72 (.bool false))) fun v88_73 =>
 pureQ (guardA v71_55 true (pickA v81_65 (.bool true) v88_73)) fun v89_74 =>
 pureQ (pickA v71_55 v89_74 (.bool false)) fun v90_75 =>
 pureQ (fun K => K v90_75) fun v7_76 =>
 endA (
 retA [v6_70, v7_76] R)))]) (
 pureA (binA .eql v22_8 (.int .i64 3)) fun v92_77 =>
 condA v92_77 (
 callA P w0 n_run_Mem_Len [a0] fun v95_78 =>
 pureA (lenSl a1) fun v97_79 =>
 pureA (binA .eql v95_78 v97_79) fun v98_80 =>
 retA [a1, v98_80] R) (
 pureA (binA .eql v22_8 (.int .i64 4)) fun v100_81 =>
 condA v100_81 (
 addA v5_1 3 fun v104_82 =>
 loadA w0 v104_82 fun v105_83 =>
 callA P w0 n_deduplaw12_all [a0, a1, v105_83] fun v106_84 =>
 retA [a1, v106_84] R) (
 pureA (binA .eql v22_8 (.int .i64 5)) fun v108_85 =>
 condA v108_85 (
 callA P w0 n_run_Mem_Clear [a0] fun v110_86 =>
 retA [(.slice none 0 0), (.bool true)] R) (
 retA [a1, (.bool true)] R)))))) (
 pureA (binA .eql v22_8 (.int .i64 1)) fun v25_87 =>
 condA v25_87 (
 addA v5_1 1 fun v26_88 =>
 loadA w0 v26_88 fun v27_89 =>
 addA v5_1 2 fun v28_90 =>
 loadA w0 v28_90 fun v29_91 =>
 buildA [(0, 1, false, v27_89), (1, 1, false, v29_91)] [(.string .empty), (.string .empty), (.bool false)] fun v30_92 =>
 newA [(.string .empty), (.string .empty), (.bool false)] 3 fun v10_93 =>
 storeNA w0 v10_93 v30_92 3 fun _ =>
 addA v5_1 0 fun v31_94 =>
 loadA w0 v31_94 fun v32_95 =>
 pureA (binA .eql v32_95 (.int .i64 1)) fun v33_96 =>
 condA v33_96 (
 addA v5_1 1 fun v34_97 =>
 loadA w0 v34_97 fun v35_98 =>
 buildA [(0, 1, false, v35_98), (2, 1, false, (.bool true))] [(.string .empty), (.string .empty), (.bool false)] fun v36_99 =>
 storeNA w0 v10_93 v36_99 3 fun _ =>
 addA v5_1 1 fun v38_100 =>
 loadA w0 v38_100 fun v39_101 =>
 callA P w0 n_run_Mem_Delete [a0, v39_101] fun v40_102 =>
 loadNA w0 v10_93 3 fun v47_103 =>
 callA P w0 n_dedupref12_Right [v47_103] fun v48_104 =>
 pureA (unA .not v48_104) fun v49_105 =>
 condA v49_105 (
 pureA (binA .eql v40_102 (.int .i64 120)) fun v52_106 =>
 retA [a1, v52_106] R) (
 loadNA w0 v10_93 3 fun v54_107 =>
 callA P w0 n_dedupref12_With [a1, v54_107] fun v55_108 =>
 pureA (binA .eql v40_102 (.int .i64 0)) fun v57_109 =>
 retA [v55_108, v57_109] R)) (
 addA v5_1 1 fun v42_110 =>
 loadA w0 v42_110 fun v43_111 =>
 addA v5_1 2 fun v44_112 =>
 loadA w0 v44_112 fun v45_113 =>
 callA P w0 n_run_Mem_Put [a0, v43_111, v45_113] fun v46_114 =>
 loadNA w0 v10_93 3 fun v47_115 =>
 callA P w0 n_dedupref12_Right [v47_115] fun v48_116 =>
 pureA (unA .not v48_116) fun v49_117 =>
 condA v49_117 (
 pureA (binA .eql v46_114 (.int .i64 120)) fun v52_118 =>
 retA [a1, v52_118] R) (
 loadNA w0 v10_93 3 fun v54_119 =>
 callA P w0 n_dedupref12_With [a1, v54_119] fun v55_120 =>
 pureA (binA .eql v46_114 (.int .i64 0)) fun v57_121 =>
 retA [v55_120, v57_121] R))) (
 pureA (binA .eql v22_8 (.int .i64 2)) fun v59_122 =>
 condA v59_122 (
 addA v5_1 1 fun v62_123 =>
 loadA w0 v62_123 fun v63_124 =>
 callA P w0 n_run_Mem_Get [a0, v63_124] fun v64_125 =>
 pureA (extA v64_125 0) fun v65_126 =>
 pureA (extA v64_125 1) fun v66_127 =>
 newA [(.string .empty), (.string .empty), (.bool false)] 3 fun v12_128 =>
 storeNA w0 v12_128 v65_126 3 fun _ =>
 pureQ (fun K => K a1) fun v67_129 =>
 pureQ (fun K => K v66_127) fun v68_130 =>
 pureQ (fun K => K v20_6) fun v69_131 =>
 pureQ (pureA (binBoolA .eql v68_130 v69_131)) fun v70_132 =>
 pureQ (fun K => K v70_132) fun v71_133 =>
 pureQ (guardA v71_133 true (fun K => K v20_6)) fun v72_134 =>
 pureQ (guardA v71_133 true (fun K => K v72_134)) fun v73_135 =>
 readQ (guardA v73_135 true (loadNA w0 v12_128 3)) fun v74_136 =>
 pureQ (guardA v73_135 true (fun K => K a1)) fun v75_137 =>
 pureQ (guardA v73_135 true (fun K => K v19_5)) fun v76_138 =>
 pureQ (guardA v73_135 true (idxSlA 3 v75_137 v76_138)) fun v77_139 =>
 readQ (guardA v73_135 true (loadNA w0 v77_139 3)) fun v78_140 =>
 pureQ (guardA v73_135 true (eqStA P .eql 41 v74_136 v78_140)) fun v79_141 =>
 pureQ (guardA v71_133 true (pickA v73_135 v79_141 (.bool false))) fun v80_142 =>
 pureQ (guardA v71_133 true (fun K => K v80_142)) fun v81_143 =>
 pureQ (guardA v81_143 false (fun K => K v20_6)) fun v82_144 =>
 pureQ (guardA v81_143 false (pureA (unA .not v82_144))) fun v83_145 =>
 pureQ (guardA v81_143 false (fun K => K v83_145)) fun v84_146 =>
 readQ (guardA v84_146 true (loadNA w0 v12_128 3)) fun v85_147 =>
 pureQ (fun K => K v67_129) fun v6_148 =>
 allA [
 (guardA v84_146 true (buildA [] [(.string .empty), (.string .empty), (.bool false)]) fun v86_149 =>
 stillA [(sameQ (guardA v84_146 true (loadNA w0 v12_128 3)) v85_147)] (
 pureQ (guardA v84_146 true (eqStA P .eql 41 v85_147 v86_149)) fun v87_150 =>
 pureQ (guardA v81_143 false (pickA v84_146 v87_150 (.bool false))) fun v88_151 =>
 pureQ (guardA v71_133 true (pickA v81_143 (.bool true) v88_151)) fun v89_152 =>
 pureQ (pickA v71_133 v89_152 (.bool false)) fun v90_153 =>
 pureQ (fun K => K v90_153) fun v7_154 =>
 endA (
 retA [v6_148, v7_154] R)))]) (
 pureA (binA .eql v22_8 (.int .i64 3)) fun v92_155 =>
 condA v92_155 (
 callA P w0 n_run_Mem_Len [a0] fun v95_156 =>
 pureA (lenSl a1) fun v97_157 =>
 pureA (binA .eql v95_156 v97_157) fun v98_158 =>
 retA [a1, v98_158] R) (
 pureA (binA .eql v22_8 (.int .i64 4)) fun v100_159 =>
 condA v100_159 (
 addA v5_1 3 fun v104_160 =>
 loadA w0 v104_160 fun v105_161 =>
 callA P w0 n_deduplaw12_all [a0, a1, v105_161] fun v106_162 =>
 retA [a1, v106_162] R) (
 pureA (binA .eql v22_8 (.int .i64 5)) fun v108_163 =>
 condA v108_163 (
 callA P w0 n_run_Mem_Clear [a0] fun v110_164 =>
 retA [(.slice none 0 0), (.bool true)] R) (
 retA [a1, (.bool true)] R))))))
theorem c_deduplaw12_step {w0 : World} {h : Hp} {R : Kont} {a0 a1 a2 : Value} (hj : ∀ v, v ∈ [a0, a1, a2] → v ≠ junk) (hv : s_deduplaw12_step prog w0 a0 a1 a2 R h) : ACalls prog w0 n_deduplaw12_step [a0, a1, a2] h R := by
  have e : vcFn ⟨prog, w0, 112, ks_deduplaw12_step⟩ (drw w0 112) fn_deduplaw12_step [a0, a1, a2] R h = s_deduplaw12_step prog w0 a0 a1 a2 R h := by
    kernel_rfl
  exact acalls_of_eq (fn := fn_deduplaw12_step) (ks := ks_deduplaw12_step) (n := 112) (by kernel_rfl) (by kernel_rfl) (draw_ok (by kernel_rfl)) (by simp) hj e hv

abbrev fn_deduplaw12_all : Func := f28
def ks_deduplaw12_all : List (Nat × List Nat × List Nat) := [(3, [0, 4, 5, 6, 7, 8], [0, 4, 6])]
def deduplaw12_all_R1 (P : Program) (w0 : World) (b : Nat) (g : Lp) (K : Kont) (x4 x5 x6 x8 x9 y18 : Value) : Hp → Prop :=
 newA [(.string .empty), (.string .empty), (.bool false)] 3 fun v10_9 =>
 storeNA w0 v10_9 y18 3 fun _ =>
 beginA b g (
 readQ (loadA w0 x9) fun v19_10 =>
 readQ (loadA w0 x4) fun v20_11 =>
 pureQ (pureA (lenSl v20_11)) fun v21_12 =>
 pureQ (pureA (binA .geq v19_10 v21_12)) fun v22_13 =>
 pureQ (fun K => K v22_13) fun v23_14 =>
 readQ (guardA v23_14 false (loadNA w0 v10_9 3)) fun v24_15 =>
 readQ (guardA v23_14 false (loadA w0 x4)) fun v25_16 =>
 readQ (guardA v23_14 false (loadA w0 x9)) fun v26_17 =>
 pureQ (guardA v23_14 false (idxSlA 3 v25_16 v26_17)) fun v27_18 =>
 readQ (guardA v23_14 false (loadNA w0 v27_18 3)) fun v28_19 =>
 pureQ (guardA v23_14 false (eqStA P .neq 41 v24_15 v28_19)) fun v29_20 =>
 pureQ (pickA v23_14 (.bool true) v29_20) fun v30_21 =>
 endA (
 condA v30_21 (
 storeA w0 x6 (.bool false) fun _ =>
 endR b g (some none) K) (
 loadA w0 x9 fun v31_22 =>
 pureA (binA .add v31_22 (.int .i64 1)) fun v32_23 =>
 storeA w0 x9 v32_23 fun _ =>
 loadA w0 x8 fun v33_24 =>
 pureA (binA .eql v33_24 (.int .i64 0)) fun v34_25 =>
 guardA v34_25 true (loadA w0 x9) fun v36_26 =>
 guardA v34_25 true (loadA w0 x5) fun v37_27 =>
 guardA v34_25 true (pureA (binA .eql v36_26 v37_27)) fun v38_28 =>
 pickA v34_25 v38_28 (.bool false) fun v39_29 =>
 condA v39_29 (
 endR b g (some (some 2)) K) (
 endR b g none K))))
def deduplaw12_all_B1 (P : Program) (w0 : World) (R : Value → Value → Value → Value → Value → Value → Hp → Prop) (k0 : Value → Value → Value → Hp → Prop) (kr : Value → Value → Value → Hp → Prop) (x0 x4 x5 x6 x7 x8 : Value) : Hp → Prop :=
 loadA w0 x8 fun v13_6 =>
 pureA (binA .lss v13_6 (.int .i64 2)) fun v14_7 =>
 condA v14_7 (
 newA [(.int .i64 0)] 1 fun v9_8 =>
 storeA w0 v9_8 (.int .i64 0) fun _ =>
 rangeA P w0 x7 1 (fun b g args K => deduplaw12_all_R1 P w0 b g K x4 x5 x6 x8 v9_8 (args.getD 0 undef)) (
 loadA w0 v9_8 fun v40_46 =>
 loadA w0 x4 fun v41_47 =>
 pureA (lenSl v41_47) fun v42_48 =>
 pureA (binA .neq v40_46 v42_48) fun v43_49 =>
 guardA v43_49 true (loadA w0 x8) fun v45_50 =>
 guardA v43_49 true (pureA (binA .neq v45_50 (.int .i64 0))) fun v46_51 =>
 guardA v43_49 true (fun K => K v46_51) fun v47_52 =>
 guardA v47_52 false (loadA w0 v9_8) fun v48_53 =>
 guardA v47_52 false (loadA w0 x5) fun v49_54 =>
 guardA v47_52 false (pureA (binA .neq v48_53 v49_54)) fun v50_55 =>
 guardA v43_49 true (pickA v47_52 (.bool true) v50_55) fun v51_56 =>
 pickA v43_49 v51_56 (.bool false) fun v52_57 =>
 condA v52_57 (
 storeA w0 x6 (.bool false) fun _ =>
 kr x0 x4 x6) (
 loadA w0 x8 fun v53_58 =>
 newA [(.int .i64 0)] 1 fun v8_59 =>
 storeA w0 v8_59 v53_58 fun _ =>
 loadA w0 v8_59 fun v15_60 =>
 pureA (binA .add v15_60 (.int .i64 1)) fun v16_61 =>
 storeA w0 v8_59 v16_61 fun _ =>
 R x0 x4 x5 x6 x7 v8_59)) [(none, (
 kr x0 x4 x6)), (some 2, (
 loadA w0 v9_8 fun v40_30 =>
 loadA w0 x4 fun v41_31 =>
 pureA (lenSl v41_31) fun v42_32 =>
 pureA (binA .neq v40_30 v42_32) fun v43_33 =>
 guardA v43_33 true (loadA w0 x8) fun v45_34 =>
 guardA v43_33 true (pureA (binA .neq v45_34 (.int .i64 0))) fun v46_35 =>
 guardA v43_33 true (fun K => K v46_35) fun v47_36 =>
 guardA v47_36 false (loadA w0 v9_8) fun v48_37 =>
 guardA v47_36 false (loadA w0 x5) fun v49_38 =>
 guardA v47_36 false (pureA (binA .neq v48_37 v49_38)) fun v50_39 =>
 guardA v43_33 true (pickA v47_36 (.bool true) v50_39) fun v51_40 =>
 pickA v43_33 v51_40 (.bool false) fun v52_41 =>
 condA v52_41 (
 storeA w0 x6 (.bool false) fun _ =>
 kr x0 x4 x6) (
 loadA w0 x8 fun v53_42 =>
 newA [(.int .i64 0)] 1 fun v8_43 =>
 storeA w0 v8_43 v53_42 fun _ =>
 loadA w0 v8_43 fun v15_44 =>
 pureA (binA .add v15_44 (.int .i64 1)) fun v16_45 =>
 storeA w0 v8_43 v16_45 fun _ =>
 R x0 x4 x5 x6 x7 v8_43)))]) (
 k0 x0 x4 x6)
def deduplaw12_all_L1 (P : Program) (w0 : World) (k0 : Value → Value → Value → Hp → Prop) (kr : Value → Value → Value → Hp → Prop) : Nat → Value → Value → Value → Value → Value → Value → Hp → Prop
  | 0, _, _, _, _, _, _ => fun _ => False
  | m + 1, x0, x4, x5, x6, x7, x8 => deduplaw12_all_B1 P w0 (deduplaw12_all_L1 P w0 k0 kr m) k0 kr x0 x4 x5 x6 x7 x8
def deduplaw12_all_E1 (P : Program) (w0 : World) (k0 : Value → Value → Value → Hp → Prop) (kr : Value → Value → Value → Hp → Prop) (x0 x4 x5 x6 x7 x8 : Value) : Hp → Prop := fun h => ∃ m, deduplaw12_all_L1 P w0 k0 kr m x0 x4 x5 x6 x7 x8 h
def s_deduplaw12_all (P : Program) (w0 : World) (a0 a1 a2 : Value) (R : Kont) : Hp → Prop :=
 fun h0 => (boxA false 1 a1 fun v4_1 =>
 boxA false 1 a2 fun v5_2 =>
 newA [(.bool false)] 1 fun v6_3 =>
 callA P w0 n_run_Mem_All [a0] fun v12_4 =>
 newA [(.int .i64 0)] 1 fun v8_5 =>
 storeA w0 v8_5 (.int .i64 0) fun _ =>
 deduplaw12_all_E1 P w0 (fun y0_62 y4_63 y6_64 =>
 pureQ (fun K => K y0_62) fun v54_65 =>
 readQ (loadA w0 y4_63) fun v56_66 =>
 pureQ (pureA (lenSl v56_66)) fun v57_67 =>
 allA [
 (callA P w0 n_run_Mem_Len [v54_65] fun v55_68 =>
 stillA [(sameQ (loadA w0 y4_63) v56_66)] (
 pureQ (pureA (binA .eql v55_68 v57_67)) fun v58_69 =>
 allA [
 (storeA w0 y6_64 v58_69 fun _ =>
 stillA [] (
 endA (
 cutA h0 (
 loadA w0 y6_64 fun v6_70 =>
 retA [v6_70] R))))]))]) (fun y0_71 y4_72 y6_73 =>
 cutA h0 (
 loadA w0 y6_73 fun v6_74 =>
 retA [v6_74] R)) a0 v4_1 v5_2 v6_3 v12_4 v8_5) h0
theorem deduplaw12_all_L1_eq (w0 : World) (k0 : Value → Value → Value → Hp → Prop) (kr : Value → Value → Value → Hp → Prop) : ∀ (m : Nat) (x0 x4 x5 x6 x7 x8 : Value) (h : Hp), loopA (stepLM ⟨prog, w0, 59, ks_deduplaw12_all⟩ (drw w0 59) (loopAt fn_deduplaw12_all 0)) m (mkFr [(0, x0), (4, x4), (5, x5), (6, x6), (7, x7), (8, x8)]) [fun t => k0 (t 0) (t 4) (t 6), fun t => kr (t 0) (t 4) (t 6)] h = deduplaw12_all_L1 prog w0 k0 kr m x0 x4 x5 x6 x7 x8 h := by
  intro m
  induction m with
  | zero => intros; kernel_rfl
  | succ m ih =>
    intro x0 x4 x5 x6 x7 x8 h
    have e : deduplaw12_all_L1 prog w0 k0 kr m = fun x0 x4 x5 x6 x7 x8 h => loopA (stepLM ⟨prog, w0, 59, ks_deduplaw12_all⟩ (drw w0 59) (loopAt fn_deduplaw12_all 0)) m (mkFr [(0, x0), (4, x4), (5, x5), (6, x6), (7, x7), (8, x8)]) [fun t => k0 (t 0) (t 4) (t 6), fun t => kr (t 0) (t 4) (t 6)] h := by funext x0 x4 x5 x6 x7 x8 h; exact (ih x0 x4 x5 x6 x7 x8 h).symm
    show _ = deduplaw12_all_B1 prog w0 (deduplaw12_all_L1 prog w0 k0 kr m) k0 kr x0 x4 x5 x6 x7 x8 h
    rw [e]
    kernel_rfl
theorem deduplaw12_all_E1_eq (w0 : World) : deduplaw12_all_E1 prog w0 = fun k0 kr x0 x4 x5 x6 x7 x8 h => ∃ m, loopA (stepLM ⟨prog, w0, 59, ks_deduplaw12_all⟩ (drw w0 59) (loopAt fn_deduplaw12_all 0)) m (mkFr [(0, x0), (4, x4), (5, x5), (6, x6), (7, x7), (8, x8)]) [fun t => k0 (t 0) (t 4) (t 6), fun t => kr (t 0) (t 4) (t 6)] h := by
  funext k0 kr x0 x4 x5 x6 x7 x8 h
  exact congrArg Exists (funext fun m => (deduplaw12_all_L1_eq w0 k0 kr m x0 x4 x5 x6 x7 x8 h).symm)
theorem c_deduplaw12_all {w0 : World} {h : Hp} {R : Kont} {a0 a1 a2 : Value} (hj : ∀ v, v ∈ [a0, a1, a2] → v ≠ junk) (hv : s_deduplaw12_all prog w0 a0 a1 a2 R h) : ACalls prog w0 n_deduplaw12_all [a0, a1, a2] h R := by
  have e : vcFnM ⟨prog, w0, 59, ks_deduplaw12_all⟩ (drw w0 59) fn_deduplaw12_all [a0, a1, a2] R h = s_deduplaw12_all prog w0 a0 a1 a2 R h := by
    unfold s_deduplaw12_all
    rw [deduplaw12_all_E1_eq w0]
    kernel_rfl
  exact acalls_of_eqM (fn := fn_deduplaw12_all) (ks := ks_deduplaw12_all) (n := 59) (by kernel_rfl) (by kernel_rfl) (draw_ok (by kernel_rfl)) (by simp) hj e hv

end
end Go.Proofs.Ythjpddggnhgjhaa.Ah
