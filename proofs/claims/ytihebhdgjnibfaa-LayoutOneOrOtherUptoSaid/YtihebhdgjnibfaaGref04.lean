/- PRINTED by wip/tools/shallow.py: functions of the program as readable words, and that each is what its text says. -/
import Derived.Test.YtihebhdgjnibfaaGn
set_option linter.unusedVariables false
set_option linter.unusedSimpArgs false
namespace Go.Proofs.Ytihebhdgjnibfaa.Ah
open Go Go.Proofs.Try
noncomputable section

abbrev fn_dedupref04_Kind : Func := f13
def ks_dedupref04_Kind : List (Nat × List Nat × List Nat) := []
def s_dedupref04_Kind (P : Program) (w0 : World) (a0 a1 : Value) (R : Kont) : Hp → Prop :=
 boxA true 10 a0 fun v2_1 =>
 loadNA w0 v2_1 10 fun v5_2 =>
 callA P w0 n_dedupref04_Check [v5_2] fun v6_3 =>
 pureA (binA .neq v6_3 (.int .i64 0)) fun v7_4 =>
 guardA v7_4 false (fun K => K a1) fun v9_5 =>
 guardA v7_4 false (pureA (binA .lss v9_5 (.int .i64 0))) fun v10_6 =>
 pickA v7_4 (.bool true) v10_6 fun v11_7 =>
 guardA v11_7 false (fun K => K a1) fun v13_8 =>
 guardA v11_7 false (addA v2_1 1) fun v14_9 =>
 guardA v11_7 false (loadA w0 v14_9) fun v15_10 =>
 guardA v11_7 false (pureA (binA .geq v13_8 v15_10)) fun v16_11 =>
 pickA v11_7 (.bool true) v16_11 fun v17_12 =>
 condA v17_12 (
 retA [(.int .i64 0)] R) (
 pureA (binA .lss a1 (.int .i64 2)) fun v19_13 =>
 condA v19_13 (
 retA [(.int .i64 1)] R) (
 addA v2_1 2 fun v21_14 =>
 loadA w0 v21_14 fun v22_15 =>
 pureA (binA .add (.int .i64 2) v22_15) fun v23_16 =>
 pureA (binA .lss a1 v23_16) fun v24_17 =>
 condA v24_17 (
 retA [(.int .i64 2)] R) (
 retA [(.int .i64 3)] R)))
theorem c_dedupref04_Kind {w0 : World} {h : Hp} {R : Kont} {a0 a1 : Value} (hj : ∀ v, v ∈ [a0, a1] → v ≠ junk) (hv : s_dedupref04_Kind prog w0 a0 a1 R h) : ACalls prog w0 n_dedupref04_Kind [a0, a1] h R := by
  have e : vcFn ⟨prog, w0, 25, ks_dedupref04_Kind⟩ (drw w0 25) fn_dedupref04_Kind [a0, a1] R h = s_dedupref04_Kind prog w0 a0 a1 R h := by
    kernel_rfl
  exact acalls_of_eq (fn := fn_dedupref04_Kind) (ks := ks_dedupref04_Kind) (n := 25) (by kernel_rfl) (by kernel_rfl) (draw_ok (by kernel_rfl)) (by simp) hj e hv

abbrev fn_dedupref04_CheckSuper : Func := f15
def ks_dedupref04_CheckSuper : List (Nat × List Nat × List Nat) := []
def s_dedupref04_CheckSuper (P : Program) (w0 : World) (a0 : Value) (R : Kont) : Hp → Prop :=
 boxA true 12 a0 fun v1_1 =>
 addA v1_1 2 fun v4_2 =>
 loadNA w0 v4_2 10 fun v5_3 =>
 callA P w0 n_dedupref04_Check [v5_3] fun v6_4 =>
 pureA (binA .neq v6_4 (.int .i64 0)) fun v8_5 =>
 condA v8_5 (
 retA [v6_4] R) (
 addA v1_1 1 fun v10_6 =>
 loadA w0 v10_6 fun v11_7 =>
 pureA (binA .neq v11_7 (.int .i64 0)) fun v12_8 =>
 guardA v12_8 true (addA v1_1 2) fun v14_9 =>
 guardA v12_8 true (loadNA w0 v14_9 10) fun v15_10 =>
 guardA v12_8 true (addA v1_1 1) fun v16_11 =>
 guardA v12_8 true (loadA w0 v16_11) fun v17_12 =>
 guardA v12_8 true (callA P w0 n_dedupref04_Kind [v15_10, v17_12]) fun v18_13 =>
 guardA v12_8 true (pureA (binA .neq v18_13 (.int .i64 3))) fun v19_14 =>
 pickA v12_8 v19_14 (.bool false) fun v20_15 =>
 condA v20_15 (
 retA [(.int .i64 40)] R) (
 retA [(.int .i64 0)] R))
theorem c_dedupref04_CheckSuper {w0 : World} {h : Hp} {R : Kont} {a0 : Value} (hj : ∀ v, v ∈ [a0] → v ≠ junk) (hv : s_dedupref04_CheckSuper prog w0 a0 R h) : ACalls prog w0 n_dedupref04_CheckSuper [a0] h R := by
  have e : vcFn ⟨prog, w0, 21, ks_dedupref04_CheckSuper⟩ (drw w0 21) fn_dedupref04_CheckSuper [a0] R h = s_dedupref04_CheckSuper prog w0 a0 R h := by
    kernel_rfl
  exact acalls_of_eq (fn := fn_dedupref04_CheckSuper) (ks := ks_dedupref04_CheckSuper) (n := 21) (by kernel_rfl) (by kernel_rfl) (draw_ok (by kernel_rfl)) (by simp) hj e hv

abbrev fn_dedupref04_EncodeSuper : Func := f17
def ks_dedupref04_EncodeSuper : List (Nat × List Nat × List Nat) := [(7, [5, 6, 41, 42, 43], [5, 6])]
def dedupref04_EncodeSuper_B1 (P : Program) (w0 : World) (R : Value → Value → Value → Value → Value → Hp → Prop) (k0 : Value → Value → Hp → Prop) (x5 x6 x41 x42 x43 : Value) : Hp → Prop :=
 pureA (binA .lss x43 x42) fun v44_32 =>
 condA v44_32 (
 idxSlA 1 x41 x43 fun v45_33 =>
 loadA w0 v45_33 fun v46_34 =>
 pureA (convA .u64 v46_34) fun v49_35 =>
 callA P w0 n_dedupref02_Number [v49_35, (.int .i64 4)] fun v50_36 =>
 pureA (binA .add x6 v50_36) fun v51_37 =>
 pureA (binA .add x43 (.int .i64 1)) fun v52_38 =>
 R x5 v51_37 x41 x42 v52_38) (
 k0 x5 x6)
def dedupref04_EncodeSuper_L1 (P : Program) (w0 : World) (k0 : Value → Value → Hp → Prop) : Nat → Value → Value → Value → Value → Value → Hp → Prop
  | 0, _, _, _, _, _ => fun _ => False
  | m + 1, x5, x6, x41, x42, x43 => dedupref04_EncodeSuper_B1 P w0 (dedupref04_EncodeSuper_L1 P w0 k0 m) k0 x5 x6 x41 x42 x43
def dedupref04_EncodeSuper_E1 (P : Program) (w0 : World) (k0 : Value → Value → Hp → Prop) (x5 x6 x41 x42 x43 : Value) : Hp → Prop := fun h => ∃ m, dedupref04_EncodeSuper_L1 P w0 k0 m x5 x6 x41 x42 x43 h
def s_dedupref04_EncodeSuper (P : Program) (w0 : World) (a0 : Value) (R : Kont) : Hp → Prop :=
 boxA true 12 a0 fun v1_1 =>
 loadNA w0 v1_1 12 fun v12_2 =>
 callA P w0 n_dedupref04_CheckSuper [v12_2] fun v13_3 =>
 pureA (binA .neq v13_3 (.int .i64 0)) fun v15_4 =>
 condA v15_4 (
 retA [(.slice none 0 0), v13_3] R) (
 addA v1_1 2 fun v17_5 =>
 loadNA w0 v17_5 10 fun v18_6 =>
 newA [(.int .i64 0), (.int .i64 0), (.int .i64 0), (.int .i64 0), (.int .i64 0), (.int .i64 0), (.int .i64 0), (.int .u64 0), (.int .i64 0), (.bool false)] 10 fun v5_7 =>
 storeNA w0 v5_7 v18_6 10 fun _ =>
 addA v1_1 0 fun v19_8 =>
 loadA w0 v19_8 fun v20_9 =>
 callA P w0 n_dedupref02_Number [v20_9, (.int .i64 8)] fun v21_10 =>
 addA v1_1 1 fun v22_11 =>
 loadA w0 v22_11 fun v23_12 =>
 addA v5_7 0 fun v24_13 =>
 loadA w0 v24_13 fun v25_14 =>
 addA v5_7 1 fun v26_15 =>
 loadA w0 v26_15 fun v27_16 =>
 addA v5_7 2 fun v28_17 =>
 loadA w0 v28_17 fun v29_18 =>
 addA v5_7 3 fun v30_19 =>
 loadA w0 v30_19 fun v31_20 =>
 addA v5_7 4 fun v32_21 =>
 addA v32_21 0 fun v33_22 =>
 loadA w0 v33_22 fun v34_23 =>
 addA v5_7 4 fun v35_24 =>
 addA v35_24 1 fun v36_25 =>
 loadA w0 v36_25 fun v37_26 =>
 addA v5_7 4 fun v38_27 =>
 addA v38_27 2 fun v39_28 =>
 loadA w0 v39_28 fun v40_29 =>
 bslA [(0, 1, false, v23_12), (1, 1, false, v25_14), (2, 1, false, v27_16), (3, 1, false, v29_18), (4, 1, false, v31_20), (5, 1, false, v34_23), (6, 1, false, v37_26), (7, 1, false, v40_29)] (zerosL [(.int .i64 0)] 8) 8 1 fun v41_30 =>
 pureA (lenSl v41_30) fun v42_31 =>
 dedupref04_EncodeSuper_E1 P w0 (fun y5_39 y6_40 =>
 pureQ (fun K => K y6_40) fun v53_41 =>
 pureQ (addA y5_39 4) fun v54_42 =>
 pureQ (addA v54_42 3) fun v55_43 =>
 readQ (loadA w0 v55_43) fun v56_44 =>
 pureQ (addA y5_39 8) fun v58_45 =>
 readQ (loadA w0 v58_45) fun v59_46 =>
 pureQ (pureA (convA .u64 v59_46)) fun v60_47 =>
 allA [
 (callA P w0 n_dedupref02_Number [v56_44, (.int .i64 8)] fun v57_48 =>
 stillA [(sameQ (loadA w0 v58_45) v59_46)] (
 allA [
 (callA P w0 n_dedupref02_Number [v60_47, (.int .i64 2)] fun v61_49 =>
 stillA [] (
 pureQ (pureA (binA .add v57_48 v61_49)) fun v62_50 =>
 pureQ (pureA (binA .add v53_41 v62_50)) fun v63_51 =>
 pureQ (fun K => K v63_51) fun v6_52 =>
 endA (
 addA y5_39 9 fun v64_53 =>
 loadA w0 v64_53 fun v65_54 =>
 condA v65_54 (
 pureA (binA .add v6_52 (.string ⟨#[1]⟩)) fun v67_55 =>
 callA P w0 n_dedupref02_Frame [(.int .u8 83), v67_55] fun v72_56 =>
 pureA (extA v72_56 0) fun v73_57 =>
 pureA (extA v72_56 1) fun v74_58 =>
 addA y5_39 0 fun v75_59 =>
 loadA w0 v75_59 fun v76_60 =>
 mkA 1 1 [(.int .u8 0)] v76_60 v76_60 fun v77_61 =>
 copyA w0 1 v77_61 v73_57 fun v80_62 =>
 retA [v77_61, (.int .i64 0)] R) (
 pureA (binA .add v6_52 (.string ⟨#[0]⟩)) fun v69_63 =>
 callA P w0 n_dedupref02_Frame [(.int .u8 83), v69_63] fun v72_64 =>
 pureA (extA v72_64 0) fun v73_65 =>
 pureA (extA v72_64 1) fun v74_66 =>
 addA y5_39 0 fun v75_67 =>
 loadA w0 v75_67 fun v76_68 =>
 mkA 1 1 [(.int .u8 0)] v76_68 v76_68 fun v77_69 =>
 copyA w0 1 v77_69 v73_65 fun v80_70 =>
 retA [v77_69, (.int .i64 0)] R))))]))]) v5_7 v21_10 v41_30 v42_31 (.int .i64 0))
theorem dedupref04_EncodeSuper_L1_eq (w0 : World) (k0 : Value → Value → Hp → Prop) : ∀ (m : Nat) (x5 x6 x41 x42 x43 : Value) (h : Hp), loopA (stepL ⟨prog, w0, 82, ks_dedupref04_EncodeSuper⟩ (drw w0 82) (loopAt fn_dedupref04_EncodeSuper 0)) m (mkFr [(5, x5), (6, x6), (41, x41), (42, x42), (43, x43)]) [fun t => k0 (t 5) (t 6)] h = dedupref04_EncodeSuper_L1 prog w0 k0 m x5 x6 x41 x42 x43 h := by
  intro m
  induction m with
  | zero => intros; kernel_rfl
  | succ m ih =>
    intro x5 x6 x41 x42 x43 h
    have e : dedupref04_EncodeSuper_L1 prog w0 k0 m = fun x5 x6 x41 x42 x43 h => loopA (stepL ⟨prog, w0, 82, ks_dedupref04_EncodeSuper⟩ (drw w0 82) (loopAt fn_dedupref04_EncodeSuper 0)) m (mkFr [(5, x5), (6, x6), (41, x41), (42, x42), (43, x43)]) [fun t => k0 (t 5) (t 6)] h := by funext x5 x6 x41 x42 x43 h; exact (ih x5 x6 x41 x42 x43 h).symm
    show _ = dedupref04_EncodeSuper_B1 prog w0 (dedupref04_EncodeSuper_L1 prog w0 k0 m) k0 x5 x6 x41 x42 x43 h
    rw [e]
    kernel_rfl
theorem dedupref04_EncodeSuper_E1_eq (w0 : World) : dedupref04_EncodeSuper_E1 prog w0 = fun k0 x5 x6 x41 x42 x43 h => ∃ m, loopA (stepL ⟨prog, w0, 82, ks_dedupref04_EncodeSuper⟩ (drw w0 82) (loopAt fn_dedupref04_EncodeSuper 0)) m (mkFr [(5, x5), (6, x6), (41, x41), (42, x42), (43, x43)]) [fun t => k0 (t 5) (t 6)] h := by
  funext k0 x5 x6 x41 x42 x43 h
  exact congrArg Exists (funext fun m => (dedupref04_EncodeSuper_L1_eq w0 k0 m x5 x6 x41 x42 x43 h).symm)
theorem c_dedupref04_EncodeSuper {w0 : World} {h : Hp} {R : Kont} {a0 : Value} (hj : ∀ v, v ∈ [a0] → v ≠ junk) (hv : s_dedupref04_EncodeSuper prog w0 a0 R h) : ACalls prog w0 n_dedupref04_EncodeSuper [a0] h R := by
  have e : vcFn ⟨prog, w0, 82, ks_dedupref04_EncodeSuper⟩ (drw w0 82) fn_dedupref04_EncodeSuper [a0] R h = s_dedupref04_EncodeSuper prog w0 a0 R h := by
    unfold s_dedupref04_EncodeSuper
    rw [dedupref04_EncodeSuper_E1_eq w0]
    kernel_rfl
  exact acalls_of_eq (fn := fn_dedupref04_EncodeSuper) (ks := ks_dedupref04_EncodeSuper) (n := 82) (by kernel_rfl) (by kernel_rfl) (draw_ok (by kernel_rfl)) (by simp) hj e hv

abbrev fn_dedupref04_Check : Func := f21
def ks_dedupref04_Check : List (Nat × List Nat × List Nat) := []
def s_dedupref04_Check (P : Program) (w0 : World) (a0 : Value) (R : Kont) : Hp → Prop :=
 boxA true 10 a0 fun v1_1 =>
 addA v1_1 4 fun v4_2 =>
 loadNA w0 v4_2 4 fun v5_3 =>
 newA [(.int .i64 0), (.int .i64 0), (.int .i64 0), (.int .u64 0)] 4 fun v3_4 =>
 storeNA w0 v3_4 v5_3 4 fun _ =>
 addA v1_1 0 fun v6_5 =>
 loadA w0 v6_5 fun v7_6 =>
 callA P w0 n_dedupref04_power [v7_6, (.int .i64 512), (.int .i64 4096)] fun v8_7 =>
 pureA (unA .not v8_7) fun v9_8 =>
 guardA v9_8 false (addA v1_1 1) fun v11_9 =>
 guardA v9_8 false (loadA w0 v11_9) fun v12_10 =>
 guardA v9_8 false (pureA (binA .lss v12_10 (.int .i64 16))) fun v13_11 =>
 pickA v9_8 (.bool true) v13_11 fun v14_12 =>
 guardA v14_12 false (addA v1_1 1) fun v16_13 =>
 guardA v14_12 false (loadA w0 v16_13) fun v17_14 =>
 guardA v14_12 false (pureA (binA .gtr v17_14 (.int .i64 4096))) fun v18_15 =>
 pickA v14_12 (.bool true) v18_15 fun v19_16 =>
 guardA v19_16 false (addA v1_1 2) fun v21_17 =>
 guardA v19_16 false (loadA w0 v21_17) fun v22_18 =>
 guardA v19_16 false (pureA (binA .lss v22_18 (.int .i64 2))) fun v23_19 =>
 pickA v19_16 (.bool true) v23_19 fun v24_20 =>
 guardA v24_20 false (addA v1_1 2) fun v26_21 =>
 guardA v24_20 false (loadA w0 v26_21) fun v27_22 =>
 guardA v24_20 false (addA v1_1 1) fun v28_23 =>
 guardA v24_20 false (loadA w0 v28_23) fun v29_24 =>
 guardA v24_20 false (pureA (binA .quo v29_24 (.int .i64 4))) fun v30_25 =>
 guardA v24_20 false (pureA (binA .gtr v27_22 v30_25)) fun v31_26 =>
 pickA v24_20 (.bool true) v31_26 fun v32_27 =>
 guardA v32_27 false (addA v1_1 3) fun v34_28 =>
 guardA v32_27 false (loadA w0 v34_28) fun v35_29 =>
 guardA v32_27 false (pureA (binA .lss v35_29 (.int .i64 2))) fun v36_30 =>
 pickA v32_27 (.bool true) v36_30 fun v37_31 =>
 guardA v37_31 false (addA v1_1 3) fun v39_32 =>
 guardA v37_31 false (loadA w0 v39_32) fun v40_33 =>
 guardA v37_31 false (pureA (binA .gtr v40_33 (.int .i64 64))) fun v41_34 =>
 pickA v37_31 (.bool true) v41_34 fun v42_35 =>
 guardA v42_35 false (addA v1_1 8) fun v44_36 =>
 guardA v42_35 false (loadA w0 v44_36) fun v45_37 =>
 guardA v42_35 false (pureA (binA .lss v45_37 (.int .i64 0))) fun v46_38 =>
 pickA v42_35 (.bool true) v46_38 fun v47_39 =>
 guardA v47_39 false (addA v1_1 8) fun v49_40 =>
 guardA v47_39 false (loadA w0 v49_40) fun v50_41 =>
 guardA v47_39 false (pureA (binA .gtr v50_41 (.int .i64 256))) fun v51_42 =>
 pickA v47_39 (.bool true) v51_42 fun v52_43 =>
 condA v52_43 (
 retA [(.int .i64 41)] R) (
 addA v3_4 1 fun v53_44 =>
 loadA w0 v53_44 fun v54_45 =>
 callA P w0 n_dedupref04_power [v54_45, (.int .i64 16), (.int .i64 65536)] fun v55_46 =>
 pureA (unA .not v55_46) fun v56_47 =>
 guardA v56_47 false (addA v3_4 0) fun v58_48 =>
 guardA v56_47 false (loadA w0 v58_48) fun v59_49 =>
 guardA v56_47 false (pureA (binA .lss v59_49 (.int .i64 1))) fun v60_50 =>
 pickA v56_47 (.bool true) v60_50 fun v61_51 =>
 guardA v61_51 false (addA v3_4 0) fun v63_52 =>
 guardA v61_51 false (loadA w0 v63_52) fun v64_53 =>
 guardA v61_51 false (addA v3_4 1) fun v65_54 =>
 guardA v61_51 false (loadA w0 v65_54) fun v66_55 =>
 guardA v61_51 false (pureA (binA .gtr v64_53 v66_55)) fun v67_56 =>
 pickA v61_51 (.bool true) v67_56 fun v68_57 =>
 guardA v68_57 false (addA v3_4 2) fun v70_58 =>
 guardA v68_57 false (loadA w0 v70_58) fun v71_59 =>
 guardA v68_57 false (addA v3_4 1) fun v72_60 =>
 guardA v68_57 false (loadA w0 v72_60) fun v73_61 =>
 guardA v68_57 false (pureA (binA .lss v71_59 v73_61)) fun v74_62 =>
 pickA v68_57 (.bool true) v74_62 fun v75_63 =>
 guardA v75_63 false (addA v3_4 2) fun v77_64 =>
 guardA v75_63 false (loadA w0 v77_64) fun v78_65 =>
 guardA v75_63 false (addA v3_4 1) fun v79_66 =>
 guardA v75_63 false (loadA w0 v79_66) fun v80_67 =>
 guardA v75_63 false (pureA (binA .mul (.int .i64 8) v80_67)) fun v81_68 =>
 guardA v75_63 false (pureA (binA .gtr v78_65 v81_68)) fun v82_69 =>
 pickA v75_63 (.bool true) v82_69 fun v83_70 =>
 guardA v83_70 false (addA v3_4 2) fun v85_71 =>
 guardA v83_70 false (loadA w0 v85_71) fun v86_72 =>
 guardA v83_70 false (addA v1_1 3) fun v87_73 =>
 guardA v83_70 false (loadA w0 v87_73) fun v88_74 =>
 guardA v83_70 false (addA v1_1 0) fun v89_75 =>
 guardA v83_70 false (loadA w0 v89_75) fun v90_76 =>
 guardA v83_70 false (pureA (binA .mul v88_74 v90_76)) fun v91_77 =>
 guardA v83_70 false (pureA (binA .sub v91_77 (.int .i64 40))) fun v92_78 =>
 guardA v83_70 false (pureA (binA .gtr v86_72 v92_78)) fun v93_79 =>
 pickA v83_70 (.bool true) v93_79 fun v94_80 =>
 condA v94_80 (
 retA [(.int .i64 41)] R) (
 retA [(.int .i64 0)] R))
theorem c_dedupref04_Check {w0 : World} {h : Hp} {R : Kont} {a0 : Value} (hj : ∀ v, v ∈ [a0] → v ≠ junk) (hv : s_dedupref04_Check prog w0 a0 R h) : ACalls prog w0 n_dedupref04_Check [a0] h R := by
  have e : vcFn ⟨prog, w0, 95, ks_dedupref04_Check⟩ (drw w0 95) fn_dedupref04_Check [a0] R h = s_dedupref04_Check prog w0 a0 R h := by
    kernel_rfl
  exact acalls_of_eq (fn := fn_dedupref04_Check) (ks := ks_dedupref04_Check) (n := 95) (by kernel_rfl) (by kernel_rfl) (draw_ok (by kernel_rfl)) (by simp) hj e hv

abbrev fn_dedupref04_Journal : Func := f23
def ks_dedupref04_Journal : List (Nat × List Nat × List Nat) := []
def s_dedupref04_Journal (P : Program) (w0 : World) (a0 : Value) (R : Kont) : Hp → Prop :=
 boxA true 10 a0 fun v1_1 =>
 newA [(.int .i64 0), (.int .i64 0)] 2 fun v2_2 =>
 loadNA w0 v1_1 10 fun v3_3 =>
 callA P w0 n_dedupref04_Check [v3_3] fun v4_4 =>
 pureA (binA .neq v4_4 (.int .i64 0)) fun v5_5 =>
 condA v5_5 (
 buildA [] [(.int .i64 0), (.int .i64 0)] fun v6_6 =>
 storeNA w0 v2_2 v6_6 2 fun _ =>
 loadNA w0 v2_2 2 fun v2_7 =>
 retA [v2_7] R) (
 addA v1_1 2 fun v7_8 =>
 loadA w0 v7_8 fun v8_9 =>
 buildA [(0, 1, false, (.int .i64 2)), (1, 1, false, v8_9)] [(.int .i64 0), (.int .i64 0)] fun v9_10 =>
 storeNA w0 v2_2 v9_10 2 fun _ =>
 loadNA w0 v2_2 2 fun v2_11 =>
 retA [v2_11] R)
theorem c_dedupref04_Journal {w0 : World} {h : Hp} {R : Kont} {a0 : Value} (hj : ∀ v, v ∈ [a0] → v ≠ junk) (hv : s_dedupref04_Journal prog w0 a0 R h) : ACalls prog w0 n_dedupref04_Journal [a0] h R := by
  have e : vcFn ⟨prog, w0, 10, ks_dedupref04_Journal⟩ (drw w0 10) fn_dedupref04_Journal [a0] R h = s_dedupref04_Journal prog w0 a0 R h := by
    kernel_rfl
  exact acalls_of_eq (fn := fn_dedupref04_Journal) (ks := ks_dedupref04_Journal) (n := 10) (by kernel_rfl) (by kernel_rfl) (draw_ok (by kernel_rfl)) (by simp) hj e hv

abbrev fn_dedupref04_Data : Func := f25
def ks_dedupref04_Data : List (Nat × List Nat × List Nat) := []
def s_dedupref04_Data (P : Program) (w0 : World) (a0 : Value) (R : Kont) : Hp → Prop :=
 boxA true 10 a0 fun v1_1 =>
 newA [(.int .i64 0), (.int .i64 0)] 2 fun v2_2 =>
 loadNA w0 v1_1 10 fun v3_3 =>
 callA P w0 n_dedupref04_Check [v3_3] fun v4_4 =>
 pureA (binA .neq v4_4 (.int .i64 0)) fun v5_5 =>
 condA v5_5 (
 buildA [] [(.int .i64 0), (.int .i64 0)] fun v6_6 =>
 storeNA w0 v2_2 v6_6 2 fun _ =>
 loadNA w0 v2_2 2 fun v2_7 =>
 retA [v2_7] R) (
 addA v1_1 2 fun v7_8 =>
 loadA w0 v7_8 fun v8_9 =>
 pureA (binA .add (.int .i64 2) v8_9) fun v9_10 =>
 addA v1_1 1 fun v10_11 =>
 loadA w0 v10_11 fun v11_12 =>
 pureA (binA .sub v11_12 (.int .i64 2)) fun v12_13 =>
 addA v1_1 2 fun v13_14 =>
 loadA w0 v13_14 fun v14_15 =>
 pureA (binA .sub v12_13 v14_15) fun v15_16 =>
 buildA [(0, 1, false, v9_10), (1, 1, false, v15_16)] [(.int .i64 0), (.int .i64 0)] fun v16_17 =>
 storeNA w0 v2_2 v16_17 2 fun _ =>
 loadNA w0 v2_2 2 fun v2_18 =>
 retA [v2_18] R)
theorem c_dedupref04_Data {w0 : World} {h : Hp} {R : Kont} {a0 : Value} (hj : ∀ v, v ∈ [a0] → v ≠ junk) (hv : s_dedupref04_Data prog w0 a0 R h) : ACalls prog w0 n_dedupref04_Data [a0] h R := by
  have e : vcFn ⟨prog, w0, 17, ks_dedupref04_Data⟩ (drw w0 17) fn_dedupref04_Data [a0] R h = s_dedupref04_Data prog w0 a0 R h := by
    kernel_rfl
  exact acalls_of_eq (fn := fn_dedupref04_Data) (ks := ks_dedupref04_Data) (n := 17) (by kernel_rfl) (by kernel_rfl) (draw_ok (by kernel_rfl)) (by simp) hj e hv

abbrev fn_dedupref04_Choose : Func := f27
def ks_dedupref04_Choose : List (Nat × List Nat × List Nat) := [(4, [0, 6, 9, 10, 17, 18, 19], [6, 9, 10])]
def dedupref04_Choose_B1 (P : Program) (w0 : World) (R : Value → Value → Value → Value → Value → Value → Value → Hp → Prop) (k0 : Value → Value → Value → Hp → Prop) (x0 x6 x9 x10 x17 x18 x19 : Value) : Hp → Prop :=
 pureA (binA .lss x19 x18) fun v20_5 =>
 condA v20_5 (
 idxSlA 1 x17 x19 fun v22_6 =>
 loadA w0 v22_6 fun v23_7 =>
 callA P w0 n_dedupref04_DecodeSuper [v23_7] fun v26_8 =>
 pureA (extA v26_8 0) fun v27_9 =>
 pureA (extA v26_8 1) fun v28_10 =>
 newA [(.int .u64 0), (.int .i64 0), (.int .i64 0), (.int .i64 0), (.int .i64 0), (.int .i64 0), (.int .i64 0), (.int .i64 0), (.int .i64 0), (.int .u64 0), (.int .i64 0), (.bool false)] 12 fun v13_11 =>
 storeNA w0 v13_11 v27_9 12 fun _ =>
 pureA (binA .eql v28_10 (.int .i64 0)) fun v30_12 =>
 guardA v30_12 true (addA v13_11 2) fun v32_13 =>
 guardA v30_12 true (addA v32_13 0) fun v33_14 =>
 guardA v30_12 true (loadA w0 v33_14) fun v34_15 =>
 guardA v30_12 true (fun K => K x0) fun v35_16 =>
 guardA v30_12 true (pureA (binA .eql v34_15 v35_16)) fun v36_17 =>
 pickA v30_12 v36_17 (.bool false) fun v37_18 =>
 guardA v37_18 true (addA v13_11 0) fun v39_19 =>
 guardA v37_18 true (loadA w0 v39_19) fun v40_20 =>
 guardA v37_18 true (callA P w0 n_dedupref04_Slot [v40_20]) fun v41_21 =>
 guardA v37_18 true (fun K => K x19) fun v42_22 =>
 guardA v37_18 true (pureA (binA .eql v41_21 v42_22)) fun v43_23 =>
 pickA v37_18 v43_23 (.bool false) fun v44_24 =>
 guardA v44_24 true (fun K => K x10) fun v46_25 =>
 guardA v44_24 true (pureA (binA .lss v46_25 (.int .i64 0))) fun v47_26 =>
 guardA v44_24 true (fun K => K v47_26) fun v48_27 =>
 guardA v48_27 false (addA v13_11 0) fun v49_28 =>
 guardA v48_27 false (loadA w0 v49_28) fun v50_29 =>
 guardA v48_27 false (addA x9 0) fun v51_30 =>
 guardA v48_27 false (loadA w0 v51_30) fun v52_31 =>
 guardA v48_27 false (pureA (binA .gtr v50_29 v52_31)) fun v53_32 =>
 guardA v44_24 true (pickA v48_27 (.bool true) v53_32) fun v54_33 =>
 pickA v44_24 v54_33 (.bool false) fun v55_34 =>
 condA v55_34 (
 loadNA w0 v13_11 12 fun v56_35 =>
 storeNA w0 x9 v56_35 12 fun _ =>
 pureA (binA .add x19 (.int .i64 1)) fun v58_36 =>
 R x0 x6 x9 x19 x17 x18 v58_36) (
 pureA (binA .add x19 (.int .i64 1)) fun v58_37 =>
 R x0 x6 x9 x10 x17 x18 v58_37)) (
 k0 x6 x9 x10)
def dedupref04_Choose_L1 (P : Program) (w0 : World) (k0 : Value → Value → Value → Hp → Prop) : Nat → Value → Value → Value → Value → Value → Value → Value → Hp → Prop
  | 0, _, _, _, _, _, _, _ => fun _ => False
  | m + 1, x0, x6, x9, x10, x17, x18, x19 => dedupref04_Choose_B1 P w0 (dedupref04_Choose_L1 P w0 k0 m) k0 x0 x6 x9 x10 x17 x18 x19
def dedupref04_Choose_E1 (P : Program) (w0 : World) (k0 : Value → Value → Value → Hp → Prop) (x0 x6 x9 x10 x17 x18 x19 : Value) : Hp → Prop := fun h => ∃ m, dedupref04_Choose_L1 P w0 k0 m x0 x6 x9 x10 x17 x18 x19 h
def s_dedupref04_Choose (P : Program) (w0 : World) (a0 a1 a2 : Value) (R : Kont) : Hp → Prop :=
 newA [(.int .u64 0), (.int .i64 0), (.int .i64 0), (.int .i64 0), (.int .i64 0), (.int .i64 0), (.int .i64 0), (.int .i64 0), (.int .i64 0), (.int .u64 0), (.int .i64 0), (.bool false)] 12 fun v6_1 =>
 newA [(.int .u64 0), (.int .i64 0), (.int .i64 0), (.int .i64 0), (.int .i64 0), (.int .i64 0), (.int .i64 0), (.int .i64 0), (.int .i64 0), (.int .u64 0), (.int .i64 0), (.bool false)] 12 fun v9_2 =>
 bslA [(0, 1, false, a1), (1, 1, false, a2)] (zerosL [(.slice none 0 0)] 2) 2 1 fun v17_3 =>
 pureA (lenSl v17_3) fun v18_4 =>
 dedupref04_Choose_E1 P w0 (fun y6_38 y9_39 y10_40 =>
 pureA (binA .lss y10_40 (.int .i64 0)) fun v60_41 =>
 condA v60_41 (
 buildA [] [(.int .u64 0), (.int .i64 0), (.int .i64 0), (.int .i64 0), (.int .i64 0), (.int .i64 0), (.int .i64 0), (.int .i64 0), (.int .i64 0), (.int .u64 0), (.int .i64 0), (.bool false)] fun v61_42 =>
 storeNA w0 y6_38 v61_42 12 fun _ =>
 loadNA w0 y6_38 12 fun v6_43 =>
 retA [v6_43, (.int .i64 0), (.int .i64 40)] R) (
 loadNA w0 y9_39 12 fun v62_44 =>
 storeNA w0 y6_38 v62_44 12 fun _ =>
 loadNA w0 y6_38 12 fun v6_45 =>
 retA [v6_45, y10_40, (.int .i64 0)] R)) a0 v6_1 v9_2 (.int .i64 (-1)) v17_3 v18_4 (.int .i64 0)
theorem dedupref04_Choose_L1_eq (w0 : World) (k0 : Value → Value → Value → Hp → Prop) : ∀ (m : Nat) (x0 x6 x9 x10 x17 x18 x19 : Value) (h : Hp), loopA (stepL ⟨prog, w0, 64, ks_dedupref04_Choose⟩ (drw w0 64) (loopAt fn_dedupref04_Choose 0)) m (mkFr [(0, x0), (6, x6), (9, x9), (10, x10), (17, x17), (18, x18), (19, x19)]) [fun t => k0 (t 6) (t 9) (t 10)] h = dedupref04_Choose_L1 prog w0 k0 m x0 x6 x9 x10 x17 x18 x19 h := by
  intro m
  induction m with
  | zero => intros; kernel_rfl
  | succ m ih =>
    intro x0 x6 x9 x10 x17 x18 x19 h
    have e : dedupref04_Choose_L1 prog w0 k0 m = fun x0 x6 x9 x10 x17 x18 x19 h => loopA (stepL ⟨prog, w0, 64, ks_dedupref04_Choose⟩ (drw w0 64) (loopAt fn_dedupref04_Choose 0)) m (mkFr [(0, x0), (6, x6), (9, x9), (10, x10), (17, x17), (18, x18), (19, x19)]) [fun t => k0 (t 6) (t 9) (t 10)] h := by funext x0 x6 x9 x10 x17 x18 x19 h; exact (ih x0 x6 x9 x10 x17 x18 x19 h).symm
    show _ = dedupref04_Choose_B1 prog w0 (dedupref04_Choose_L1 prog w0 k0 m) k0 x0 x6 x9 x10 x17 x18 x19 h
    rw [e]
    kernel_rfl
theorem dedupref04_Choose_E1_eq (w0 : World) : dedupref04_Choose_E1 prog w0 = fun k0 x0 x6 x9 x10 x17 x18 x19 h => ∃ m, loopA (stepL ⟨prog, w0, 64, ks_dedupref04_Choose⟩ (drw w0 64) (loopAt fn_dedupref04_Choose 0)) m (mkFr [(0, x0), (6, x6), (9, x9), (10, x10), (17, x17), (18, x18), (19, x19)]) [fun t => k0 (t 6) (t 9) (t 10)] h := by
  funext k0 x0 x6 x9 x10 x17 x18 x19 h
  exact congrArg Exists (funext fun m => (dedupref04_Choose_L1_eq w0 k0 m x0 x6 x9 x10 x17 x18 x19 h).symm)
theorem c_dedupref04_Choose {w0 : World} {h : Hp} {R : Kont} {a0 a1 a2 : Value} (hj : ∀ v, v ∈ [a0, a1, a2] → v ≠ junk) (hv : s_dedupref04_Choose prog w0 a0 a1 a2 R h) : ACalls prog w0 n_dedupref04_Choose [a0, a1, a2] h R := by
  have e : vcFn ⟨prog, w0, 64, ks_dedupref04_Choose⟩ (drw w0 64) fn_dedupref04_Choose [a0, a1, a2] R h = s_dedupref04_Choose prog w0 a0 a1 a2 R h := by
    unfold s_dedupref04_Choose
    rw [dedupref04_Choose_E1_eq w0]
    kernel_rfl
  exact acalls_of_eq (fn := fn_dedupref04_Choose) (ks := ks_dedupref04_Choose) (n := 64) (by kernel_rfl) (by kernel_rfl) (draw_ok (by kernel_rfl)) (by simp) hj e hv

abbrev fn_dedupref04_Next : Func := f29
def ks_dedupref04_Next : List (Nat × List Nat × List Nat) := []
def s_dedupref04_Next (P : Program) (w0 : World) (a0 : Value) (R : Kont) : Hp → Prop :=
 boxA true 12 a0 fun v1_1 =>
 addA v1_1 0 fun v5_2 =>
 loadA w0 v5_2 fun v6_3 =>
 pureA (binA .eql v6_3 (.int .u64 18446744073709551615)) fun v7_4 =>
 condA v7_4 (
 retA [(.int .u64 0), (.int .i64 0), (.int .i64 2)] R) (
 pureQ (addA v1_1 0) fun v8_5 =>
 readQ (loadA w0 v8_5) fun v9_6 =>
 pureQ (pureA (binA .add v9_6 (.int .u64 1))) fun v10_7 =>
 pureQ (addA v1_1 0) fun v11_8 =>
 readQ (loadA w0 v11_8) fun v12_9 =>
 pureQ (pureA (binA .add v12_9 (.int .u64 1))) fun v13_10 =>
 allA [
 (callA P w0 n_dedupref04_Slot [v13_10] fun v14_11 =>
 stillA [(sameQ (loadA w0 v8_5) v9_6)] (
 pureQ (fun K => K v10_7) fun v2_12 =>
 pureQ (fun K => K v14_11) fun v3_13 =>
 pureQ (fun K => K (.int .i64 0)) fun v4_14 =>
 endA (
 retA [v2_12, v3_13, v4_14] R)))])
theorem c_dedupref04_Next {w0 : World} {h : Hp} {R : Kont} {a0 : Value} (hj : ∀ v, v ∈ [a0] → v ≠ junk) (hv : s_dedupref04_Next prog w0 a0 R h) : ACalls prog w0 n_dedupref04_Next [a0] h R := by
  have e : vcFn ⟨prog, w0, 15, ks_dedupref04_Next⟩ (drw w0 15) fn_dedupref04_Next [a0] R h = s_dedupref04_Next prog w0 a0 R h := by
    kernel_rfl
  exact acalls_of_eq (fn := fn_dedupref04_Next) (ks := ks_dedupref04_Next) (n := 15) (by kernel_rfl) (by kernel_rfl) (draw_ok (by kernel_rfl)) (by simp) hj e hv

abbrev fn_dedupref04_Slot : Func := f31
def ks_dedupref04_Slot : List (Nat × List Nat × List Nat) := []
def s_dedupref04_Slot (P : Program) (w0 : World) (a0 : Value) (R : Kont) : Hp → Prop :=
 pureA (binA .rem a0 (.int .u64 2)) fun v4_1 =>
 pureA (convA .i64 v4_1) fun v5_2 =>
 retA [v5_2] R
theorem c_dedupref04_Slot {w0 : World} {h : Hp} {R : Kont} {a0 : Value} (hj : ∀ v, v ∈ [a0] → v ≠ junk) (hv : s_dedupref04_Slot prog w0 a0 R h) : ACalls prog w0 n_dedupref04_Slot [a0] h R := by
  have e : vcFn ⟨prog, w0, 6, ks_dedupref04_Slot⟩ (drw w0 6) fn_dedupref04_Slot [a0] R h = s_dedupref04_Slot prog w0 a0 R h := by
    kernel_rfl
  exact acalls_of_eq (fn := fn_dedupref04_Slot) (ks := ks_dedupref04_Slot) (n := 6) (by kernel_rfl) (by kernel_rfl) (draw_ok (by kernel_rfl)) (by simp) hj e hv

abbrev fn_dedupref04_power : Func := f48
def ks_dedupref04_power : List (Nat × List Nat × List Nat) := [(2, [0, 2, 6, 7], [6])]
def dedupref04_power_B1 (P : Program) (w0 : World) (R : Value → Value → Value → Value → Hp → Prop) (k0 : Value → Hp → Prop) (kr : Value → Hp → Prop) (x0 x2 x6 x7 : Value) : Hp → Prop :=
 pureA (binA .leq x7 x2) fun v11_1 =>
 condA v11_1 (
 pureA (binA .eql x0 x7) fun v16_2 =>
 condA v16_2 (
 kr (.bool true)) (
 pureA (binA .mul x7 (.int .i64 2)) fun v13_3 =>
 R x0 x2 x6 v13_3)) (
 k0 x6)
def dedupref04_power_L1 (P : Program) (w0 : World) (k0 : Value → Hp → Prop) (kr : Value → Hp → Prop) : Nat → Value → Value → Value → Value → Hp → Prop
  | 0, _, _, _, _ => fun _ => False
  | m + 1, x0, x2, x6, x7 => dedupref04_power_B1 P w0 (dedupref04_power_L1 P w0 k0 kr m) k0 kr x0 x2 x6 x7
def dedupref04_power_E1 (P : Program) (w0 : World) (k0 : Value → Hp → Prop) (kr : Value → Hp → Prop) (x0 x2 x6 x7 : Value) : Hp → Prop := fun h => ∃ m, dedupref04_power_L1 P w0 k0 kr m x0 x2 x6 x7 h
def s_dedupref04_power (P : Program) (w0 : World) (a0 a1 a2 : Value) (R : Kont) : Hp → Prop :=
 dedupref04_power_E1 P w0 (fun y6_4 =>
 retA [(.bool false)] R) (fun y6_5 =>
 retA [y6_5] R) a0 a2 (.bool false) a1
theorem dedupref04_power_L1_eq (w0 : World) (k0 : Value → Hp → Prop) (kr : Value → Hp → Prop) : ∀ (m : Nat) (x0 x2 x6 x7 : Value) (h : Hp), loopA (stepL ⟨prog, w0, 17, ks_dedupref04_power⟩ (drw w0 17) (loopAt fn_dedupref04_power 0)) m (mkFr [(0, x0), (2, x2), (6, x6), (7, x7)]) [fun t => k0 (t 6), fun t => kr (t 6)] h = dedupref04_power_L1 prog w0 k0 kr m x0 x2 x6 x7 h := by
  intro m
  induction m with
  | zero => intros; kernel_rfl
  | succ m ih =>
    intro x0 x2 x6 x7 h
    have e : dedupref04_power_L1 prog w0 k0 kr m = fun x0 x2 x6 x7 h => loopA (stepL ⟨prog, w0, 17, ks_dedupref04_power⟩ (drw w0 17) (loopAt fn_dedupref04_power 0)) m (mkFr [(0, x0), (2, x2), (6, x6), (7, x7)]) [fun t => k0 (t 6), fun t => kr (t 6)] h := by funext x0 x2 x6 x7 h; exact (ih x0 x2 x6 x7 h).symm
    show _ = dedupref04_power_B1 prog w0 (dedupref04_power_L1 prog w0 k0 kr m) k0 kr x0 x2 x6 x7 h
    rw [e]
    kernel_rfl
theorem dedupref04_power_E1_eq (w0 : World) : dedupref04_power_E1 prog w0 = fun k0 kr x0 x2 x6 x7 h => ∃ m, loopA (stepL ⟨prog, w0, 17, ks_dedupref04_power⟩ (drw w0 17) (loopAt fn_dedupref04_power 0)) m (mkFr [(0, x0), (2, x2), (6, x6), (7, x7)]) [fun t => k0 (t 6), fun t => kr (t 6)] h := by
  funext k0 kr x0 x2 x6 x7 h
  exact congrArg Exists (funext fun m => (dedupref04_power_L1_eq w0 k0 kr m x0 x2 x6 x7 h).symm)
theorem c_dedupref04_power {w0 : World} {h : Hp} {R : Kont} {a0 a1 a2 : Value} (hj : ∀ v, v ∈ [a0, a1, a2] → v ≠ junk) (hv : s_dedupref04_power prog w0 a0 a1 a2 R h) : ACalls prog w0 n_dedupref04_power [a0, a1, a2] h R := by
  have e : vcFn ⟨prog, w0, 17, ks_dedupref04_power⟩ (drw w0 17) fn_dedupref04_power [a0, a1, a2] R h = s_dedupref04_power prog w0 a0 a1 a2 R h := by
    unfold s_dedupref04_power
    rw [dedupref04_power_E1_eq w0]
    kernel_rfl
  exact acalls_of_eq (fn := fn_dedupref04_power) (ks := ks_dedupref04_power) (n := 17) (by kernel_rfl) (by kernel_rfl) (draw_ok (by kernel_rfl)) (by simp) hj e hv

end
end Go.Proofs.Ytihebhdgjnibfaa.Ah
