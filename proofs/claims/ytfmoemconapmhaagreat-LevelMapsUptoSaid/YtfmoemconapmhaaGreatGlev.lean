/- PRINTED by wip/tools/shallow.py: functions of the program as readable words, and that each is what its text says. -/
import Derived.Test.YtfmoemconapmhaaGreatGn
set_option linter.unusedVariables false
set_option linter.unusedSimpArgs false
namespace Go.Proofs.YtfmoemconapmhaaGreat.Ah
open Go Go.Proofs.Tryz
noncomputable section

abbrev fn_level_Levels_Put : Func := f11
def ks_level_Levels_Put : List (Nat × List Nat × List Nat) := []
def s_level_Levels_Put (P : Program) (w0 : World) (a0 a1 a2 : Value) (R : Kont) : Hp → Prop :=
 boxA false 1 a1 fun v4_1 =>
 boxA false 1 a2 fun v5_2 =>
 mkFnA n_level_Levels_Put_S1 [] [v4_1, v5_2] fun v8_3 =>
 callA P w0 n_level_Levels_set [a0, v8_3] fun v9_4 =>
 retA [v9_4] R
theorem c_level_Levels_Put {w0 : World} {h : Hp} {R : Kont} {a0 a1 a2 : Value} (hj : ∀ v, v ∈ [a0, a1, a2] → v ≠ junk) (hv : s_level_Levels_Put prog w0 a0 a1 a2 R h) : ACalls prog w0 n_level_Levels_Put [a0, a1, a2] h R := by
  have e : vcFn ⟨prog, w0, 10, ks_level_Levels_Put⟩ (drw w0 10) fn_level_Levels_Put [a0, a1, a2] R h = s_level_Levels_Put prog w0 a0 a1 a2 R h := by
    kernel_rfl
  exact acalls_of_eq (fn := fn_level_Levels_Put) (ks := ks_level_Levels_Put) (n := 10) (by kernel_rfl) (by kernel_rfl) (draw_ok (by kernel_rfl)) (by simp) hj e hv

abbrev fn_level_Levels_Delete : Func := f12
def ks_level_Levels_Delete : List (Nat × List Nat × List Nat) := []
def s_level_Levels_Delete (P : Program) (w0 : World) (a0 a1 : Value) (R : Kont) : Hp → Prop :=
 boxA false 1 a1 fun v3_1 =>
 mkFnA n_level_Levels_Delete_S1 [] [v3_1] fun v6_2 =>
 callA P w0 n_level_Levels_set [a0, v6_2] fun v7_3 =>
 retA [v7_3] R
theorem c_level_Levels_Delete {w0 : World} {h : Hp} {R : Kont} {a0 a1 : Value} (hj : ∀ v, v ∈ [a0, a1] → v ≠ junk) (hv : s_level_Levels_Delete prog w0 a0 a1 R h) : ACalls prog w0 n_level_Levels_Delete [a0, a1] h R := by
  have e : vcFn ⟨prog, w0, 8, ks_level_Levels_Delete⟩ (drw w0 8) fn_level_Levels_Delete [a0, a1] R h = s_level_Levels_Delete prog w0 a0 a1 R h := by
    kernel_rfl
  exact acalls_of_eq (fn := fn_level_Levels_Delete) (ks := ks_level_Levels_Delete) (n := 8) (by kernel_rfl) (by kernel_rfl) (draw_ok (by kernel_rfl)) (by simp) hj e hv

abbrev fn_level_Levels_Flush : Func := f13
def ks_level_Levels_Flush : List (Nat × List Nat × List Nat) := []
def s_level_Levels_Flush (P : Program) (w0 : World) (a0 : Value) (R : Kont) : Hp → Prop :=
 callA P w0 n_level_Levels_made [a0] fun v4_1 =>
 pureA (unA .not v4_1) fun v5_2 =>
 guardA v5_2 false (fun K => K a0) fun v7_3 =>
 guardA v5_2 false (nilA v7_3) fun v8_4 =>
 guardA v5_2 false (addA v8_4 3) fun v9_5 =>
 guardA v5_2 false (loadA w0 v9_5) fun v10_6 =>
 guardA v5_2 false (callA P w0 n_run_Mem_Len [v10_6]) fun v11_7 =>
 guardA v5_2 false (pureA (binA .eql v11_7 (.int .i64 0))) fun v12_8 =>
 pickA v5_2 (.bool true) v12_8 fun v13_9 =>
 condA v13_9 (
 retA [(.bool false)] R) (
 pureQ (fun K => K a0) fun v14_10 =>
 pureQ (fun K => K a0) fun v15_11 =>
 pureQ (nilA v15_11) fun v16_12 =>
 pureQ (addA v16_12 4) fun v17_13 =>
 pureQ (idxArA 16 1 v17_13 (.int .i64 0)) fun v18_14 =>
 readQ (loadA w0 v18_14) fun v19_15 =>
 pureQ (fun K => K a0) fun v21_16 =>
 pureQ (nilA v21_16) fun v22_17 =>
 pureQ (addA v22_17 3) fun v23_18 =>
 readQ (loadA w0 v23_18) fun v24_19 =>
 pureQ (fun K => K a0) fun v27_20 =>
 pureQ (nilA v27_20) fun v28_21 =>
 pureQ (addA v28_21 0) fun v29_22 =>
 pureQ (addA v29_22 0) fun v30_23 =>
 readQ (loadA w0 v30_23) fun v31_24 =>
 pureQ (nilA v14_10) fun v35_25 =>
 pureQ (addA v35_25 4) fun v36_26 =>
 allA [
 (callA P w0 n_slices_Clone_lprun_Run_prun_Run [v19_15] fun v20_27 =>
 stillA [(sameQ (loadA w0 v30_23) v31_24), (sameQ (loadA w0 v23_18) v24_19)] (
 allA [
 (callA P w0 n_run_Mem_All [v24_19] fun v25_28 =>
 stillA [(sameQ (loadA w0 v30_23) v31_24)] (
 allA [
 (callA P w0 n_slices_Collect_api_Entry [v25_28] fun v26_29 =>
 stillA [(sameQ (loadA w0 v30_23) v31_24)] (
 allA [
 (callA P w0 n_level_built [v26_29, v31_24] fun v32_30 =>
 stillA [] (
 allA [
 (bslA [(0, 1, false, v32_30)] (zerosL [(.pointer none)] 1) 1 1 fun v33_31 =>
 stillA [] (
 allA [
 (callA P w0 n_slices_Insert_lprun_Run_prun_Run [v20_27, (.int .i64 0), v33_31] fun v34_32 =>
 stillA [] (
 pureQ (idxArA 16 1 v36_26 (.int .i64 0)) fun v37_33 =>
 allA [
 (storeA w0 v37_33 v34_32 fun _ =>
 stillA [] (
 endA (
 nilA a0 fun v39_34 =>
 addA v39_34 3 fun v40_35 =>
 loadA w0 v40_35 fun v41_36 =>
 callA P w0 n_run_Mem_Clear [v41_36] fun v42_37 =>
 retA [(.bool true)] R)))]))]))]))]))]))]))])
theorem c_level_Levels_Flush {w0 : World} {h : Hp} {R : Kont} {a0 : Value} (hj : ∀ v, v ∈ [a0] → v ≠ junk) (hv : s_level_Levels_Flush prog w0 a0 R h) : ACalls prog w0 n_level_Levels_Flush [a0] h R := by
  have e : vcFn ⟨prog, w0, 43, ks_level_Levels_Flush⟩ (drw w0 43) fn_level_Levels_Flush [a0] R h = s_level_Levels_Flush prog w0 a0 R h := by
    kernel_rfl
  exact acalls_of_eq (fn := fn_level_Levels_Flush) (ks := ks_level_Levels_Flush) (n := 43) (by kernel_rfl) (by kernel_rfl) (draw_ok (by kernel_rfl)) (by simp) hj e hv

abbrev fn_level_Levels_Step : Func := f14
def ks_level_Levels_Step : List (Nat × List Nat × List Nat) := []
def s_level_Levels_Step (P : Program) (w0 : World) (a0 : Value) (R : Kont) : Hp → Prop :=
 callA P w0 n_level_Levels_made [a0] fun v9_1 =>
 pureA (unA .not v9_1) fun v10_2 =>
 condA v10_2 (
 retA [(.bool false)] R) (
 callA P w0 n_level_Levels_full [a0] fun v13_3 =>
 pureA (extA v13_3 0) fun v14_4 =>
 pureA (extA v13_3 1) fun v15_5 =>
 pureA (unA .not v15_5) fun v17_6 =>
 condA v17_6 (
 retA [(.bool false)] R) (
 nilA a0 fun v19_7 =>
 addA v19_7 4 fun v20_8 =>
 pureA (binA .add v14_4 (.int .i64 1)) fun v22_9 =>
 arSlA 16 1 v20_8 (some v22_9) none fun v23_10 =>
 callA P w0 n_slices_ContainsFunc_llprun_Run_lprun_Run [v23_10, (.func (.func n_level_Levels_Step_S1) #[] #[])] fun v24_11 =>
 nilA a0 fun v27_12 =>
 addA v27_12 4 fun v28_13 =>
 idxArA 16 1 v28_13 v14_4 fun v29_14 =>
 loadA w0 v29_14 fun v30_15 =>
 pureA (unA .not v24_11) fun v32_16 =>
 callA P w0 n_run_Merge [v30_15, v32_16] fun v33_17 =>
 nilA a0 fun v36_18 =>
 addA v36_18 4 fun v37_19 =>
 idxArA 16 1 v37_19 v14_4 fun v38_20 =>
 storeA w0 v38_20 (.slice none 0 0) fun _ =>
 pureA (lenSl v33_17) fun v40_21 =>
 pureA (binA .gtr v40_21 (.int .i64 0)) fun v41_22 =>
 condA v41_22 (
 pureA (binA .add v14_4 (.int .i64 1)) fun v43_23 =>
 pureA (foldA min2A v43_23 [(.int .i64 15)]) fun v44_24 =>
 pureQ (fun K => K a0) fun v45_25 =>
 pureQ (fun K => K v44_24) fun v46_26 =>
 pureQ (fun K => K a0) fun v47_27 =>
 pureQ (fun K => K v44_24) fun v48_28 =>
 pureQ (nilA v47_27) fun v49_29 =>
 pureQ (addA v49_29 4) fun v50_30 =>
 pureQ (idxArA 16 1 v50_30 v48_28) fun v51_31 =>
 readQ (loadA w0 v51_31) fun v52_32 =>
 pureQ (fun K => K v33_17) fun v54_33 =>
 pureQ (fun K => K a0) fun v55_34 =>
 pureQ (nilA v55_34) fun v56_35 =>
 pureQ (addA v56_35 0) fun v57_36 =>
 pureQ (addA v57_36 0) fun v58_37 =>
 readQ (loadA w0 v58_37) fun v59_38 =>
 pureQ (nilA v45_25) fun v63_39 =>
 pureQ (addA v63_39 4) fun v64_40 =>
 allA [
 (callA P w0 n_slices_Clone_lprun_Run_prun_Run [v52_32] fun v53_41 =>
 stillA [(sameQ (loadA w0 v58_37) v59_38)] (
 allA [
 (callA P w0 n_level_built [v54_33, v59_38] fun v60_42 =>
 stillA [] (
 allA [
 (bslA [(0, 1, false, v60_42)] (zerosL [(.pointer none)] 1) 1 1 fun v61_43 =>
 stillA [] (
 allA [
 (callA P w0 n_slices_Insert_lprun_Run_prun_Run [v53_41, (.int .i64 0), v61_43] fun v62_44 =>
 stillA [] (
 pureQ (idxArA 16 1 v64_40 v46_26) fun v65_45 =>
 allA [
 (storeA w0 v65_45 v62_44 fun _ =>
 stillA [] (
 endA (
 retA [(.bool true)] R)))]))]))]))]))]) (
 retA [(.bool true)] R)))
theorem c_level_Levels_Step {w0 : World} {h : Hp} {R : Kont} {a0 : Value} (hj : ∀ v, v ∈ [a0] → v ≠ junk) (hv : s_level_Levels_Step prog w0 a0 R h) : ACalls prog w0 n_level_Levels_Step [a0] h R := by
  have e : vcFn ⟨prog, w0, 66, ks_level_Levels_Step⟩ (drw w0 66) fn_level_Levels_Step [a0] R h = s_level_Levels_Step prog w0 a0 R h := by
    kernel_rfl
  exact acalls_of_eq (fn := fn_level_Levels_Step) (ks := ks_level_Levels_Step) (n := 66) (by kernel_rfl) (by kernel_rfl) (draw_ok (by kernel_rfl)) (by simp) hj e hv

abbrev fn_level_Levels_Manifest : Func := f16
def ks_level_Levels_Manifest : List (Nat × List Nat × List Nat) := [(6, [0, 3, 4, 39, 40, 41], [0, 3, 4]), (11, [0, 3, 50, 51, 52], [3]), (15, [0, 3, 50, 51, 52, 66, 67, 68], [0, 3, 50, 51, 52])]
def level_Levels_Manifest_B1 (P : Program) (w0 : World) (R : Value → Value → Value → Value → Value → Value → Hp → Prop) (k0 : Value → Value → Value → Hp → Prop) (x0 x3 x4 x39 x40 x41 : Value) : Hp → Prop :=
 pureA (binA .lss x41 x40) fun v42_25 =>
 condA v42_25 (
 idxSlA 1 x39 x41 fun v43_26 =>
 loadA w0 v43_26 fun v44_27 =>
 pureA (convA .u64 v44_27) fun v47_28 =>
 callA P w0 n_codec_Writer_Varint [x3, v47_28] fun v48_29 =>
 pureA (binA .add x41 (.int .i64 1)) fun v49_30 =>
 R x0 x3 x4 x39 x40 v49_30) (
 k0 x0 x3 x4)
def level_Levels_Manifest_L1 (P : Program) (w0 : World) (k0 : Value → Value → Value → Hp → Prop) : Nat → Value → Value → Value → Value → Value → Value → Hp → Prop
  | 0, _, _, _, _, _, _ => fun _ => False
  | m + 1, x0, x3, x4, x39, x40, x41 => level_Levels_Manifest_B1 P w0 (level_Levels_Manifest_L1 P w0 k0 m) k0 x0 x3 x4 x39 x40 x41
def level_Levels_Manifest_E1 (P : Program) (w0 : World) (k0 : Value → Value → Value → Hp → Prop) (x0 x3 x4 x39 x40 x41 : Value) : Hp → Prop := fun h => ∃ m, level_Levels_Manifest_L1 P w0 k0 m x0 x3 x4 x39 x40 x41 h
def level_Levels_Manifest_B3 (P : Program) (w0 : World) (R : Value → Value → Value → Value → Value → Value → Value → Value → Hp → Prop) (k4 : Value → Value → Value → Value → Value → Hp → Prop) (x0 x3 x50 x51 x52 x66 x67 x68 : Value) : Hp → Prop :=
 pureA (binA .lss x68 x67) fun v69_45 =>
 condA v69_45 (
 idxSlA 1 x66 x68 fun v70_46 =>
 loadA w0 v70_46 fun v71_47 =>
 callA P w0 n_run_Run_Bytes [v71_47] fun v73_48 =>
 pureA (lenSl v73_48) fun v76_49 =>
 pureA (convA .u64 v76_49) fun v77_50 =>
 callA P w0 n_codec_Writer_Varint [x3, v77_50] fun v78_51 =>
 b2sA w0 v73_48 fun v81_52 =>
 callA P w0 n_codec_Crc [v81_52] fun v82_53 =>
 pureA (convA .u64 v82_53) fun v83_54 =>
 callA P w0 n_codec_Writer_Varint [x3, v83_54] fun v84_55 =>
 pureA (binA .add x68 (.int .i64 1)) fun v85_56 =>
 R x0 x3 x50 x51 x52 x66 x67 v85_56) (
 k4 x0 x3 x50 x51 x52)
def level_Levels_Manifest_L3 (P : Program) (w0 : World) (k4 : Value → Value → Value → Value → Value → Hp → Prop) : Nat → Value → Value → Value → Value → Value → Value → Value → Value → Hp → Prop
  | 0, _, _, _, _, _, _, _, _ => fun _ => False
  | m + 1, x0, x3, x50, x51, x52, x66, x67, x68 => level_Levels_Manifest_B3 P w0 (level_Levels_Manifest_L3 P w0 k4 m) k4 x0 x3 x50 x51 x52 x66 x67 x68
def level_Levels_Manifest_E3 (P : Program) (w0 : World) (k4 : Value → Value → Value → Value → Value → Hp → Prop) (x0 x3 x50 x51 x52 x66 x67 x68 : Value) : Hp → Prop := fun h => ∃ m, level_Levels_Manifest_L3 P w0 k4 m x0 x3 x50 x51 x52 x66 x67 x68 h
def level_Levels_Manifest_B2 (P : Program) (w0 : World) (R : Value → Value → Value → Value → Value → Hp → Prop) (k2 : Value → Hp → Prop) (x0 x3 x50 x51 x52 : Value) : Hp → Prop :=
 pureA (binA .lss x52 x51) fun v53_35 =>
 condA v53_35 (
 idxSlA 1 x50 x52 fun v55_36 =>
 loadA w0 v55_36 fun v56_37 =>
 pureA (convA .u64 v56_37) fun v59_38 =>
 callA P w0 n_codec_Writer_Varint [x3, v59_38] fun v60_39 =>
 nilA x0 fun v63_40 =>
 addA v63_40 4 fun v64_41 =>
 idxArA 16 1 v64_41 x52 fun v65_42 =>
 loadA w0 v65_42 fun v66_43 =>
 pureA (lenSl v66_43) fun v67_44 =>
 level_Levels_Manifest_E3 P w0 (fun y0_57 y3_58 y50_59 y51_60 y52_61 =>
 pureA (binA .add y52_61 (.int .i64 1)) fun v86_62 =>
 R y0_57 y3_58 y50_59 y51_60 v86_62) x0 x3 x50 x51 x52 v66_43 v67_44 (.int .i64 0)) (
 k2 x3)
def level_Levels_Manifest_L2 (P : Program) (w0 : World) (k2 : Value → Hp → Prop) : Nat → Value → Value → Value → Value → Value → Hp → Prop
  | 0, _, _, _, _, _ => fun _ => False
  | m + 1, x0, x3, x50, x51, x52 => level_Levels_Manifest_B2 P w0 (level_Levels_Manifest_L2 P w0 k2 m) k2 x0 x3 x50 x51 x52
def level_Levels_Manifest_E2 (P : Program) (w0 : World) (k2 : Value → Hp → Prop) (x0 x3 x50 x51 x52 : Value) : Hp → Prop := fun h => ∃ m, level_Levels_Manifest_L2 P w0 k2 m x0 x3 x50 x51 x52 h
def s_level_Levels_Manifest (P : Program) (w0 : World) (a0 : Value) (R : Kont) : Hp → Prop :=
 callA P w0 n_level_Levels_made [a0] fun v17_1 =>
 pureA (unA .not v17_1) fun v18_2 =>
 condA v18_2 (
 retA [(.slice none 0 0)] R) (
 callA P w0 n_codec_NewWriter [(.int .i64 1048576)] fun v19_3 =>
 callA P w0 n_level_Levels_Runs [a0] fun v21_4 =>
 pureQ (fun K => K a0) fun v22_5 =>
 pureQ (nilA v22_5) fun v23_6 =>
 pureQ (addA v23_6 0) fun v24_7 =>
 pureQ (addA v24_7 0) fun v25_8 =>
 readQ (loadA w0 v25_8) fun v26_9 =>
 pureQ (fun K => K a0) fun v27_10 =>
 pureQ (nilA v27_10) fun v28_11 =>
 pureQ (addA v28_11 0) fun v29_12 =>
 pureQ (addA v29_12 1) fun v30_13 =>
 readQ (loadA w0 v30_13) fun v31_14 =>
 pureQ (fun K => K a0) fun v32_15 =>
 pureQ (nilA v32_15) fun v33_16 =>
 pureQ (addA v33_16 0) fun v34_17 =>
 pureQ (addA v34_17 2) fun v35_18 =>
 readQ (loadA w0 v35_18) fun v36_19 =>
 pureQ (fun K => K v21_4) fun v37_20 =>
 pureQ (pureA (lenSl v37_20)) fun v38_21 =>
 pureQ (fun K => K (.int .i64 0)) fun v41_22 =>
 allA [
 (bslA [(0, 1, false, v26_9), (1, 1, false, v31_14), (2, 1, false, v36_19), (3, 1, false, v38_21)] (zerosL [(.int .i64 0)] 4) 4 1 fun v39_23 =>
 stillA [] (
 pureQ (pureA (lenSl v39_23)) fun v40_24 =>
 endA (
 level_Levels_Manifest_E1 P w0 (fun y0_31 y3_32 y4_33 =>
 pureA (lenSl y4_33) fun v51_34 =>
 level_Levels_Manifest_E2 P w0 (fun y3_63 =>
 callA P w0 n_codec_Writer_Done [y3_63] fun v89_64 =>
 pureA (extA v89_64 0) fun v90_65 =>
 pureA (extA v89_64 1) fun v91_66 =>
 callA P w0 n_codec_Frame [(.int .u8 77), v90_65] fun v94_67 =>
 pureA (extA v94_67 0) fun v95_68 =>
 pureA (extA v94_67 1) fun v96_69 =>
 s2bA v95_68 fun v98_70 =>
 retA [v98_70] R) y0_31 y3_32 y4_33 v51_34 (.int .i64 0)) a0 v19_3 v21_4 v39_23 v40_24 v41_22)))])
theorem level_Levels_Manifest_L3_eq (w0 : World) (k4 : Value → Value → Value → Value → Value → Hp → Prop) : ∀ (m : Nat) (x0 x3 x50 x51 x52 x66 x67 x68 : Value) (h : Hp), loopA (stepL ⟨prog, w0, 99, ks_level_Levels_Manifest⟩ (drw w0 99) (loopAt fn_level_Levels_Manifest 2)) m (mkFr [(0, x0), (3, x3), (50, x50), (51, x51), (52, x52), (66, x66), (67, x67), (68, x68)]) [fun t => k4 (t 0) (t 3) (t 50) (t 51) (t 52)] h = level_Levels_Manifest_L3 prog w0 k4 m x0 x3 x50 x51 x52 x66 x67 x68 h := by
  intro m
  induction m with
  | zero => intros; kernel_rfl
  | succ m ih =>
    intro x0 x3 x50 x51 x52 x66 x67 x68 h
    have e : level_Levels_Manifest_L3 prog w0 k4 m = fun x0 x3 x50 x51 x52 x66 x67 x68 h => loopA (stepL ⟨prog, w0, 99, ks_level_Levels_Manifest⟩ (drw w0 99) (loopAt fn_level_Levels_Manifest 2)) m (mkFr [(0, x0), (3, x3), (50, x50), (51, x51), (52, x52), (66, x66), (67, x67), (68, x68)]) [fun t => k4 (t 0) (t 3) (t 50) (t 51) (t 52)] h := by funext x0 x3 x50 x51 x52 x66 x67 x68 h; exact (ih x0 x3 x50 x51 x52 x66 x67 x68 h).symm
    show _ = level_Levels_Manifest_B3 prog w0 (level_Levels_Manifest_L3 prog w0 k4 m) k4 x0 x3 x50 x51 x52 x66 x67 x68 h
    rw [e]
    kernel_rfl
theorem level_Levels_Manifest_E3_eq (w0 : World) : level_Levels_Manifest_E3 prog w0 = fun k4 x0 x3 x50 x51 x52 x66 x67 x68 h => ∃ m, loopA (stepL ⟨prog, w0, 99, ks_level_Levels_Manifest⟩ (drw w0 99) (loopAt fn_level_Levels_Manifest 2)) m (mkFr [(0, x0), (3, x3), (50, x50), (51, x51), (52, x52), (66, x66), (67, x67), (68, x68)]) [fun t => k4 (t 0) (t 3) (t 50) (t 51) (t 52)] h := by
  funext k4 x0 x3 x50 x51 x52 x66 x67 x68 h
  exact congrArg Exists (funext fun m => (level_Levels_Manifest_L3_eq w0 k4 m x0 x3 x50 x51 x52 x66 x67 x68 h).symm)
theorem level_Levels_Manifest_L2_eq (w0 : World) (k2 : Value → Hp → Prop) : ∀ (m : Nat) (x0 x3 x50 x51 x52 : Value) (h : Hp), loopA (stepL ⟨prog, w0, 99, ks_level_Levels_Manifest⟩ (drw w0 99) (loopAt fn_level_Levels_Manifest 1)) m (mkFr [(0, x0), (3, x3), (50, x50), (51, x51), (52, x52)]) [fun t => k2 (t 3)] h = level_Levels_Manifest_L2 prog w0 k2 m x0 x3 x50 x51 x52 h := by
  intro m
  induction m with
  | zero => intros; kernel_rfl
  | succ m ih =>
    intro x0 x3 x50 x51 x52 h
    have e : level_Levels_Manifest_L2 prog w0 k2 m = fun x0 x3 x50 x51 x52 h => loopA (stepL ⟨prog, w0, 99, ks_level_Levels_Manifest⟩ (drw w0 99) (loopAt fn_level_Levels_Manifest 1)) m (mkFr [(0, x0), (3, x3), (50, x50), (51, x51), (52, x52)]) [fun t => k2 (t 3)] h := by funext x0 x3 x50 x51 x52 h; exact (ih x0 x3 x50 x51 x52 h).symm
    show _ = level_Levels_Manifest_B2 prog w0 (level_Levels_Manifest_L2 prog w0 k2 m) k2 x0 x3 x50 x51 x52 h
    rw [e]
    unfold level_Levels_Manifest_B2
    rw [level_Levels_Manifest_E3_eq w0]
    kernel_rfl
theorem level_Levels_Manifest_E2_eq (w0 : World) : level_Levels_Manifest_E2 prog w0 = fun k2 x0 x3 x50 x51 x52 h => ∃ m, loopA (stepL ⟨prog, w0, 99, ks_level_Levels_Manifest⟩ (drw w0 99) (loopAt fn_level_Levels_Manifest 1)) m (mkFr [(0, x0), (3, x3), (50, x50), (51, x51), (52, x52)]) [fun t => k2 (t 3)] h := by
  funext k2 x0 x3 x50 x51 x52 h
  exact congrArg Exists (funext fun m => (level_Levels_Manifest_L2_eq w0 k2 m x0 x3 x50 x51 x52 h).symm)
theorem level_Levels_Manifest_L1_eq (w0 : World) (k0 : Value → Value → Value → Hp → Prop) : ∀ (m : Nat) (x0 x3 x4 x39 x40 x41 : Value) (h : Hp), loopA (stepL ⟨prog, w0, 99, ks_level_Levels_Manifest⟩ (drw w0 99) (loopAt fn_level_Levels_Manifest 0)) m (mkFr [(0, x0), (3, x3), (4, x4), (39, x39), (40, x40), (41, x41)]) [fun t => k0 (t 0) (t 3) (t 4)] h = level_Levels_Manifest_L1 prog w0 k0 m x0 x3 x4 x39 x40 x41 h := by
  intro m
  induction m with
  | zero => intros; kernel_rfl
  | succ m ih =>
    intro x0 x3 x4 x39 x40 x41 h
    have e : level_Levels_Manifest_L1 prog w0 k0 m = fun x0 x3 x4 x39 x40 x41 h => loopA (stepL ⟨prog, w0, 99, ks_level_Levels_Manifest⟩ (drw w0 99) (loopAt fn_level_Levels_Manifest 0)) m (mkFr [(0, x0), (3, x3), (4, x4), (39, x39), (40, x40), (41, x41)]) [fun t => k0 (t 0) (t 3) (t 4)] h := by funext x0 x3 x4 x39 x40 x41 h; exact (ih x0 x3 x4 x39 x40 x41 h).symm
    show _ = level_Levels_Manifest_B1 prog w0 (level_Levels_Manifest_L1 prog w0 k0 m) k0 x0 x3 x4 x39 x40 x41 h
    rw [e]
    kernel_rfl
theorem level_Levels_Manifest_E1_eq (w0 : World) : level_Levels_Manifest_E1 prog w0 = fun k0 x0 x3 x4 x39 x40 x41 h => ∃ m, loopA (stepL ⟨prog, w0, 99, ks_level_Levels_Manifest⟩ (drw w0 99) (loopAt fn_level_Levels_Manifest 0)) m (mkFr [(0, x0), (3, x3), (4, x4), (39, x39), (40, x40), (41, x41)]) [fun t => k0 (t 0) (t 3) (t 4)] h := by
  funext k0 x0 x3 x4 x39 x40 x41 h
  exact congrArg Exists (funext fun m => (level_Levels_Manifest_L1_eq w0 k0 m x0 x3 x4 x39 x40 x41 h).symm)
theorem c_level_Levels_Manifest {w0 : World} {h : Hp} {R : Kont} {a0 : Value} (hj : ∀ v, v ∈ [a0] → v ≠ junk) (hv : s_level_Levels_Manifest prog w0 a0 R h) : ACalls prog w0 n_level_Levels_Manifest [a0] h R := by
  have e : vcFn ⟨prog, w0, 99, ks_level_Levels_Manifest⟩ (drw w0 99) fn_level_Levels_Manifest [a0] R h = s_level_Levels_Manifest prog w0 a0 R h := by
    unfold s_level_Levels_Manifest
    rw [level_Levels_Manifest_E1_eq w0, level_Levels_Manifest_E2_eq w0]
    kernel_rfl
  exact acalls_of_eq (fn := fn_level_Levels_Manifest) (ks := ks_level_Levels_Manifest) (n := 99) (by kernel_rfl) (by kernel_rfl) (draw_ok (by kernel_rfl)) (by simp) hj e hv

abbrev fn_level_Levels_Files : Func := f17
def ks_level_Levels_Files : List (Nat × List Nat × List Nat) := [(5, [3, 10, 11, 12], [3])]
def level_Levels_Files_B1 (P : Program) (w0 : World) (R : Value → Value → Value → Value → Hp → Prop) (k0 : Value → Hp → Prop) (x3 x10 x11 x12 : Value) : Hp → Prop :=
 pureA (binA .lss x12 x11) fun v13_5 =>
 condA v13_5 (
 idxSlA 1 x10 x12 fun v14_6 =>
 loadA w0 v14_6 fun v15_7 =>
 callA P w0 n_run_Run_Bytes [v15_7] fun v18_8 =>
 bslA [(0, 1, false, v18_8)] (zerosL [(.slice none 0 0)] 1) 1 1 fun v19_9 =>
 appA w0 1 24 x3 v19_9 fun v20_10 =>
 pureA (binA .add x12 (.int .i64 1)) fun v21_11 =>
 R v20_10 x10 x11 v21_11) (
 k0 x3)
def level_Levels_Files_L1 (P : Program) (w0 : World) (k0 : Value → Hp → Prop) : Nat → Value → Value → Value → Value → Hp → Prop
  | 0, _, _, _, _ => fun _ => False
  | m + 1, x3, x10, x11, x12 => level_Levels_Files_B1 P w0 (level_Levels_Files_L1 P w0 k0 m) k0 x3 x10 x11 x12
def level_Levels_Files_E1 (P : Program) (w0 : World) (k0 : Value → Hp → Prop) (x3 x10 x11 x12 : Value) : Hp → Prop := fun h => ∃ m, level_Levels_Files_L1 P w0 k0 m x3 x10 x11 x12 h
def s_level_Levels_Files (P : Program) (w0 : World) (a0 : Value) (R : Kont) : Hp → Prop :=
 callA P w0 n_level_Levels_made [a0] fun v7_1 =>
 pureA (unA .not v7_1) fun v8_2 =>
 condA v8_2 (
 retA [(.slice none 0 0)] R) (
 callA P w0 n_level_Levels_files [a0] fun v10_3 =>
 pureA (lenSl v10_3) fun v11_4 =>
 level_Levels_Files_E1 P w0 (fun y3_12 =>
 retA [y3_12] R) (.slice none 0 0) v10_3 v11_4 (.int .i64 0))
theorem level_Levels_Files_L1_eq (w0 : World) (k0 : Value → Hp → Prop) : ∀ (m : Nat) (x3 x10 x11 x12 : Value) (h : Hp), loopA (stepL ⟨prog, w0, 23, ks_level_Levels_Files⟩ (drw w0 23) (loopAt fn_level_Levels_Files 0)) m (mkFr [(3, x3), (10, x10), (11, x11), (12, x12)]) [fun t => k0 (t 3)] h = level_Levels_Files_L1 prog w0 k0 m x3 x10 x11 x12 h := by
  intro m
  induction m with
  | zero => intros; kernel_rfl
  | succ m ih =>
    intro x3 x10 x11 x12 h
    have e : level_Levels_Files_L1 prog w0 k0 m = fun x3 x10 x11 x12 h => loopA (stepL ⟨prog, w0, 23, ks_level_Levels_Files⟩ (drw w0 23) (loopAt fn_level_Levels_Files 0)) m (mkFr [(3, x3), (10, x10), (11, x11), (12, x12)]) [fun t => k0 (t 3)] h := by funext x3 x10 x11 x12 h; exact (ih x3 x10 x11 x12 h).symm
    show _ = level_Levels_Files_B1 prog w0 (level_Levels_Files_L1 prog w0 k0 m) k0 x3 x10 x11 x12 h
    rw [e]
    kernel_rfl
theorem level_Levels_Files_E1_eq (w0 : World) : level_Levels_Files_E1 prog w0 = fun k0 x3 x10 x11 x12 h => ∃ m, loopA (stepL ⟨prog, w0, 23, ks_level_Levels_Files⟩ (drw w0 23) (loopAt fn_level_Levels_Files 0)) m (mkFr [(3, x3), (10, x10), (11, x11), (12, x12)]) [fun t => k0 (t 3)] h := by
  funext k0 x3 x10 x11 x12 h
  exact congrArg Exists (funext fun m => (level_Levels_Files_L1_eq w0 k0 m x3 x10 x11 x12 h).symm)
theorem c_level_Levels_Files {w0 : World} {h : Hp} {R : Kont} {a0 : Value} (hj : ∀ v, v ∈ [a0] → v ≠ junk) (hv : s_level_Levels_Files prog w0 a0 R h) : ACalls prog w0 n_level_Levels_Files [a0] h R := by
  have e : vcFn ⟨prog, w0, 23, ks_level_Levels_Files⟩ (drw w0 23) fn_level_Levels_Files [a0] R h = s_level_Levels_Files prog w0 a0 R h := by
    unfold s_level_Levels_Files
    rw [level_Levels_Files_E1_eq w0]
    kernel_rfl
  exact acalls_of_eq (fn := fn_level_Levels_Files) (ks := ks_level_Levels_Files) (n := 23) (by kernel_rfl) (by kernel_rfl) (draw_ok (by kernel_rfl)) (by simp) hj e hv

abbrev fn_level_Levels_Runs : Func := f19
def ks_level_Levels_Runs : List (Nat × List Nat × List Nat) := [(6, [3, 4, 13, 14], [3, 4])]
def level_Levels_Runs_B1 (P : Program) (w0 : World) (R : Value → Value → Value → Value → Hp → Prop) (k0 : Value → Value → Hp → Prop) (x3 x4 x13 x14 : Value) : Hp → Prop :=
 pureA (binA .lss x14 (.int .i64 16)) fun v15_6 =>
 condA v15_6 (
 pureA (arIdxA false 16 1 x13 x14) fun v17_7 =>
 pureA (lenSl v17_7) fun v20_8 =>
 bslA [(0, 1, false, v20_8)] (zerosL [(.int .i64 0)] 1) 1 1 fun v21_9 =>
 appA w0 1 8 x3 v21_9 fun v22_10 =>
 pureA (lenSl v17_7) fun v24_11 =>
 pureA (binA .gtr v24_11 (.int .i64 0)) fun v25_12 =>
 condA v25_12 (
 pureA (binA .add x14 (.int .i64 1)) fun v27_13 =>
 pureA (binA .add x14 (.int .i64 1)) fun v28_14 =>
 R v22_10 v27_13 x13 v28_14) (
 pureA (binA .add x14 (.int .i64 1)) fun v28_15 =>
 R v22_10 x4 x13 v28_15)) (
 k0 x3 x4)
def level_Levels_Runs_L1 (P : Program) (w0 : World) (k0 : Value → Value → Hp → Prop) : Nat → Value → Value → Value → Value → Hp → Prop
  | 0, _, _, _, _ => fun _ => False
  | m + 1, x3, x4, x13, x14 => level_Levels_Runs_B1 P w0 (level_Levels_Runs_L1 P w0 k0 m) k0 x3 x4 x13 x14
def level_Levels_Runs_E1 (P : Program) (w0 : World) (k0 : Value → Value → Hp → Prop) (x3 x4 x13 x14 : Value) : Hp → Prop := fun h => ∃ m, level_Levels_Runs_L1 P w0 k0 m x3 x4 x13 x14 h
def s_level_Levels_Runs (P : Program) (w0 : World) (a0 : Value) (R : Kont) : Hp → Prop :=
 callA P w0 n_level_Levels_made [a0] fun v8_1 =>
 pureA (unA .not v8_1) fun v9_2 =>
 condA v9_2 (
 retA [(.slice none 0 0)] R) (
 nilA a0 fun v11_3 =>
 addA v11_3 4 fun v12_4 =>
 loadNA w0 v12_4 16 fun v13_5 =>
 level_Levels_Runs_E1 P w0 (fun y3_16 y4_17 =>
 slSlA 1 y3_16 none (some y4_17) none fun v31_18 =>
 retA [v31_18] R) (.slice none 0 0) (.int .i64 0) v13_5 (.int .i64 0))
theorem level_Levels_Runs_L1_eq (w0 : World) (k0 : Value → Value → Hp → Prop) : ∀ (m : Nat) (x3 x4 x13 x14 : Value) (h : Hp), loopA (stepL ⟨prog, w0, 32, ks_level_Levels_Runs⟩ (drw w0 32) (loopAt fn_level_Levels_Runs 0)) m (mkFr [(3, x3), (4, x4), (13, x13), (14, x14)]) [fun t => k0 (t 3) (t 4)] h = level_Levels_Runs_L1 prog w0 k0 m x3 x4 x13 x14 h := by
  intro m
  induction m with
  | zero => intros; kernel_rfl
  | succ m ih =>
    intro x3 x4 x13 x14 h
    have e : level_Levels_Runs_L1 prog w0 k0 m = fun x3 x4 x13 x14 h => loopA (stepL ⟨prog, w0, 32, ks_level_Levels_Runs⟩ (drw w0 32) (loopAt fn_level_Levels_Runs 0)) m (mkFr [(3, x3), (4, x4), (13, x13), (14, x14)]) [fun t => k0 (t 3) (t 4)] h := by funext x3 x4 x13 x14 h; exact (ih x3 x4 x13 x14 h).symm
    show _ = level_Levels_Runs_B1 prog w0 (level_Levels_Runs_L1 prog w0 k0 m) k0 x3 x4 x13 x14 h
    rw [e]
    kernel_rfl
theorem level_Levels_Runs_E1_eq (w0 : World) : level_Levels_Runs_E1 prog w0 = fun k0 x3 x4 x13 x14 h => ∃ m, loopA (stepL ⟨prog, w0, 32, ks_level_Levels_Runs⟩ (drw w0 32) (loopAt fn_level_Levels_Runs 0)) m (mkFr [(3, x3), (4, x4), (13, x13), (14, x14)]) [fun t => k0 (t 3) (t 4)] h := by
  funext k0 x3 x4 x13 x14 h
  exact congrArg Exists (funext fun m => (level_Levels_Runs_L1_eq w0 k0 m x3 x4 x13 x14 h).symm)
theorem c_level_Levels_Runs {w0 : World} {h : Hp} {R : Kont} {a0 : Value} (hj : ∀ v, v ∈ [a0] → v ≠ junk) (hv : s_level_Levels_Runs prog w0 a0 R h) : ACalls prog w0 n_level_Levels_Runs [a0] h R := by
  have e : vcFn ⟨prog, w0, 32, ks_level_Levels_Runs⟩ (drw w0 32) fn_level_Levels_Runs [a0] R h = s_level_Levels_Runs prog w0 a0 R h := by
    unfold s_level_Levels_Runs
    rw [level_Levels_Runs_E1_eq w0]
    kernel_rfl
  exact acalls_of_eq (fn := fn_level_Levels_Runs) (ks := ks_level_Levels_Runs) (n := 32) (by kernel_rfl) (by kernel_rfl) (draw_ok (by kernel_rfl)) (by simp) hj e hv

abbrev fn_level_Levels_Fork : Func := f23
def ks_level_Levels_Fork : List (Nat × List Nat × List Nat) := []
def s_level_Levels_Fork (P : Program) (w0 : World) (a0 : Value) (R : Kont) : Hp → Prop :=
 callA P w0 n_level_Levels_made [a0] fun v5_1 =>
 pureA (unA .not v5_1) fun v6_2 =>
 condA v6_2 (
 retA [(.pointer none)] R) (
 nilA a0 fun v8_3 =>
 loadNA w0 v8_3 20 fun v9_4 =>
 newA [(.int .i64 0), (.int .i64 0), (.int .i64 0), (.pointer none), (.slice none 0 0), (.slice none 0 0), (.slice none 0 0), (.slice none 0 0), (.slice none 0 0), (.slice none 0 0), (.slice none 0 0), (.slice none 0 0), (.slice none 0 0), (.slice none 0 0), (.slice none 0 0), (.slice none 0 0), (.slice none 0 0), (.slice none 0 0), (.slice none 0 0), (.slice none 0 0)] 20 fun v3_5 =>
 storeNA w0 v3_5 v9_4 20 fun _ =>
 nilA a0 fun v11_6 =>
 addA v11_6 3 fun v12_7 =>
 loadA w0 v12_7 fun v13_8 =>
 callA P w0 n_run_Mem_Fork [v13_8] fun v14_9 =>
 addA v3_5 3 fun v15_10 =>
 storeA w0 v15_10 v14_9 fun _ =>
 retA [v3_5] R)
theorem c_level_Levels_Fork {w0 : World} {h : Hp} {R : Kont} {a0 : Value} (hj : ∀ v, v ∈ [a0] → v ≠ junk) (hv : s_level_Levels_Fork prog w0 a0 R h) : ACalls prog w0 n_level_Levels_Fork [a0] h R := by
  have e : vcFn ⟨prog, w0, 16, ks_level_Levels_Fork⟩ (drw w0 16) fn_level_Levels_Fork [a0] R h = s_level_Levels_Fork prog w0 a0 R h := by
    kernel_rfl
  exact acalls_of_eq (fn := fn_level_Levels_Fork) (ks := ks_level_Levels_Fork) (n := 16) (by kernel_rfl) (by kernel_rfl) (draw_ok (by kernel_rfl)) (by simp) hj e hv

abbrev fn_level_Levels_Get : Func := f28
def ks_level_Levels_Get : List (Nat × List Nat × List Nat) := []
def s_level_Levels_Get (P : Program) (w0 : World) (a0 a1 : Value) (R : Kont) : Hp → Prop :=
 callA P w0 n_level_Levels_made [a0] fun v9_1 =>
 pureA (unA .not v9_1) fun v10_2 =>
 condA v10_2 (
 retA [(.string .empty), (.bool false)] R) (
 callA P w0 n_level_Levels_newest [a0, a1] fun v14_3 =>
 pureA (extA v14_3 0) fun v15_4 =>
 pureA (extA v14_3 1) fun v16_5 =>
 newA [(.string .empty), (.string .empty), (.bool false)] 3 fun v6_6 =>
 storeNA w0 v6_6 v15_4 3 fun _ =>
 pureQ (addA v6_6 1) fun v17_7 =>
 readQ (loadA w0 v17_7) fun v18_8 =>
 pureQ (fun K => K v16_5) fun v19_9 =>
 pureQ (fun K => K v19_9) fun v20_10 =>
 pureQ (guardA v20_10 true (addA v6_6 2)) fun v21_11 =>
 readQ (guardA v20_10 true (loadA w0 v21_11)) fun v22_12 =>
 pureQ (guardA v20_10 true (pureA (unA .not v22_12))) fun v23_13 =>
 pureQ (pickA v20_10 v23_13 (.bool false)) fun v24_14 =>
 pureQ (fun K => K v18_8) fun v4_15 =>
 pureQ (fun K => K v24_14) fun v5_16 =>
 endA (
 retA [v4_15, v5_16] R))
theorem c_level_Levels_Get {w0 : World} {h : Hp} {R : Kont} {a0 a1 : Value} (hj : ∀ v, v ∈ [a0, a1] → v ≠ junk) (hv : s_level_Levels_Get prog w0 a0 a1 R h) : ACalls prog w0 n_level_Levels_Get [a0, a1] h R := by
  have e : vcFn ⟨prog, w0, 25, ks_level_Levels_Get⟩ (drw w0 25) fn_level_Levels_Get [a0, a1] R h = s_level_Levels_Get prog w0 a0 a1 R h := by
    kernel_rfl
  exact acalls_of_eq (fn := fn_level_Levels_Get) (ks := ks_level_Levels_Get) (n := 25) (by kernel_rfl) (by kernel_rfl) (draw_ok (by kernel_rfl)) (by simp) hj e hv

abbrev fn_level_Levels_Scan : Func := f31
def ks_level_Levels_Scan : List (Nat × List Nat × List Nat) := []
def s_level_Levels_Scan (P : Program) (w0 : World) (a0 a1 a2 : Value) (R : Kont) : Hp → Prop :=
 boxA false 1 a0 fun v3_1 =>
 boxA false 1 a1 fun v4_2 =>
 boxA false 1 a2 fun v5_3 =>
 mkFnA n_level_Levels_Scan_S1 [] [v3_1, v4_2, v5_3] fun v7_4 =>
 retA [v7_4] R
theorem c_level_Levels_Scan {w0 : World} {h : Hp} {R : Kont} {a0 a1 a2 : Value} (hj : ∀ v, v ∈ [a0, a1, a2] → v ≠ junk) (hv : s_level_Levels_Scan prog w0 a0 a1 a2 R h) : ACalls prog w0 n_level_Levels_Scan [a0, a1, a2] h R := by
  have e : vcFn ⟨prog, w0, 8, ks_level_Levels_Scan⟩ (drw w0 8) fn_level_Levels_Scan [a0, a1, a2] R h = s_level_Levels_Scan prog w0 a0 a1 a2 R h := by
    kernel_rfl
  exact acalls_of_eq (fn := fn_level_Levels_Scan) (ks := ks_level_Levels_Scan) (n := 8) (by kernel_rfl) (by kernel_rfl) (draw_ok (by kernel_rfl)) (by simp) hj e hv

abbrev fn_level_New : Func := f34
def ks_level_New : List (Nat × List Nat × List Nat) := []
def s_level_New (P : Program) (w0 : World) (a0 : Value) (R : Kont) : Hp → Prop :=
 boxA true 3 a0 fun v1_1 =>
 loadNA w0 v1_1 3 fun v4_2 =>
 callA P w0 n_level_may [v4_2] fun v5_3 =>
 pureA (unA .not v5_3) fun v6_4 =>
 condA v6_4 (
 retA [(.pointer none), (.int .i64 140)] R) (
 readQ (loadNA w0 v1_1 3) fun v7_5 =>
 allA [
 (callA P w0 n_run_NewMem [] fun v8_6 =>
 stillA [(sameQ (loadNA w0 v1_1 3) v7_5)] (
 allA [
 (buildA [(0, 3, true, v7_5), (3, 1, false, v8_6)] [(.int .i64 0), (.int .i64 0), (.int .i64 0), (.pointer none), (.slice none 0 0), (.slice none 0 0), (.slice none 0 0), (.slice none 0 0), (.slice none 0 0), (.slice none 0 0), (.slice none 0 0), (.slice none 0 0), (.slice none 0 0), (.slice none 0 0), (.slice none 0 0), (.slice none 0 0), (.slice none 0 0), (.slice none 0 0), (.slice none 0 0), (.slice none 0 0)] fun v9_7 =>
 stillA [] (
 allA [
 (boxA true 20 v9_7 fun v10_8 =>
 stillA [] (
 pureQ (fun K => K v10_8) fun v2_9 =>
 pureQ (fun K => K (.int .i64 0)) fun v3_10 =>
 endA (
 retA [v2_9, v3_10] R)))]))]))])
theorem c_level_New {w0 : World} {h : Hp} {R : Kont} {a0 : Value} (hj : ∀ v, v ∈ [a0] → v ≠ junk) (hv : s_level_New prog w0 a0 R h) : ACalls prog w0 n_level_New [a0] h R := by
  have e : vcFn ⟨prog, w0, 11, ks_level_New⟩ (drw w0 11) fn_level_New [a0] R h = s_level_New prog w0 a0 R h := by
    kernel_rfl
  exact acalls_of_eq (fn := fn_level_New) (ks := ks_level_New) (n := 11) (by kernel_rfl) (by kernel_rfl) (draw_ok (by kernel_rfl)) (by simp) hj e hv

abbrev fn_level_Levels_set : Func := f36
def ks_level_Levels_set : List (Nat × List Nat × List Nat) := []
def s_level_Levels_set (P : Program) (w0 : World) (a0 a1 : Value) (R : Kont) : Hp → Prop :=
 callA P w0 n_level_Levels_made [a0] fun v7_1 =>
 pureA (unA .not v7_1) fun v8_2 =>
 condA v8_2 (
 retA [(.int .i64 6)] R) (
 nilA a0 fun v11_3 =>
 addA v11_3 3 fun v12_4 =>
 loadA w0 v12_4 fun v13_5 =>
 callVA P w0 a1 [v13_5] fun v14_6 =>
 pureA (binA .neq v14_6 (.int .i64 0)) fun v16_7 =>
 condA v16_7 (
 retA [v14_6] R) (
 pureQ (fun K => K a0) fun v18_8 =>
 pureQ (nilA v18_8) fun v19_9 =>
 pureQ (addA v19_9 3) fun v20_10 =>
 readQ (loadA w0 v20_10) fun v21_11 =>
 pureQ (fun K => K a0) fun v23_12 =>
 pureQ (nilA v23_12) fun v24_13 =>
 pureQ (addA v24_13 0) fun v25_14 =>
 pureQ (addA v25_14 2) fun v26_15 =>
 readQ (loadA w0 v26_15) fun v27_16 =>
 allA [
 (callA P w0 n_run_Mem_Len [v21_11] fun v22_17 =>
 stillA [(sameQ (loadA w0 v26_15) v27_16)] (
 pureQ (pureA (binA .geq v22_17 v27_16)) fun v28_18 =>
 endA (
 condA v28_18 (
 callA P w0 n_level_Levels_Flush [a0] fun v30_19 =>
 retA [(.int .i64 0)] R) (
 retA [(.int .i64 0)] R))))]))
theorem c_level_Levels_set {w0 : World} {h : Hp} {R : Kont} {a0 a1 : Value} (hj : ∀ v, v ∈ [a0, a1] → v ≠ junk) (hv : s_level_Levels_set prog w0 a0 a1 R h) : ACalls prog w0 n_level_Levels_set [a0, a1] h R := by
  have e : vcFn ⟨prog, w0, 31, ks_level_Levels_set⟩ (drw w0 31) fn_level_Levels_set [a0, a1] R h = s_level_Levels_set prog w0 a0 a1 R h := by
    kernel_rfl
  exact acalls_of_eq (fn := fn_level_Levels_set) (ks := ks_level_Levels_set) (n := 31) (by kernel_rfl) (by kernel_rfl) (draw_ok (by kernel_rfl)) (by simp) hj e hv

abbrev fn_level_Levels_Put_S1 : Func := f37
def ks_level_Levels_Put_S1 : List (Nat × List Nat × List Nat) := []
def s_level_Levels_Put_S1 (P : Program) (w0 : World) (a0 a1 a2 : Value) (R : Kont) : Hp → Prop :=
 loadA w0 a1 fun v6_1 =>
 loadA w0 a2 fun v7_2 =>
 callA P w0 n_run_Mem_Put [a0, v6_1, v7_2] fun v8_3 =>
 retA [v8_3] R
theorem c_level_Levels_Put_S1 {w0 : World} {h : Hp} {R : Kont} {a0 a1 a2 : Value} (hj : ∀ v, v ∈ [a0, a1, a2] → v ≠ junk) (hv : s_level_Levels_Put_S1 prog w0 a0 a1 a2 R h) : ACalls prog w0 n_level_Levels_Put_S1 [a0, a1, a2] h R := by
  have e : vcFn ⟨prog, w0, 9, ks_level_Levels_Put_S1⟩ (drw w0 9) fn_level_Levels_Put_S1 [a0, a1, a2] R h = s_level_Levels_Put_S1 prog w0 a0 a1 a2 R h := by
    kernel_rfl
  exact acalls_of_eq (fn := fn_level_Levels_Put_S1) (ks := ks_level_Levels_Put_S1) (n := 9) (by kernel_rfl) (by kernel_rfl) (draw_ok (by kernel_rfl)) (by simp) hj e hv

abbrev fn_level_Levels_Delete_S1 : Func := f39
def ks_level_Levels_Delete_S1 : List (Nat × List Nat × List Nat) := []
def s_level_Levels_Delete_S1 (P : Program) (w0 : World) (a0 a1 : Value) (R : Kont) : Hp → Prop :=
 loadA w0 a1 fun v5_1 =>
 callA P w0 n_run_Mem_Delete [a0, v5_1] fun v6_2 =>
 retA [v6_2] R
theorem c_level_Levels_Delete_S1 {w0 : World} {h : Hp} {R : Kont} {a0 a1 : Value} (hj : ∀ v, v ∈ [a0, a1] → v ≠ junk) (hv : s_level_Levels_Delete_S1 prog w0 a0 a1 R h) : ACalls prog w0 n_level_Levels_Delete_S1 [a0, a1] h R := by
  have e : vcFn ⟨prog, w0, 7, ks_level_Levels_Delete_S1⟩ (drw w0 7) fn_level_Levels_Delete_S1 [a0, a1] R h = s_level_Levels_Delete_S1 prog w0 a0 a1 R h := by
    kernel_rfl
  exact acalls_of_eq (fn := fn_level_Levels_Delete_S1) (ks := ks_level_Levels_Delete_S1) (n := 7) (by kernel_rfl) (by kernel_rfl) (draw_ok (by kernel_rfl)) (by simp) hj e hv

abbrev fn_level_Levels_made : Func := f41
def ks_level_Levels_made : List (Nat × List Nat × List Nat) := []
def s_level_Levels_made (P : Program) (w0 : World) (a0 : Value) (R : Kont) : Hp → Prop :=
 pureA (binPtrA .neq a0 (.pointer none)) fun v4_1 =>
 guardA v4_1 true (fun K => K a0) fun v6_2 =>
 guardA v4_1 true (nilA v6_2) fun v7_3 =>
 guardA v4_1 true (addA v7_3 3) fun v8_4 =>
 guardA v4_1 true (loadA w0 v8_4) fun v9_5 =>
 guardA v4_1 true (pureA (binPtrA .neq v9_5 (.pointer none))) fun v10_6 =>
 pickA v4_1 v10_6 (.bool false) fun v11_7 =>
 retA [v11_7] R
theorem c_level_Levels_made {w0 : World} {h : Hp} {R : Kont} {a0 : Value} (hj : ∀ v, v ∈ [a0] → v ≠ junk) (hv : s_level_Levels_made prog w0 a0 R h) : ACalls prog w0 n_level_Levels_made [a0] h R := by
  have e : vcFn ⟨prog, w0, 12, ks_level_Levels_made⟩ (drw w0 12) fn_level_Levels_made [a0] R h = s_level_Levels_made prog w0 a0 R h := by
    kernel_rfl
  exact acalls_of_eq (fn := fn_level_Levels_made) (ks := ks_level_Levels_made) (n := 12) (by kernel_rfl) (by kernel_rfl) (draw_ok (by kernel_rfl)) (by simp) hj e hv

abbrev fn_level_built : Func := f45
def ks_level_built : List (Nat × List Nat × List Nat) := []
def s_level_built (P : Program) (w0 : World) (a0 a1 : Value) (R : Kont) : Hp → Prop :=
 callA P w0 n_run_Build [a0, a1] fun v12_1 =>
 pureA (extA v12_1 0) fun v13_2 =>
 pureA (extA v12_1 1) fun v14_3 =>
 callA P w0 n_run_Open [v13_2] fun v17_4 =>
 pureA (extA v17_4 0) fun v18_5 =>
 pureA (extA v17_4 1) fun v19_6 =>
 retA [v18_5] R
theorem c_level_built {w0 : World} {h : Hp} {R : Kont} {a0 a1 : Value} (hj : ∀ v, v ∈ [a0, a1] → v ≠ junk) (hv : s_level_built prog w0 a0 a1 R h) : ACalls prog w0 n_level_built [a0, a1] h R := by
  have e : vcFn ⟨prog, w0, 21, ks_level_built⟩ (drw w0 21) fn_level_built [a0, a1] R h = s_level_built prog w0 a0 a1 R h := by
    kernel_rfl
  exact acalls_of_eq (fn := fn_level_built) (ks := ks_level_built) (n := 21) (by kernel_rfl) (by kernel_rfl) (draw_ok (by kernel_rfl)) (by simp) hj e hv

abbrev fn_level_Levels_full : Func := f49
def ks_level_Levels_full : List (Nat × List Nat × List Nat) := [(2, [0, 2, 3, 9, 10], [2, 3])]
def level_Levels_full_B1 (P : Program) (w0 : World) (R : Value → Value → Value → Value → Value → Hp → Prop) (k0 : Value → Value → Hp → Prop) (kr : Value → Value → Hp → Prop) (x0 x2 x3 x9 x10 : Value) : Hp → Prop :=
 pureA (binA .lss x10 (.int .i64 16)) fun v11_4 =>
 condA v11_4 (
 pureA (arIdxA false 16 1 x9 x10) fun v13_5 =>
 pureA (lenSl v13_5) fun v15_6 =>
 nilA x0 fun v17_7 =>
 addA v17_7 0 fun v18_8 =>
 addA v18_8 1 fun v19_9 =>
 loadA w0 v19_9 fun v20_10 =>
 pureA (binA .geq v15_6 v20_10) fun v21_11 =>
 condA v21_11 (
 kr x10 (.bool true)) (
 pureA (binA .add x10 (.int .i64 1)) fun v23_12 =>
 R x0 x2 x3 x9 v23_12)) (
 k0 x2 x3)
def level_Levels_full_L1 (P : Program) (w0 : World) (k0 : Value → Value → Hp → Prop) (kr : Value → Value → Hp → Prop) : Nat → Value → Value → Value → Value → Value → Hp → Prop
  | 0, _, _, _, _, _ => fun _ => False
  | m + 1, x0, x2, x3, x9, x10 => level_Levels_full_B1 P w0 (level_Levels_full_L1 P w0 k0 kr m) k0 kr x0 x2 x3 x9 x10
def level_Levels_full_E1 (P : Program) (w0 : World) (k0 : Value → Value → Hp → Prop) (kr : Value → Value → Hp → Prop) (x0 x2 x3 x9 x10 : Value) : Hp → Prop := fun h => ∃ m, level_Levels_full_L1 P w0 k0 kr m x0 x2 x3 x9 x10 h
def s_level_Levels_full (P : Program) (w0 : World) (a0 : Value) (R : Kont) : Hp → Prop :=
 nilA a0 fun v7_1 =>
 addA v7_1 4 fun v8_2 =>
 loadNA w0 v8_2 16 fun v9_3 =>
 level_Levels_full_E1 P w0 (fun y2_13 y3_14 =>
 retA [(.int .i64 0), (.bool false)] R) (fun y2_15 y3_16 =>
 retA [y2_15, y3_16] R) a0 (.int .i64 0) (.bool false) v9_3 (.int .i64 0)
theorem level_Levels_full_L1_eq (w0 : World) (k0 : Value → Value → Hp → Prop) (kr : Value → Value → Hp → Prop) : ∀ (m : Nat) (x0 x2 x3 x9 x10 : Value) (h : Hp), loopA (stepL ⟨prog, w0, 24, ks_level_Levels_full⟩ (drw w0 24) (loopAt fn_level_Levels_full 0)) m (mkFr [(0, x0), (2, x2), (3, x3), (9, x9), (10, x10)]) [fun t => k0 (t 2) (t 3), fun t => kr (t 2) (t 3)] h = level_Levels_full_L1 prog w0 k0 kr m x0 x2 x3 x9 x10 h := by
  intro m
  induction m with
  | zero => intros; kernel_rfl
  | succ m ih =>
    intro x0 x2 x3 x9 x10 h
    have e : level_Levels_full_L1 prog w0 k0 kr m = fun x0 x2 x3 x9 x10 h => loopA (stepL ⟨prog, w0, 24, ks_level_Levels_full⟩ (drw w0 24) (loopAt fn_level_Levels_full 0)) m (mkFr [(0, x0), (2, x2), (3, x3), (9, x9), (10, x10)]) [fun t => k0 (t 2) (t 3), fun t => kr (t 2) (t 3)] h := by funext x0 x2 x3 x9 x10 h; exact (ih x0 x2 x3 x9 x10 h).symm
    show _ = level_Levels_full_B1 prog w0 (level_Levels_full_L1 prog w0 k0 kr m) k0 kr x0 x2 x3 x9 x10 h
    rw [e]
    kernel_rfl
theorem level_Levels_full_E1_eq (w0 : World) : level_Levels_full_E1 prog w0 = fun k0 kr x0 x2 x3 x9 x10 h => ∃ m, loopA (stepL ⟨prog, w0, 24, ks_level_Levels_full⟩ (drw w0 24) (loopAt fn_level_Levels_full 0)) m (mkFr [(0, x0), (2, x2), (3, x3), (9, x9), (10, x10)]) [fun t => k0 (t 2) (t 3), fun t => kr (t 2) (t 3)] h := by
  funext k0 kr x0 x2 x3 x9 x10 h
  exact congrArg Exists (funext fun m => (level_Levels_full_L1_eq w0 k0 kr m x0 x2 x3 x9 x10 h).symm)
theorem c_level_Levels_full {w0 : World} {h : Hp} {R : Kont} {a0 : Value} (hj : ∀ v, v ∈ [a0] → v ≠ junk) (hv : s_level_Levels_full prog w0 a0 R h) : ACalls prog w0 n_level_Levels_full [a0] h R := by
  have e : vcFn ⟨prog, w0, 24, ks_level_Levels_full⟩ (drw w0 24) fn_level_Levels_full [a0] R h = s_level_Levels_full prog w0 a0 R h := by
    unfold s_level_Levels_full
    rw [level_Levels_full_E1_eq w0]
    kernel_rfl
  exact acalls_of_eq (fn := fn_level_Levels_full) (ks := ks_level_Levels_full) (n := 24) (by kernel_rfl) (by kernel_rfl) (draw_ok (by kernel_rfl)) (by simp) hj e hv

abbrev fn_level_Levels_Step_S1 : Func := f51
def ks_level_Levels_Step_S1 : List (Nat × List Nat × List Nat) := []
def s_level_Levels_Step_S1 (P : Program) (w0 : World) (a0 : Value) (R : Kont) : Hp → Prop :=
 pureA (lenSl a0) fun v4_1 =>
 pureA (binA .gtr v4_1 (.int .i64 0)) fun v5_2 =>
 retA [v5_2] R
theorem c_level_Levels_Step_S1 {w0 : World} {h : Hp} {R : Kont} {a0 : Value} (hj : ∀ v, v ∈ [a0] → v ≠ junk) (hv : s_level_Levels_Step_S1 prog w0 a0 R h) : ACalls prog w0 n_level_Levels_Step_S1 [a0] h R := by
  have e : vcFn ⟨prog, w0, 6, ks_level_Levels_Step_S1⟩ (drw w0 6) fn_level_Levels_Step_S1 [a0] R h = s_level_Levels_Step_S1 prog w0 a0 R h := by
    kernel_rfl
  exact acalls_of_eq (fn := fn_level_Levels_Step_S1) (ks := ks_level_Levels_Step_S1) (n := 6) (by kernel_rfl) (by kernel_rfl) (draw_ok (by kernel_rfl)) (by simp) hj e hv

abbrev fn_level_Levels_newest : Func := f81
def ks_level_Levels_newest : List (Nat × List Nat × List Nat) := [(5, [1, 4, 5, 28, 29], [4, 5]), (8, [1, 4, 5, 28, 29, 32, 33, 34], [1, 4, 5, 28, 29])]
def level_Levels_newest_B2 (P : Program) (w0 : World) (R : Value → Value → Value → Value → Value → Value → Value → Value → Hp → Prop) (k2 : Value → Value → Value → Value → Value → Hp → Prop) (kr : Value → Value → Value → Value → Value → Hp → Prop) (x1 x4 x5 x28 x29 x32 x33 x34 : Value) : Hp → Prop :=
 pureA (binA .lss x34 x33) fun v35_17 =>
 condA v35_17 (
 idxSlA 1 x32 x34 fun v36_18 =>
 loadA w0 v36_18 fun v37_19 =>
 callA P w0 n_run_Run_Get [v37_19, x1] fun v41_20 =>
 pureA (extA v41_20 0) fun v42_21 =>
 pureA (extA v41_20 1) fun v43_22 =>
 newA [(.string .empty), (.string .empty), (.bool false)] 3 fun v12_23 =>
 storeNA w0 v12_23 v42_21 3 fun _ =>
 condA v43_22 (
 loadNA w0 v12_23 3 fun v45_24 =>
 storeNA w0 x4 v45_24 3 fun _ =>
 kr x1 x4 (.bool true) x28 x29) (
 pureA (binA .add x34 (.int .i64 1)) fun v46_25 =>
 R x1 x4 x5 x28 x29 x32 x33 v46_25)) (
 k2 x1 x4 x5 x28 x29)
def level_Levels_newest_L2 (P : Program) (w0 : World) (k2 : Value → Value → Value → Value → Value → Hp → Prop) (kr : Value → Value → Value → Value → Value → Hp → Prop) : Nat → Value → Value → Value → Value → Value → Value → Value → Value → Hp → Prop
  | 0, _, _, _, _, _, _, _, _ => fun _ => False
  | m + 1, x1, x4, x5, x28, x29, x32, x33, x34 => level_Levels_newest_B2 P w0 (level_Levels_newest_L2 P w0 k2 kr m) k2 kr x1 x4 x5 x28 x29 x32 x33 x34
def level_Levels_newest_E2 (P : Program) (w0 : World) (k2 : Value → Value → Value → Value → Value → Hp → Prop) (kr : Value → Value → Value → Value → Value → Hp → Prop) (x1 x4 x5 x28 x29 x32 x33 x34 : Value) : Hp → Prop := fun h => ∃ m, level_Levels_newest_L2 P w0 k2 kr m x1 x4 x5 x28 x29 x32 x33 x34 h
def level_Levels_newest_B1 (P : Program) (w0 : World) (R : Value → Value → Value → Value → Value → Hp → Prop) (k0 : Value → Value → Hp → Prop) (kr : Value → Value → Hp → Prop) (x1 x4 x5 x28 x29 : Value) : Hp → Prop :=
 pureA (binA .lss x29 (.int .i64 16)) fun v30_14 =>
 condA v30_14 (
 pureA (arIdxA false 16 1 x28 x29) fun v31_15 =>
 pureA (lenSl v31_15) fun v33_16 =>
 level_Levels_newest_E2 P w0 (fun y1_26 y4_27 y5_28 y28_29 y29_30 =>
 pureA (binA .add y29_30 (.int .i64 1)) fun v47_31 =>
 R y1_26 y4_27 y5_28 y28_29 v47_31) (fun y1_32 y4_33 y5_34 y28_35 y29_36 =>
 kr y4_33 y5_34) x1 x4 x5 x28 x29 v31_15 v33_16 (.int .i64 0)) (
 k0 x4 x5)
def level_Levels_newest_L1 (P : Program) (w0 : World) (k0 : Value → Value → Hp → Prop) (kr : Value → Value → Hp → Prop) : Nat → Value → Value → Value → Value → Value → Hp → Prop
  | 0, _, _, _, _, _ => fun _ => False
  | m + 1, x1, x4, x5, x28, x29 => level_Levels_newest_B1 P w0 (level_Levels_newest_L1 P w0 k0 kr m) k0 kr x1 x4 x5 x28 x29
def level_Levels_newest_E1 (P : Program) (w0 : World) (k0 : Value → Value → Hp → Prop) (kr : Value → Value → Hp → Prop) (x1 x4 x5 x28 x29 : Value) : Hp → Prop := fun h => ∃ m, level_Levels_newest_L1 P w0 k0 kr m x1 x4 x5 x28 x29 h
def s_level_Levels_newest (P : Program) (w0 : World) (a0 a1 : Value) (R : Kont) : Hp → Prop :=
 newA [(.string .empty), (.string .empty), (.bool false)] 3 fun v4_1 =>
 nilA a0 fun v16_2 =>
 addA v16_2 3 fun v17_3 =>
 loadA w0 v17_3 fun v18_4 =>
 callA P w0 n_run_Mem_Get [v18_4, a1] fun v20_5 =>
 pureA (extA v20_5 0) fun v21_6 =>
 pureA (extA v20_5 1) fun v22_7 =>
 newA [(.string .empty), (.string .empty), (.bool false)] 3 fun v6_8 =>
 storeNA w0 v6_8 v21_6 3 fun _ =>
 condA v22_7 (
 loadNA w0 v6_8 3 fun v24_9 =>
 storeNA w0 v4_1 v24_9 3 fun _ =>
 loadNA w0 v4_1 3 fun v4_10 =>
 retA [v4_10, (.bool true)] R) (
 nilA a0 fun v26_11 =>
 addA v26_11 4 fun v27_12 =>
 loadNA w0 v27_12 16 fun v28_13 =>
 level_Levels_newest_E1 P w0 (fun y4_37 y5_38 =>
 buildA [] [(.string .empty), (.string .empty), (.bool false)] fun v48_39 =>
 storeNA w0 y4_37 v48_39 3 fun _ =>
 loadNA w0 y4_37 3 fun v4_40 =>
 retA [v4_40, (.bool false)] R) (fun y4_41 y5_42 =>
 loadNA w0 y4_41 3 fun v4_43 =>
 retA [v4_43, y5_42] R) a1 v4_1 (.bool false) v28_13 (.int .i64 0))
theorem level_Levels_newest_L2_eq (w0 : World) (k2 : Value → Value → Value → Value → Value → Hp → Prop) (kr : Value → Value → Value → Value → Value → Hp → Prop) : ∀ (m : Nat) (x1 x4 x5 x28 x29 x32 x33 x34 : Value) (h : Hp), loopA (stepL ⟨prog, w0, 49, ks_level_Levels_newest⟩ (drw w0 49) (loopAt fn_level_Levels_newest 1)) m (mkFr [(1, x1), (4, x4), (5, x5), (28, x28), (29, x29), (32, x32), (33, x33), (34, x34)]) [fun t => k2 (t 1) (t 4) (t 5) (t 28) (t 29), fun t => kr (t 1) (t 4) (t 5) (t 28) (t 29)] h = level_Levels_newest_L2 prog w0 k2 kr m x1 x4 x5 x28 x29 x32 x33 x34 h := by
  intro m
  induction m with
  | zero => intros; kernel_rfl
  | succ m ih =>
    intro x1 x4 x5 x28 x29 x32 x33 x34 h
    have e : level_Levels_newest_L2 prog w0 k2 kr m = fun x1 x4 x5 x28 x29 x32 x33 x34 h => loopA (stepL ⟨prog, w0, 49, ks_level_Levels_newest⟩ (drw w0 49) (loopAt fn_level_Levels_newest 1)) m (mkFr [(1, x1), (4, x4), (5, x5), (28, x28), (29, x29), (32, x32), (33, x33), (34, x34)]) [fun t => k2 (t 1) (t 4) (t 5) (t 28) (t 29), fun t => kr (t 1) (t 4) (t 5) (t 28) (t 29)] h := by funext x1 x4 x5 x28 x29 x32 x33 x34 h; exact (ih x1 x4 x5 x28 x29 x32 x33 x34 h).symm
    show _ = level_Levels_newest_B2 prog w0 (level_Levels_newest_L2 prog w0 k2 kr m) k2 kr x1 x4 x5 x28 x29 x32 x33 x34 h
    rw [e]
    kernel_rfl
theorem level_Levels_newest_E2_eq (w0 : World) : level_Levels_newest_E2 prog w0 = fun k2 kr x1 x4 x5 x28 x29 x32 x33 x34 h => ∃ m, loopA (stepL ⟨prog, w0, 49, ks_level_Levels_newest⟩ (drw w0 49) (loopAt fn_level_Levels_newest 1)) m (mkFr [(1, x1), (4, x4), (5, x5), (28, x28), (29, x29), (32, x32), (33, x33), (34, x34)]) [fun t => k2 (t 1) (t 4) (t 5) (t 28) (t 29), fun t => kr (t 1) (t 4) (t 5) (t 28) (t 29)] h := by
  funext k2 kr x1 x4 x5 x28 x29 x32 x33 x34 h
  exact congrArg Exists (funext fun m => (level_Levels_newest_L2_eq w0 k2 kr m x1 x4 x5 x28 x29 x32 x33 x34 h).symm)
theorem level_Levels_newest_L1_eq (w0 : World) (k0 : Value → Value → Hp → Prop) (kr : Value → Value → Hp → Prop) : ∀ (m : Nat) (x1 x4 x5 x28 x29 : Value) (h : Hp), loopA (stepL ⟨prog, w0, 49, ks_level_Levels_newest⟩ (drw w0 49) (loopAt fn_level_Levels_newest 0)) m (mkFr [(1, x1), (4, x4), (5, x5), (28, x28), (29, x29)]) [fun t => k0 (t 4) (t 5), fun t => kr (t 4) (t 5)] h = level_Levels_newest_L1 prog w0 k0 kr m x1 x4 x5 x28 x29 h := by
  intro m
  induction m with
  | zero => intros; kernel_rfl
  | succ m ih =>
    intro x1 x4 x5 x28 x29 h
    have e : level_Levels_newest_L1 prog w0 k0 kr m = fun x1 x4 x5 x28 x29 h => loopA (stepL ⟨prog, w0, 49, ks_level_Levels_newest⟩ (drw w0 49) (loopAt fn_level_Levels_newest 0)) m (mkFr [(1, x1), (4, x4), (5, x5), (28, x28), (29, x29)]) [fun t => k0 (t 4) (t 5), fun t => kr (t 4) (t 5)] h := by funext x1 x4 x5 x28 x29 h; exact (ih x1 x4 x5 x28 x29 h).symm
    show _ = level_Levels_newest_B1 prog w0 (level_Levels_newest_L1 prog w0 k0 kr m) k0 kr x1 x4 x5 x28 x29 h
    rw [e]
    unfold level_Levels_newest_B1
    rw [level_Levels_newest_E2_eq w0]
    kernel_rfl
theorem level_Levels_newest_E1_eq (w0 : World) : level_Levels_newest_E1 prog w0 = fun k0 kr x1 x4 x5 x28 x29 h => ∃ m, loopA (stepL ⟨prog, w0, 49, ks_level_Levels_newest⟩ (drw w0 49) (loopAt fn_level_Levels_newest 0)) m (mkFr [(1, x1), (4, x4), (5, x5), (28, x28), (29, x29)]) [fun t => k0 (t 4) (t 5), fun t => kr (t 4) (t 5)] h := by
  funext k0 kr x1 x4 x5 x28 x29 h
  exact congrArg Exists (funext fun m => (level_Levels_newest_L1_eq w0 k0 kr m x1 x4 x5 x28 x29 h).symm)
theorem c_level_Levels_newest {w0 : World} {h : Hp} {R : Kont} {a0 a1 : Value} (hj : ∀ v, v ∈ [a0, a1] → v ≠ junk) (hv : s_level_Levels_newest prog w0 a0 a1 R h) : ACalls prog w0 n_level_Levels_newest [a0, a1] h R := by
  have e : vcFn ⟨prog, w0, 49, ks_level_Levels_newest⟩ (drw w0 49) fn_level_Levels_newest [a0, a1] R h = s_level_Levels_newest prog w0 a0 a1 R h := by
    unfold s_level_Levels_newest
    rw [level_Levels_newest_E1_eq w0]
    kernel_rfl
  exact acalls_of_eq (fn := fn_level_Levels_newest) (ks := ks_level_Levels_newest) (n := 49) (by kernel_rfl) (by kernel_rfl) (draw_ok (by kernel_rfl)) (by simp) hj e hv

abbrev fn_level_Levels_Scan_S1 : Func := f82
def ks_level_Levels_Scan_S1 : List (Nat × List Nat × List Nat) := [(2, [0, 13, 14, 15], [])]
def level_Levels_Scan_S1_B1 (P : Program) (w0 : World) (R : Value → Value → Value → Value → Hp → Prop) (k0 : Hp → Prop) (kr : Hp → Prop) (x0 x13 x14 x15 : Value) : Hp → Prop :=
 pureA (binA .lss x15 x14) fun v16_9 =>
 condA v16_9 (
 idxSlA 4 x13 x15 fun v17_10 =>
 loadNA w0 v17_10 4 fun v18_11 =>
 newA [(.string .empty), (.string .empty), (.string .empty), (.bool false)] 4 fun v6_12 =>
 storeNA w0 v6_12 v18_11 4 fun _ =>
 addA v6_12 1 fun v19_13 =>
 addA v19_13 2 fun v20_14 =>
 loadA w0 v20_14 fun v21_15 =>
 pureA (unA .not v21_15) fun v22_16 =>
 guardA v22_16 true (fun K => K x0) fun v24_17 =>
 guardA v22_16 true (addA v6_12 0) fun v25_18 =>
 guardA v22_16 true (loadA w0 v25_18) fun v26_19 =>
 guardA v22_16 true (addA v6_12 1) fun v27_20 =>
 guardA v22_16 true (addA v27_20 1) fun v28_21 =>
 guardA v22_16 true (loadA w0 v28_21) fun v29_22 =>
 guardA v22_16 true (callVA P w0 v24_17 [v26_19, v29_22]) fun v30_23 =>
 guardA v22_16 true (pureA (unA .not v30_23)) fun v31_24 =>
 pickA v22_16 v31_24 (.bool false) fun v32_25 =>
 condA v32_25 (
 kr) (
 pureA (binA .add x15 (.int .i64 1)) fun v33_26 =>
 R x0 x13 x14 v33_26)) (
 k0)
def level_Levels_Scan_S1_L1 (P : Program) (w0 : World) (k0 : Hp → Prop) (kr : Hp → Prop) : Nat → Value → Value → Value → Value → Hp → Prop
  | 0, _, _, _, _ => fun _ => False
  | m + 1, x0, x13, x14, x15 => level_Levels_Scan_S1_B1 P w0 (level_Levels_Scan_S1_L1 P w0 k0 kr m) k0 kr x0 x13 x14 x15
def level_Levels_Scan_S1_E1 (P : Program) (w0 : World) (k0 : Hp → Prop) (kr : Hp → Prop) (x0 x13 x14 x15 : Value) : Hp → Prop := fun h => ∃ m, level_Levels_Scan_S1_L1 P w0 k0 kr m x0 x13 x14 x15 h
def s_level_Levels_Scan_S1 (P : Program) (w0 : World) (a0 a1 a2 a3 : Value) (R : Kont) : Hp → Prop :=
 loadA w0 a1 fun v7_1 =>
 callA P w0 n_level_Levels_made [v7_1] fun v8_2 =>
 pureA (unA .not v8_2) fun v9_3 =>
 condA v9_3 (
 retA [] R) (
 loadA w0 a1 fun v10_4 =>
 loadA w0 a2 fun v11_5 =>
 loadA w0 a3 fun v12_6 =>
 callA P w0 n_level_Levels_all [v10_4, v11_5, v12_6] fun v13_7 =>
 pureA (lenSl v13_7) fun v14_8 =>
 level_Levels_Scan_S1_E1 P w0 (
 retA [] R) (
 retA [] R) a0 v13_7 v14_8 (.int .i64 0))
theorem level_Levels_Scan_S1_L1_eq (w0 : World) (k0 : Hp → Prop) (kr : Hp → Prop) : ∀ (m : Nat) (x0 x13 x14 x15 : Value) (h : Hp), loopA (stepL ⟨prog, w0, 34, ks_level_Levels_Scan_S1⟩ (drw w0 34) (loopAt fn_level_Levels_Scan_S1 0)) m (mkFr [(0, x0), (13, x13), (14, x14), (15, x15)]) [fun t => k0, fun t => kr] h = level_Levels_Scan_S1_L1 prog w0 k0 kr m x0 x13 x14 x15 h := by
  intro m
  induction m with
  | zero => intros; kernel_rfl
  | succ m ih =>
    intro x0 x13 x14 x15 h
    have e : level_Levels_Scan_S1_L1 prog w0 k0 kr m = fun x0 x13 x14 x15 h => loopA (stepL ⟨prog, w0, 34, ks_level_Levels_Scan_S1⟩ (drw w0 34) (loopAt fn_level_Levels_Scan_S1 0)) m (mkFr [(0, x0), (13, x13), (14, x14), (15, x15)]) [fun t => k0, fun t => kr] h := by funext x0 x13 x14 x15 h; exact (ih x0 x13 x14 x15 h).symm
    show _ = level_Levels_Scan_S1_B1 prog w0 (level_Levels_Scan_S1_L1 prog w0 k0 kr m) k0 kr x0 x13 x14 x15 h
    rw [e]
    kernel_rfl
theorem level_Levels_Scan_S1_E1_eq (w0 : World) : level_Levels_Scan_S1_E1 prog w0 = fun k0 kr x0 x13 x14 x15 h => ∃ m, loopA (stepL ⟨prog, w0, 34, ks_level_Levels_Scan_S1⟩ (drw w0 34) (loopAt fn_level_Levels_Scan_S1 0)) m (mkFr [(0, x0), (13, x13), (14, x14), (15, x15)]) [fun t => k0, fun t => kr] h := by
  funext k0 kr x0 x13 x14 x15 h
  exact congrArg Exists (funext fun m => (level_Levels_Scan_S1_L1_eq w0 k0 kr m x0 x13 x14 x15 h).symm)
theorem c_level_Levels_Scan_S1 {w0 : World} {h : Hp} {R : Kont} {a0 a1 a2 a3 : Value} (hj : ∀ v, v ∈ [a0, a1, a2, a3] → v ≠ junk) (hv : s_level_Levels_Scan_S1 prog w0 a0 a1 a2 a3 R h) : ACalls prog w0 n_level_Levels_Scan_S1 [a0, a1, a2, a3] h R := by
  have e : vcFn ⟨prog, w0, 34, ks_level_Levels_Scan_S1⟩ (drw w0 34) fn_level_Levels_Scan_S1 [a0, a1, a2, a3] R h = s_level_Levels_Scan_S1 prog w0 a0 a1 a2 a3 R h := by
    unfold s_level_Levels_Scan_S1
    rw [level_Levels_Scan_S1_E1_eq w0]
    kernel_rfl
  exact acalls_of_eq (fn := fn_level_Levels_Scan_S1) (ks := ks_level_Levels_Scan_S1) (n := 34) (by kernel_rfl) (by kernel_rfl) (draw_ok (by kernel_rfl)) (by simp) hj e hv

abbrev fn_level_may : Func := f88
def ks_level_may : List (Nat × List Nat × List Nat) := []
def s_level_may (P : Program) (w0 : World) (a0 : Value) (R : Kont) : Hp → Prop :=
 boxA true 3 a0 fun v1_1 =>
 addA v1_1 0 fun v3_2 =>
 loadA w0 v3_2 fun v4_3 =>
 pureA (binA .geq v4_3 (.int .i64 256)) fun v5_4 =>
 guardA v5_4 true (addA v1_1 0) fun v7_5 =>
 guardA v5_4 true (loadA w0 v7_5) fun v8_6 =>
 guardA v5_4 true (pureA (binA .leq v8_6 (.int .i64 4096))) fun v9_7 =>
 pickA v5_4 v9_7 (.bool false) fun v10_8 =>
 guardA v10_8 true (addA v1_1 1) fun v12_9 =>
 guardA v10_8 true (loadA w0 v12_9) fun v13_10 =>
 guardA v10_8 true (pureA (binA .geq v13_10 (.int .i64 2))) fun v14_11 =>
 pickA v10_8 v14_11 (.bool false) fun v15_12 =>
 guardA v15_12 true (addA v1_1 1) fun v17_13 =>
 guardA v15_12 true (loadA w0 v17_13) fun v18_14 =>
 guardA v15_12 true (pureA (binA .leq v18_14 (.int .i64 16))) fun v19_15 =>
 pickA v15_12 v19_15 (.bool false) fun v20_16 =>
 guardA v20_16 true (addA v1_1 2) fun v22_17 =>
 guardA v20_16 true (loadA w0 v22_17) fun v23_18 =>
 guardA v20_16 true (pureA (binA .geq v23_18 (.int .i64 1))) fun v24_19 =>
 pickA v20_16 v24_19 (.bool false) fun v25_20 =>
 guardA v25_20 true (addA v1_1 2) fun v27_21 =>
 guardA v25_20 true (loadA w0 v27_21) fun v28_22 =>
 guardA v25_20 true (pureA (binA .leq v28_22 (.int .i64 4096))) fun v29_23 =>
 pickA v25_20 v29_23 (.bool false) fun v30_24 =>
 retA [v30_24] R
theorem c_level_may {w0 : World} {h : Hp} {R : Kont} {a0 : Value} (hj : ∀ v, v ∈ [a0] → v ≠ junk) (hv : s_level_may prog w0 a0 R h) : ACalls prog w0 n_level_may [a0] h R := by
  have e : vcFn ⟨prog, w0, 31, ks_level_may⟩ (drw w0 31) fn_level_may [a0] R h = s_level_may prog w0 a0 R h := by
    kernel_rfl
  exact acalls_of_eq (fn := fn_level_may) (ks := ks_level_may) (n := 31) (by kernel_rfl) (by kernel_rfl) (draw_ok (by kernel_rfl)) (by simp) hj e hv

end
end Go.Proofs.YtfmoemconapmhaaGreat.Ah
