/- PRINTED by wip/tools/shallow.py: functions of the program as readable words, and that each is what its text says. -/
import Derived.Test.YtiakadkooclelaaGn
set_option linter.unusedVariables false
set_option linter.unusedSimpArgs false
namespace Go.Proofs.Ytiakadkooclelaa.Ah
open Go Go.Proofs.Try
noncomputable section

abbrev fn_journal_New : Func := f9
def ks_journal_New : List (Nat × List Nat × List Nat) := []
def s_journal_New (P : Program) (w0 : World) (a0 a1 a2 : Value) (R : Kont) : Hp → Prop :=
 callA P w0 n_journal_sizeRight [a0] fun v9_1 =>
 pureA (unA .not v9_1) fun v10_2 =>
 guardA v10_2 false (fun K => K a1) fun v12_3 =>
 guardA v10_2 false (pureA (binA .lss v12_3 (.int .i64 1))) fun v13_4 =>
 pickA v10_2 (.bool true) v13_4 fun v14_5 =>
 guardA v14_5 false (fun K => K a1) fun v16_6 =>
 guardA v14_5 false (pureA (binA .gtr v16_6 (.int .i64 4096))) fun v17_7 =>
 pickA v14_5 (.bool true) v17_7 fun v18_8 =>
 condA v18_8 (
 retA [(.pointer none), (.int .i64 1)] R) (
 buildA [(0, 1, false, a0), (1, 1, false, a1), (2, 1, false, a2)] [(.int .i64 0), (.int .i64 0), (.int .u64 0), (.slice none 0 0), (.int .i64 0), (.int .i64 0)] fun v22_9 =>
 boxA true 6 v22_9 fun v23_10 =>
 retA [v23_10, (.int .i64 0)] R)
theorem c_journal_New {w0 : World} {h : Hp} {R : Kont} {a0 a1 a2 : Value} (hj : ∀ v, v ∈ [a0, a1, a2] → v ≠ junk) (hv : s_journal_New prog w0 a0 a1 a2 R h) : ACalls prog w0 n_journal_New [a0, a1, a2] h R :=
  c_of fn_journal_New ks_journal_New 24 (by kernel_rfl) (by kernel_rfl) (by simp) hj (by
    kernel_rfl) hv

abbrev fn_journal_Writer_Append : Func := f11
def ks_journal_Writer_Append : List (Nat × List Nat × List Nat) := [(8, [0, 5], [0])]
def journal_Writer_Append_B1 (P : Program) (w0 : World) (R : Value → Value → Hp → Prop) (k1 : Value → Hp → Prop) (x0 x5 : Value) : Hp → Prop :=
 pureA (lenSl x5) fun v29_12 =>
 pureA (binA .gtr v29_12 (.int .i64 0)) fun v30_13 =>
 condA v30_13 (
 nilA x0 fun v32_14 =>
 addA v32_14 3 fun v33_15 =>
 loadA w0 v33_15 fun v34_16 =>
 pureA (lenSl v34_16) fun v35_17 =>
 pureA (binA .sub v35_17 (.int .i64 1)) fun v36_18 =>
 pureQ (fun K => K v36_18) fun v37_19 =>
 pureQ (fun K => K x0) fun v38_20 =>
 pureQ (nilA v38_20) fun v39_21 =>
 pureQ (addA v39_21 4) fun v40_22 =>
 readQ (loadA w0 v40_22) fun v41_23 =>
 pureQ (pureA (binA .lss v37_19 v41_23)) fun v42_24 =>
 pureQ (fun K => K v42_24) fun v43_25 =>
 pureQ (guardA v43_25 false (fun K => K x0)) fun v44_26 =>
 pureQ (guardA v43_25 false (nilA v44_26)) fun v45_27 =>
 pureQ (guardA v43_25 false (addA v45_27 3)) fun v46_28 =>
 readQ (guardA v43_25 false (loadA w0 v46_28)) fun v47_29 =>
 pureQ (guardA v43_25 false (fun K => K v36_18)) fun v48_30 =>
 pureQ (guardA v43_25 false (idxSlA 1 v47_29 v48_30)) fun v49_31 =>
 readQ (guardA v43_25 false (loadA w0 v49_31)) fun v50_32 =>
 pureQ (guardA v43_25 false (pureA (lenSl v50_32))) fun v51_33 =>
 pureQ (guardA v43_25 false (fun K => K x0)) fun v52_34 =>
 allA [
 (guardA v43_25 false (callA P w0 n_journal_Writer_room [v52_34]) fun v53_35 =>
 stillA [(sameQ (guardA v43_25 false (loadA w0 v49_31)) v50_32), (sameQ (guardA v43_25 false (loadA w0 v46_28)) v47_29)] (
 pureQ (guardA v43_25 false (pureA (binA .eql v51_33 v53_35))) fun v54_36 =>
 pureQ (pickA v43_25 (.bool true) v54_36) fun v55_37 =>
 endA (
 condA v55_37 (
 nilA x0 fun v58_38 =>
 addA v58_38 3 fun v59_39 =>
 loadA w0 v59_39 fun v60_40 =>
 bslA [(0, 1, false, (.slice none 0 0))] (zerosL [(.slice none 0 0)] 1) 1 1 fun v61_41 =>
 appA w0 1 24 v60_40 v61_41 fun v62_42 =>
 nilA x0 fun v63_43 =>
 addA v63_43 3 fun v64_44 =>
 storeA w0 v64_44 v62_42 fun _ =>
 R x0 x5) (
 pureQ (fun K => K x5) fun v65_45 =>
 pureQ (pureA (lenSl v65_45)) fun v66_46 =>
 pureQ (fun K => K x0) fun v67_47 =>
 pureQ (fun K => K x0) fun v69_48 =>
 pureQ (nilA v69_48) fun v70_49 =>
 pureQ (addA v70_49 3) fun v71_50 =>
 readQ (loadA w0 v71_50) fun v72_51 =>
 pureQ (fun K => K v36_18) fun v73_52 =>
 pureQ (idxSlA 1 v72_51 v73_52) fun v74_53 =>
 readQ (loadA w0 v74_53) fun v75_54 =>
 pureQ (pureA (lenSl v75_54)) fun v76_55 =>
 allA [
 (callA P w0 n_journal_Writer_room [v67_47] fun v68_56 =>
 stillA [(sameQ (loadA w0 v74_53) v75_54), (sameQ (loadA w0 v71_50) v72_51)] (
 pureQ (pureA (binA .sub v68_56 v76_55)) fun v77_57 =>
 pureQ (pureA (foldA min2A v66_46 [v77_57])) fun v78_58 =>
 pureQ (fun K => K v78_58) fun v7_59 =>
 endA (
 pureQ (fun K => K x0) fun v79_60 =>
 pureQ (nilA v79_60) fun v80_61 =>
 pureQ (addA v80_61 3) fun v81_62 =>
 readQ (loadA w0 v81_62) fun v82_63 =>
 pureQ (fun K => K v36_18) fun v83_64 =>
 pureQ (fun K => K x0) fun v84_65 =>
 pureQ (nilA v84_65) fun v85_66 =>
 pureQ (addA v85_66 3) fun v86_67 =>
 readQ (loadA w0 v86_67) fun v87_68 =>
 pureQ (fun K => K v36_18) fun v88_69 =>
 pureQ (idxSlA 1 v87_68 v88_69) fun v89_70 =>
 readQ (loadA w0 v89_70) fun v90_71 =>
 pureQ (fun K => K x5) fun v91_72 =>
 pureQ (fun K => K v7_59) fun v92_73 =>
 pureQ (fun K => K v7_59) fun v93_74 =>
 readQ (slSlA 1 v91_72 none (some v92_73) (some v93_74)) fun v94_75 =>
 allA [
 (appA w0 1 1 v90_71 v94_75 fun v95_76 =>
 stillA [(sameQ (loadA w0 v81_62) v82_63)] (
 pureQ (idxSlA 1 v82_63 v83_64) fun v96_77 =>
 allA [
 (storeA w0 v96_77 v95_76 fun _ =>
 stillA [] (
 endA (
 slSlA 1 x5 (some v7_59) none none fun v99_78 =>
 R x0 v99_78)))]))])))]))))]) (
 k1 x0)
def journal_Writer_Append_L1 (P : Program) (w0 : World) (k1 : Value → Hp → Prop) : Nat → Value → Value → Hp → Prop
  | 0, _, _ => fun _ => False
  | m + 1, x0, x5 => journal_Writer_Append_B1 P w0 (journal_Writer_Append_L1 P w0 k1 m) k1 x0 x5
def journal_Writer_Append_E1 (P : Program) (w0 : World) (k1 : Value → Hp → Prop) (x0 x5 : Value) : Hp → Prop := fun h => ∃ m, journal_Writer_Append_L1 P w0 k1 m x0 x5 h
def s_journal_Writer_Append (P : Program) (w0 : World) (a0 a1 : Value) (R : Kont) : Hp → Prop :=
 callA P w0 n_journal_Writer_made [a0] fun v10_1 =>
 pureA (unA .not v10_1) fun v11_2 =>
 condA v11_2 (
 retA [(.int .i64 6)] R) (
 pureA (lenStr a1) fun v14_3 =>
 pureA (binA .gtr v14_3 (.int .i64 65536)) fun v15_4 =>
 condA v15_4 (
 retA [(.int .i64 3)] R) (
 pureA (lenStr a1) fun v18_5 =>
 pureA (binA .add v18_5 (.int .i64 4)) fun v19_6 =>
 callA P w0 n_journal_Writer_free [a0] fun v21_7 =>
 pureA (binA .gtr v19_6 v21_7) fun v22_8 =>
 condA v22_8 (
 retA [(.int .i64 2)] R) (
 pureA (lenStr a1) fun v24_9 =>
 callA P w0 n_journal_number [v24_9] fun v25_10 =>
 appA w0 1 1 v25_10 a1 fun v27_11 =>
 journal_Writer_Append_E1 P w0 (fun y0_79 =>
 nilA y0_79 fun v101_80 =>
 addA v101_80 5 fun v102_81 =>
 loadA w0 v102_81 fun v103_82 =>
 pureA (binA .add v103_82 (.int .i64 1)) fun v104_83 =>
 nilA y0_79 fun v105_84 =>
 addA v105_84 5 fun v106_85 =>
 storeA w0 v106_85 v104_83 fun _ =>
 retA [(.int .i64 0)] R) a0 v27_11)))
def journal_Writer_Append_F1 (w0 : World) (k1 : Value → Hp → Prop) (m : Nat) (x0 x5 : Value) : Hp → Prop := loopA (stepL ⟨prog, w0, 107, ks_journal_Writer_Append⟩ (drw w0 107) (loopAt fn_journal_Writer_Append 0)) m (mkFr [(0, x0), (5, x5)]) [fun t => k1 (t 0)]
theorem journal_Writer_Append_L1_eq (w0 : World) (k1 : Value → Hp → Prop) : ∀ m, journal_Writer_Append_F1 w0 k1 m = journal_Writer_Append_L1 prog w0 k1 m := by
  intro m
  induction m with
  | zero => kernel_rfl
  | succ m ih =>
    show _ = fun x0 x5 => journal_Writer_Append_B1 prog w0 (journal_Writer_Append_L1 prog w0 k1 m) k1 x0 x5
    rw [← ih]
    kernel_rfl
theorem journal_Writer_Append_E1_eq (w0 : World) : journal_Writer_Append_E1 prog w0 = fun k1 x0 x5 h => ∃ m, journal_Writer_Append_F1 w0 k1 m x0 x5 h := by
  funext k1 x0 x5 h
  simp only [journal_Writer_Append_L1_eq]
  rfl
theorem c_journal_Writer_Append {w0 : World} {h : Hp} {R : Kont} {a0 a1 : Value} (hj : ∀ v, v ∈ [a0, a1] → v ≠ junk) (hv : s_journal_Writer_Append prog w0 a0 a1 R h) : ACalls prog w0 n_journal_Writer_Append [a0, a1] h R :=
  c_of fn_journal_Writer_Append ks_journal_Writer_Append 107 (by kernel_rfl) (by kernel_rfl) (by simp) hj (by
    unfold s_journal_Writer_Append
    rw [journal_Writer_Append_E1_eq w0]
    kernel_rfl) hv

abbrev fn_journal_Writer_Take : Func := f16
def ks_journal_Writer_Take : List (Nat × List Nat × List Nat) := [(5, [0, 3, 18, 19, 20], [0, 3])]
def journal_Writer_Take_B1 (P : Program) (w0 : World) (R : Value → Value → Value → Value → Value → Hp → Prop) (k0 : Value → Value → Hp → Prop) (x0 x3 x18 x19 x20 : Value) : Hp → Prop :=
 pureA (binA .lss x20 x19) fun v21_14 =>
 condA v21_14 (
 idxSlA 1 x18 x20 fun v23_15 =>
 loadA w0 v23_15 fun v24_16 =>
 nilA x0 fun v26_17 =>
 addA v26_17 4 fun v27_18 =>
 loadA w0 v27_18 fun v28_19 =>
 pureA (binA .add v28_19 x20) fun v30_20 =>
 pureQ (fun K => K x3) fun v31_21 =>
 pureQ (fun K => K v30_20) fun v32_22 =>
 pureQ (fun K => K x0) fun v33_23 =>
 pureQ (nilA v33_23) fun v34_24 =>
 pureQ (addA v34_24 0) fun v35_25 =>
 readQ (loadA w0 v35_25) fun v36_26 =>
 pureQ (fun K => K x0) fun v37_27 =>
 pureQ (nilA v37_27) fun v38_28 =>
 pureQ (addA v38_28 2) fun v39_29 =>
 readQ (loadA w0 v39_29) fun v40_30 =>
 pureQ (fun K => K v30_20) fun v41_31 =>
 pureQ (fun K => K v24_16) fun v42_32 =>
 allA [
 (callA P w0 n_journal_sector [v36_26, v40_30, v41_31, v42_32] fun v43_33 =>
 stillA [] (
 allA [
 (buildA [(0, 1, false, v32_22), (1, 1, false, v43_33)] [(.int .i64 0), (.slice none 0 0)] fun v44_34 =>
 stillA [] (
 allA [
 (bslA [(0, 2, true, v44_34)] (zerosL [(.int .i64 0), (.slice none 0 0)] 1) 1 2 fun v45_35 =>
 stillA [] (
 allA [
 (appA w0 2 32 v31_21 v45_35 fun v46_36 =>
 stillA [] (
 pureQ (fun K => K v46_36) fun v3_37 =>
 endA (
 pureA (binA .add x20 (.int .i64 1)) fun v47_38 =>
 R x0 v3_37 x18 x19 v47_38)))]))]))]))]) (
 k0 x0 x3)
def journal_Writer_Take_L1 (P : Program) (w0 : World) (k0 : Value → Value → Hp → Prop) : Nat → Value → Value → Value → Value → Value → Hp → Prop
  | 0, _, _, _, _, _ => fun _ => False
  | m + 1, x0, x3, x18, x19, x20 => journal_Writer_Take_B1 P w0 (journal_Writer_Take_L1 P w0 k0 m) k0 x0 x3 x18 x19 x20
def journal_Writer_Take_E1 (P : Program) (w0 : World) (k0 : Value → Value → Hp → Prop) (x0 x3 x18 x19 x20 : Value) : Hp → Prop := fun h => ∃ m, journal_Writer_Take_L1 P w0 k0 m x0 x3 x18 x19 x20 h
def s_journal_Writer_Take (P : Program) (w0 : World) (a0 : Value) (R : Kont) : Hp → Prop :=
 callA P w0 n_journal_Writer_made [a0] fun v8_1 =>
 pureA (unA .not v8_1) fun v9_2 =>
 condA v9_2 (
 retA [(.slice none 0 0)] R) (
 pureQ (fun K => K a0) fun v10_3 =>
 pureQ (nilA v10_3) fun v11_4 =>
 pureQ (addA v11_4 3) fun v12_5 =>
 readQ (loadA w0 v12_5) fun v13_6 =>
 pureQ (fun K => K a0) fun v14_7 =>
 pureQ (nilA v14_7) fun v15_8 =>
 pureQ (addA v15_8 4) fun v16_9 =>
 readQ (loadA w0 v16_9) fun v17_10 =>
 readQ (slSlA 1 v13_6 (some v17_10) none none) fun v18_11 =>
 pureQ (pureA (lenSl v18_11)) fun v19_12 =>
 pureQ (fun K => K (.int .i64 0)) fun v20_13 =>
 endA (
 journal_Writer_Take_E1 P w0 (fun y0_39 y3_40 =>
 nilA y0_39 fun v50_41 =>
 addA v50_41 3 fun v51_42 =>
 loadA w0 v51_42 fun v52_43 =>
 pureA (lenSl v52_43) fun v53_44 =>
 nilA y0_39 fun v54_45 =>
 addA v54_45 4 fun v55_46 =>
 storeA w0 v55_46 v53_44 fun _ =>
 retA [y3_40] R) a0 (.slice none 0 0) v18_11 v19_12 v20_13))
def journal_Writer_Take_F1 (w0 : World) (k0 : Value → Value → Hp → Prop) (m : Nat) (x0 x3 x18 x19 x20 : Value) : Hp → Prop := loopA (stepL ⟨prog, w0, 57, ks_journal_Writer_Take⟩ (drw w0 57) (loopAt fn_journal_Writer_Take 0)) m (mkFr [(0, x0), (3, x3), (18, x18), (19, x19), (20, x20)]) [fun t => k0 (t 0) (t 3)]
theorem journal_Writer_Take_L1_eq (w0 : World) (k0 : Value → Value → Hp → Prop) : ∀ m, journal_Writer_Take_F1 w0 k0 m = journal_Writer_Take_L1 prog w0 k0 m := by
  intro m
  induction m with
  | zero => kernel_rfl
  | succ m ih =>
    show _ = fun x0 x3 x18 x19 x20 => journal_Writer_Take_B1 prog w0 (journal_Writer_Take_L1 prog w0 k0 m) k0 x0 x3 x18 x19 x20
    rw [← ih]
    kernel_rfl
theorem journal_Writer_Take_E1_eq (w0 : World) : journal_Writer_Take_E1 prog w0 = fun k0 x0 x3 x18 x19 x20 h => ∃ m, journal_Writer_Take_F1 w0 k0 m x0 x3 x18 x19 x20 h := by
  funext k0 x0 x3 x18 x19 x20 h
  simp only [journal_Writer_Take_L1_eq]
  rfl
theorem c_journal_Writer_Take {w0 : World} {h : Hp} {R : Kont} {a0 : Value} (hj : ∀ v, v ∈ [a0] → v ≠ junk) (hv : s_journal_Writer_Take prog w0 a0 R h) : ACalls prog w0 n_journal_Writer_Take [a0] h R :=
  c_of fn_journal_Writer_Take ks_journal_Writer_Take 57 (by kernel_rfl) (by kernel_rfl) (by simp) hj (by
    unfold s_journal_Writer_Take
    rw [journal_Writer_Take_E1_eq w0]
    kernel_rfl) hv

abbrev fn_journal_Writer_Left : Func := f18
def ks_journal_Writer_Left : List (Nat × List Nat × List Nat) := []
def s_journal_Writer_Left (P : Program) (w0 : World) (a0 : Value) (R : Kont) : Hp → Prop :=
 callA P w0 n_journal_Writer_made [a0] fun v4_1 =>
 pureA (unA .not v4_1) fun v5_2 =>
 condA v5_2 (
 retA [(.int .i64 0)] R) (
 callA P w0 n_journal_Writer_free [a0] fun v7_3 =>
 pureA (binA .sub v7_3 (.int .i64 4)) fun v8_4 =>
 pureA (foldA max2A (.int .i64 0) [v8_4]) fun v9_5 =>
 retA [v9_5] R)
theorem c_journal_Writer_Left {w0 : World} {h : Hp} {R : Kont} {a0 : Value} (hj : ∀ v, v ∈ [a0] → v ≠ junk) (hv : s_journal_Writer_Left prog w0 a0 R h) : ACalls prog w0 n_journal_Writer_Left [a0] h R :=
  c_of fn_journal_Writer_Left ks_journal_Writer_Left 10 (by kernel_rfl) (by kernel_rfl) (by simp) hj (by
    kernel_rfl) hv

abbrev fn_journal_Scan : Func := f22
def ks_journal_Scan : List (Nat × List Nat × List Nat) := [(5, [8, 11], [11])]
def journal_Scan_B1 (P : Program) (w0 : World) (R : Value → Value → Hp → Prop) (k0 : Value → Hp → Prop) (x8 x11 : Value) : Hp → Prop :=
 pureA (lenSl x8) fun v25_6 =>
 pureA (binA .geq v25_6 (.int .i64 4)) fun v26_7 =>
 condA v26_7 (
 slSlA 1 x8 none (some (.int .i64 4)) none fun v28_8 =>
 b2sA w0 v28_8 fun v29_9 =>
 callA P w0 n_codec_NewReader [v29_9] fun v30_10 =>
 callA P w0 n_codec_Reader_U32 [v30_10] fun v31_11 =>
 pureA (convA .i64 v31_11) fun v32_12 =>
 pureA (binA .gtr v32_12 (.int .i64 65536)) fun v34_13 =>
 guardA v34_13 false (fun K => K v32_12) fun v36_14 =>
 guardA v34_13 false (fun K => K x8) fun v37_15 =>
 guardA v34_13 false (pureA (lenSl v37_15)) fun v38_16 =>
 guardA v34_13 false (pureA (binA .sub v38_16 (.int .i64 4))) fun v39_17 =>
 guardA v34_13 false (pureA (binA .gtr v36_14 v39_17)) fun v40_18 =>
 pickA v34_13 (.bool true) v40_18 fun v41_19 =>
 condA v41_19 (
 k0 x11) (
 pureA (binA .add (.int .i64 4) v32_12) fun v45_20 =>
 slSlA 1 x8 (some (.int .i64 4)) (some v45_20) none fun v46_21 =>
 b2sA w0 v46_21 fun v47_22 =>
 bslA [(0, 1, false, v47_22)] (zerosL [(.string .empty)] 1) 1 1 fun v48_23 =>
 appA w0 1 16 x11 v48_23 fun v49_24 =>
 pureA (binA .add (.int .i64 4) v32_12) fun v52_25 =>
 slSlA 1 x8 (some v52_25) none none fun v53_26 =>
 R v53_26 v49_24)) (
 k0 x11)
def journal_Scan_L1 (P : Program) (w0 : World) (k0 : Value → Hp → Prop) : Nat → Value → Value → Hp → Prop
  | 0, _, _ => fun _ => False
  | m + 1, x8, x11 => journal_Scan_B1 P w0 (journal_Scan_L1 P w0 k0 m) k0 x8 x11
def journal_Scan_E1 (P : Program) (w0 : World) (k0 : Value → Hp → Prop) (x8 x11 : Value) : Hp → Prop := fun h => ∃ m, journal_Scan_L1 P w0 k0 m x8 x11 h
def s_journal_Scan (P : Program) (w0 : World) (a0 a1 a2 : Value) (R : Kont) : Hp → Prop :=
 callA P w0 n_journal_stream [a0, a1, a2] fun v17_1 =>
 pureA (extA v17_1 0) fun v18_2 =>
 pureA (extA v17_1 1) fun v19_3 =>
 pureA (extA v17_1 2) fun v20_4 =>
 pureA (binA .neq v20_4 (.int .i64 0)) fun v22_5 =>
 condA v22_5 (
 retA [(.slice none 0 0), v20_4] R) (
 journal_Scan_E1 P w0 (fun y11_27 =>
 retA [y11_27, (.int .i64 0)] R) v18_2 (.slice none 0 0))
def journal_Scan_F1 (w0 : World) (k0 : Value → Hp → Prop) (m : Nat) (x8 x11 : Value) : Hp → Prop := loopA (stepL ⟨prog, w0, 55, ks_journal_Scan⟩ (drw w0 55) (loopAt fn_journal_Scan 0)) m (mkFr [(8, x8), (11, x11)]) [fun t => k0 (t 11)]
theorem journal_Scan_L1_eq (w0 : World) (k0 : Value → Hp → Prop) : ∀ m, journal_Scan_F1 w0 k0 m = journal_Scan_L1 prog w0 k0 m := by
  intro m
  induction m with
  | zero => kernel_rfl
  | succ m ih =>
    show _ = fun x8 x11 => journal_Scan_B1 prog w0 (journal_Scan_L1 prog w0 k0 m) k0 x8 x11
    rw [← ih]
    kernel_rfl
theorem journal_Scan_E1_eq (w0 : World) : journal_Scan_E1 prog w0 = fun k0 x8 x11 h => ∃ m, journal_Scan_F1 w0 k0 m x8 x11 h := by
  funext k0 x8 x11 h
  simp only [journal_Scan_L1_eq]
  rfl
theorem c_journal_Scan {w0 : World} {h : Hp} {R : Kont} {a0 a1 a2 : Value} (hj : ∀ v, v ∈ [a0, a1, a2] → v ≠ junk) (hv : s_journal_Scan prog w0 a0 a1 a2 R h) : ACalls prog w0 n_journal_Scan [a0, a1, a2] h R :=
  c_of fn_journal_Scan ks_journal_Scan 55 (by kernel_rfl) (by kernel_rfl) (by simp) hj (by
    unfold s_journal_Scan
    rw [journal_Scan_E1_eq w0]
    kernel_rfl) hv

abbrev fn_journal_sizeRight : Func := f28
def ks_journal_sizeRight : List (Nat × List Nat × List Nat) := []
def s_journal_sizeRight (P : Program) (w0 : World) (a0 : Value) (R : Kont) : Hp → Prop :=
 pureA (binA .geq a0 (.int .i64 512)) fun v4_1 =>
 guardA v4_1 true (fun K => K a0) fun v6_2 =>
 guardA v4_1 true (pureA (binA .leq v6_2 (.int .i64 4096))) fun v7_3 =>
 pickA v4_1 v7_3 (.bool false) fun v8_4 =>
 guardA v8_4 true (fun K => K a0) fun v10_5 =>
 guardA v8_4 true (fun K => K a0) fun v11_6 =>
 guardA v8_4 true (pureA (binA .sub v11_6 (.int .i64 1))) fun v12_7 =>
 guardA v8_4 true (pureA (binA .and v10_5 v12_7)) fun v13_8 =>
 guardA v8_4 true (pureA (binA .eql v13_8 (.int .i64 0))) fun v14_9 =>
 pickA v8_4 v14_9 (.bool false) fun v15_10 =>
 retA [v15_10] R
theorem c_journal_sizeRight {w0 : World} {h : Hp} {R : Kont} {a0 : Value} (hj : ∀ v, v ∈ [a0] → v ≠ junk) (hv : s_journal_sizeRight prog w0 a0 R h) : ACalls prog w0 n_journal_sizeRight [a0] h R :=
  c_of fn_journal_sizeRight ks_journal_sizeRight 16 (by kernel_rfl) (by kernel_rfl) (by simp) hj (by
    kernel_rfl) hv

abbrev fn_journal_Writer_made : Func := f30
def ks_journal_Writer_made : List (Nat × List Nat × List Nat) := []
def s_journal_Writer_made (P : Program) (w0 : World) (a0 : Value) (R : Kont) : Hp → Prop :=
 pureA (binPtrA .neq a0 (.pointer none)) fun v4_1 =>
 guardA v4_1 true (fun K => K a0) fun v6_2 =>
 guardA v4_1 true (nilA v6_2) fun v7_3 =>
 guardA v4_1 true (addA v7_3 0) fun v8_4 =>
 guardA v4_1 true (loadA w0 v8_4) fun v9_5 =>
 guardA v4_1 true (pureA (binA .gtr v9_5 (.int .i64 0))) fun v10_6 =>
 pickA v4_1 v10_6 (.bool false) fun v11_7 =>
 retA [v11_7] R
theorem c_journal_Writer_made {w0 : World} {h : Hp} {R : Kont} {a0 : Value} (hj : ∀ v, v ∈ [a0] → v ≠ junk) (hv : s_journal_Writer_made prog w0 a0 R h) : ACalls prog w0 n_journal_Writer_made [a0] h R :=
  c_of fn_journal_Writer_made ks_journal_Writer_made 12 (by kernel_rfl) (by kernel_rfl) (by simp) hj (by
    kernel_rfl) hv

abbrev fn_journal_Writer_free : Func := f31
def ks_journal_Writer_free : List (Nat × List Nat × List Nat) := [(3, [3, 26, 27, 28], [3])]
def journal_Writer_free_B1 (P : Program) (w0 : World) (R : Value → Value → Value → Value → Hp → Prop) (k0 : Value → Hp → Prop) (x3 x26 x27 x28 : Value) : Hp → Prop :=
 pureA (binA .lss x28 x27) fun v29_25 =>
 condA v29_25 (
 idxSlA 1 x26 x28 fun v30_26 =>
 loadA w0 v30_26 fun v31_27 =>
 pureA (lenSl v31_27) fun v34_28 =>
 pureA (binA .sub x3 v34_28) fun v35_29 =>
 pureA (binA .add x28 (.int .i64 1)) fun v36_30 =>
 R v35_29 x26 x27 v36_30) (
 k0 x3)
def journal_Writer_free_L1 (P : Program) (w0 : World) (k0 : Value → Hp → Prop) : Nat → Value → Value → Value → Value → Hp → Prop
  | 0, _, _, _, _ => fun _ => False
  | m + 1, x3, x26, x27, x28 => journal_Writer_free_B1 P w0 (journal_Writer_free_L1 P w0 k0 m) k0 x3 x26 x27 x28
def journal_Writer_free_E1 (P : Program) (w0 : World) (k0 : Value → Hp → Prop) (x3 x26 x27 x28 : Value) : Hp → Prop := fun h => ∃ m, journal_Writer_free_L1 P w0 k0 m x3 x26 x27 x28 h
def s_journal_Writer_free (P : Program) (w0 : World) (a0 : Value) (R : Kont) : Hp → Prop :=
 pureQ (fun K => K a0) fun v6_1 =>
 pureQ (nilA v6_1) fun v7_2 =>
 pureQ (addA v7_2 1) fun v8_3 =>
 readQ (loadA w0 v8_3) fun v9_4 =>
 pureQ (fun K => K a0) fun v10_5 =>
 pureQ (nilA v10_5) fun v11_6 =>
 pureQ (addA v11_6 4) fun v12_7 =>
 readQ (loadA w0 v12_7) fun v13_8 =>
 pureQ (pureA (binA .sub v9_4 v13_8)) fun v14_9 =>
 pureQ (fun K => K a0) fun v15_10 =>
 allA [
 (callA P w0 n_journal_Writer_room [v15_10] fun v16_11 =>
 stillA [(sameQ (loadA w0 v12_7) v13_8), (sameQ (loadA w0 v8_3) v9_4)] (
 pureQ (pureA (binA .mul v14_9 v16_11)) fun v17_12 =>
 pureQ (fun K => K v17_12) fun v3_13 =>
 endA (
 pureQ (fun K => K a0) fun v18_14 =>
 pureQ (nilA v18_14) fun v19_15 =>
 pureQ (addA v19_15 3) fun v20_16 =>
 readQ (loadA w0 v20_16) fun v21_17 =>
 pureQ (fun K => K a0) fun v22_18 =>
 pureQ (nilA v22_18) fun v23_19 =>
 pureQ (addA v23_19 4) fun v24_20 =>
 readQ (loadA w0 v24_20) fun v25_21 =>
 readQ (slSlA 1 v21_17 (some v25_21) none none) fun v26_22 =>
 pureQ (pureA (lenSl v26_22)) fun v27_23 =>
 pureQ (fun K => K (.int .i64 0)) fun v28_24 =>
 endA (
 journal_Writer_free_E1 P w0 (fun y3_31 =>
 retA [y3_31] R) v3_13 v26_22 v27_23 v28_24))))]
def journal_Writer_free_F1 (w0 : World) (k0 : Value → Hp → Prop) (m : Nat) (x3 x26 x27 x28 : Value) : Hp → Prop := loopA (stepL ⟨prog, w0, 38, ks_journal_Writer_free⟩ (drw w0 38) (loopAt fn_journal_Writer_free 0)) m (mkFr [(3, x3), (26, x26), (27, x27), (28, x28)]) [fun t => k0 (t 3)]
theorem journal_Writer_free_L1_eq (w0 : World) (k0 : Value → Hp → Prop) : ∀ m, journal_Writer_free_F1 w0 k0 m = journal_Writer_free_L1 prog w0 k0 m := by
  intro m
  induction m with
  | zero => kernel_rfl
  | succ m ih =>
    show _ = fun x3 x26 x27 x28 => journal_Writer_free_B1 prog w0 (journal_Writer_free_L1 prog w0 k0 m) k0 x3 x26 x27 x28
    rw [← ih]
    kernel_rfl
theorem journal_Writer_free_E1_eq (w0 : World) : journal_Writer_free_E1 prog w0 = fun k0 x3 x26 x27 x28 h => ∃ m, journal_Writer_free_F1 w0 k0 m x3 x26 x27 x28 h := by
  funext k0 x3 x26 x27 x28 h
  simp only [journal_Writer_free_L1_eq]
  rfl
theorem c_journal_Writer_free {w0 : World} {h : Hp} {R : Kont} {a0 : Value} (hj : ∀ v, v ∈ [a0] → v ≠ junk) (hv : s_journal_Writer_free prog w0 a0 R h) : ACalls prog w0 n_journal_Writer_free [a0] h R :=
  c_of fn_journal_Writer_free ks_journal_Writer_free 38 (by kernel_rfl) (by kernel_rfl) (by simp) hj (by
    unfold s_journal_Writer_free
    rw [journal_Writer_free_E1_eq w0]
    kernel_rfl) hv

abbrev fn_journal_number : Func := f32
def ks_journal_number : List (Nat × List Nat × List Nat) := []
def s_journal_number (P : Program) (w0 : World) (a0 : Value) (R : Kont) : Hp → Prop :=
 pureA (binA .shr a0 (.int .u64 24)) fun v4_1 =>
 pureA (convA .u8 v4_1) fun v5_2 =>
 pureA (binA .shr a0 (.int .u64 16)) fun v7_3 =>
 pureA (convA .u8 v7_3) fun v8_4 =>
 pureA (binA .shr a0 (.int .u64 8)) fun v10_5 =>
 pureA (convA .u8 v10_5) fun v11_6 =>
 pureA (convA .u8 a0) fun v13_7 =>
 bslA [(0, 1, false, v5_2), (1, 1, false, v8_4), (2, 1, false, v11_6), (3, 1, false, v13_7)] (zerosL [(.int .u8 0)] 4) 4 1 fun v14_8 =>
 retA [v14_8] R
theorem c_journal_number {w0 : World} {h : Hp} {R : Kont} {a0 : Value} (hj : ∀ v, v ∈ [a0] → v ≠ junk) (hv : s_journal_number prog w0 a0 R h) : ACalls prog w0 n_journal_number [a0] h R :=
  c_of fn_journal_number ks_journal_number 15 (by kernel_rfl) (by kernel_rfl) (by simp) hj (by
    kernel_rfl) hv

abbrev fn_journal_Writer_room : Func := f33
def ks_journal_Writer_room : List (Nat × List Nat × List Nat) := []
def s_journal_Writer_room (P : Program) (w0 : World) (a0 : Value) (R : Kont) : Hp → Prop :=
 nilA a0 fun v4_1 =>
 addA v4_1 0 fun v5_2 =>
 loadA w0 v5_2 fun v6_3 =>
 pureA (binA .sub v6_3 (.int .i64 24)) fun v7_4 =>
 retA [v7_4] R
theorem c_journal_Writer_room {w0 : World} {h : Hp} {R : Kont} {a0 : Value} (hj : ∀ v, v ∈ [a0] → v ≠ junk) (hv : s_journal_Writer_room prog w0 a0 R h) : ACalls prog w0 n_journal_Writer_room [a0] h R :=
  c_of fn_journal_Writer_room ks_journal_Writer_room 8 (by kernel_rfl) (by kernel_rfl) (by simp) hj (by
    kernel_rfl) hv

abbrev fn_journal_sector : Func := f37
def ks_journal_sector : List (Nat × List Nat × List Nat) := []
def s_journal_sector (P : Program) (w0 : World) (a0 a1 a2 a3 : Value) (R : Kont) : Hp → Prop :=
 callA P w0 n_codec_NewWriter [a0] fun v16_1 =>
 callA P w0 n_codec_Writer_Raw [v16_1, (.string ⟨#[68, 74, 82, 78]⟩)] fun v18_2 =>
 callA P w0 n_codec_Writer_U64 [v16_1, a1] fun v21_3 =>
 pureA (convA .u32 a2) fun v24_4 =>
 callA P w0 n_codec_Writer_U32 [v16_1, v24_4] fun v25_5 =>
 pureA (lenSl a3) fun v28_6 =>
 pureA (convA .u32 v28_6) fun v29_7 =>
 callA P w0 n_codec_Writer_U32 [v16_1, v29_7] fun v30_8 =>
 callA P w0 n_codec_Writer_Done [v16_1] fun v33_9 =>
 pureA (extA v33_9 0) fun v34_10 =>
 pureA (extA v33_9 1) fun v35_11 =>
 pureA (binA .sub a0 (.int .i64 24)) fun v37_12 =>
 mkA 1 1 [(.int .u8 0)] v37_12 v37_12 fun v38_13 =>
 copyA w0 1 v38_13 a3 fun v41_14 =>
 b2sA w0 v38_13 fun v45_15 =>
 pureA (binA .add v34_10 v45_15) fun v46_16 =>
 callA P w0 n_codec_Crc [v46_16] fun v47_17 =>
 callA P w0 n_codec_Writer_U32 [v16_1, v47_17] fun v48_18 =>
 b2sA w0 v38_13 fun v51_19 =>
 callA P w0 n_codec_Writer_Raw [v16_1, v51_19] fun v52_20 =>
 callA P w0 n_codec_Writer_Done [v16_1] fun v55_21 =>
 pureA (extA v55_21 0) fun v56_22 =>
 pureA (extA v55_21 1) fun v57_23 =>
 s2bA v56_22 fun v59_24 =>
 retA [v59_24] R
theorem c_journal_sector {w0 : World} {h : Hp} {R : Kont} {a0 a1 a2 a3 : Value} (hj : ∀ v, v ∈ [a0, a1, a2, a3] → v ≠ junk) (hv : s_journal_sector prog w0 a0 a1 a2 a3 R h) : ACalls prog w0 n_journal_sector [a0, a1, a2, a3] h R :=
  c_of fn_journal_sector ks_journal_sector 60 (by kernel_rfl) (by kernel_rfl) (by simp) hj (by
    kernel_rfl) hv

abbrev fn_journal_stream : Func := f39
def ks_journal_stream : List (Nat × List Nat × List Nat) := []
def journal_stream_R1 (P : Program) (w0 : World) (b : Nat) (g : Lp) (K : Kont) (x3 x4 x9 x10 y40 : Value) : Hp → Prop :=
 beginA b g (
 loadA w0 x3 fun v42_27 =>
 loadA w0 x4 fun v43_28 =>
 loadA w0 x10 fun v44_29 =>
 callA P w0 n_journal_used [v42_27, v43_28, v44_29, y40] fun v46_30 =>
 pureA (extA v46_30 0) fun v47_31 =>
 pureA (extA v46_30 1) fun v48_32 =>
 pureA (unA .not v48_32) fun v50_33 =>
 condA v50_33 (
 endR b g (some (some 0)) K) (
 loadA w0 x9 fun v51_34 =>
 appA w0 1 1 v51_34 v47_31 fun v53_35 =>
 storeA w0 x9 v53_35 fun _ =>
 loadA w0 x10 fun v54_36 =>
 pureA (binA .add v54_36 (.int .i64 1)) fun v55_37 =>
 storeA w0 x10 v55_37 fun _ =>
 endR b g none K))
def s_journal_stream (P : Program) (w0 : World) (a0 a1 a2 : Value) (R : Kont) : Hp → Prop :=
 fun h0 => (boxA false 1 a0 fun v3_1 =>
 boxA false 1 a1 fun v4_2 =>
 loadA w0 v3_1 fun v14_3 =>
 callA P w0 n_journal_sizeRight [v14_3] fun v15_4 =>
 pureA (unA .not v15_4) fun v16_5 =>
 guardA v16_5 false (fun K => K a2) fun v18_6 =>
 guardA v16_5 false (pureA (lenSl v18_6)) fun v19_7 =>
 guardA v16_5 false (loadA w0 v3_1) fun v20_8 =>
 guardA v16_5 false (pureA (binA .rem v19_7 v20_8)) fun v21_9 =>
 guardA v16_5 false (pureA (binA .neq v21_9 (.int .i64 0))) fun v22_10 =>
 pickA v16_5 (.bool true) v22_10 fun v23_11 =>
 guardA v23_11 false (fun K => K a2) fun v25_12 =>
 guardA v23_11 false (pureA (lenSl v25_12)) fun v26_13 =>
 guardA v23_11 false (loadA w0 v3_1) fun v27_14 =>
 guardA v23_11 false (pureA (binA .lss v26_13 v27_14)) fun v28_15 =>
 pickA v23_11 (.bool true) v28_15 fun v29_16 =>
 guardA v29_16 false (fun K => K a2) fun v31_17 =>
 guardA v29_16 false (pureA (lenSl v31_17)) fun v32_18 =>
 guardA v29_16 false (loadA w0 v3_1) fun v33_19 =>
 guardA v29_16 false (pureA (binA .quo v32_18 v33_19)) fun v34_20 =>
 guardA v29_16 false (pureA (binA .gtr v34_20 (.int .i64 4096))) fun v35_21 =>
 pickA v29_16 (.bool true) v35_21 fun v36_22 =>
 condA v36_22 (
 cutA h0 (
 retA [(.slice none 0 0), (.int .i64 0), (.int .i64 1)] R)) (
 newA [(.slice none 0 0)] 1 fun v9_23 =>
 newA [(.int .i64 0)] 1 fun v10_24 =>
 storeA w0 v10_24 (.int .i64 0) fun _ =>
 loadA w0 v3_1 fun v38_25 =>
 callA P w0 n_slices_Chunk_lbyte_byte [a2, v38_25] fun v39_26 =>
 rangeA P w0 v39_26 1 (fun b g args K => journal_stream_R1 P w0 b g K v3_1 v4_2 v9_23 v10_24 (args.getD 0 undef)) (
 readQ (loadA w0 v9_23) fun v56_43 =>
 readQ (loadA w0 v10_24) fun v57_44 =>
 pureQ (fun K => K v56_43) fun v6_45 =>
 pureQ (fun K => K v57_44) fun v7_46 =>
 pureQ (fun K => K (.int .i64 0)) fun v8_47 =>
 endA (
 cutA h0 (
 retA [v6_45, v7_46, v8_47] R))) [(some 0, (
 readQ (loadA w0 v9_23) fun v56_38 =>
 readQ (loadA w0 v10_24) fun v57_39 =>
 pureQ (fun K => K v56_38) fun v6_40 =>
 pureQ (fun K => K v57_39) fun v7_41 =>
 pureQ (fun K => K (.int .i64 0)) fun v8_42 =>
 endA (
 cutA h0 (
 retA [v6_40, v7_41, v8_42] R))))])) h0
theorem c_journal_stream {w0 : World} {h : Hp} {R : Kont} {a0 a1 a2 : Value} (hj : ∀ v, v ∈ [a0, a1, a2] → v ≠ junk) (hv : s_journal_stream prog w0 a0 a1 a2 R h) : ACalls prog w0 n_journal_stream [a0, a1, a2] h R :=
  c_ofM fn_journal_stream ks_journal_stream 58 (by kernel_rfl) (by kernel_rfl) (by simp) hj (by
    kernel_rfl) hv

abbrev fn_journal_used : Func := f52
def ks_journal_used : List (Nat × List Nat × List Nat) := []
def s_journal_used (P : Program) (w0 : World) (a0 a1 a2 a3 : Value) (R : Kont) : Hp → Prop :=
 slSlA 1 a3 (some (.int .i64 16)) (some (.int .i64 20)) none fun v14_1 =>
 b2sA w0 v14_1 fun v15_2 =>
 callA P w0 n_codec_NewReader [v15_2] fun v16_3 =>
 callA P w0 n_codec_Reader_U32 [v16_3] fun v18_4 =>
 pureA (convA .i64 v18_4) fun v19_5 =>
 pureA (binA .sub a0 (.int .i64 24)) fun v22_6 =>
 pureA (binA .gtr v19_5 v22_6) fun v23_7 =>
 condA v23_7 (
 retA [(.slice none 0 0), (.bool false)] R) (
 pureA (binA .add (.int .i64 24) v19_5) fun v26_8 =>
 slSlA 1 a3 (some (.int .i64 24)) (some v26_8) none fun v27_9 =>
 callA P w0 n_journal_sector [a0, a1, a2, v27_9] fun v34_10 =>
 callA P w0 n_slices_Equal_lbyte_byte [a3, v34_10] fun v35_11 =>
 retA [v27_9, v35_11] R)
theorem c_journal_used {w0 : World} {h : Hp} {R : Kont} {a0 a1 a2 a3 : Value} (hj : ∀ v, v ∈ [a0, a1, a2, a3] → v ≠ junk) (hv : s_journal_used prog w0 a0 a1 a2 a3 R h) : ACalls prog w0 n_journal_used [a0, a1, a2, a3] h R :=
  c_of fn_journal_used ks_journal_used 36 (by kernel_rfl) (by kernel_rfl) (by simp) hj (by
    kernel_rfl) hv

end
end Go.Proofs.Ytiakadkooclelaa.Ah
