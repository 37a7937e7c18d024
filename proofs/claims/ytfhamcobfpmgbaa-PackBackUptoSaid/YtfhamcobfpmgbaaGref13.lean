/- PRINTED by wip/tools/shallow.py: functions of the program as readable words, and that each is what its text says. -/
import Derived.Test.YtfhamcobfpmgbaaGn
set_option linter.unusedVariables false
set_option linter.unusedSimpArgs false
namespace Go.Proofs.Ytfhamcobfpmgbaa.Ah
open Go Go.Proofs.Try
noncomputable section

abbrev fn_dedupref13_Chunk : Func := f10
def ks_dedupref13_Chunk : List (Nat × List Nat × List Nat) := []
def s_dedupref13_Chunk (P : Program) (w0 : World) (a0 a1 : Value) (R : Kont) : Hp → Prop :=
 boxA true 2 a1 fun v3_1 =>
 addA v3_1 0 fun v8_2 =>
 loadA w0 v8_2 fun v9_3 =>
 pureA (binA .lss v9_3 (.int .i64 8)) fun v10_4 =>
 guardA v10_4 false (addA v3_1 0) fun v12_5 =>
 guardA v10_4 false (loadA w0 v12_5) fun v13_6 =>
 guardA v10_4 false (fun K => K a0) fun v14_7 =>
 guardA v10_4 false (pureA (lenSl v14_7)) fun v15_8 =>
 guardA v10_4 false (pureA (binA .gtr v13_6 v15_8)) fun v16_9 =>
 pickA v10_4 (.bool true) v16_9 fun v17_10 =>
 guardA v17_10 false (addA v3_1 1) fun v19_11 =>
 guardA v17_10 false (loadA w0 v19_11) fun v20_12 =>
 guardA v17_10 false (pureA (binA .lss v20_12 (.int .i64 1))) fun v21_13 =>
 pickA v17_10 (.bool true) v21_13 fun v22_14 =>
 guardA v22_14 false (addA v3_1 1) fun v24_15 =>
 guardA v22_14 false (loadA w0 v24_15) fun v25_16 =>
 guardA v22_14 false (fun K => K a0) fun v26_17 =>
 guardA v22_14 false (pureA (lenSl v26_17)) fun v27_18 =>
 guardA v22_14 false (addA v3_1 0) fun v28_19 =>
 guardA v22_14 false (loadA w0 v28_19) fun v29_20 =>
 guardA v22_14 false (pureA (binA .sub v27_18 v29_20)) fun v30_21 =>
 guardA v22_14 false (pureA (binA .gtr v25_16 v30_21)) fun v31_22 =>
 pickA v22_14 (.bool true) v31_22 fun v32_23 =>
 condA v32_23 (
 retA [(.slice none 0 0), (.int .i64 130)] R) (
 addA v3_1 0 fun v35_24 =>
 loadA w0 v35_24 fun v36_25 =>
 pureA (binA .sub v36_25 (.int .i64 8)) fun v37_26 =>
 pureA (lenSl a0) fun v39_27 =>
 callA P w0 n_dedupref13_slot [a0, v37_26, v39_27] fun v40_28 =>
 pureA (extA v40_28 0) fun v41_29 =>
 pureA (extA v40_28 1) fun v42_30 =>
 pureA (unA .not v42_30) fun v44_31 =>
 guardA v44_31 false (fun K => K v41_29) fun v46_32 =>
 guardA v44_31 false (addA v3_1 1) fun v47_33 =>
 guardA v44_31 false (loadA w0 v47_33) fun v48_34 =>
 guardA v44_31 false (pureA (binA .neq v46_32 v48_34)) fun v49_35 =>
 pickA v44_31 (.bool true) v49_35 fun v50_36 =>
 condA v50_36 (
 retA [(.slice none 0 0), (.int .i64 130)] R) (
 bslA [] (zerosL [(.int .u8 0)] 0) 0 1 fun v51_37 =>
 addA v3_1 0 fun v53_38 =>
 loadA w0 v53_38 fun v54_39 =>
 addA v3_1 0 fun v55_40 =>
 loadA w0 v55_40 fun v56_41 =>
 addA v3_1 1 fun v57_42 =>
 loadA w0 v57_42 fun v58_43 =>
 pureA (binA .add v56_41 v58_43) fun v59_44 =>
 slSlA 1 a0 (some v54_39) (some v59_44) none fun v60_45 =>
 appA w0 1 1 v51_37 v60_45 fun v61_46 =>
 retA [v61_46, (.int .i64 0)] R))
theorem c_dedupref13_Chunk {w0 : World} {h : Hp} {R : Kont} {a0 a1 : Value} (hj : ∀ v, v ∈ [a0, a1] → v ≠ junk) (hv : s_dedupref13_Chunk prog w0 a0 a1 R h) : ACalls prog w0 n_dedupref13_Chunk [a0, a1] h R := by
  have e : vcFn ⟨prog, w0, 62, ks_dedupref13_Chunk⟩ (drw w0 62) fn_dedupref13_Chunk [a0, a1] R h = s_dedupref13_Chunk prog w0 a0 a1 R h := by
    kernel_rfl
  exact acalls_of_eq (fn := fn_dedupref13_Chunk) (ks := ks_dedupref13_Chunk) (n := 62) (by kernel_rfl) (by kernel_rfl) (draw_ok (by kernel_rfl)) (by simp) hj e hv

abbrev fn_dedupref13_Scan : Func := f14
def ks_dedupref13_Scan : List (Nat × List Nat × List Nat) := [(7, [2, 10, 11, 12], [2, 10, 11, 12])]
def dedupref13_Scan_B1 (P : Program) (w0 : World) (R : Value → Value → Value → Value → Hp → Prop) (k0 : Value → Value → Value → Value → Hp → Prop) (x2 x10 x11 x12 : Value) : Hp → Prop :=
 callA P w0 n_dedupref13_slot [x2, x11, x12] fun v62_39 =>
 pureA (extA v62_39 0) fun v63_40 =>
 pureA (extA v62_39 1) fun v64_41 =>
 pureA (unA .not v64_41) fun v66_42 =>
 condA v66_42 (
 k0 x2 x10 x11 x12) (
 pureA (binA .add x11 (.int .i64 8)) fun v69_43 =>
 buildA [(0, 1, false, v69_43), (1, 1, false, v63_40)] [(.int .i64 0), (.int .i64 0)] fun v71_44 =>
 bslA [(0, 2, true, v71_44)] (zerosL [(.int .i64 0), (.int .i64 0)] 1) 1 2 fun v72_45 =>
 appA w0 2 16 x10 v72_45 fun v73_46 =>
 pureA (binA .add x11 (.int .i64 8)) fun v75_47 =>
 pureA (binA .add v75_47 v63_40) fun v77_48 =>
 R x2 v73_46 v77_48 x12)
def dedupref13_Scan_L1 (P : Program) (w0 : World) (k0 : Value → Value → Value → Value → Hp → Prop) : Nat → Value → Value → Value → Value → Hp → Prop
  | 0, _, _, _, _ => fun _ => False
  | m + 1, x2, x10, x11, x12 => dedupref13_Scan_B1 P w0 (dedupref13_Scan_L1 P w0 k0 m) k0 x2 x10 x11 x12
def dedupref13_Scan_E1 (P : Program) (w0 : World) (k0 : Value → Value → Value → Value → Hp → Prop) (x2 x10 x11 x12 : Value) : Hp → Prop := fun h => ∃ m, dedupref13_Scan_L1 P w0 k0 m x2 x10 x11 x12 h
def s_dedupref13_Scan (P : Program) (w0 : World) (a0 a1 a2 : Value) (R : Kont) : Hp → Prop :=
 callA P w0 n_dedupref13_power [a0] fun v16_1 =>
 pureA (unA .not v16_1) fun v17_2 =>
 guardA v17_2 false (fun K => K a1) fun v19_3 =>
 guardA v17_2 false (pureA (binA .lss v19_3 (.int .i64 1))) fun v20_4 =>
 pickA v17_2 (.bool true) v20_4 fun v21_5 =>
 guardA v21_5 false (fun K => K a1) fun v23_6 =>
 guardA v21_5 false (pureA (binA .gtr v23_6 (.int .i64 64))) fun v24_7 =>
 pickA v21_5 (.bool true) v24_7 fun v25_8 =>
 guardA v25_8 false (fun K => K a2) fun v27_9 =>
 guardA v25_8 false (pureA (lenSl v27_9)) fun v28_10 =>
 guardA v25_8 false (fun K => K a0) fun v29_11 =>
 guardA v25_8 false (fun K => K a1) fun v30_12 =>
 guardA v25_8 false (pureA (binA .mul v29_11 v30_12)) fun v31_13 =>
 guardA v25_8 false (pureA (binA .neq v28_10 v31_13)) fun v32_14 =>
 pickA v25_8 (.bool true) v32_14 fun v33_15 =>
 condA v33_15 (
 retA [(.int .u32 0), (.slice none 0 0), (.bool false), (.int .i64 1)] R) (
 pureQ (fun K => K a2) fun v34_16 =>
 readQ (slSlA 1 v34_16 none (some (.int .i64 4)) none) fun v35_17 =>
 readQ (b2sA w0 v35_17) fun v36_18 =>
 pureQ (pureA (binA .neq v36_18 (.string ⟨#[68, 80, 65, 75]⟩))) fun v37_19 =>
 pureQ (fun K => K v37_19) fun v38_20 =>
 pureQ (guardA v38_20 false (fun K => K a2)) fun v39_21 =>
 readQ (guardA v38_20 false (slSlA 1 v39_21 (some (.int .i64 8)) (some (.int .i64 12)) none)) fun v40_22 =>
 pureQ (guardA v38_20 false (fun K => K a1)) fun v42_23 =>
 allA [
 (guardA v38_20 false (callA P w0 n_dedupref13_number [v40_22]) fun v41_24 =>
 stillA [] (
 pureQ (guardA v38_20 false (pureA (binA .neq v41_24 v42_23))) fun v43_25 =>
 pureQ (pickA v38_20 (.bool true) v43_25) fun v44_26 =>
 pureQ (fun K => K v44_26) fun v45_27 =>
 pureQ (guardA v45_27 false (fun K => K a2)) fun v46_28 =>
 readQ (guardA v45_27 false (slSlA 1 v46_28 none (some (.int .i64 12)) none)) fun v47_29 =>
 pureQ (guardA v45_27 false (fun K => K a2)) fun v50_30 =>
 readQ (guardA v45_27 false (slSlA 1 v50_30 (some (.int .i64 12)) (some (.int .i64 16)) none)) fun v51_31 =>
 readQ (guardA v45_27 false (b2sA w0 v51_31)) fun v52_32 =>
 allA [
 (guardA v45_27 false (callA P w0 n_dedupref13_sum [v47_29]) fun v48_33 =>
 stillA [(sameQ (guardA v45_27 false (b2sA w0 v51_31)) v52_32), (sameQ (guardA v45_27 false (slSlA 1 v50_30 (some (.int .i64 12)) (some (.int .i64 16)) none)) v51_31)] (
 readQ (guardA v45_27 false (b2sA w0 v48_33)) fun v49_34 =>
 pureQ (guardA v45_27 false (pureA (binA .neq v49_34 v52_32))) fun v53_35 =>
 pureQ (pickA v45_27 (.bool true) v53_35) fun v54_36 =>
 endA (
 condA v54_36 (
 retA [(.int .u32 0), (.slice none 0 0), (.bool false), (.int .i64 130)] R) (
 pureA (lenSl a2) fun v56_37 =>
 pureA (binA .sub v56_37 (.int .i64 16)) fun v57_38 =>
 dedupref13_Scan_E1 P w0 (fun y2_49 y10_50 y11_51 y12_52 =>
 pureQ (fun K => K y2_49) fun v78_53 =>
 readQ (slSlA 1 v78_53 (some (.int .i64 4)) (some (.int .i64 8)) none) fun v79_54 =>
 pureQ (fun K => K y10_50) fun v82_55 =>
 pureQ (fun K => K y2_49) fun v83_56 =>
 pureQ (fun K => K y12_52) fun v84_57 =>
 readQ (slSlA 1 v83_56 (some v84_57) none none) fun v85_58 =>
 readQ (b2sA w0 v85_58) fun v86_59 =>
 pureQ (fun K => K y10_50) fun v87_60 =>
 pureQ (pureA (lenSl v87_60)) fun v88_61 =>
 pureQ (fun K => K y11_51) fun v89_62 =>
 allA [
 (callA P w0 n_dedupref13_number [v79_54] fun v80_63 =>
 stillA [(sameQ (b2sA w0 v85_58) v86_59), (sameQ (slSlA 1 v83_56 (some v84_57) none none) v85_58)] (
 pureQ (pureA (convA .u32 v80_63)) fun v81_64 =>
 allA [
 (callA P w0 n_dedupref13_foot [v88_61, v89_62] fun v90_65 =>
 stillA [(sameQ (b2sA w0 v85_58) v86_59), (sameQ (slSlA 1 v83_56 (some v84_57) none none) v85_58)] (
 readQ (b2sA w0 v90_65) fun v91_66 =>
 pureQ (pureA (binA .eql v86_59 v91_66)) fun v92_67 =>
 pureQ (fun K => K v81_64) fun v6_68 =>
 pureQ (fun K => K v82_55) fun v7_69 =>
 pureQ (fun K => K v92_67) fun v8_70 =>
 pureQ (fun K => K (.int .i64 0)) fun v9_71 =>
 endA (
 retA [v6_68, v7_69, v8_70, v9_71] R)))]))]) a2 (.slice none 0 0) (.int .i64 16) v57_38))))]))])
theorem dedupref13_Scan_L1_eq (w0 : World) (k0 : Value → Value → Value → Value → Hp → Prop) : ∀ (m : Nat) (x2 x10 x11 x12 : Value) (h : Hp), loopA (stepL ⟨prog, w0, 93, ks_dedupref13_Scan⟩ (drw w0 93) (loopAt fn_dedupref13_Scan 0)) m (mkFr [(2, x2), (10, x10), (11, x11), (12, x12)]) [fun t => k0 (t 2) (t 10) (t 11) (t 12)] h = dedupref13_Scan_L1 prog w0 k0 m x2 x10 x11 x12 h := by
  intro m
  induction m with
  | zero => intros; kernel_rfl
  | succ m ih =>
    intro x2 x10 x11 x12 h
    have e : dedupref13_Scan_L1 prog w0 k0 m = fun x2 x10 x11 x12 h => loopA (stepL ⟨prog, w0, 93, ks_dedupref13_Scan⟩ (drw w0 93) (loopAt fn_dedupref13_Scan 0)) m (mkFr [(2, x2), (10, x10), (11, x11), (12, x12)]) [fun t => k0 (t 2) (t 10) (t 11) (t 12)] h := by funext x2 x10 x11 x12 h; exact (ih x2 x10 x11 x12 h).symm
    show _ = dedupref13_Scan_B1 prog w0 (dedupref13_Scan_L1 prog w0 k0 m) k0 x2 x10 x11 x12 h
    rw [e]
    kernel_rfl
theorem dedupref13_Scan_E1_eq (w0 : World) : dedupref13_Scan_E1 prog w0 = fun k0 x2 x10 x11 x12 h => ∃ m, loopA (stepL ⟨prog, w0, 93, ks_dedupref13_Scan⟩ (drw w0 93) (loopAt fn_dedupref13_Scan 0)) m (mkFr [(2, x2), (10, x10), (11, x11), (12, x12)]) [fun t => k0 (t 2) (t 10) (t 11) (t 12)] h := by
  funext k0 x2 x10 x11 x12 h
  exact congrArg Exists (funext fun m => (dedupref13_Scan_L1_eq w0 k0 m x2 x10 x11 x12 h).symm)
theorem c_dedupref13_Scan {w0 : World} {h : Hp} {R : Kont} {a0 a1 a2 : Value} (hj : ∀ v, v ∈ [a0, a1, a2] → v ≠ junk) (hv : s_dedupref13_Scan prog w0 a0 a1 a2 R h) : ACalls prog w0 n_dedupref13_Scan [a0, a1, a2] h R := by
  have e : vcFn ⟨prog, w0, 93, ks_dedupref13_Scan⟩ (drw w0 93) fn_dedupref13_Scan [a0, a1, a2] R h = s_dedupref13_Scan prog w0 a0 a1 a2 R h := by
    unfold s_dedupref13_Scan
    rw [dedupref13_Scan_E1_eq w0]
    kernel_rfl
  exact acalls_of_eq (fn := fn_dedupref13_Scan) (ks := ks_dedupref13_Scan) (n := 93) (by kernel_rfl) (by kernel_rfl) (draw_ok (by kernel_rfl)) (by simp) hj e hv

abbrev fn_dedupref13_New : Func := f17
def ks_dedupref13_New : List (Nat × List Nat × List Nat) := []
def s_dedupref13_New (P : Program) (w0 : World) (a0 a1 a2 : Value) (R : Kont) : Hp → Prop :=
 callA P w0 n_dedupref13_power [a0] fun v9_1 =>
 pureA (unA .not v9_1) fun v10_2 =>
 guardA v10_2 false (fun K => K a1) fun v12_3 =>
 guardA v10_2 false (pureA (binA .lss v12_3 (.int .i64 1))) fun v13_4 =>
 pickA v10_2 (.bool true) v13_4 fun v14_5 =>
 guardA v14_5 false (fun K => K a1) fun v16_6 =>
 guardA v14_5 false (pureA (binA .gtr v16_6 (.int .i64 64))) fun v17_7 =>
 pickA v14_5 (.bool true) v17_7 fun v18_8 =>
 condA v18_8 (
 retA [(.pointer none), (.int .i64 1)] R) (
 buildA [(0, 1, false, a0), (1, 1, false, a1), (2, 1, false, a2)] [(.int .i64 0), (.int .i64 0), (.int .u32 0), (.slice none 0 0), (.bool false), (.slice none 0 0), (.int .i64 0), (.bool false)] fun v22_9 =>
 boxA true 8 v22_9 fun v23_10 =>
 retA [v23_10, (.int .i64 0)] R)
theorem c_dedupref13_New {w0 : World} {h : Hp} {R : Kont} {a0 a1 a2 : Value} (hj : ∀ v, v ∈ [a0, a1, a2] → v ≠ junk) (hv : s_dedupref13_New prog w0 a0 a1 a2 R h) : ACalls prog w0 n_dedupref13_New [a0, a1, a2] h R := by
  have e : vcFn ⟨prog, w0, 24, ks_dedupref13_New⟩ (drw w0 24) fn_dedupref13_New [a0, a1, a2] R h = s_dedupref13_New prog w0 a0 a1 a2 R h := by
    kernel_rfl
  exact acalls_of_eq (fn := fn_dedupref13_New) (ks := ks_dedupref13_New) (n := 24) (by kernel_rfl) (by kernel_rfl) (draw_ok (by kernel_rfl)) (by simp) hj e hv

abbrev fn_dedupref13_Pack_Image : Func := f24
def ks_dedupref13_Pack_Image : List (Nat × List Nat × List Nat) := [(4, [0, 3, 4], [0, 3])]
def dedupref13_Pack_Image_B1 (P : Program) (w0 : World) (R : Value → Value → Value → Hp → Prop) (k0 : Value → Value → Hp → Prop) (x0 x3 x4 : Value) : Hp → Prop :=
 nilA x0 fun v29_20 =>
 addA v29_20 3 fun v30_21 =>
 loadA w0 v30_21 fun v31_22 =>
 pureA (lenSl v31_22) fun v32_23 =>
 pureA (binA .lss x4 v32_23) fun v33_24 =>
 condA v33_24 (
 nilA x0 fun v37_25 =>
 addA v37_25 3 fun v38_26 =>
 loadA w0 v38_26 fun v39_27 =>
 idxSlA 1 v39_27 x4 fun v41_28 =>
 loadA w0 v41_28 fun v42_29 =>
 pureA (lenSl v42_29) fun v43_30 =>
 pureA (convA .u64 v43_30) fun v44_31 =>
 callA P w0 n_dedupref13_high [v44_31, (.int .i64 4)] fun v45_32 =>
 appA w0 1 1 x3 v45_32 fun v48_33 =>
 pureQ (fun K => K v48_33) fun v49_34 =>
 pureQ (fun K => K v45_32) fun v51_35 =>
 pureQ (fun K => K x0) fun v53_36 =>
 pureQ (nilA v53_36) fun v54_37 =>
 pureQ (addA v54_37 3) fun v55_38 =>
 readQ (loadA w0 v55_38) fun v56_39 =>
 pureQ (fun K => K x4) fun v57_40 =>
 pureQ (idxSlA 1 v56_39 v57_40) fun v58_41 =>
 readQ (loadA w0 v58_41) fun v59_42 =>
 allA [
 (bslA [] (zerosL [(.int .u8 0)] 0) 0 1 fun v50_43 =>
 stillA [(sameQ (loadA w0 v58_41) v59_42), (sameQ (loadA w0 v55_38) v56_39)] (
 allA [
 (appA w0 1 1 v50_43 v51_35 fun v52_44 =>
 stillA [(sameQ (loadA w0 v58_41) v59_42), (sameQ (loadA w0 v55_38) v56_39)] (
 allA [
 (appA w0 1 1 v52_44 v59_42 fun v60_45 =>
 stillA [] (
 allA [
 (callA P w0 n_dedupref13_sum [v60_45] fun v61_46 =>
 stillA [] (
 allA [
 (appA w0 1 1 v49_34 v61_46 fun v62_47 =>
 stillA [] (
 pureQ (fun K => K v62_47) fun v3_48 =>
 endA (
 nilA x0 fun v65_49 =>
 addA v65_49 3 fun v66_50 =>
 loadA w0 v66_50 fun v67_51 =>
 idxSlA 1 v67_51 x4 fun v69_52 =>
 loadA w0 v69_52 fun v70_53 =>
 appA w0 1 1 v3_48 v70_53 fun v71_54 =>
 pureA (binA .add x4 (.int .i64 1)) fun v35_55 =>
 R x0 v71_54 v35_55)))]))]))]))]))]) (
 k0 x0 x3)
def dedupref13_Pack_Image_L1 (P : Program) (w0 : World) (k0 : Value → Value → Hp → Prop) : Nat → Value → Value → Value → Hp → Prop
  | 0, _, _, _ => fun _ => False
  | m + 1, x0, x3, x4 => dedupref13_Pack_Image_B1 P w0 (dedupref13_Pack_Image_L1 P w0 k0 m) k0 x0 x3 x4
def dedupref13_Pack_Image_E1 (P : Program) (w0 : World) (k0 : Value → Value → Hp → Prop) (x0 x3 x4 : Value) : Hp → Prop := fun h => ∃ m, dedupref13_Pack_Image_L1 P w0 k0 m x0 x3 x4 h
def s_dedupref13_Pack_Image (P : Program) (w0 : World) (a0 : Value) (R : Kont) : Hp → Prop :=
 pureQ (fun K => K a0) fun v9_1 =>
 pureQ (nilA v9_1) fun v10_2 =>
 pureQ (addA v10_2 2) fun v11_3 =>
 readQ (loadA w0 v11_3) fun v12_4 =>
 pureQ (pureA (convA .u64 v12_4)) fun v13_5 =>
 pureQ (fun K => K a0) fun v16_6 =>
 pureQ (nilA v16_6) fun v17_7 =>
 pureQ (addA v17_7 1) fun v18_8 =>
 readQ (loadA w0 v18_8) fun v19_9 =>
 pureQ (pureA (convA .u64 v19_9)) fun v20_10 =>
 allA [
 (bslA [(0, 1, false, (.int .u8 68)), (1, 1, false, (.int .u8 80)), (2, 1, false, (.int .u8 65)), (3, 1, false, (.int .u8 75))] (zerosL [(.int .u8 0)] 4) 4 1 fun v7_11 =>
 stillA [(sameQ (loadA w0 v18_8) v19_9), (sameQ (loadA w0 v11_3) v12_4)] (
 allA [
 (sl2slA w0 v7_11 fun v8_12 =>
 stillA [(sameQ (loadA w0 v18_8) v19_9), (sameQ (loadA w0 v11_3) v12_4)] (
 allA [
 (callA P w0 n_dedupref13_high [v13_5, (.int .i64 4)] fun v14_13 =>
 stillA [(sameQ (loadA w0 v18_8) v19_9)] (
 allA [
 (appA w0 1 1 v8_12 v14_13 fun v15_14 =>
 stillA [(sameQ (loadA w0 v18_8) v19_9)] (
 allA [
 (callA P w0 n_dedupref13_high [v20_10, (.int .i64 4)] fun v21_15 =>
 stillA [] (
 allA [
 (appA w0 1 1 v15_14 v21_15 fun v22_16 =>
 stillA [] (
 pureQ (fun K => K v22_16) fun v3_17 =>
 endA (
 callA P w0 n_dedupref13_sum [v3_17] fun v25_18 =>
 appA w0 1 1 v3_17 v25_18 fun v26_19 =>
 dedupref13_Pack_Image_E1 P w0 (fun y0_56 y3_57 =>
 pureQ (fun K => K y0_56) fun v72_58 =>
 pureQ (nilA v72_58) fun v73_59 =>
 pureQ (addA v73_59 0) fun v74_60 =>
 readQ (loadA w0 v74_60) fun v75_61 =>
 pureQ (fun K => K y0_56) fun v76_62 =>
 pureQ (nilA v76_62) fun v77_63 =>
 pureQ (addA v77_63 1) fun v78_64 =>
 readQ (loadA w0 v78_64) fun v79_65 =>
 pureQ (pureA (binA .mul v75_61 v79_65)) fun v80_66 =>
 allA [
 (mkA 1 1 [(.int .u8 0)] v80_66 v80_66 fun v81_67 =>
 stillA [] (
 pureQ (fun K => K v81_67) fun v6_68 =>
 endA (
 copyA w0 1 v6_68 y3_57 fun v84_69 =>
 nilA y0_56 fun v86_70 =>
 addA v86_70 4 fun v87_71 =>
 loadA w0 v87_71 fun v88_72 =>
 condA v88_72 (
 pureQ (fun K => K v6_68) fun v89_73 =>
 pureQ (fun K => K v6_68) fun v90_74 =>
 pureQ (pureA (lenSl v90_74)) fun v91_75 =>
 pureQ (pureA (binA .sub v91_75 (.int .i64 16))) fun v92_76 =>
 readQ (slSlA 1 v89_73 (some v92_76) none none) fun v93_77 =>
 pureQ (fun K => K y0_56) fun v94_78 =>
 pureQ (nilA v94_78) fun v95_79 =>
 pureQ (addA v95_79 3) fun v96_80 =>
 readQ (loadA w0 v96_80) fun v97_81 =>
 pureQ (pureA (lenSl v97_81)) fun v98_82 =>
 pureQ (fun K => K y0_56) fun v99_83 =>
 allA [
 (callA P w0 n_dedupref13_Pack_end [v99_83] fun v100_84 =>
 stillA [(sameQ (loadA w0 v96_80) v97_81), (sameQ (slSlA 1 v89_73 (some v92_76) none none) v93_77)] (
 allA [
 (callA P w0 n_dedupref13_foot [v98_82, v100_84] fun v101_85 =>
 stillA [(sameQ (slSlA 1 v89_73 (some v92_76) none none) v93_77)] (
 allA [
 (copyA w0 1 v93_77 v101_85 fun v102_86 =>
 stillA [] (
 endA (
 retA [v6_68] R)))]))]))]) (
 retA [v6_68] R))))]) a0 v26_19 (.int .i64 0))))]))]))]))])),
 (callA P w0 n_dedupref13_high [v13_5, (.int .i64 4)] fun v14_87 =>
 stillA [(sameQ (loadA w0 v18_8) v19_9)] (
 allA [
 (sl2slA w0 v7_11 fun v8_88 =>
 stillA [(sameQ (loadA w0 v18_8) v19_9), (sameQ (loadA w0 v11_3) v12_4)] (
 allA [
 (appA w0 1 1 v8_88 v14_87 fun v15_89 =>
 stillA [(sameQ (loadA w0 v18_8) v19_9)] (
 allA [
 (callA P w0 n_dedupref13_high [v20_10, (.int .i64 4)] fun v21_90 =>
 stillA [] (
 allA [
 (appA w0 1 1 v15_89 v21_90 fun v22_91 =>
 stillA [] (
 pureQ (fun K => K v22_91) fun v3_92 =>
 endA (
 callA P w0 n_dedupref13_sum [v3_92] fun v25_93 =>
 appA w0 1 1 v3_92 v25_93 fun v26_94 =>
 dedupref13_Pack_Image_E1 P w0 (fun y0_95 y3_96 =>
 pureQ (fun K => K y0_95) fun v72_97 =>
 pureQ (nilA v72_97) fun v73_98 =>
 pureQ (addA v73_98 0) fun v74_99 =>
 readQ (loadA w0 v74_99) fun v75_100 =>
 pureQ (fun K => K y0_95) fun v76_101 =>
 pureQ (nilA v76_101) fun v77_102 =>
 pureQ (addA v77_102 1) fun v78_103 =>
 readQ (loadA w0 v78_103) fun v79_104 =>
 pureQ (pureA (binA .mul v75_100 v79_104)) fun v80_105 =>
 allA [
 (mkA 1 1 [(.int .u8 0)] v80_105 v80_105 fun v81_106 =>
 stillA [] (
 pureQ (fun K => K v81_106) fun v6_107 =>
 endA (
 copyA w0 1 v6_107 y3_96 fun v84_108 =>
 nilA y0_95 fun v86_109 =>
 addA v86_109 4 fun v87_110 =>
 loadA w0 v87_110 fun v88_111 =>
 condA v88_111 (
 pureQ (fun K => K v6_107) fun v89_112 =>
 pureQ (fun K => K v6_107) fun v90_113 =>
 pureQ (pureA (lenSl v90_113)) fun v91_114 =>
 pureQ (pureA (binA .sub v91_114 (.int .i64 16))) fun v92_115 =>
 readQ (slSlA 1 v89_112 (some v92_115) none none) fun v93_116 =>
 pureQ (fun K => K y0_95) fun v94_117 =>
 pureQ (nilA v94_117) fun v95_118 =>
 pureQ (addA v95_118 3) fun v96_119 =>
 readQ (loadA w0 v96_119) fun v97_120 =>
 pureQ (pureA (lenSl v97_120)) fun v98_121 =>
 pureQ (fun K => K y0_95) fun v99_122 =>
 allA [
 (callA P w0 n_dedupref13_Pack_end [v99_122] fun v100_123 =>
 stillA [(sameQ (loadA w0 v96_119) v97_120), (sameQ (slSlA 1 v89_112 (some v92_115) none none) v93_116)] (
 allA [
 (callA P w0 n_dedupref13_foot [v98_121, v100_123] fun v101_124 =>
 stillA [(sameQ (slSlA 1 v89_112 (some v92_115) none none) v93_116)] (
 allA [
 (copyA w0 1 v93_116 v101_124 fun v102_125 =>
 stillA [] (
 endA (
 retA [v6_107] R)))]))]))]) (
 retA [v6_107] R))))]) a0 v26_94 (.int .i64 0))))]))]))]))]))])),
 (callA P w0 n_dedupref13_high [v13_5, (.int .i64 4)] fun v14_126 =>
 stillA [(sameQ (loadA w0 v18_8) v19_9)] (
 allA [
 (bslA [(0, 1, false, (.int .u8 68)), (1, 1, false, (.int .u8 80)), (2, 1, false, (.int .u8 65)), (3, 1, false, (.int .u8 75))] (zerosL [(.int .u8 0)] 4) 4 1 fun v7_127 =>
 stillA [(sameQ (loadA w0 v18_8) v19_9), (sameQ (loadA w0 v11_3) v12_4)] (
 allA [
 (sl2slA w0 v7_127 fun v8_128 =>
 stillA [(sameQ (loadA w0 v18_8) v19_9), (sameQ (loadA w0 v11_3) v12_4)] (
 allA [
 (appA w0 1 1 v8_128 v14_126 fun v15_129 =>
 stillA [(sameQ (loadA w0 v18_8) v19_9)] (
 allA [
 (callA P w0 n_dedupref13_high [v20_10, (.int .i64 4)] fun v21_130 =>
 stillA [] (
 allA [
 (appA w0 1 1 v15_129 v21_130 fun v22_131 =>
 stillA [] (
 pureQ (fun K => K v22_131) fun v3_132 =>
 endA (
 callA P w0 n_dedupref13_sum [v3_132] fun v25_133 =>
 appA w0 1 1 v3_132 v25_133 fun v26_134 =>
 dedupref13_Pack_Image_E1 P w0 (fun y0_135 y3_136 =>
 pureQ (fun K => K y0_135) fun v72_137 =>
 pureQ (nilA v72_137) fun v73_138 =>
 pureQ (addA v73_138 0) fun v74_139 =>
 readQ (loadA w0 v74_139) fun v75_140 =>
 pureQ (fun K => K y0_135) fun v76_141 =>
 pureQ (nilA v76_141) fun v77_142 =>
 pureQ (addA v77_142 1) fun v78_143 =>
 readQ (loadA w0 v78_143) fun v79_144 =>
 pureQ (pureA (binA .mul v75_140 v79_144)) fun v80_145 =>
 allA [
 (mkA 1 1 [(.int .u8 0)] v80_145 v80_145 fun v81_146 =>
 stillA [] (
 pureQ (fun K => K v81_146) fun v6_147 =>
 endA (
 copyA w0 1 v6_147 y3_136 fun v84_148 =>
 nilA y0_135 fun v86_149 =>
 addA v86_149 4 fun v87_150 =>
 loadA w0 v87_150 fun v88_151 =>
 condA v88_151 (
 pureQ (fun K => K v6_147) fun v89_152 =>
 pureQ (fun K => K v6_147) fun v90_153 =>
 pureQ (pureA (lenSl v90_153)) fun v91_154 =>
 pureQ (pureA (binA .sub v91_154 (.int .i64 16))) fun v92_155 =>
 readQ (slSlA 1 v89_152 (some v92_155) none none) fun v93_156 =>
 pureQ (fun K => K y0_135) fun v94_157 =>
 pureQ (nilA v94_157) fun v95_158 =>
 pureQ (addA v95_158 3) fun v96_159 =>
 readQ (loadA w0 v96_159) fun v97_160 =>
 pureQ (pureA (lenSl v97_160)) fun v98_161 =>
 pureQ (fun K => K y0_135) fun v99_162 =>
 allA [
 (callA P w0 n_dedupref13_Pack_end [v99_162] fun v100_163 =>
 stillA [(sameQ (loadA w0 v96_159) v97_160), (sameQ (slSlA 1 v89_152 (some v92_155) none none) v93_156)] (
 allA [
 (callA P w0 n_dedupref13_foot [v98_161, v100_163] fun v101_164 =>
 stillA [(sameQ (slSlA 1 v89_152 (some v92_155) none none) v93_156)] (
 allA [
 (copyA w0 1 v93_156 v101_164 fun v102_165 =>
 stillA [] (
 endA (
 retA [v6_147] R)))]))]))]) (
 retA [v6_147] R))))]) a0 v26_134 (.int .i64 0))))]))]))]))]))]))]
theorem dedupref13_Pack_Image_L1_eq (w0 : World) (k0 : Value → Value → Hp → Prop) : ∀ (m : Nat) (x0 x3 x4 : Value) (h : Hp), loopA (stepL ⟨prog, w0, 104, ks_dedupref13_Pack_Image⟩ (drw w0 104) (loopAt fn_dedupref13_Pack_Image 0)) m (mkFr [(0, x0), (3, x3), (4, x4)]) [fun t => k0 (t 0) (t 3)] h = dedupref13_Pack_Image_L1 prog w0 k0 m x0 x3 x4 h := by
  intro m
  induction m with
  | zero => intros; kernel_rfl
  | succ m ih =>
    intro x0 x3 x4 h
    have e : dedupref13_Pack_Image_L1 prog w0 k0 m = fun x0 x3 x4 h => loopA (stepL ⟨prog, w0, 104, ks_dedupref13_Pack_Image⟩ (drw w0 104) (loopAt fn_dedupref13_Pack_Image 0)) m (mkFr [(0, x0), (3, x3), (4, x4)]) [fun t => k0 (t 0) (t 3)] h := by funext x0 x3 x4 h; exact (ih x0 x3 x4 h).symm
    show _ = dedupref13_Pack_Image_B1 prog w0 (dedupref13_Pack_Image_L1 prog w0 k0 m) k0 x0 x3 x4 h
    rw [e]
    kernel_rfl
theorem dedupref13_Pack_Image_E1_eq (w0 : World) : dedupref13_Pack_Image_E1 prog w0 = fun k0 x0 x3 x4 h => ∃ m, loopA (stepL ⟨prog, w0, 104, ks_dedupref13_Pack_Image⟩ (drw w0 104) (loopAt fn_dedupref13_Pack_Image 0)) m (mkFr [(0, x0), (3, x3), (4, x4)]) [fun t => k0 (t 0) (t 3)] h := by
  funext k0 x0 x3 x4 h
  exact congrArg Exists (funext fun m => (dedupref13_Pack_Image_L1_eq w0 k0 m x0 x3 x4 h).symm)
theorem c_dedupref13_Pack_Image {w0 : World} {h : Hp} {R : Kont} {a0 : Value} (hj : ∀ v, v ∈ [a0] → v ≠ junk) (hv : s_dedupref13_Pack_Image prog w0 a0 R h) : ACalls prog w0 n_dedupref13_Pack_Image [a0] h R := by
  have e : vcFn ⟨prog, w0, 104, ks_dedupref13_Pack_Image⟩ (drw w0 104) fn_dedupref13_Pack_Image [a0] R h = s_dedupref13_Pack_Image prog w0 a0 R h := by
    unfold s_dedupref13_Pack_Image
    rw [dedupref13_Pack_Image_E1_eq w0]
    kernel_rfl
  exact acalls_of_eq (fn := fn_dedupref13_Pack_Image) (ks := ks_dedupref13_Pack_Image) (n := 104) (by kernel_rfl) (by kernel_rfl) (draw_ok (by kernel_rfl)) (by simp) hj e hv

abbrev fn_dedupref13_Pack_Slots : Func := f26
def ks_dedupref13_Pack_Slots : List (Nat × List Nat × List Nat) := [(4, [0, 3, 4, 5], [3])]
def dedupref13_Pack_Slots_B1 (P : Program) (w0 : World) (R : Value → Value → Value → Value → Hp → Prop) (k0 : Value → Hp → Prop) (x0 x3 x4 x5 : Value) : Hp → Prop :=
 nilA x0 fun v8_1 =>
 addA v8_1 3 fun v9_2 =>
 loadA w0 v9_2 fun v10_3 =>
 pureA (lenSl v10_3) fun v11_4 =>
 pureA (binA .lss x5 v11_4) fun v12_5 =>
 condA v12_5 (
 pureA (binA .add x4 (.int .i64 8)) fun v17_6 =>
 nilA x0 fun v19_7 =>
 addA v19_7 3 fun v20_8 =>
 loadA w0 v20_8 fun v21_9 =>
 idxSlA 1 v21_9 x5 fun v23_10 =>
 loadA w0 v23_10 fun v24_11 =>
 pureA (lenSl v24_11) fun v25_12 =>
 buildA [(0, 1, false, v17_6), (1, 1, false, v25_12)] [(.int .i64 0), (.int .i64 0)] fun v26_13 =>
 bslA [(0, 2, true, v26_13)] (zerosL [(.int .i64 0), (.int .i64 0)] 1) 1 2 fun v27_14 =>
 appA w0 2 16 x3 v27_14 fun v28_15 =>
 pureA (binA .add x4 (.int .i64 8)) fun v30_16 =>
 nilA x0 fun v32_17 =>
 addA v32_17 3 fun v33_18 =>
 loadA w0 v33_18 fun v34_19 =>
 idxSlA 1 v34_19 x5 fun v36_20 =>
 loadA w0 v36_20 fun v37_21 =>
 pureA (lenSl v37_21) fun v38_22 =>
 pureA (binA .add v30_16 v38_22) fun v39_23 =>
 pureA (binA .add x5 (.int .i64 1)) fun v14_24 =>
 R x0 v28_15 v39_23 v14_24) (
 k0 x3)
def dedupref13_Pack_Slots_L1 (P : Program) (w0 : World) (k0 : Value → Hp → Prop) : Nat → Value → Value → Value → Value → Hp → Prop
  | 0, _, _, _, _ => fun _ => False
  | m + 1, x0, x3, x4, x5 => dedupref13_Pack_Slots_B1 P w0 (dedupref13_Pack_Slots_L1 P w0 k0 m) k0 x0 x3 x4 x5
def dedupref13_Pack_Slots_E1 (P : Program) (w0 : World) (k0 : Value → Hp → Prop) (x0 x3 x4 x5 : Value) : Hp → Prop := fun h => ∃ m, dedupref13_Pack_Slots_L1 P w0 k0 m x0 x3 x4 x5 h
def s_dedupref13_Pack_Slots (P : Program) (w0 : World) (a0 : Value) (R : Kont) : Hp → Prop :=
 dedupref13_Pack_Slots_E1 P w0 (fun y3_25 =>
 retA [y3_25] R) a0 (.slice none 0 0) (.int .i64 16) (.int .i64 0)
theorem dedupref13_Pack_Slots_L1_eq (w0 : World) (k0 : Value → Hp → Prop) : ∀ (m : Nat) (x0 x3 x4 x5 : Value) (h : Hp), loopA (stepL ⟨prog, w0, 41, ks_dedupref13_Pack_Slots⟩ (drw w0 41) (loopAt fn_dedupref13_Pack_Slots 0)) m (mkFr [(0, x0), (3, x3), (4, x4), (5, x5)]) [fun t => k0 (t 3)] h = dedupref13_Pack_Slots_L1 prog w0 k0 m x0 x3 x4 x5 h := by
  intro m
  induction m with
  | zero => intros; kernel_rfl
  | succ m ih =>
    intro x0 x3 x4 x5 h
    have e : dedupref13_Pack_Slots_L1 prog w0 k0 m = fun x0 x3 x4 x5 h => loopA (stepL ⟨prog, w0, 41, ks_dedupref13_Pack_Slots⟩ (drw w0 41) (loopAt fn_dedupref13_Pack_Slots 0)) m (mkFr [(0, x0), (3, x3), (4, x4), (5, x5)]) [fun t => k0 (t 3)] h := by funext x0 x3 x4 x5 h; exact (ih x0 x3 x4 x5 h).symm
    show _ = dedupref13_Pack_Slots_B1 prog w0 (dedupref13_Pack_Slots_L1 prog w0 k0 m) k0 x0 x3 x4 x5 h
    rw [e]
    kernel_rfl
theorem dedupref13_Pack_Slots_E1_eq (w0 : World) : dedupref13_Pack_Slots_E1 prog w0 = fun k0 x0 x3 x4 x5 h => ∃ m, loopA (stepL ⟨prog, w0, 41, ks_dedupref13_Pack_Slots⟩ (drw w0 41) (loopAt fn_dedupref13_Pack_Slots 0)) m (mkFr [(0, x0), (3, x3), (4, x4), (5, x5)]) [fun t => k0 (t 3)] h := by
  funext k0 x0 x3 x4 x5 h
  exact congrArg Exists (funext fun m => (dedupref13_Pack_Slots_L1_eq w0 k0 m x0 x3 x4 x5 h).symm)
theorem c_dedupref13_Pack_Slots {w0 : World} {h : Hp} {R : Kont} {a0 : Value} (hj : ∀ v, v ∈ [a0] → v ≠ junk) (hv : s_dedupref13_Pack_Slots prog w0 a0 R h) : ACalls prog w0 n_dedupref13_Pack_Slots [a0] h R := by
  have e : vcFn ⟨prog, w0, 41, ks_dedupref13_Pack_Slots⟩ (drw w0 41) fn_dedupref13_Pack_Slots [a0] R h = s_dedupref13_Pack_Slots prog w0 a0 R h := by
    unfold s_dedupref13_Pack_Slots
    rw [dedupref13_Pack_Slots_E1_eq w0]
    kernel_rfl
  exact acalls_of_eq (fn := fn_dedupref13_Pack_Slots) (ks := ks_dedupref13_Pack_Slots) (n := 41) (by kernel_rfl) (by kernel_rfl) (draw_ok (by kernel_rfl)) (by simp) hj e hv

abbrev fn_dedupref13_Pack_Take : Func := f28
def ks_dedupref13_Pack_Take : List (Nat × List Nat × List Nat) := [(4, [0, 3, 4, 5], [0, 3, 4])]
def dedupref13_Pack_Take_B1 (P : Program) (w0 : World) (R : Value → Value → Value → Value → Hp → Prop) (k0 : Value → Value → Value → Hp → Prop) (x0 x3 x4 x5 : Value) : Hp → Prop :=
 nilA x0 fun v11_2 =>
 addA v11_2 1 fun v12_3 =>
 loadA w0 v12_3 fun v13_4 =>
 pureA (binA .lss x5 v13_4) fun v14_5 =>
 condA v14_5 (
 pureQ (fun K => K x3) fun v17_6 =>
 pureQ (fun K => K x5) fun v18_7 =>
 pureQ (fun K => K x0) fun v19_8 =>
 pureQ (nilA v19_8) fun v20_9 =>
 pureQ (addA v20_9 0) fun v21_10 =>
 readQ (loadA w0 v21_10) fun v22_11 =>
 pureQ (pureA (binA .mul v18_7 v22_11)) fun v23_12 =>
 pureQ (fun K => K x5) fun v24_13 =>
 pureQ (pureA (binA .add v24_13 (.int .i64 1))) fun v25_14 =>
 pureQ (fun K => K x0) fun v26_15 =>
 pureQ (nilA v26_15) fun v27_16 =>
 pureQ (addA v27_16 0) fun v28_17 =>
 readQ (loadA w0 v28_17) fun v29_18 =>
 pureQ (pureA (binA .mul v25_14 v29_18)) fun v30_19 =>
 readQ (slSlA 1 v17_6 (some v23_12) (some v30_19) none) fun v31_20 =>
 pureQ (fun K => K v31_20) fun v6_21 =>
 endA (
 pureQ (fun K => K x0) fun v32_22 =>
 pureQ (nilA v32_22) fun v33_23 =>
 pureQ (addA v33_23 5) fun v34_24 =>
 readQ (loadA w0 v34_24) fun v35_25 =>
 pureQ (pureA (binSlA .eql v35_25 (.slice none 0 0))) fun v36_26 =>
 pureQ (fun K => K v36_26) fun v37_27 =>
 pureQ (guardA v37_27 false (fun K => K v6_21)) fun v38_28 =>
 readQ (guardA v37_27 false (b2sA w0 v38_28)) fun v39_29 =>
 pureQ (guardA v37_27 false (fun K => K x0)) fun v40_30 =>
 pureQ (guardA v37_27 false (nilA v40_30)) fun v41_31 =>
 pureQ (guardA v37_27 false (addA v41_31 5)) fun v42_32 =>
 readQ (guardA v37_27 false (loadA w0 v42_32)) fun v43_33 =>
 pureQ (guardA v37_27 false (fun K => K x5)) fun v44_34 =>
 pureQ (guardA v37_27 false (fun K => K x0)) fun v45_35 =>
 pureQ (guardA v37_27 false (nilA v45_35)) fun v46_36 =>
 pureQ (guardA v37_27 false (addA v46_36 0)) fun v47_37 =>
 readQ (guardA v37_27 false (loadA w0 v47_37)) fun v48_38 =>
 pureQ (guardA v37_27 false (pureA (binA .mul v44_34 v48_38))) fun v49_39 =>
 pureQ (guardA v37_27 false (fun K => K x5)) fun v50_40 =>
 pureQ (guardA v37_27 false (pureA (binA .add v50_40 (.int .i64 1)))) fun v51_41 =>
 pureQ (guardA v37_27 false (fun K => K x0)) fun v52_42 =>
 pureQ (guardA v37_27 false (nilA v52_42)) fun v53_43 =>
 pureQ (guardA v37_27 false (addA v53_43 0)) fun v54_44 =>
 readQ (guardA v37_27 false (loadA w0 v54_44)) fun v55_45 =>
 pureQ (guardA v37_27 false (pureA (binA .mul v51_41 v55_45))) fun v56_46 =>
 readQ (guardA v37_27 false (slSlA 1 v43_33 (some v49_39) (some v56_46) none)) fun v57_47 =>
 readQ (guardA v37_27 false (b2sA w0 v57_47)) fun v58_48 =>
 pureQ (guardA v37_27 false (pureA (binA .neq v39_29 v58_48))) fun v59_49 =>
 pureQ (pickA v37_27 (.bool true) v59_49) fun v60_50 =>
 endA (
 condA v60_50 (
 bslA [] (zerosL [(.int .u8 0)] 0) 0 1 fun v63_51 =>
 appA w0 1 1 v63_51 v6_21 fun v65_52 =>
 buildA [(0, 1, false, x5), (1, 1, false, v65_52)] [(.int .i64 0), (.slice none 0 0)] fun v66_53 =>
 bslA [(0, 2, true, v66_53)] (zerosL [(.int .i64 0), (.slice none 0 0)] 1) 1 2 fun v67_54 =>
 appA w0 2 32 x4 v67_54 fun v68_55 =>
 pureA (binA .add x5 (.int .i64 1)) fun v16_56 =>
 R x0 x3 v68_55 v16_56) (
 pureA (binA .add x5 (.int .i64 1)) fun v16_57 =>
 R x0 x3 x4 v16_57)))) (
 k0 x0 x3 x4)
def dedupref13_Pack_Take_L1 (P : Program) (w0 : World) (k0 : Value → Value → Value → Hp → Prop) : Nat → Value → Value → Value → Value → Hp → Prop
  | 0, _, _, _, _ => fun _ => False
  | m + 1, x0, x3, x4, x5 => dedupref13_Pack_Take_B1 P w0 (dedupref13_Pack_Take_L1 P w0 k0 m) k0 x0 x3 x4 x5
def dedupref13_Pack_Take_E1 (P : Program) (w0 : World) (k0 : Value → Value → Value → Hp → Prop) (x0 x3 x4 x5 : Value) : Hp → Prop := fun h => ∃ m, dedupref13_Pack_Take_L1 P w0 k0 m x0 x3 x4 x5 h
def s_dedupref13_Pack_Take (P : Program) (w0 : World) (a0 : Value) (R : Kont) : Hp → Prop :=
 callA P w0 n_dedupref13_Pack_Image [a0] fun v8_1 =>
 dedupref13_Pack_Take_E1 P w0 (fun y0_58 y3_59 y4_60 =>
 pureQ (fun K => K y0_58) fun v69_61 =>
 pureQ (fun K => K y0_58) fun v70_62 =>
 pureQ (fun K => K y0_58) fun v71_63 =>
 pureQ (fun K => K y3_59) fun v72_64 =>
 pureQ (fun K => K y0_58) fun v73_65 =>
 pureQ (nilA v73_65) fun v74_66 =>
 pureQ (addA v74_66 3) fun v75_67 =>
 readQ (loadA w0 v75_67) fun v76_68 =>
 pureQ (pureA (lenSl v76_68)) fun v77_69 =>
 pureQ (fun K => K y0_58) fun v78_70 =>
 pureQ (nilA v78_70) fun v79_71 =>
 pureQ (addA v79_71 4) fun v80_72 =>
 readQ (loadA w0 v80_72) fun v81_73 =>
 pureQ (nilA v69_61) fun v82_74 =>
 pureQ (addA v82_74 5) fun v83_75 =>
 allA [
 (storeA w0 v83_75 v72_64 fun _ =>
 stillA [] (
 pureQ (nilA v70_62) fun v84_76 =>
 pureQ (addA v84_76 6) fun v85_77 =>
 allA [
 (storeA w0 v85_77 v77_69 fun _ =>
 stillA [] (
 pureQ (nilA v71_63) fun v86_78 =>
 pureQ (addA v86_78 7) fun v87_79 =>
 allA [
 (storeA w0 v87_79 v81_73 fun _ =>
 stillA [] (
 endA (
 retA [y4_60] R)))]))]))]) a0 v8_1 (.slice none 0 0) (.int .i64 0)
theorem dedupref13_Pack_Take_L1_eq (w0 : World) (k0 : Value → Value → Value → Hp → Prop) : ∀ (m : Nat) (x0 x3 x4 x5 : Value) (h : Hp), loopA (stepL ⟨prog, w0, 89, ks_dedupref13_Pack_Take⟩ (drw w0 89) (loopAt fn_dedupref13_Pack_Take 0)) m (mkFr [(0, x0), (3, x3), (4, x4), (5, x5)]) [fun t => k0 (t 0) (t 3) (t 4)] h = dedupref13_Pack_Take_L1 prog w0 k0 m x0 x3 x4 x5 h := by
  intro m
  induction m with
  | zero => intros; kernel_rfl
  | succ m ih =>
    intro x0 x3 x4 x5 h
    have e : dedupref13_Pack_Take_L1 prog w0 k0 m = fun x0 x3 x4 x5 h => loopA (stepL ⟨prog, w0, 89, ks_dedupref13_Pack_Take⟩ (drw w0 89) (loopAt fn_dedupref13_Pack_Take 0)) m (mkFr [(0, x0), (3, x3), (4, x4), (5, x5)]) [fun t => k0 (t 0) (t 3) (t 4)] h := by funext x0 x3 x4 x5 h; exact (ih x0 x3 x4 x5 h).symm
    show _ = dedupref13_Pack_Take_B1 prog w0 (dedupref13_Pack_Take_L1 prog w0 k0 m) k0 x0 x3 x4 x5 h
    rw [e]
    kernel_rfl
theorem dedupref13_Pack_Take_E1_eq (w0 : World) : dedupref13_Pack_Take_E1 prog w0 = fun k0 x0 x3 x4 x5 h => ∃ m, loopA (stepL ⟨prog, w0, 89, ks_dedupref13_Pack_Take⟩ (drw w0 89) (loopAt fn_dedupref13_Pack_Take 0)) m (mkFr [(0, x0), (3, x3), (4, x4), (5, x5)]) [fun t => k0 (t 0) (t 3) (t 4)] h := by
  funext k0 x0 x3 x4 x5 h
  exact congrArg Exists (funext fun m => (dedupref13_Pack_Take_L1_eq w0 k0 m x0 x3 x4 x5 h).symm)
theorem c_dedupref13_Pack_Take {w0 : World} {h : Hp} {R : Kont} {a0 : Value} (hj : ∀ v, v ∈ [a0] → v ≠ junk) (hv : s_dedupref13_Pack_Take prog w0 a0 R h) : ACalls prog w0 n_dedupref13_Pack_Take [a0] h R := by
  have e : vcFn ⟨prog, w0, 89, ks_dedupref13_Pack_Take⟩ (drw w0 89) fn_dedupref13_Pack_Take [a0] R h = s_dedupref13_Pack_Take prog w0 a0 R h := by
    unfold s_dedupref13_Pack_Take
    rw [dedupref13_Pack_Take_E1_eq w0]
    kernel_rfl
  exact acalls_of_eq (fn := fn_dedupref13_Pack_Take) (ks := ks_dedupref13_Pack_Take) (n := 89) (by kernel_rfl) (by kernel_rfl) (draw_ok (by kernel_rfl)) (by simp) hj e hv

abbrev fn_dedupref13_Pack_Fork : Func := f33
def ks_dedupref13_Pack_Fork : List (Nat × List Nat × List Nat) := []
def s_dedupref13_Pack_Fork (P : Program) (w0 : World) (a0 : Value) (R : Kont) : Hp → Prop :=
 nilA a0 fun v5_1 =>
 loadNA w0 v5_1 8 fun v6_2 =>
 newA [(.int .i64 0), (.int .i64 0), (.int .u32 0), (.slice none 0 0), (.bool false), (.slice none 0 0), (.int .i64 0), (.bool false)] 8 fun v3_3 =>
 storeNA w0 v3_3 v6_2 8 fun _ =>
 bslA [] (zerosL [(.slice none 0 0)] 0) 0 1 fun v7_4 =>
 nilA a0 fun v9_5 =>
 addA v9_5 3 fun v10_6 =>
 loadA w0 v10_6 fun v11_7 =>
 appA w0 1 24 v7_4 v11_7 fun v12_8 =>
 addA v3_3 3 fun v13_9 =>
 storeA w0 v13_9 v12_8 fun _ =>
 nilA a0 fun v15_10 =>
 addA v15_10 5 fun v16_11 =>
 loadA w0 v16_11 fun v17_12 =>
 appA w0 1 1 (.slice none 0 0) v17_12 fun v18_13 =>
 addA v3_3 5 fun v19_14 =>
 storeA w0 v19_14 v18_13 fun _ =>
 retA [v3_3] R
theorem c_dedupref13_Pack_Fork {w0 : World} {h : Hp} {R : Kont} {a0 : Value} (hj : ∀ v, v ∈ [a0] → v ≠ junk) (hv : s_dedupref13_Pack_Fork prog w0 a0 R h) : ACalls prog w0 n_dedupref13_Pack_Fork [a0] h R := by
  have e : vcFn ⟨prog, w0, 20, ks_dedupref13_Pack_Fork⟩ (drw w0 20) fn_dedupref13_Pack_Fork [a0] R h = s_dedupref13_Pack_Fork prog w0 a0 R h := by
    kernel_rfl
  exact acalls_of_eq (fn := fn_dedupref13_Pack_Fork) (ks := ks_dedupref13_Pack_Fork) (n := 20) (by kernel_rfl) (by kernel_rfl) (draw_ok (by kernel_rfl)) (by simp) hj e hv

abbrev fn_dedupref13_slot : Func := f37
def ks_dedupref13_slot : List (Nat × List Nat × List Nat) := []
def s_dedupref13_slot (P : Program) (w0 : World) (a0 a1 a2 : Value) (R : Kont) : Hp → Prop :=
 pureA (binA .add a1 (.int .i64 8)) fun v11_1 =>
 pureA (binA .gtr v11_1 a2) fun v13_2 =>
 condA v13_2 (
 retA [(.int .i64 0), (.bool false)] R) (
 pureA (binA .add a1 (.int .i64 4)) fun v17_3 =>
 slSlA 1 a0 (some a1) (some v17_3) none fun v18_4 =>
 callA P w0 n_dedupref13_number [v18_4] fun v19_5 =>
 pureA (binA .lss v19_5 (.int .i64 1)) fun v21_6 =>
 guardA v21_6 false (fun K => K v19_5) fun v23_7 =>
 guardA v21_6 false (fun K => K a2) fun v24_8 =>
 guardA v21_6 false (fun K => K a1) fun v25_9 =>
 guardA v21_6 false (pureA (binA .sub v24_8 v25_9)) fun v26_10 =>
 guardA v21_6 false (pureA (binA .sub v26_10 (.int .i64 8))) fun v27_11 =>
 guardA v21_6 false (pureA (binA .gtr v23_7 v27_11)) fun v28_12 =>
 pickA v21_6 (.bool true) v28_12 fun v29_13 =>
 condA v29_13 (
 retA [(.int .i64 0), (.bool false)] R) (
 pureQ (fun K => K a0) fun v31_14 =>
 pureQ (fun K => K a1) fun v32_15 =>
 pureQ (fun K => K a1) fun v33_16 =>
 pureQ (pureA (binA .add v33_16 (.int .i64 4))) fun v34_17 =>
 readQ (slSlA 1 v31_14 (some v32_15) (some v34_17) none) fun v35_18 =>
 pureQ (fun K => K a0) fun v37_19 =>
 pureQ (fun K => K a1) fun v38_20 =>
 pureQ (pureA (binA .add v38_20 (.int .i64 8))) fun v39_21 =>
 pureQ (fun K => K a1) fun v40_22 =>
 pureQ (pureA (binA .add v40_22 (.int .i64 8))) fun v41_23 =>
 pureQ (fun K => K v19_5) fun v42_24 =>
 pureQ (pureA (binA .add v41_23 v42_24)) fun v43_25 =>
 readQ (slSlA 1 v37_19 (some v39_21) (some v43_25) none) fun v44_26 =>
 allA [
 (bslA [] (zerosL [(.int .u8 0)] 0) 0 1 fun v30_27 =>
 stillA [(sameQ (slSlA 1 v37_19 (some v39_21) (some v43_25) none) v44_26), (sameQ (slSlA 1 v31_14 (some v32_15) (some v34_17) none) v35_18)] (
 allA [
 (appA w0 1 1 v30_27 v35_18 fun v36_28 =>
 stillA [(sameQ (slSlA 1 v37_19 (some v39_21) (some v43_25) none) v44_26)] (
 allA [
 (appA w0 1 1 v36_28 v44_26 fun v45_29 =>
 stillA [] (
 pureQ (fun K => K v45_29) fun v9_30 =>
 endA (
 pureQ (fun K => K v19_5) fun v46_31 =>
 pureQ (fun K => K v9_30) fun v47_32 =>
 pureQ (fun K => K a0) fun v50_33 =>
 pureQ (fun K => K a1) fun v51_34 =>
 pureQ (pureA (binA .add v51_34 (.int .i64 4))) fun v52_35 =>
 pureQ (fun K => K a1) fun v53_36 =>
 pureQ (pureA (binA .add v53_36 (.int .i64 8))) fun v54_37 =>
 readQ (slSlA 1 v50_33 (some v52_35) (some v54_37) none) fun v55_38 =>
 readQ (b2sA w0 v55_38) fun v56_39 =>
 allA [
 (callA P w0 n_dedupref13_sum [v47_32] fun v48_40 =>
 stillA [(sameQ (b2sA w0 v55_38) v56_39), (sameQ (slSlA 1 v50_33 (some v52_35) (some v54_37) none) v55_38)] (
 readQ (b2sA w0 v48_40) fun v49_41 =>
 pureQ (pureA (binA .eql v49_41 v56_39)) fun v57_42 =>
 pureQ (fun K => K v46_31) fun v6_43 =>
 pureQ (fun K => K v57_42) fun v7_44 =>
 endA (
 retA [v6_43, v7_44] R)))])))]))]))]))
theorem c_dedupref13_slot {w0 : World} {h : Hp} {R : Kont} {a0 a1 a2 : Value} (hj : ∀ v, v ∈ [a0, a1, a2] → v ≠ junk) (hv : s_dedupref13_slot prog w0 a0 a1 a2 R h) : ACalls prog w0 n_dedupref13_slot [a0, a1, a2] h R := by
  have e : vcFn ⟨prog, w0, 58, ks_dedupref13_slot⟩ (drw w0 58) fn_dedupref13_slot [a0, a1, a2] R h = s_dedupref13_slot prog w0 a0 a1 a2 R h := by
    kernel_rfl
  exact acalls_of_eq (fn := fn_dedupref13_slot) (ks := ks_dedupref13_slot) (n := 58) (by kernel_rfl) (by kernel_rfl) (draw_ok (by kernel_rfl)) (by simp) hj e hv

abbrev fn_dedupref13_power : Func := f42
def ks_dedupref13_power : List (Nat × List Nat × List Nat) := []
def s_dedupref13_power (P : Program) (w0 : World) (a0 : Value) (R : Kont) : Hp → Prop :=
 pureA (binA .eql a0 (.int .i64 512)) fun v4_1 =>
 guardA v4_1 false (fun K => K a0) fun v6_2 =>
 guardA v4_1 false (pureA (binA .eql v6_2 (.int .i64 1024))) fun v7_3 =>
 pickA v4_1 (.bool true) v7_3 fun v8_4 =>
 guardA v8_4 false (fun K => K a0) fun v10_5 =>
 guardA v8_4 false (pureA (binA .eql v10_5 (.int .i64 2048))) fun v11_6 =>
 pickA v8_4 (.bool true) v11_6 fun v12_7 =>
 guardA v12_7 false (fun K => K a0) fun v14_8 =>
 guardA v12_7 false (pureA (binA .eql v14_8 (.int .i64 4096))) fun v15_9 =>
 pickA v12_7 (.bool true) v15_9 fun v16_10 =>
 retA [v16_10] R
theorem c_dedupref13_power {w0 : World} {h : Hp} {R : Kont} {a0 : Value} (hj : ∀ v, v ∈ [a0] → v ≠ junk) (hv : s_dedupref13_power prog w0 a0 R h) : ACalls prog w0 n_dedupref13_power [a0] h R := by
  have e : vcFn ⟨prog, w0, 17, ks_dedupref13_power⟩ (drw w0 17) fn_dedupref13_power [a0] R h = s_dedupref13_power prog w0 a0 R h := by
    kernel_rfl
  exact acalls_of_eq (fn := fn_dedupref13_power) (ks := ks_dedupref13_power) (n := 17) (by kernel_rfl) (by kernel_rfl) (draw_ok (by kernel_rfl)) (by simp) hj e hv

abbrev fn_dedupref13_number : Func := f43
def ks_dedupref13_number : List (Nat × List Nat × List Nat) := [(3, [0, 3, 4], [3])]
def dedupref13_number_B1 (P : Program) (w0 : World) (R : Value → Value → Value → Hp → Prop) (k0 : Value → Hp → Prop) (x0 x3 x4 : Value) : Hp → Prop :=
 pureA (lenSl x0) fun v7_1 =>
 pureA (binA .lss x4 v7_1) fun v8_2 =>
 condA v8_2 (
 pureA (binA .mul x3 (.int .i64 256)) fun v12_3 =>
 idxSlA 1 x0 x4 fun v15_4 =>
 loadA w0 v15_4 fun v16_5 =>
 pureA (convA .i64 v16_5) fun v17_6 =>
 pureA (binA .add v12_3 v17_6) fun v18_7 =>
 pureA (binA .add x4 (.int .i64 1)) fun v10_8 =>
 R x0 v18_7 v10_8) (
 k0 x3)
def dedupref13_number_L1 (P : Program) (w0 : World) (k0 : Value → Hp → Prop) : Nat → Value → Value → Value → Hp → Prop
  | 0, _, _, _ => fun _ => False
  | m + 1, x0, x3, x4 => dedupref13_number_B1 P w0 (dedupref13_number_L1 P w0 k0 m) k0 x0 x3 x4
def dedupref13_number_E1 (P : Program) (w0 : World) (k0 : Value → Hp → Prop) (x0 x3 x4 : Value) : Hp → Prop := fun h => ∃ m, dedupref13_number_L1 P w0 k0 m x0 x3 x4 h
def s_dedupref13_number (P : Program) (w0 : World) (a0 : Value) (R : Kont) : Hp → Prop :=
 dedupref13_number_E1 P w0 (fun y3_9 =>
 retA [y3_9] R) a0 (.int .i64 0) (.int .i64 0)
theorem dedupref13_number_L1_eq (w0 : World) (k0 : Value → Hp → Prop) : ∀ (m : Nat) (x0 x3 x4 : Value) (h : Hp), loopA (stepL ⟨prog, w0, 20, ks_dedupref13_number⟩ (drw w0 20) (loopAt fn_dedupref13_number 0)) m (mkFr [(0, x0), (3, x3), (4, x4)]) [fun t => k0 (t 3)] h = dedupref13_number_L1 prog w0 k0 m x0 x3 x4 h := by
  intro m
  induction m with
  | zero => intros; kernel_rfl
  | succ m ih =>
    intro x0 x3 x4 h
    have e : dedupref13_number_L1 prog w0 k0 m = fun x0 x3 x4 h => loopA (stepL ⟨prog, w0, 20, ks_dedupref13_number⟩ (drw w0 20) (loopAt fn_dedupref13_number 0)) m (mkFr [(0, x0), (3, x3), (4, x4)]) [fun t => k0 (t 3)] h := by funext x0 x3 x4 h; exact (ih x0 x3 x4 h).symm
    show _ = dedupref13_number_B1 prog w0 (dedupref13_number_L1 prog w0 k0 m) k0 x0 x3 x4 h
    rw [e]
    kernel_rfl
theorem dedupref13_number_E1_eq (w0 : World) : dedupref13_number_E1 prog w0 = fun k0 x0 x3 x4 h => ∃ m, loopA (stepL ⟨prog, w0, 20, ks_dedupref13_number⟩ (drw w0 20) (loopAt fn_dedupref13_number 0)) m (mkFr [(0, x0), (3, x3), (4, x4)]) [fun t => k0 (t 3)] h := by
  funext k0 x0 x3 x4 h
  exact congrArg Exists (funext fun m => (dedupref13_number_L1_eq w0 k0 m x0 x3 x4 h).symm)
theorem c_dedupref13_number {w0 : World} {h : Hp} {R : Kont} {a0 : Value} (hj : ∀ v, v ∈ [a0] → v ≠ junk) (hv : s_dedupref13_number prog w0 a0 R h) : ACalls prog w0 n_dedupref13_number [a0] h R := by
  have e : vcFn ⟨prog, w0, 20, ks_dedupref13_number⟩ (drw w0 20) fn_dedupref13_number [a0] R h = s_dedupref13_number prog w0 a0 R h := by
    unfold s_dedupref13_number
    rw [dedupref13_number_E1_eq w0]
    kernel_rfl
  exact acalls_of_eq (fn := fn_dedupref13_number) (ks := ks_dedupref13_number) (n := 20) (by kernel_rfl) (by kernel_rfl) (draw_ok (by kernel_rfl)) (by simp) hj e hv

abbrev fn_dedupref13_sum : Func := f44
def ks_dedupref13_sum : List (Nat × List Nat × List Nat) := []
def s_dedupref13_sum (P : Program) (w0 : World) (a0 : Value) (R : Kont) : Hp → Prop :=
 b2sA w0 a0 fun v4_1 =>
 callA P w0 n_dedupref02_Crc [v4_1] fun v5_2 =>
 pureA (convA .u64 v5_2) fun v6_3 =>
 callA P w0 n_dedupref13_high [v6_3, (.int .i64 4)] fun v7_4 =>
 retA [v7_4] R
theorem c_dedupref13_sum {w0 : World} {h : Hp} {R : Kont} {a0 : Value} (hj : ∀ v, v ∈ [a0] → v ≠ junk) (hv : s_dedupref13_sum prog w0 a0 R h) : ACalls prog w0 n_dedupref13_sum [a0] h R := by
  have e : vcFn ⟨prog, w0, 8, ks_dedupref13_sum⟩ (drw w0 8) fn_dedupref13_sum [a0] R h = s_dedupref13_sum prog w0 a0 R h := by
    kernel_rfl
  exact acalls_of_eq (fn := fn_dedupref13_sum) (ks := ks_dedupref13_sum) (n := 8) (by kernel_rfl) (by kernel_rfl) (draw_ok (by kernel_rfl)) (by simp) hj e hv

abbrev fn_dedupref13_foot : Func := f45
def ks_dedupref13_foot : List (Nat × List Nat × List Nat) := []
def s_dedupref13_foot (P : Program) (w0 : World) (a0 a1 : Value) (R : Kont) : Hp → Prop :=
 bslA [(0, 1, false, (.int .u8 68)), (1, 1, false, (.int .u8 70)), (2, 1, false, (.int .u8 79)), (3, 1, false, (.int .u8 84))] (zerosL [(.int .u8 0)] 4) 4 1 fun v6_1 =>
 sl2slA w0 v6_1 fun v7_2 =>
 pureA (convA .u64 a0) fun v9_3 =>
 callA P w0 n_dedupref13_high [v9_3, (.int .i64 4)] fun v10_4 =>
 appA w0 1 1 v7_2 v10_4 fun v11_5 =>
 pureA (convA .u64 a1) fun v13_6 =>
 callA P w0 n_dedupref13_high [v13_6, (.int .i64 4)] fun v14_7 =>
 appA w0 1 1 v11_5 v14_7 fun v15_8 =>
 callA P w0 n_dedupref13_sum [v15_8] fun v18_9 =>
 appA w0 1 1 v15_8 v18_9 fun v19_10 =>
 retA [v19_10] R
theorem c_dedupref13_foot {w0 : World} {h : Hp} {R : Kont} {a0 a1 : Value} (hj : ∀ v, v ∈ [a0, a1] → v ≠ junk) (hv : s_dedupref13_foot prog w0 a0 a1 R h) : ACalls prog w0 n_dedupref13_foot [a0, a1] h R := by
  have e : vcFn ⟨prog, w0, 20, ks_dedupref13_foot⟩ (drw w0 20) fn_dedupref13_foot [a0, a1] R h = s_dedupref13_foot prog w0 a0 a1 R h := by
    kernel_rfl
  exact acalls_of_eq (fn := fn_dedupref13_foot) (ks := ks_dedupref13_foot) (n := 20) (by kernel_rfl) (by kernel_rfl) (draw_ok (by kernel_rfl)) (by simp) hj e hv

abbrev fn_dedupref13_Pack_Append : Func := f56
def ks_dedupref13_Pack_Append : List (Nat × List Nat × List Nat) := []
def s_dedupref13_Pack_Append (P : Program) (w0 : World) (a0 a1 : Value) (R : Kont) : Hp → Prop :=
 newA [(.int .i64 0), (.int .i64 0)] 2 fun v4_1 =>
 nilA a0 fun v8_2 =>
 addA v8_2 4 fun v9_3 =>
 loadA w0 v9_3 fun v10_4 =>
 condA v10_4 (
 buildA [] [(.int .i64 0), (.int .i64 0)] fun v11_5 =>
 storeNA w0 v4_1 v11_5 2 fun _ =>
 loadNA w0 v4_1 2 fun v4_6 =>
 retA [v4_6, (.int .i64 6)] R) (
 pureA (lenSl a1) fun v13_7 =>
 pureA (binA .eql v13_7 (.int .i64 0)) fun v14_8 =>
 condA v14_8 (
 buildA [] [(.int .i64 0), (.int .i64 0)] fun v15_9 =>
 storeNA w0 v4_1 v15_9 2 fun _ =>
 loadNA w0 v4_1 2 fun v4_10 =>
 retA [v4_10, (.int .i64 1)] R) (
 pureA (lenSl a1) fun v17_11 =>
 callA P w0 n_dedupref13_Pack_Left [a0] fun v19_12 =>
 pureA (binA .gtr v17_11 v19_12) fun v20_13 =>
 condA v20_13 (
 buildA [] [(.int .i64 0), (.int .i64 0)] fun v21_14 =>
 storeNA w0 v4_1 v21_14 2 fun _ =>
 loadNA w0 v4_1 2 fun v4_15 =>
 retA [v4_15, (.int .i64 2)] R) (
 callA P w0 n_dedupref13_Pack_end [a0] fun v23_16 =>
 pureA (binA .add v23_16 (.int .i64 8)) fun v24_17 =>
 pureA (lenSl a1) fun v26_18 =>
 buildA [(0, 1, false, v24_17), (1, 1, false, v26_18)] [(.int .i64 0), (.int .i64 0)] fun v27_19 =>
 newA [(.int .i64 0), (.int .i64 0)] 2 fun v6_20 =>
 storeNA w0 v6_20 v27_19 2 fun _ =>
 pureQ (fun K => K a0) fun v28_21 =>
 pureQ (fun K => K a0) fun v29_22 =>
 pureQ (nilA v29_22) fun v30_23 =>
 pureQ (addA v30_23 3) fun v31_24 =>
 readQ (loadA w0 v31_24) fun v32_25 =>
 pureQ (fun K => K a1) fun v34_26 =>
 allA [
 (bslA [] (zerosL [(.int .u8 0)] 0) 0 1 fun v33_27 =>
 stillA [(sameQ (loadA w0 v31_24) v32_25)] (
 allA [
 (appA w0 1 1 v33_27 v34_26 fun v35_28 =>
 stillA [(sameQ (loadA w0 v31_24) v32_25)] (
 allA [
 (bslA [(0, 1, false, v35_28)] (zerosL [(.slice none 0 0)] 1) 1 1 fun v36_29 =>
 stillA [(sameQ (loadA w0 v31_24) v32_25)] (
 allA [
 (appA w0 1 24 v32_25 v36_29 fun v37_30 =>
 stillA [] (
 pureQ (nilA v28_21) fun v38_31 =>
 pureQ (addA v38_31 3) fun v39_32 =>
 allA [
 (storeA w0 v39_32 v37_30 fun _ =>
 stillA [] (
 endA (
 loadNA w0 v6_20 2 fun v40_33 =>
 storeNA w0 v4_1 v40_33 2 fun _ =>
 loadNA w0 v4_1 2 fun v4_34 =>
 retA [v4_34, (.int .i64 0)] R)))]))]))]))]))])))
theorem c_dedupref13_Pack_Append {w0 : World} {h : Hp} {R : Kont} {a0 a1 : Value} (hj : ∀ v, v ∈ [a0, a1] → v ≠ junk) (hv : s_dedupref13_Pack_Append prog w0 a0 a1 R h) : ACalls prog w0 n_dedupref13_Pack_Append [a0, a1] h R := by
  have e : vcFn ⟨prog, w0, 41, ks_dedupref13_Pack_Append⟩ (drw w0 41) fn_dedupref13_Pack_Append [a0, a1] R h = s_dedupref13_Pack_Append prog w0 a0 a1 R h := by
    kernel_rfl
  exact acalls_of_eq (fn := fn_dedupref13_Pack_Append) (ks := ks_dedupref13_Pack_Append) (n := 41) (by kernel_rfl) (by kernel_rfl) (draw_ok (by kernel_rfl)) (by simp) hj e hv

abbrev fn_dedupref13_Pack_Left : Func := f57
def ks_dedupref13_Pack_Left : List (Nat × List Nat × List Nat) := []
def s_dedupref13_Pack_Left (P : Program) (w0 : World) (a0 : Value) (R : Kont) : Hp → Prop :=
 pureQ (fun K => K a0) fun v4_1 =>
 pureQ (nilA v4_1) fun v5_2 =>
 pureQ (addA v5_2 0) fun v6_3 =>
 readQ (loadA w0 v6_3) fun v7_4 =>
 pureQ (fun K => K a0) fun v8_5 =>
 pureQ (nilA v8_5) fun v9_6 =>
 pureQ (addA v9_6 1) fun v10_7 =>
 readQ (loadA w0 v10_7) fun v11_8 =>
 pureQ (pureA (binA .mul v7_4 v11_8)) fun v12_9 =>
 pureQ (pureA (binA .sub v12_9 (.int .i64 16))) fun v13_10 =>
 pureQ (fun K => K a0) fun v14_11 =>
 allA [
 (callA P w0 n_dedupref13_Pack_end [v14_11] fun v15_12 =>
 stillA [(sameQ (loadA w0 v10_7) v11_8), (sameQ (loadA w0 v6_3) v7_4)] (
 pureQ (pureA (binA .sub v13_10 v15_12)) fun v16_13 =>
 pureQ (pureA (binA .sub v16_13 (.int .i64 8))) fun v17_14 =>
 pureQ (fun K => K v17_14) fun v3_15 =>
 endA (
 nilA a0 fun v19_16 =>
 addA v19_16 4 fun v20_17 =>
 loadA w0 v20_17 fun v21_18 =>
 guardA v21_18 false (fun K => K v3_15) fun v23_19 =>
 guardA v21_18 false (pureA (binA .lss v23_19 (.int .i64 0))) fun v24_20 =>
 pickA v21_18 (.bool true) v24_20 fun v25_21 =>
 condA v25_21 (
 retA [(.int .i64 0)] R) (
 retA [v3_15] R))))]
theorem c_dedupref13_Pack_Left {w0 : World} {h : Hp} {R : Kont} {a0 : Value} (hj : ∀ v, v ∈ [a0] → v ≠ junk) (hv : s_dedupref13_Pack_Left prog w0 a0 R h) : ACalls prog w0 n_dedupref13_Pack_Left [a0] h R := by
  have e : vcFn ⟨prog, w0, 27, ks_dedupref13_Pack_Left⟩ (drw w0 27) fn_dedupref13_Pack_Left [a0] R h = s_dedupref13_Pack_Left prog w0 a0 R h := by
    kernel_rfl
  exact acalls_of_eq (fn := fn_dedupref13_Pack_Left) (ks := ks_dedupref13_Pack_Left) (n := 27) (by kernel_rfl) (by kernel_rfl) (draw_ok (by kernel_rfl)) (by simp) hj e hv

abbrev fn_dedupref13_Pack_Read : Func := f58
def ks_dedupref13_Pack_Read : List (Nat × List Nat × List Nat) := [(3, [0, 3, 4, 5, 6, 7], [4, 5])]
def dedupref13_Pack_Read_B1 (P : Program) (w0 : World) (R : Value → Value → Value → Value → Value → Value → Hp → Prop) (k0 : Value → Value → Hp → Prop) (kr : Value → Value → Hp → Prop) (x0 x3 x4 x5 x6 x7 : Value) : Hp → Prop :=
 pureA (lenSl x6) fun v12_3 =>
 pureA (binA .lss x7 v12_3) fun v13_4 =>
 condA v13_4 (
 pureQ (fun K => K x6) fun v16_5 =>
 pureQ (fun K => K x7) fun v17_6 =>
 pureQ (idxSlA 2 v16_5 v17_6) fun v18_7 =>
 readQ (loadNA w0 v18_7 2) fun v19_8 =>
 readQ (loadNA w0 x3 2) fun v20_9 =>
 pureQ (eqStA P .eql 24 v19_8 v20_9) fun v21_10 =>
 endA (
 condA v21_10 (
 bslA [] (zerosL [(.int .u8 0)] 0) 0 1 fun v22_11 =>
 nilA x0 fun v24_12 =>
 addA v24_12 3 fun v25_13 =>
 loadA w0 v25_13 fun v26_14 =>
 idxSlA 1 v26_14 x7 fun v28_15 =>
 loadA w0 v28_15 fun v29_16 =>
 appA w0 1 1 v22_11 v29_16 fun v30_17 =>
 kr v30_17 (.int .i64 0)) (
 pureA (binA .add x7 (.int .i64 1)) fun v15_18 =>
 R x0 x3 x4 x5 x6 v15_18))) (
 k0 x4 x5)
def dedupref13_Pack_Read_L1 (P : Program) (w0 : World) (k0 : Value → Value → Hp → Prop) (kr : Value → Value → Hp → Prop) : Nat → Value → Value → Value → Value → Value → Value → Hp → Prop
  | 0, _, _, _, _, _, _ => fun _ => False
  | m + 1, x0, x3, x4, x5, x6, x7 => dedupref13_Pack_Read_B1 P w0 (dedupref13_Pack_Read_L1 P w0 k0 kr m) k0 kr x0 x3 x4 x5 x6 x7
def dedupref13_Pack_Read_E1 (P : Program) (w0 : World) (k0 : Value → Value → Hp → Prop) (kr : Value → Value → Hp → Prop) (x0 x3 x4 x5 x6 x7 : Value) : Hp → Prop := fun h => ∃ m, dedupref13_Pack_Read_L1 P w0 k0 kr m x0 x3 x4 x5 x6 x7 h
def s_dedupref13_Pack_Read (P : Program) (w0 : World) (a0 a1 : Value) (R : Kont) : Hp → Prop :=
 boxA true 2 a1 fun v3_1 =>
 callA P w0 n_dedupref13_Pack_Slots [a0] fun v9_2 =>
 dedupref13_Pack_Read_E1 P w0 (fun y4_19 y5_20 =>
 retA [(.slice none 0 0), (.int .i64 130)] R) (fun y4_21 y5_22 =>
 retA [y4_21, y5_22] R) a0 v3_1 (.slice none 0 0) (.int .i64 0) v9_2 (.int .i64 0)
theorem dedupref13_Pack_Read_L1_eq (w0 : World) (k0 : Value → Value → Hp → Prop) (kr : Value → Value → Hp → Prop) : ∀ (m : Nat) (x0 x3 x4 x5 x6 x7 : Value) (h : Hp), loopA (stepL ⟨prog, w0, 31, ks_dedupref13_Pack_Read⟩ (drw w0 31) (loopAt fn_dedupref13_Pack_Read 0)) m (mkFr [(0, x0), (3, x3), (4, x4), (5, x5), (6, x6), (7, x7)]) [fun t => k0 (t 4) (t 5), fun t => kr (t 4) (t 5)] h = dedupref13_Pack_Read_L1 prog w0 k0 kr m x0 x3 x4 x5 x6 x7 h := by
  intro m
  induction m with
  | zero => intros; kernel_rfl
  | succ m ih =>
    intro x0 x3 x4 x5 x6 x7 h
    have e : dedupref13_Pack_Read_L1 prog w0 k0 kr m = fun x0 x3 x4 x5 x6 x7 h => loopA (stepL ⟨prog, w0, 31, ks_dedupref13_Pack_Read⟩ (drw w0 31) (loopAt fn_dedupref13_Pack_Read 0)) m (mkFr [(0, x0), (3, x3), (4, x4), (5, x5), (6, x6), (7, x7)]) [fun t => k0 (t 4) (t 5), fun t => kr (t 4) (t 5)] h := by funext x0 x3 x4 x5 x6 x7 h; exact (ih x0 x3 x4 x5 x6 x7 h).symm
    show _ = dedupref13_Pack_Read_B1 prog w0 (dedupref13_Pack_Read_L1 prog w0 k0 kr m) k0 kr x0 x3 x4 x5 x6 x7 h
    rw [e]
    kernel_rfl
theorem dedupref13_Pack_Read_E1_eq (w0 : World) : dedupref13_Pack_Read_E1 prog w0 = fun k0 kr x0 x3 x4 x5 x6 x7 h => ∃ m, loopA (stepL ⟨prog, w0, 31, ks_dedupref13_Pack_Read⟩ (drw w0 31) (loopAt fn_dedupref13_Pack_Read 0)) m (mkFr [(0, x0), (3, x3), (4, x4), (5, x5), (6, x6), (7, x7)]) [fun t => k0 (t 4) (t 5), fun t => kr (t 4) (t 5)] h := by
  funext k0 kr x0 x3 x4 x5 x6 x7 h
  exact congrArg Exists (funext fun m => (dedupref13_Pack_Read_L1_eq w0 k0 kr m x0 x3 x4 x5 x6 x7 h).symm)
theorem c_dedupref13_Pack_Read {w0 : World} {h : Hp} {R : Kont} {a0 a1 : Value} (hj : ∀ v, v ∈ [a0, a1] → v ≠ junk) (hv : s_dedupref13_Pack_Read prog w0 a0 a1 R h) : ACalls prog w0 n_dedupref13_Pack_Read [a0, a1] h R := by
  have e : vcFn ⟨prog, w0, 31, ks_dedupref13_Pack_Read⟩ (drw w0 31) fn_dedupref13_Pack_Read [a0, a1] R h = s_dedupref13_Pack_Read prog w0 a0 a1 R h := by
    unfold s_dedupref13_Pack_Read
    rw [dedupref13_Pack_Read_E1_eq w0]
    kernel_rfl
  exact acalls_of_eq (fn := fn_dedupref13_Pack_Read) (ks := ks_dedupref13_Pack_Read) (n := 31) (by kernel_rfl) (by kernel_rfl) (draw_ok (by kernel_rfl)) (by simp) hj e hv

abbrev fn_dedupref13_Pack_Seal : Func := f59
def ks_dedupref13_Pack_Seal : List (Nat × List Nat × List Nat) := []
def s_dedupref13_Pack_Seal (P : Program) (w0 : World) (a0 : Value) (R : Kont) : Hp → Prop :=
 nilA a0 fun v4_1 =>
 addA v4_1 4 fun v5_2 =>
 loadA w0 v5_2 fun v6_3 =>
 condA v6_3 (
 retA [(.int .i64 6)] R) (
 nilA a0 fun v8_4 =>
 addA v8_4 4 fun v9_5 =>
 storeA w0 v9_5 (.bool true) fun _ =>
 retA [(.int .i64 0)] R)
theorem c_dedupref13_Pack_Seal {w0 : World} {h : Hp} {R : Kont} {a0 : Value} (hj : ∀ v, v ∈ [a0] → v ≠ junk) (hv : s_dedupref13_Pack_Seal prog w0 a0 R h) : ACalls prog w0 n_dedupref13_Pack_Seal [a0] h R := by
  have e : vcFn ⟨prog, w0, 10, ks_dedupref13_Pack_Seal⟩ (drw w0 10) fn_dedupref13_Pack_Seal [a0] R h = s_dedupref13_Pack_Seal prog w0 a0 R h := by
    kernel_rfl
  exact acalls_of_eq (fn := fn_dedupref13_Pack_Seal) (ks := ks_dedupref13_Pack_Seal) (n := 10) (by kernel_rfl) (by kernel_rfl) (draw_ok (by kernel_rfl)) (by simp) hj e hv

abbrev fn_dedupref13_Pack_Back : Func := f60
def ks_dedupref13_Pack_Back : List (Nat × List Nat × List Nat) := []
def s_dedupref13_Pack_Back (P : Program) (w0 : World) (a0 a1 : Value) (R : Kont) : Hp → Prop :=
 nilA a0 fun v7_1 =>
 addA v7_1 6 fun v8_2 =>
 loadA w0 v8_2 fun v9_3 =>
 pureA (binA .lss a1 v9_3) fun v10_4 =>
 guardA v10_4 false (fun K => K a1) fun v12_5 =>
 guardA v10_4 false (fun K => K a0) fun v13_6 =>
 guardA v10_4 false (nilA v13_6) fun v14_7 =>
 guardA v10_4 false (addA v14_7 3) fun v15_8 =>
 guardA v10_4 false (loadA w0 v15_8) fun v16_9 =>
 guardA v10_4 false (pureA (lenSl v16_9)) fun v17_10 =>
 guardA v10_4 false (pureA (binA .gtr v12_5 v17_10)) fun v18_11 =>
 pickA v10_4 (.bool true) v18_11 fun v19_12 =>
 condA v19_12 (
 retA [(.int .i64 1)] R) (
 bslA [] (zerosL [(.slice none 0 0)] 0) 0 1 fun v21_13 =>
 nilA a0 fun v23_14 =>
 addA v23_14 3 fun v24_15 =>
 loadA w0 v24_15 fun v25_16 =>
 slSlA 1 v25_16 none (some a1) none fun v27_17 =>
 appA w0 1 24 v21_13 v27_17 fun v28_18 =>
 nilA a0 fun v29_19 =>
 addA v29_19 3 fun v30_20 =>
 storeA w0 v30_20 v28_18 fun _ =>
 nilA a0 fun v33_21 =>
 addA v33_21 7 fun v34_22 =>
 loadA w0 v34_22 fun v35_23 =>
 nilA a0 fun v36_24 =>
 addA v36_24 4 fun v37_25 =>
 storeA w0 v37_25 v35_23 fun _ =>
 retA [(.int .i64 0)] R)
theorem c_dedupref13_Pack_Back {w0 : World} {h : Hp} {R : Kont} {a0 a1 : Value} (hj : ∀ v, v ∈ [a0, a1] → v ≠ junk) (hv : s_dedupref13_Pack_Back prog w0 a0 a1 R h) : ACalls prog w0 n_dedupref13_Pack_Back [a0, a1] h R := by
  have e : vcFn ⟨prog, w0, 38, ks_dedupref13_Pack_Back⟩ (drw w0 38) fn_dedupref13_Pack_Back [a0, a1] R h = s_dedupref13_Pack_Back prog w0 a0 a1 R h := by
    kernel_rfl
  exact acalls_of_eq (fn := fn_dedupref13_Pack_Back) (ks := ks_dedupref13_Pack_Back) (n := 38) (by kernel_rfl) (by kernel_rfl) (draw_ok (by kernel_rfl)) (by simp) hj e hv

abbrev fn_dedupref13_high : Func := f61
def ks_dedupref13_high : List (Nat × List Nat × List Nat) := [(3, [0, 1, 5, 6], [5])]
def dedupref13_high_B1 (P : Program) (w0 : World) (R : Value → Value → Value → Value → Hp → Prop) (k0 : Value → Hp → Prop) (x0 x1 x5 x6 : Value) : Hp → Prop :=
 pureA (binA .lss x6 x1) fun v11_2 =>
 condA v11_2 (
 pureA (binA .sub x1 (.int .i64 1)) fun v16_3 =>
 pureA (binA .sub v16_3 x6) fun v18_4 =>
 pureA (convA .u8 x0) fun v20_5 =>
 idxSlA 1 x5 v18_4 fun v21_6 =>
 storeA w0 v21_6 v20_5 fun _ =>
 pureA (binA .quo x0 (.int .u64 256)) fun v23_7 =>
 pureA (binA .add x6 (.int .i64 1)) fun v13_8 =>
 R v23_7 x1 x5 v13_8) (
 k0 x5)
def dedupref13_high_L1 (P : Program) (w0 : World) (k0 : Value → Hp → Prop) : Nat → Value → Value → Value → Value → Hp → Prop
  | 0, _, _, _, _ => fun _ => False
  | m + 1, x0, x1, x5, x6 => dedupref13_high_B1 P w0 (dedupref13_high_L1 P w0 k0 m) k0 x0 x1 x5 x6
def dedupref13_high_E1 (P : Program) (w0 : World) (k0 : Value → Hp → Prop) (x0 x1 x5 x6 : Value) : Hp → Prop := fun h => ∃ m, dedupref13_high_L1 P w0 k0 m x0 x1 x5 x6 h
def s_dedupref13_high (P : Program) (w0 : World) (a0 a1 : Value) (R : Kont) : Hp → Prop :=
 mkA 1 1 [(.int .u8 0)] a1 a1 fun v8_1 =>
 dedupref13_high_E1 P w0 (fun y5_9 =>
 retA [y5_9] R) a0 a1 v8_1 (.int .i64 0)
theorem dedupref13_high_L1_eq (w0 : World) (k0 : Value → Hp → Prop) : ∀ (m : Nat) (x0 x1 x5 x6 : Value) (h : Hp), loopA (stepL ⟨prog, w0, 25, ks_dedupref13_high⟩ (drw w0 25) (loopAt fn_dedupref13_high 0)) m (mkFr [(0, x0), (1, x1), (5, x5), (6, x6)]) [fun t => k0 (t 5)] h = dedupref13_high_L1 prog w0 k0 m x0 x1 x5 x6 h := by
  intro m
  induction m with
  | zero => intros; kernel_rfl
  | succ m ih =>
    intro x0 x1 x5 x6 h
    have e : dedupref13_high_L1 prog w0 k0 m = fun x0 x1 x5 x6 h => loopA (stepL ⟨prog, w0, 25, ks_dedupref13_high⟩ (drw w0 25) (loopAt fn_dedupref13_high 0)) m (mkFr [(0, x0), (1, x1), (5, x5), (6, x6)]) [fun t => k0 (t 5)] h := by funext x0 x1 x5 x6 h; exact (ih x0 x1 x5 x6 h).symm
    show _ = dedupref13_high_B1 prog w0 (dedupref13_high_L1 prog w0 k0 m) k0 x0 x1 x5 x6 h
    rw [e]
    kernel_rfl
theorem dedupref13_high_E1_eq (w0 : World) : dedupref13_high_E1 prog w0 = fun k0 x0 x1 x5 x6 h => ∃ m, loopA (stepL ⟨prog, w0, 25, ks_dedupref13_high⟩ (drw w0 25) (loopAt fn_dedupref13_high 0)) m (mkFr [(0, x0), (1, x1), (5, x5), (6, x6)]) [fun t => k0 (t 5)] h := by
  funext k0 x0 x1 x5 x6 h
  exact congrArg Exists (funext fun m => (dedupref13_high_L1_eq w0 k0 m x0 x1 x5 x6 h).symm)
theorem c_dedupref13_high {w0 : World} {h : Hp} {R : Kont} {a0 a1 : Value} (hj : ∀ v, v ∈ [a0, a1] → v ≠ junk) (hv : s_dedupref13_high prog w0 a0 a1 R h) : ACalls prog w0 n_dedupref13_high [a0, a1] h R := by
  have e : vcFn ⟨prog, w0, 25, ks_dedupref13_high⟩ (drw w0 25) fn_dedupref13_high [a0, a1] R h = s_dedupref13_high prog w0 a0 a1 R h := by
    unfold s_dedupref13_high
    rw [dedupref13_high_E1_eq w0]
    kernel_rfl
  exact acalls_of_eq (fn := fn_dedupref13_high) (ks := ks_dedupref13_high) (n := 25) (by kernel_rfl) (by kernel_rfl) (draw_ok (by kernel_rfl)) (by simp) hj e hv

abbrev fn_dedupref13_Pack_end : Func := f62
def ks_dedupref13_Pack_end : List (Nat × List Nat × List Nat) := [(3, [0, 3, 4], [3])]
def dedupref13_Pack_end_B1 (P : Program) (w0 : World) (R : Value → Value → Value → Hp → Prop) (k0 : Value → Hp → Prop) (x0 x3 x4 : Value) : Hp → Prop :=
 nilA x0 fun v7_1 =>
 addA v7_1 3 fun v8_2 =>
 loadA w0 v8_2 fun v9_3 =>
 pureA (lenSl v9_3) fun v10_4 =>
 pureA (binA .lss x4 v10_4) fun v11_5 =>
 condA v11_5 (
 pureA (binA .add x3 (.int .i64 8)) fun v15_6 =>
 nilA x0 fun v17_7 =>
 addA v17_7 3 fun v18_8 =>
 loadA w0 v18_8 fun v19_9 =>
 idxSlA 1 v19_9 x4 fun v21_10 =>
 loadA w0 v21_10 fun v22_11 =>
 pureA (lenSl v22_11) fun v23_12 =>
 pureA (binA .add v15_6 v23_12) fun v24_13 =>
 pureA (binA .add x4 (.int .i64 1)) fun v13_14 =>
 R x0 v24_13 v13_14) (
 k0 x3)
def dedupref13_Pack_end_L1 (P : Program) (w0 : World) (k0 : Value → Hp → Prop) : Nat → Value → Value → Value → Hp → Prop
  | 0, _, _, _ => fun _ => False
  | m + 1, x0, x3, x4 => dedupref13_Pack_end_B1 P w0 (dedupref13_Pack_end_L1 P w0 k0 m) k0 x0 x3 x4
def dedupref13_Pack_end_E1 (P : Program) (w0 : World) (k0 : Value → Hp → Prop) (x0 x3 x4 : Value) : Hp → Prop := fun h => ∃ m, dedupref13_Pack_end_L1 P w0 k0 m x0 x3 x4 h
def s_dedupref13_Pack_end (P : Program) (w0 : World) (a0 : Value) (R : Kont) : Hp → Prop :=
 dedupref13_Pack_end_E1 P w0 (fun y3_15 =>
 retA [y3_15] R) a0 (.int .i64 16) (.int .i64 0)
theorem dedupref13_Pack_end_L1_eq (w0 : World) (k0 : Value → Hp → Prop) : ∀ (m : Nat) (x0 x3 x4 : Value) (h : Hp), loopA (stepL ⟨prog, w0, 26, ks_dedupref13_Pack_end⟩ (drw w0 26) (loopAt fn_dedupref13_Pack_end 0)) m (mkFr [(0, x0), (3, x3), (4, x4)]) [fun t => k0 (t 3)] h = dedupref13_Pack_end_L1 prog w0 k0 m x0 x3 x4 h := by
  intro m
  induction m with
  | zero => intros; kernel_rfl
  | succ m ih =>
    intro x0 x3 x4 h
    have e : dedupref13_Pack_end_L1 prog w0 k0 m = fun x0 x3 x4 h => loopA (stepL ⟨prog, w0, 26, ks_dedupref13_Pack_end⟩ (drw w0 26) (loopAt fn_dedupref13_Pack_end 0)) m (mkFr [(0, x0), (3, x3), (4, x4)]) [fun t => k0 (t 3)] h := by funext x0 x3 x4 h; exact (ih x0 x3 x4 h).symm
    show _ = dedupref13_Pack_end_B1 prog w0 (dedupref13_Pack_end_L1 prog w0 k0 m) k0 x0 x3 x4 h
    rw [e]
    kernel_rfl
theorem dedupref13_Pack_end_E1_eq (w0 : World) : dedupref13_Pack_end_E1 prog w0 = fun k0 x0 x3 x4 h => ∃ m, loopA (stepL ⟨prog, w0, 26, ks_dedupref13_Pack_end⟩ (drw w0 26) (loopAt fn_dedupref13_Pack_end 0)) m (mkFr [(0, x0), (3, x3), (4, x4)]) [fun t => k0 (t 3)] h := by
  funext k0 x0 x3 x4 h
  exact congrArg Exists (funext fun m => (dedupref13_Pack_end_L1_eq w0 k0 m x0 x3 x4 h).symm)
theorem c_dedupref13_Pack_end {w0 : World} {h : Hp} {R : Kont} {a0 : Value} (hj : ∀ v, v ∈ [a0] → v ≠ junk) (hv : s_dedupref13_Pack_end prog w0 a0 R h) : ACalls prog w0 n_dedupref13_Pack_end [a0] h R := by
  have e : vcFn ⟨prog, w0, 26, ks_dedupref13_Pack_end⟩ (drw w0 26) fn_dedupref13_Pack_end [a0] R h = s_dedupref13_Pack_end prog w0 a0 R h := by
    unfold s_dedupref13_Pack_end
    rw [dedupref13_Pack_end_E1_eq w0]
    kernel_rfl
  exact acalls_of_eq (fn := fn_dedupref13_Pack_end) (ks := ks_dedupref13_Pack_end) (n := 26) (by kernel_rfl) (by kernel_rfl) (draw_ok (by kernel_rfl)) (by simp) hj e hv

end
end Go.Proofs.Ytfhamcobfpmgbaa.Ah
