/- PRINTED by wip/tools/shallow.py: functions of the program as readable words, and that each is what its text says. -/
import Derived.Test.YtiakadkooclelaaGn
set_option linter.unusedVariables false
set_option linter.unusedSimpArgs false
namespace Go.Proofs.Ytiakadkooclelaa.Ah
open Go Go.Proofs.Try
noncomputable section

abbrev fn_dedupref07_New : Func := f10
def ks_dedupref07_New : List (Nat × List Nat × List Nat) := []
def s_dedupref07_New (P : Program) (w0 : World) (a0 a1 a2 : Value) (R : Kont) : Hp → Prop :=
 callA P w0 n_dedupref07_power [a0, (.int .i64 512), (.int .i64 4096)] fun v9_1 =>
 pureA (unA .not v9_1) fun v10_2 =>
 guardA v10_2 false (fun K => K a1) fun v12_3 =>
 guardA v10_2 false (pureA (binA .lss v12_3 (.int .i64 1))) fun v13_4 =>
 pickA v10_2 (.bool true) v13_4 fun v14_5 =>
 guardA v14_5 false (fun K => K a1) fun v16_6 =>
 guardA v14_5 false (pureA (binA .gtr v16_6 (.int .i64 4096))) fun v17_7 =>
 pickA v14_5 (.bool true) v17_7 fun v18_8 =>
 condA v18_8 (
 retA [(.pointer none), (.int .i64 1)] R) (
 buildA [(0, 1, false, a0), (1, 1, false, a1), (2, 1, false, a2)] [(.int .i64 0), (.int .i64 0), (.int .u64 0), (.slice none 0 0), (.int .i64 0), (.int .i64 0)] fun v22_9 =>
 boxA true 6 v22_9 fun v23_10 =>
 retA [v23_10, (.int .i64 0)] R)
theorem c_dedupref07_New {w0 : World} {h : Hp} {R : Kont} {a0 a1 a2 : Value} (hj : ∀ v, v ∈ [a0, a1, a2] → v ≠ junk) (hv : s_dedupref07_New prog w0 a0 a1 a2 R h) : ACalls prog w0 n_dedupref07_New [a0, a1, a2] h R :=
  c_of fn_dedupref07_New ks_dedupref07_New 24 (by kernel_rfl) (by kernel_rfl) (by simp) hj (by
    kernel_rfl) hv

abbrev fn_dedupref07_Writer_Append : Func := f12
def ks_dedupref07_Writer_Append : List (Nat × List Nat × List Nat) := [(7, [0, 5, 6], [0])]
def dedupref07_Writer_Append_B1 (P : Program) (w0 : World) (R : Value → Value → Value → Hp → Prop) (k0 : Value → Hp → Prop) (x0 x5 x6 : Value) : Hp → Prop :=
 pureA (lenSl x5) fun v25_11 =>
 pureA (binA .lss x6 v25_11) fun v26_12 =>
 condA v26_12 (
 nilA x0 fun v30_13 =>
 addA v30_13 3 fun v31_14 =>
 loadA w0 v31_14 fun v32_15 =>
 pureA (lenSl v32_15) fun v33_16 =>
 pureQ (fun K => K v33_16) fun v34_17 =>
 pureQ (fun K => K x0) fun v35_18 =>
 pureQ (nilA v35_18) fun v36_19 =>
 pureQ (addA v36_19 4) fun v37_20 =>
 readQ (loadA w0 v37_20) fun v38_21 =>
 pureQ (pureA (binA .eql v34_17 v38_21)) fun v39_22 =>
 pureQ (fun K => K v39_22) fun v40_23 =>
 pureQ (guardA v40_23 false (fun K => K x0)) fun v41_24 =>
 pureQ (guardA v40_23 false (nilA v41_24)) fun v42_25 =>
 pureQ (guardA v40_23 false (addA v42_25 3)) fun v43_26 =>
 readQ (guardA v40_23 false (loadA w0 v43_26)) fun v44_27 =>
 pureQ (guardA v40_23 false (fun K => K v33_16)) fun v45_28 =>
 pureQ (guardA v40_23 false (pureA (binA .sub v45_28 (.int .i64 1)))) fun v46_29 =>
 pureQ (guardA v40_23 false (idxSlA 1 v44_27 v46_29)) fun v47_30 =>
 readQ (guardA v40_23 false (loadA w0 v47_30)) fun v48_31 =>
 pureQ (guardA v40_23 false (pureA (lenSl v48_31))) fun v49_32 =>
 pureQ (guardA v40_23 false (fun K => K x0)) fun v50_33 =>
 pureQ (guardA v40_23 false (nilA v50_33)) fun v51_34 =>
 pureQ (guardA v40_23 false (addA v51_34 0)) fun v52_35 =>
 readQ (guardA v40_23 false (loadA w0 v52_35)) fun v53_36 =>
 pureQ (guardA v40_23 false (pureA (binA .sub v53_36 (.int .i64 24)))) fun v54_37 =>
 pureQ (guardA v40_23 false (pureA (binA .eql v49_32 v54_37))) fun v55_38 =>
 pureQ (pickA v40_23 (.bool true) v55_38) fun v56_39 =>
 endA (
 condA v56_39 (
 nilA x0 fun v59_40 =>
 addA v59_40 3 fun v60_41 =>
 loadA w0 v60_41 fun v61_42 =>
 bslA [(0, 1, false, (.slice none 0 0))] (zerosL [(.slice none 0 0)] 1) 1 1 fun v62_43 =>
 appA w0 1 24 v61_42 v62_43 fun v63_44 =>
 nilA x0 fun v64_45 =>
 addA v64_45 3 fun v65_46 =>
 storeA w0 v65_46 v63_44 fun _ =>
 pureA (binA .add v33_16 (.int .i64 1)) fun v67_47 =>
 pureQ (fun K => K x0) fun v68_48 =>
 pureQ (nilA v68_48) fun v69_49 =>
 pureQ (addA v69_49 3) fun v70_50 =>
 readQ (loadA w0 v70_50) fun v71_51 =>
 pureQ (fun K => K v67_47) fun v72_52 =>
 pureQ (pureA (binA .sub v72_52 (.int .i64 1))) fun v73_53 =>
 pureQ (fun K => K x0) fun v74_54 =>
 pureQ (nilA v74_54) fun v75_55 =>
 pureQ (addA v75_55 3) fun v76_56 =>
 readQ (loadA w0 v76_56) fun v77_57 =>
 pureQ (fun K => K v67_47) fun v78_58 =>
 pureQ (pureA (binA .sub v78_58 (.int .i64 1))) fun v79_59 =>
 pureQ (idxSlA 1 v77_57 v79_59) fun v80_60 =>
 readQ (loadA w0 v80_60) fun v81_61 =>
 pureQ (fun K => K x5) fun v82_62 =>
 pureQ (fun K => K x6) fun v83_63 =>
 pureQ (idxSlA 1 v82_62 v83_63) fun v84_64 =>
 readQ (loadA w0 v84_64) fun v85_65 =>
 allA [
 (bslA [(0, 1, false, v85_65)] (zerosL [(.int .u8 0)] 1) 1 1 fun v86_66 =>
 stillA [(sameQ (loadA w0 v80_60) v81_61), (sameQ (loadA w0 v76_56) v77_57), (sameQ (loadA w0 v70_50) v71_51)] (
 allA [
 (appA w0 1 1 v81_61 v86_66 fun v87_67 =>
 stillA [(sameQ (loadA w0 v70_50) v71_51)] (
 pureQ (idxSlA 1 v71_51 v73_53) fun v88_68 =>
 allA [
 (storeA w0 v88_68 v87_67 fun _ =>
 stillA [] (
 endA (
 pureA (binA .add x6 (.int .i64 1)) fun v28_69 =>
 R x0 x5 v28_69)))]))]))]) (
 pureQ (fun K => K x0) fun v68_70 =>
 pureQ (nilA v68_70) fun v69_71 =>
 pureQ (addA v69_71 3) fun v70_72 =>
 readQ (loadA w0 v70_72) fun v71_73 =>
 pureQ (fun K => K v33_16) fun v72_74 =>
 pureQ (pureA (binA .sub v72_74 (.int .i64 1))) fun v73_75 =>
 pureQ (fun K => K x0) fun v74_76 =>
 pureQ (nilA v74_76) fun v75_77 =>
 pureQ (addA v75_77 3) fun v76_78 =>
 readQ (loadA w0 v76_78) fun v77_79 =>
 pureQ (fun K => K v33_16) fun v78_80 =>
 pureQ (pureA (binA .sub v78_80 (.int .i64 1))) fun v79_81 =>
 pureQ (idxSlA 1 v77_79 v79_81) fun v80_82 =>
 readQ (loadA w0 v80_82) fun v81_83 =>
 pureQ (fun K => K x5) fun v82_84 =>
 pureQ (fun K => K x6) fun v83_85 =>
 pureQ (idxSlA 1 v82_84 v83_85) fun v84_86 =>
 readQ (loadA w0 v84_86) fun v85_87 =>
 allA [
 (bslA [(0, 1, false, v85_87)] (zerosL [(.int .u8 0)] 1) 1 1 fun v86_88 =>
 stillA [(sameQ (loadA w0 v80_82) v81_83), (sameQ (loadA w0 v76_78) v77_79), (sameQ (loadA w0 v70_72) v71_73)] (
 allA [
 (appA w0 1 1 v81_83 v86_88 fun v87_89 =>
 stillA [(sameQ (loadA w0 v70_72) v71_73)] (
 pureQ (idxSlA 1 v71_73 v73_75) fun v88_90 =>
 allA [
 (storeA w0 v88_90 v87_89 fun _ =>
 stillA [] (
 endA (
 pureA (binA .add x6 (.int .i64 1)) fun v28_91 =>
 R x0 x5 v28_91)))]))]))]))) (
 k0 x0)
def dedupref07_Writer_Append_L1 (P : Program) (w0 : World) (k0 : Value → Hp → Prop) : Nat → Value → Value → Value → Hp → Prop
  | 0, _, _, _ => fun _ => False
  | m + 1, x0, x5, x6 => dedupref07_Writer_Append_B1 P w0 (dedupref07_Writer_Append_L1 P w0 k0 m) k0 x0 x5 x6
def dedupref07_Writer_Append_E1 (P : Program) (w0 : World) (k0 : Value → Hp → Prop) (x0 x5 x6 : Value) : Hp → Prop := fun h => ∃ m, dedupref07_Writer_Append_L1 P w0 k0 m x0 x5 x6 h
def s_dedupref07_Writer_Append (P : Program) (w0 : World) (a0 a1 : Value) (R : Kont) : Hp → Prop :=
 pureA (lenStr a1) fun v9_1 =>
 pureA (binA .gtr v9_1 (.int .i64 65536)) fun v10_2 =>
 condA v10_2 (
 retA [(.int .i64 3)] R) (
 pureA (lenStr a1) fun v12_3 =>
 pureA (binA .add (.int .i64 4) v12_3) fun v13_4 =>
 callA P w0 n_dedupref07_Writer_free [a0] fun v15_5 =>
 pureA (binA .gtr v13_4 v15_5) fun v16_6 =>
 condA v16_6 (
 retA [(.int .i64 2)] R) (
 pureA (lenStr a1) fun v18_7 =>
 pureA (convA .u64 v18_7) fun v19_8 =>
 callA P w0 n_dedupref07_high [v19_8, (.int .i64 4)] fun v20_9 =>
 appA w0 1 1 v20_9 a1 fun v22_10 =>
 dedupref07_Writer_Append_E1 P w0 (fun y0_92 =>
 nilA y0_92 fun v90_93 =>
 addA v90_93 5 fun v91_94 =>
 loadA w0 v91_94 fun v92_95 =>
 pureA (binA .add v92_95 (.int .i64 1)) fun v93_96 =>
 nilA y0_92 fun v94_97 =>
 addA v94_97 5 fun v95_98 =>
 storeA w0 v95_98 v93_96 fun _ =>
 retA [(.int .i64 0)] R) a0 v22_10 (.int .i64 0)))
def dedupref07_Writer_Append_F1 (w0 : World) (k0 : Value → Hp → Prop) (m : Nat) (x0 x5 x6 : Value) : Hp → Prop := loopA (stepL ⟨prog, w0, 96, ks_dedupref07_Writer_Append⟩ (drw w0 96) (loopAt fn_dedupref07_Writer_Append 0)) m (mkFr [(0, x0), (5, x5), (6, x6)]) [fun t => k0 (t 0)]
theorem dedupref07_Writer_Append_L1_eq (w0 : World) (k0 : Value → Hp → Prop) : ∀ m, dedupref07_Writer_Append_F1 w0 k0 m = dedupref07_Writer_Append_L1 prog w0 k0 m := by
  intro m
  induction m with
  | zero => kernel_rfl
  | succ m ih =>
    show _ = fun x0 x5 x6 => dedupref07_Writer_Append_B1 prog w0 (dedupref07_Writer_Append_L1 prog w0 k0 m) k0 x0 x5 x6
    rw [← ih]
    kernel_rfl
theorem dedupref07_Writer_Append_E1_eq (w0 : World) : dedupref07_Writer_Append_E1 prog w0 = fun k0 x0 x5 x6 h => ∃ m, dedupref07_Writer_Append_F1 w0 k0 m x0 x5 x6 h := by
  funext k0 x0 x5 x6 h
  simp only [dedupref07_Writer_Append_L1_eq]
  rfl
theorem c_dedupref07_Writer_Append {w0 : World} {h : Hp} {R : Kont} {a0 a1 : Value} (hj : ∀ v, v ∈ [a0, a1] → v ≠ junk) (hv : s_dedupref07_Writer_Append prog w0 a0 a1 R h) : ACalls prog w0 n_dedupref07_Writer_Append [a0, a1] h R :=
  c_of fn_dedupref07_Writer_Append ks_dedupref07_Writer_Append 96 (by kernel_rfl) (by kernel_rfl) (by simp) hj (by
    unfold s_dedupref07_Writer_Append
    rw [dedupref07_Writer_Append_E1_eq w0]
    kernel_rfl) hv

abbrev fn_dedupref07_Writer_Take : Func := f17
def ks_dedupref07_Writer_Take : List (Nat × List Nat × List Nat) := [(3, [0, 3, 4], [0, 3])]
def dedupref07_Writer_Take_B1 (P : Program) (w0 : World) (R : Value → Value → Value → Hp → Prop) (k0 : Value → Value → Hp → Prop) (x0 x3 x4 : Value) : Hp → Prop :=
 nilA x0 fun v11_4 =>
 addA v11_4 3 fun v12_5 =>
 loadA w0 v12_5 fun v13_6 =>
 pureA (lenSl v13_6) fun v14_7 =>
 pureA (binA .lss x4 v14_7) fun v15_8 =>
 condA v15_8 (
 pureQ (fun K => K x3) fun v18_9 =>
 pureQ (fun K => K x4) fun v19_10 =>
 pureQ (fun K => K x0) fun v20_11 =>
 pureQ (nilA v20_11) fun v21_12 =>
 pureQ (addA v21_12 0) fun v22_13 =>
 readQ (loadA w0 v22_13) fun v23_14 =>
 pureQ (fun K => K x0) fun v24_15 =>
 pureQ (nilA v24_15) fun v25_16 =>
 pureQ (addA v25_16 2) fun v26_17 =>
 readQ (loadA w0 v26_17) fun v27_18 =>
 pureQ (fun K => K x4) fun v28_19 =>
 pureQ (fun K => K x0) fun v29_20 =>
 pureQ (nilA v29_20) fun v30_21 =>
 pureQ (addA v30_21 3) fun v31_22 =>
 readQ (loadA w0 v31_22) fun v32_23 =>
 pureQ (fun K => K x4) fun v33_24 =>
 pureQ (idxSlA 1 v32_23 v33_24) fun v34_25 =>
 readQ (loadA w0 v34_25) fun v35_26 =>
 allA [
 (callA P w0 n_dedupref07_Bytes [v23_14, v27_18, v28_19, v35_26] fun v36_27 =>
 stillA [] (
 allA [
 (buildA [(0, 1, false, v19_10), (1, 1, false, v36_27)] [(.int .i64 0), (.slice none 0 0)] fun v37_28 =>
 stillA [] (
 allA [
 (bslA [(0, 2, true, v37_28)] (zerosL [(.int .i64 0), (.slice none 0 0)] 1) 1 2 fun v38_29 =>
 stillA [] (
 allA [
 (appA w0 2 32 v18_9 v38_29 fun v39_30 =>
 stillA [] (
 pureQ (fun K => K v39_30) fun v3_31 =>
 endA (
 pureA (binA .add x4 (.int .i64 1)) fun v17_32 =>
 R x0 v3_31 v17_32)))]))]))]))]) (
 k0 x0 x3)
def dedupref07_Writer_Take_L1 (P : Program) (w0 : World) (k0 : Value → Value → Hp → Prop) : Nat → Value → Value → Value → Hp → Prop
  | 0, _, _, _ => fun _ => False
  | m + 1, x0, x3, x4 => dedupref07_Writer_Take_B1 P w0 (dedupref07_Writer_Take_L1 P w0 k0 m) k0 x0 x3 x4
def dedupref07_Writer_Take_E1 (P : Program) (w0 : World) (k0 : Value → Value → Hp → Prop) (x0 x3 x4 : Value) : Hp → Prop := fun h => ∃ m, dedupref07_Writer_Take_L1 P w0 k0 m x0 x3 x4 h
def s_dedupref07_Writer_Take (P : Program) (w0 : World) (a0 : Value) (R : Kont) : Hp → Prop :=
 nilA a0 fun v6_1 =>
 addA v6_1 4 fun v7_2 =>
 loadA w0 v7_2 fun v8_3 =>
 dedupref07_Writer_Take_E1 P w0 (fun y0_33 y3_34 =>
 nilA y0_33 fun v42_35 =>
 addA v42_35 3 fun v43_36 =>
 loadA w0 v43_36 fun v44_37 =>
 pureA (lenSl v44_37) fun v45_38 =>
 nilA y0_33 fun v46_39 =>
 addA v46_39 4 fun v47_40 =>
 storeA w0 v47_40 v45_38 fun _ =>
 retA [y3_34] R) a0 (.slice none 0 0) v8_3
def dedupref07_Writer_Take_F1 (w0 : World) (k0 : Value → Value → Hp → Prop) (m : Nat) (x0 x3 x4 : Value) : Hp → Prop := loopA (stepL ⟨prog, w0, 49, ks_dedupref07_Writer_Take⟩ (drw w0 49) (loopAt fn_dedupref07_Writer_Take 0)) m (mkFr [(0, x0), (3, x3), (4, x4)]) [fun t => k0 (t 0) (t 3)]
theorem dedupref07_Writer_Take_L1_eq (w0 : World) (k0 : Value → Value → Hp → Prop) : ∀ m, dedupref07_Writer_Take_F1 w0 k0 m = dedupref07_Writer_Take_L1 prog w0 k0 m := by
  intro m
  induction m with
  | zero => kernel_rfl
  | succ m ih =>
    show _ = fun x0 x3 x4 => dedupref07_Writer_Take_B1 prog w0 (dedupref07_Writer_Take_L1 prog w0 k0 m) k0 x0 x3 x4
    rw [← ih]
    kernel_rfl
theorem dedupref07_Writer_Take_E1_eq (w0 : World) : dedupref07_Writer_Take_E1 prog w0 = fun k0 x0 x3 x4 h => ∃ m, dedupref07_Writer_Take_F1 w0 k0 m x0 x3 x4 h := by
  funext k0 x0 x3 x4 h
  simp only [dedupref07_Writer_Take_L1_eq]
  rfl
theorem c_dedupref07_Writer_Take {w0 : World} {h : Hp} {R : Kont} {a0 : Value} (hj : ∀ v, v ∈ [a0] → v ≠ junk) (hv : s_dedupref07_Writer_Take prog w0 a0 R h) : ACalls prog w0 n_dedupref07_Writer_Take [a0] h R :=
  c_of fn_dedupref07_Writer_Take ks_dedupref07_Writer_Take 49 (by kernel_rfl) (by kernel_rfl) (by simp) hj (by
    unfold s_dedupref07_Writer_Take
    rw [dedupref07_Writer_Take_E1_eq w0]
    kernel_rfl) hv

abbrev fn_dedupref07_Bytes : Func := f21
def ks_dedupref07_Bytes : List (Nat × List Nat × List Nat) := []
def s_dedupref07_Bytes (P : Program) (w0 : World) (a0 a1 a2 a3 : Value) (R : Kont) : Hp → Prop :=
 bslA [(0, 1, false, (.int .u8 68)), (1, 1, false, (.int .u8 74)), (2, 1, false, (.int .u8 82)), (3, 1, false, (.int .u8 78))] (zerosL [(.int .u8 0)] 4) 4 1 fun v12_1 =>
 sl2slA w0 v12_1 fun v13_2 =>
 callA P w0 n_dedupref07_high [a1, (.int .i64 8)] fun v15_3 =>
 appA w0 1 1 v13_2 v15_3 fun v16_4 =>
 pureA (convA .u64 a2) fun v19_5 =>
 callA P w0 n_dedupref07_high [v19_5, (.int .i64 4)] fun v20_6 =>
 appA w0 1 1 v16_4 v20_6 fun v21_7 =>
 pureA (lenSl a3) fun v23_8 =>
 pureA (convA .u64 v23_8) fun v24_9 =>
 callA P w0 n_dedupref07_high [v24_9, (.int .i64 4)] fun v25_10 =>
 appA w0 1 1 v21_7 v25_10 fun v26_11 =>
 pureA (binA .sub a0 (.int .i64 24)) fun v28_12 =>
 mkA 1 1 [(.int .u8 0)] v28_12 v28_12 fun v29_13 =>
 copyA w0 1 v29_13 a3 fun v32_14 =>
 bslA [] (zerosL [(.int .u8 0)] 0) 0 1 fun v33_15 =>
 appA w0 1 1 v33_15 v26_11 fun v35_16 =>
 appA w0 1 1 v35_16 v29_13 fun v37_17 =>
 b2sA w0 v37_17 fun v40_18 =>
 callA P w0 n_dedupref02_Crc [v40_18] fun v41_19 =>
 pureA (convA .u64 v41_19) fun v42_20 =>
 callA P w0 n_dedupref07_high [v42_20, (.int .i64 4)] fun v43_21 =>
 appA w0 1 1 v26_11 v43_21 fun v44_22 =>
 appA w0 1 1 v44_22 v29_13 fun v47_23 =>
 retA [v47_23] R
theorem c_dedupref07_Bytes {w0 : World} {h : Hp} {R : Kont} {a0 a1 a2 a3 : Value} (hj : ∀ v, v ∈ [a0, a1, a2, a3] → v ≠ junk) (hv : s_dedupref07_Bytes prog w0 a0 a1 a2 a3 R h) : ACalls prog w0 n_dedupref07_Bytes [a0, a1, a2, a3] h R :=
  c_of fn_dedupref07_Bytes ks_dedupref07_Bytes 48 (by kernel_rfl) (by kernel_rfl) (by simp) hj (by
    kernel_rfl) hv

abbrev fn_dedupref07_power : Func := f29
def ks_dedupref07_power : List (Nat × List Nat × List Nat) := [(2, [0, 2, 6, 7], [6])]
def dedupref07_power_B1 (P : Program) (w0 : World) (R : Value → Value → Value → Value → Hp → Prop) (k0 : Value → Hp → Prop) (kr : Value → Hp → Prop) (x0 x2 x6 x7 : Value) : Hp → Prop :=
 pureA (binA .leq x7 x2) fun v11_1 =>
 condA v11_1 (
 pureA (binA .eql x0 x7) fun v16_2 =>
 condA v16_2 (
 kr (.bool true)) (
 pureA (binA .mul (.int .i64 2) x7) fun v13_3 =>
 R x0 x2 x6 v13_3)) (
 k0 x6)
def dedupref07_power_L1 (P : Program) (w0 : World) (k0 : Value → Hp → Prop) (kr : Value → Hp → Prop) : Nat → Value → Value → Value → Value → Hp → Prop
  | 0, _, _, _, _ => fun _ => False
  | m + 1, x0, x2, x6, x7 => dedupref07_power_B1 P w0 (dedupref07_power_L1 P w0 k0 kr m) k0 kr x0 x2 x6 x7
def dedupref07_power_E1 (P : Program) (w0 : World) (k0 : Value → Hp → Prop) (kr : Value → Hp → Prop) (x0 x2 x6 x7 : Value) : Hp → Prop := fun h => ∃ m, dedupref07_power_L1 P w0 k0 kr m x0 x2 x6 x7 h
def s_dedupref07_power (P : Program) (w0 : World) (a0 a1 a2 : Value) (R : Kont) : Hp → Prop :=
 dedupref07_power_E1 P w0 (fun y6_4 =>
 retA [(.bool false)] R) (fun y6_5 =>
 retA [y6_5] R) a0 a2 (.bool false) a1
def dedupref07_power_F1 (w0 : World) (k0 : Value → Hp → Prop) (kr : Value → Hp → Prop) (m : Nat) (x0 x2 x6 x7 : Value) : Hp → Prop := loopA (stepL ⟨prog, w0, 17, ks_dedupref07_power⟩ (drw w0 17) (loopAt fn_dedupref07_power 0)) m (mkFr [(0, x0), (2, x2), (6, x6), (7, x7)]) [fun t => k0 (t 6), fun t => kr (t 6)]
theorem dedupref07_power_L1_eq (w0 : World) (k0 : Value → Hp → Prop) (kr : Value → Hp → Prop) : ∀ m, dedupref07_power_F1 w0 k0 kr m = dedupref07_power_L1 prog w0 k0 kr m := by
  intro m
  induction m with
  | zero => kernel_rfl
  | succ m ih =>
    show _ = fun x0 x2 x6 x7 => dedupref07_power_B1 prog w0 (dedupref07_power_L1 prog w0 k0 kr m) k0 kr x0 x2 x6 x7
    rw [← ih]
    kernel_rfl
theorem dedupref07_power_E1_eq (w0 : World) : dedupref07_power_E1 prog w0 = fun k0 kr x0 x2 x6 x7 h => ∃ m, dedupref07_power_F1 w0 k0 kr m x0 x2 x6 x7 h := by
  funext k0 kr x0 x2 x6 x7 h
  simp only [dedupref07_power_L1_eq]
  rfl
theorem c_dedupref07_power {w0 : World} {h : Hp} {R : Kont} {a0 a1 a2 : Value} (hj : ∀ v, v ∈ [a0, a1, a2] → v ≠ junk) (hv : s_dedupref07_power prog w0 a0 a1 a2 R h) : ACalls prog w0 n_dedupref07_power [a0, a1, a2] h R :=
  c_of fn_dedupref07_power ks_dedupref07_power 17 (by kernel_rfl) (by kernel_rfl) (by simp) hj (by
    unfold s_dedupref07_power
    rw [dedupref07_power_E1_eq w0]
    kernel_rfl) hv

abbrev fn_dedupref07_Writer_free : Func := f34
def ks_dedupref07_Writer_free : List (Nat × List Nat × List Nat) := [(4, [0, 4, 5], [4])]
def dedupref07_Writer_free_B1 (P : Program) (w0 : World) (R : Value → Value → Value → Hp → Prop) (k0 : Value → Hp → Prop) (x0 x4 x5 : Value) : Hp → Prop :=
 nilA x0 fun v28_20 =>
 addA v28_20 3 fun v29_21 =>
 loadA w0 v29_21 fun v30_22 =>
 pureA (lenSl v30_22) fun v31_23 =>
 pureA (binA .lss x5 v31_23) fun v32_24 =>
 condA v32_24 (
 nilA x0 fun v37_25 =>
 addA v37_25 3 fun v38_26 =>
 loadA w0 v38_26 fun v39_27 =>
 idxSlA 1 v39_27 x5 fun v41_28 =>
 loadA w0 v41_28 fun v42_29 =>
 pureA (lenSl v42_29) fun v43_30 =>
 pureA (binA .sub x4 v43_30) fun v44_31 =>
 pureA (binA .add x5 (.int .i64 1)) fun v34_32 =>
 R x0 v44_31 v34_32) (
 k0 x4)
def dedupref07_Writer_free_L1 (P : Program) (w0 : World) (k0 : Value → Hp → Prop) : Nat → Value → Value → Value → Hp → Prop
  | 0, _, _, _ => fun _ => False
  | m + 1, x0, x4, x5 => dedupref07_Writer_free_B1 P w0 (dedupref07_Writer_free_L1 P w0 k0 m) k0 x0 x4 x5
def dedupref07_Writer_free_E1 (P : Program) (w0 : World) (k0 : Value → Hp → Prop) (x0 x4 x5 : Value) : Hp → Prop := fun h => ∃ m, dedupref07_Writer_free_L1 P w0 k0 m x0 x4 x5 h
def s_dedupref07_Writer_free (P : Program) (w0 : World) (a0 : Value) (R : Kont) : Hp → Prop :=
 nilA a0 fun v7_1 =>
 addA v7_1 0 fun v8_2 =>
 loadA w0 v8_2 fun v9_3 =>
 pureA (binA .sub v9_3 (.int .i64 24)) fun v10_4 =>
 pureQ (fun K => K a0) fun v11_5 =>
 pureQ (nilA v11_5) fun v12_6 =>
 pureQ (addA v12_6 1) fun v13_7 =>
 readQ (loadA w0 v13_7) fun v14_8 =>
 pureQ (fun K => K a0) fun v15_9 =>
 pureQ (nilA v15_9) fun v16_10 =>
 pureQ (addA v16_10 4) fun v17_11 =>
 readQ (loadA w0 v17_11) fun v18_12 =>
 pureQ (pureA (binA .sub v14_8 v18_12)) fun v19_13 =>
 pureQ (fun K => K v10_4) fun v20_14 =>
 pureQ (pureA (binA .mul v19_13 v20_14)) fun v21_15 =>
 pureQ (fun K => K v21_15) fun v4_16 =>
 endA (
 nilA a0 fun v23_17 =>
 addA v23_17 4 fun v24_18 =>
 loadA w0 v24_18 fun v25_19 =>
 dedupref07_Writer_free_E1 P w0 (fun y4_33 =>
 retA [y4_33] R) a0 v4_16 v25_19)
def dedupref07_Writer_free_F1 (w0 : World) (k0 : Value → Hp → Prop) (m : Nat) (x0 x4 x5 : Value) : Hp → Prop := loopA (stepL ⟨prog, w0, 46, ks_dedupref07_Writer_free⟩ (drw w0 46) (loopAt fn_dedupref07_Writer_free 0)) m (mkFr [(0, x0), (4, x4), (5, x5)]) [fun t => k0 (t 4)]
theorem dedupref07_Writer_free_L1_eq (w0 : World) (k0 : Value → Hp → Prop) : ∀ m, dedupref07_Writer_free_F1 w0 k0 m = dedupref07_Writer_free_L1 prog w0 k0 m := by
  intro m
  induction m with
  | zero => kernel_rfl
  | succ m ih =>
    show _ = fun x0 x4 x5 => dedupref07_Writer_free_B1 prog w0 (dedupref07_Writer_free_L1 prog w0 k0 m) k0 x0 x4 x5
    rw [← ih]
    kernel_rfl
theorem dedupref07_Writer_free_E1_eq (w0 : World) : dedupref07_Writer_free_E1 prog w0 = fun k0 x0 x4 x5 h => ∃ m, dedupref07_Writer_free_F1 w0 k0 m x0 x4 x5 h := by
  funext k0 x0 x4 x5 h
  simp only [dedupref07_Writer_free_L1_eq]
  rfl
theorem c_dedupref07_Writer_free {w0 : World} {h : Hp} {R : Kont} {a0 : Value} (hj : ∀ v, v ∈ [a0] → v ≠ junk) (hv : s_dedupref07_Writer_free prog w0 a0 R h) : ACalls prog w0 n_dedupref07_Writer_free [a0] h R :=
  c_of fn_dedupref07_Writer_free ks_dedupref07_Writer_free 46 (by kernel_rfl) (by kernel_rfl) (by simp) hj (by
    unfold s_dedupref07_Writer_free
    rw [dedupref07_Writer_free_E1_eq w0]
    kernel_rfl) hv

abbrev fn_dedupref07_high : Func := f35
def ks_dedupref07_high : List (Nat × List Nat × List Nat) := [(3, [0, 1, 5, 6], [5])]
def dedupref07_high_B1 (P : Program) (w0 : World) (R : Value → Value → Value → Value → Hp → Prop) (k0 : Value → Hp → Prop) (x0 x1 x5 x6 : Value) : Hp → Prop :=
 pureA (binA .lss x6 x1) fun v11_2 =>
 condA v11_2 (
 pureA (binA .sub x1 (.int .i64 1)) fun v16_3 =>
 pureA (binA .sub v16_3 x6) fun v18_4 =>
 pureA (convA .u8 x0) fun v20_5 =>
 idxSlA 1 x5 v18_4 fun v21_6 =>
 storeA w0 v21_6 v20_5 fun _ =>
 pureA (binA .quo x0 (.int .u64 256)) fun v23_7 =>
 pureA (binA .add x6 (.int .i64 1)) fun v13_8 =>
 R v23_7 x1 x5 v13_8) (
 k0 x5)
def dedupref07_high_L1 (P : Program) (w0 : World) (k0 : Value → Hp → Prop) : Nat → Value → Value → Value → Value → Hp → Prop
  | 0, _, _, _, _ => fun _ => False
  | m + 1, x0, x1, x5, x6 => dedupref07_high_B1 P w0 (dedupref07_high_L1 P w0 k0 m) k0 x0 x1 x5 x6
def dedupref07_high_E1 (P : Program) (w0 : World) (k0 : Value → Hp → Prop) (x0 x1 x5 x6 : Value) : Hp → Prop := fun h => ∃ m, dedupref07_high_L1 P w0 k0 m x0 x1 x5 x6 h
def s_dedupref07_high (P : Program) (w0 : World) (a0 a1 : Value) (R : Kont) : Hp → Prop :=
 mkA 1 1 [(.int .u8 0)] a1 a1 fun v8_1 =>
 dedupref07_high_E1 P w0 (fun y5_9 =>
 retA [y5_9] R) a0 a1 v8_1 (.int .i64 0)
def dedupref07_high_F1 (w0 : World) (k0 : Value → Hp → Prop) (m : Nat) (x0 x1 x5 x6 : Value) : Hp → Prop := loopA (stepL ⟨prog, w0, 25, ks_dedupref07_high⟩ (drw w0 25) (loopAt fn_dedupref07_high 0)) m (mkFr [(0, x0), (1, x1), (5, x5), (6, x6)]) [fun t => k0 (t 5)]
theorem dedupref07_high_L1_eq (w0 : World) (k0 : Value → Hp → Prop) : ∀ m, dedupref07_high_F1 w0 k0 m = dedupref07_high_L1 prog w0 k0 m := by
  intro m
  induction m with
  | zero => kernel_rfl
  | succ m ih =>
    show _ = fun x0 x1 x5 x6 => dedupref07_high_B1 prog w0 (dedupref07_high_L1 prog w0 k0 m) k0 x0 x1 x5 x6
    rw [← ih]
    kernel_rfl
theorem dedupref07_high_E1_eq (w0 : World) : dedupref07_high_E1 prog w0 = fun k0 x0 x1 x5 x6 h => ∃ m, dedupref07_high_F1 w0 k0 m x0 x1 x5 x6 h := by
  funext k0 x0 x1 x5 x6 h
  simp only [dedupref07_high_L1_eq]
  rfl
theorem c_dedupref07_high {w0 : World} {h : Hp} {R : Kont} {a0 a1 : Value} (hj : ∀ v, v ∈ [a0, a1] → v ≠ junk) (hv : s_dedupref07_high prog w0 a0 a1 R h) : ACalls prog w0 n_dedupref07_high [a0, a1] h R :=
  c_of fn_dedupref07_high ks_dedupref07_high 25 (by kernel_rfl) (by kernel_rfl) (by simp) hj (by
    unfold s_dedupref07_high
    rw [dedupref07_high_E1_eq w0]
    kernel_rfl) hv

end
end Go.Proofs.Ytiakadkooclelaa.Ah
