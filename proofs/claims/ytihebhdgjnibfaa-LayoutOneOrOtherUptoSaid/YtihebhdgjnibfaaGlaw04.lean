/- PRINTED by wip/tools/shallow.py: functions of the program as readable words, and that each is what its text says. -/
import Derived.Test.YtihebhdgjnibfaaGn
set_option linter.unusedVariables false
set_option linter.unusedSimpArgs false
namespace Go.Proofs.Ytihebhdgjnibfaa.Ah
open Go Go.Proofs.Try
noncomputable section

abbrev fn_deduplaw04_LayoutKinds : Func := f3
def ks_deduplaw04_LayoutKinds : List (Nat × List Nat × List Nat) := []
def s_deduplaw04_LayoutKinds (P : Program) (w0 : World) (a0 a1 : Value) (R : Kont) : Hp → Prop :=
 boxA true 10 a0 fun v2_1 =>
 allA [
 (callA P w0 n_deduplaw04_awake [] fun v5_2 =>
 stillA [] (
 pureQ (fun K => K v5_2) fun v6_3 =>
 readQ (guardA v6_3 true (loadNA w0 v2_1 10)) fun v7_4 =>
 pureQ (guardA v6_3 true (fun K => K a1)) fun v8_5 =>
 readQ (guardA v6_3 true (loadNA w0 v2_1 10)) fun v10_6 =>
 pureQ (guardA v6_3 true (fun K => K a1)) fun v11_7 =>
 allA [
 (guardA v6_3 true (callA P w0 n_layout_Kind [v7_4, v8_5]) fun v9_8 =>
 stillA [(sameQ (guardA v6_3 true (loadNA w0 v2_1 10)) v10_6)] (
 allA [
 (guardA v6_3 true (callA P w0 n_dedupref04_Kind [v10_6, v11_7]) fun v12_9 =>
 stillA [] (
 pureQ (guardA v6_3 true (pureA (binA .eql v9_8 v12_9))) fun v13_10 =>
 pureQ (pickA v6_3 v13_10 (.bool false)) fun v14_11 =>
 pureQ (fun K => K v14_11) fun v4_12 =>
 endA (
 retA [v4_12] R)))]))]))]
theorem c_deduplaw04_LayoutKinds {w0 : World} {h : Hp} {R : Kont} {a0 a1 : Value} (hj : ∀ v, v ∈ [a0, a1] → v ≠ junk) (hv : s_deduplaw04_LayoutKinds prog w0 a0 a1 R h) : ACalls prog w0 n_deduplaw04_LayoutKinds [a0, a1] h R := by
  have e : vcFn ⟨prog, w0, 15, ks_deduplaw04_LayoutKinds⟩ (drw w0 15) fn_deduplaw04_LayoutKinds [a0, a1] R h = s_deduplaw04_LayoutKinds prog w0 a0 a1 R h := by
    kernel_rfl
  exact acalls_of_eq (fn := fn_deduplaw04_LayoutKinds) (ks := ks_deduplaw04_LayoutKinds) (n := 15) (by kernel_rfl) (by kernel_rfl) (draw_ok (by kernel_rfl)) (by simp) hj e hv

abbrev fn_deduplaw04_LayoutEncodes : Func := f4
def ks_deduplaw04_LayoutEncodes : List (Nat × List Nat × List Nat) := []
def s_deduplaw04_LayoutEncodes (P : Program) (w0 : World) (a0 : Value) (R : Kont) : Hp → Prop :=
 boxA true 12 a0 fun v1_1 =>
 allA [
 (callA P w0 n_deduplaw04_awake [] fun v8_2 =>
 stillA [] (
 pureQ (pureA (unA .not v8_2)) fun v9_3 =>
 pureQ (fun K => K v9_3) fun v10_4 =>
 readQ (guardA v10_4 false (loadNA w0 v1_1 12)) fun v11_5 =>
 readQ (guardA v10_4 false (loadNA w0 v1_1 12)) fun v13_6 =>
 allA [
 (guardA v10_4 false (callA P w0 n_layout_CheckSuper [v11_5]) fun v12_7 =>
 stillA [(sameQ (guardA v10_4 false (loadNA w0 v1_1 12)) v13_6)] (
 allA [
 (guardA v10_4 false (callA P w0 n_dedupref04_CheckSuper [v13_6]) fun v14_8 =>
 stillA [] (
 pureQ (guardA v10_4 false (pureA (binA .neq v12_7 v14_8))) fun v15_9 =>
 pureQ (pickA v10_4 (.bool true) v15_9) fun v16_10 =>
 endA (
 condA v16_10 (
 retA [(.bool false)] R) (
 loadNA w0 v1_1 12 fun v18_11 =>
 callA P w0 n_layout_EncodeSuper [v18_11] fun v19_12 =>
 pureA (extA v19_12 0) fun v20_13 =>
 pureA (extA v19_12 1) fun v21_14 =>
 loadNA w0 v1_1 12 fun v23_15 =>
 callA P w0 n_dedupref04_EncodeSuper [v23_15] fun v24_16 =>
 pureA (extA v24_16 0) fun v25_17 =>
 pureA (extA v24_16 1) fun v26_18 =>
 b2sA w0 v20_13 fun v28_19 =>
 b2sA w0 v25_17 fun v30_20 =>
 pureA (binA .neq v28_19 v30_20) fun v31_21 =>
 guardA v31_21 false (fun K => K v21_14) fun v33_22 =>
 guardA v31_21 false (fun K => K v26_18) fun v34_23 =>
 guardA v31_21 false (pureA (binA .neq v33_22 v34_23)) fun v35_24 =>
 pickA v31_21 (.bool true) v35_24 fun v36_25 =>
 condA v36_25 (
 retA [(.bool false)] R) (
 pureA (binA .neq v26_18 (.int .i64 0)) fun v38_26 =>
 condA v38_26 (
 retA [(.bool true)] R) (
 callA P w0 n_layout_DecodeSuper [v20_13] fun v41_27 =>
 pureA (extA v41_27 0) fun v42_28 =>
 pureA (extA v41_27 1) fun v43_29 =>
 newA [(.int .u64 0), (.int .i64 0), (.int .i64 0), (.int .i64 0), (.int .i64 0), (.int .i64 0), (.int .i64 0), (.int .i64 0), (.int .i64 0), (.int .u64 0), (.int .i64 0), (.bool false)] 12 fun v7_30 =>
 storeNA w0 v7_30 v42_28 12 fun _ =>
 loadNA w0 v7_30 12 fun v44_31 =>
 loadNA w0 v1_1 12 fun v45_32 =>
 eqStA P .eql 31 v44_31 v45_32 fun v46_33 =>
 guardA v46_33 true (fun K => K v43_29) fun v48_34 =>
 guardA v46_33 true (pureA (binA .eql v48_34 (.int .i64 0))) fun v49_35 =>
 pickA v46_33 v49_35 (.bool false) fun v50_36 =>
 retA [v50_36] R))))))]))]))]
theorem c_deduplaw04_LayoutEncodes {w0 : World} {h : Hp} {R : Kont} {a0 : Value} (hj : ∀ v, v ∈ [a0] → v ≠ junk) (hv : s_deduplaw04_LayoutEncodes prog w0 a0 R h) : ACalls prog w0 n_deduplaw04_LayoutEncodes [a0] h R := by
  have e : vcFn ⟨prog, w0, 51, ks_deduplaw04_LayoutEncodes⟩ (drw w0 51) fn_deduplaw04_LayoutEncodes [a0] R h = s_deduplaw04_LayoutEncodes prog w0 a0 R h := by
    kernel_rfl
  exact acalls_of_eq (fn := fn_deduplaw04_LayoutEncodes) (ks := ks_deduplaw04_LayoutEncodes) (n := 51) (by kernel_rfl) (by kernel_rfl) (draw_ok (by kernel_rfl)) (by simp) hj e hv

abbrev fn_deduplaw04_LayoutDecodes : Func := f5
def ks_deduplaw04_LayoutDecodes : List (Nat × List Nat × List Nat) := []
def s_deduplaw04_LayoutDecodes (P : Program) (w0 : World) (a0 : Value) (R : Kont) : Hp → Prop :=
 callA P w0 n_deduplaw04_awake [] fun v9_1 =>
 pureA (unA .not v9_1) fun v10_2 =>
 condA v10_2 (
 retA [(.bool false)] R) (
 bslA [] (zerosL [(.int .u8 0)] 0) 0 1 fun v11_3 =>
 appA w0 1 1 v11_3 a0 fun v13_4 =>
 callA P w0 n_layout_DecodeSuper [v13_4] fun v16_5 =>
 pureA (extA v16_5 0) fun v17_6 =>
 pureA (extA v16_5 1) fun v18_7 =>
 newA [(.int .u64 0), (.int .i64 0), (.int .i64 0), (.int .i64 0), (.int .i64 0), (.int .i64 0), (.int .i64 0), (.int .i64 0), (.int .i64 0), (.int .u64 0), (.int .i64 0), (.bool false)] 12 fun v4_8 =>
 storeNA w0 v4_8 v17_6 12 fun _ =>
 callA P w0 n_dedupref04_DecodeSuper [a0] fun v21_9 =>
 pureA (extA v21_9 0) fun v22_10 =>
 pureA (extA v21_9 1) fun v23_11 =>
 newA [(.int .u64 0), (.int .i64 0), (.int .i64 0), (.int .i64 0), (.int .i64 0), (.int .i64 0), (.int .i64 0), (.int .i64 0), (.int .i64 0), (.int .u64 0), (.int .i64 0), (.bool false)] 12 fun v6_12 =>
 storeNA w0 v6_12 v22_10 12 fun _ =>
 loadNA w0 v4_8 12 fun v24_13 =>
 loadNA w0 v6_12 12 fun v25_14 =>
 eqStA P .neq 31 v24_13 v25_14 fun v26_15 =>
 guardA v26_15 false (fun K => K v18_7) fun v28_16 =>
 guardA v26_15 false (fun K => K v23_11) fun v29_17 =>
 guardA v26_15 false (pureA (binA .neq v28_16 v29_17)) fun v30_18 =>
 pickA v26_15 (.bool true) v30_18 fun v31_19 =>
 guardA v31_19 false (fun K => K v13_4) fun v33_20 =>
 guardA v31_19 false (b2sA w0 v33_20) fun v34_21 =>
 guardA v31_19 false (fun K => K a0) fun v35_22 =>
 guardA v31_19 false (b2sA w0 v35_22) fun v36_23 =>
 guardA v31_19 false (pureA (binA .neq v34_21 v36_23)) fun v37_24 =>
 pickA v31_19 (.bool true) v37_24 fun v38_25 =>
 condA v38_25 (
 retA [(.bool false)] R) (
 pureA (binA .neq v23_11 (.int .i64 0)) fun v40_26 =>
 condA v40_26 (
 retA [(.bool true)] R) (
 loadNA w0 v4_8 12 fun v42_27 =>
 callA P w0 n_layout_EncodeSuper [v42_27] fun v43_28 =>
 pureA (extA v43_28 0) fun v44_29 =>
 pureA (extA v43_28 1) fun v45_30 =>
 b2sA w0 v44_29 fun v47_31 =>
 b2sA w0 a0 fun v49_32 =>
 pureA (binA .eql v47_31 v49_32) fun v50_33 =>
 guardA v50_33 true (fun K => K v45_30) fun v52_34 =>
 guardA v50_33 true (pureA (binA .eql v52_34 (.int .i64 0))) fun v53_35 =>
 pickA v50_33 v53_35 (.bool false) fun v54_36 =>
 retA [v54_36] R)))
theorem c_deduplaw04_LayoutDecodes {w0 : World} {h : Hp} {R : Kont} {a0 : Value} (hj : ∀ v, v ∈ [a0] → v ≠ junk) (hv : s_deduplaw04_LayoutDecodes prog w0 a0 R h) : ACalls prog w0 n_deduplaw04_LayoutDecodes [a0] h R := by
  have e : vcFn ⟨prog, w0, 55, ks_deduplaw04_LayoutDecodes⟩ (drw w0 55) fn_deduplaw04_LayoutDecodes [a0] R h = s_deduplaw04_LayoutDecodes prog w0 a0 R h := by
    kernel_rfl
  exact acalls_of_eq (fn := fn_deduplaw04_LayoutDecodes) (ks := ks_deduplaw04_LayoutDecodes) (n := 55) (by kernel_rfl) (by kernel_rfl) (draw_ok (by kernel_rfl)) (by simp) hj e hv

abbrev fn_deduplaw04_LayoutNames : Func := f6
def ks_deduplaw04_LayoutNames : List (Nat × List Nat × List Nat) := []
def s_deduplaw04_LayoutNames (P : Program) (w0 : World) (R : Kont) : Hp → Prop :=
 callA P w0 n_deduplaw04_awake [] fun v1_1 =>
 pickA v1_1 (.bool true) (.bool false) fun v3_2 =>
 pickA v3_2 (.bool true) (.bool false) fun v5_3 =>
 pickA v5_3 (.bool true) (.bool false) fun v7_4 =>
 pickA v7_4 (.bool true) (.bool false) fun v9_5 =>
 pickA v9_5 (.bool true) (.bool false) fun v11_6 =>
 pickA v11_6 (.bool true) (.bool false) fun v13_7 =>
 pickA v13_7 (.bool true) (.bool false) fun v15_8 =>
 pickA v15_8 (.bool true) (.bool false) fun v17_9 =>
 pickA v17_9 (.bool true) (.bool false) fun v19_10 =>
 retA [v19_10] R
theorem c_deduplaw04_LayoutNames {w0 : World} {h : Hp} {R : Kont} (hj : ∀ v, v ∈ [] → v ≠ junk) (hv : s_deduplaw04_LayoutNames prog w0  R h) : ACalls prog w0 n_deduplaw04_LayoutNames [] h R := by
  have e : vcFn ⟨prog, w0, 20, ks_deduplaw04_LayoutNames⟩ (drw w0 20) fn_deduplaw04_LayoutNames [] R h = s_deduplaw04_LayoutNames prog w0  R h := by
    kernel_rfl
  exact acalls_of_eq (fn := fn_deduplaw04_LayoutNames) (ks := ks_deduplaw04_LayoutNames) (n := 20) (by kernel_rfl) (by kernel_rfl) (draw_ok (by kernel_rfl)) (by simp) hj e hv

abbrev fn_deduplaw04_LayoutChecks : Func := f7
def ks_deduplaw04_LayoutChecks : List (Nat × List Nat × List Nat) := []
def s_deduplaw04_LayoutChecks (P : Program) (w0 : World) (a0 : Value) (R : Kont) : Hp → Prop :=
 boxA true 10 a0 fun v1_1 =>
 allA [
 (callA P w0 n_deduplaw04_awake [] fun v3_2 =>
 stillA [] (
 pureQ (fun K => K v3_2) fun v4_3 =>
 readQ (guardA v4_3 true (loadNA w0 v1_1 10)) fun v5_4 =>
 readQ (guardA v4_3 true (loadNA w0 v1_1 10)) fun v7_5 =>
 allA [
 (guardA v4_3 true (callA P w0 n_layout_Check [v5_4]) fun v6_6 =>
 stillA [(sameQ (guardA v4_3 true (loadNA w0 v1_1 10)) v7_5)] (
 allA [
 (guardA v4_3 true (callA P w0 n_dedupref04_Check [v7_5]) fun v8_7 =>
 stillA [] (
 pureQ (guardA v4_3 true (pureA (binA .eql v6_6 v8_7))) fun v9_8 =>
 pureQ (pickA v4_3 v9_8 (.bool false)) fun v10_9 =>
 pureQ (fun K => K v10_9) fun v11_10 =>
 readQ (guardA v11_10 true (loadNA w0 v1_1 10)) fun v12_11 =>
 readQ (guardA v11_10 true (loadNA w0 v1_1 10)) fun v14_12 =>
 allA [
 (guardA v11_10 true (callA P w0 n_layout_Journal [v12_11]) fun v13_13 =>
 stillA [(sameQ (guardA v11_10 true (loadNA w0 v1_1 10)) v14_12)] (
 allA [
 (guardA v11_10 true (callA P w0 n_dedupref04_Journal [v14_12]) fun v15_14 =>
 stillA [] (
 pureQ (guardA v11_10 true (eqStA P .eql 43 v13_13 v15_14)) fun v16_15 =>
 pureQ (pickA v11_10 v16_15 (.bool false)) fun v17_16 =>
 pureQ (fun K => K v17_16) fun v18_17 =>
 readQ (guardA v18_17 true (loadNA w0 v1_1 10)) fun v19_18 =>
 readQ (guardA v18_17 true (loadNA w0 v1_1 10)) fun v21_19 =>
 allA [
 (guardA v18_17 true (callA P w0 n_layout_Data [v19_18]) fun v20_20 =>
 stillA [(sameQ (guardA v18_17 true (loadNA w0 v1_1 10)) v21_19)] (
 allA [
 (guardA v18_17 true (callA P w0 n_dedupref04_Data [v21_19]) fun v22_21 =>
 stillA [] (
 pureQ (guardA v18_17 true (eqStA P .eql 43 v20_20 v22_21)) fun v23_22 =>
 pureQ (pickA v18_17 v23_22 (.bool false)) fun v24_23 =>
 pureQ (fun K => K v24_23) fun v2_24 =>
 endA (
 retA [v2_24] R)))]))]))]))]))]))]))]
theorem c_deduplaw04_LayoutChecks {w0 : World} {h : Hp} {R : Kont} {a0 : Value} (hj : ∀ v, v ∈ [a0] → v ≠ junk) (hv : s_deduplaw04_LayoutChecks prog w0 a0 R h) : ACalls prog w0 n_deduplaw04_LayoutChecks [a0] h R := by
  have e : vcFn ⟨prog, w0, 25, ks_deduplaw04_LayoutChecks⟩ (drw w0 25) fn_deduplaw04_LayoutChecks [a0] R h = s_deduplaw04_LayoutChecks prog w0 a0 R h := by
    kernel_rfl
  exact acalls_of_eq (fn := fn_deduplaw04_LayoutChecks) (ks := ks_deduplaw04_LayoutChecks) (n := 25) (by kernel_rfl) (by kernel_rfl) (draw_ok (by kernel_rfl)) (by simp) hj e hv

abbrev fn_deduplaw04_LayoutParts : Func := f8
def ks_deduplaw04_LayoutParts : List (Nat × List Nat × List Nat) := [(9, [1, 2, 3, 4, 5], [1, 2])]
def deduplaw04_LayoutParts_B1 (P : Program) (w0 : World) (R : Value → Value → Value → Value → Value → Hp → Prop) (k0 : Value → Value → Hp → Prop) (kr : Value → Value → Hp → Prop) (x1 x2 x3 x4 x5 : Value) : Hp → Prop :=
 addA x1 1 fun v64_54 =>
 loadA w0 v64_54 fun v65_55 =>
 pureA (binA .lss x5 v65_55) fun v66_56 =>
 condA v66_56 (
 loadNA w0 x1 10 fun v69_57 =>
 callA P w0 n_layout_Kind [v69_57, x5] fun v71_58 =>
 pureA (binA .eql v71_58 (.int .i64 1)) fun v73_59 =>
 pureA (binA .lss x5 (.int .i64 2)) fun v75_60 =>
 pureA (binBoolA .neq v73_59 v75_60) fun v76_61 =>
 guardA v76_61 false (fun K => K v71_58) fun v78_62 =>
 guardA v76_61 false (pureA (binA .eql v78_62 (.int .i64 2))) fun v79_63 =>
 guardA v76_61 false (fun K => K x5) fun v80_64 =>
 guardA v76_61 false (addA x3 0) fun v81_65 =>
 guardA v76_61 false (loadA w0 v81_65) fun v82_66 =>
 guardA v76_61 false (pureA (binA .geq v80_64 v82_66)) fun v83_67 =>
 guardA v76_61 false (fun K => K v83_67) fun v84_68 =>
 guardA v84_68 true (fun K => K x5) fun v85_69 =>
 guardA v84_68 true (addA x4 0) fun v86_70 =>
 guardA v84_68 true (loadA w0 v86_70) fun v87_71 =>
 guardA v84_68 true (pureA (binA .lss v85_69 v87_71)) fun v88_72 =>
 guardA v76_61 false (pickA v84_68 v88_72 (.bool false)) fun v89_73 =>
 guardA v76_61 false (pureA (binBoolA .neq v79_63 v89_73)) fun v90_74 =>
 pickA v76_61 (.bool true) v90_74 fun v91_75 =>
 guardA v91_75 false (fun K => K v71_58) fun v93_76 =>
 guardA v91_75 false (pureA (binA .eql v93_76 (.int .i64 3))) fun v94_77 =>
 guardA v91_75 false (fun K => K x5) fun v95_78 =>
 guardA v91_75 false (addA x4 0) fun v96_79 =>
 guardA v91_75 false (loadA w0 v96_79) fun v97_80 =>
 guardA v91_75 false (pureA (binA .geq v95_78 v97_80)) fun v98_81 =>
 guardA v91_75 false (pureA (binBoolA .neq v94_77 v98_81)) fun v99_82 =>
 pickA v91_75 (.bool true) v99_82 fun v100_83 =>
 condA v100_83 (
 kr x1 (.bool false)) (
 pureA (binA .add x5 (.int .i64 1)) fun v68_84 =>
 R x1 x2 x3 x4 v68_84)) (
 k0 x1 x2)
def deduplaw04_LayoutParts_L1 (P : Program) (w0 : World) (k0 : Value → Value → Hp → Prop) (kr : Value → Value → Hp → Prop) : Nat → Value → Value → Value → Value → Value → Hp → Prop
  | 0, _, _, _, _, _ => fun _ => False
  | m + 1, x1, x2, x3, x4, x5 => deduplaw04_LayoutParts_B1 P w0 (deduplaw04_LayoutParts_L1 P w0 k0 kr m) k0 kr x1 x2 x3 x4 x5
def deduplaw04_LayoutParts_E1 (P : Program) (w0 : World) (k0 : Value → Value → Hp → Prop) (kr : Value → Value → Hp → Prop) (x1 x2 x3 x4 x5 : Value) : Hp → Prop := fun h => ∃ m, deduplaw04_LayoutParts_L1 P w0 k0 kr m x1 x2 x3 x4 x5 h
def s_deduplaw04_LayoutParts (P : Program) (w0 : World) (a0 : Value) (R : Kont) : Hp → Prop :=
 boxA true 10 a0 fun v1_1 =>
 callA P w0 n_deduplaw04_awake [] fun v7_2 =>
 pureA (unA .not v7_2) fun v8_3 =>
 condA v8_3 (
 retA [(.bool false)] R) (
 loadNA w0 v1_1 10 fun v9_4 =>
 callA P w0 n_layout_Check [v9_4] fun v10_5 =>
 pureA (binA .neq v10_5 (.int .i64 0)) fun v11_6 =>
 condA v11_6 (
 loadNA w0 v1_1 10 fun v12_7 =>
 callA P w0 n_layout_Kind [v12_7, (.int .i64 2)] fun v13_8 =>
 pureA (binA .eql v13_8 (.int .i64 0)) fun v14_9 =>
 guardA v14_9 true (loadNA w0 v1_1 10) fun v16_10 =>
 guardA v14_9 true (callA P w0 n_layout_Journal [v16_10]) fun v17_11 =>
 guardA v14_9 true (buildA [] [(.int .i64 0), (.int .i64 0)]) fun v18_12 =>
 guardA v14_9 true (eqStA P .eql 43 v17_11 v18_12) fun v19_13 =>
 pickA v14_9 v19_13 (.bool false) fun v20_14 =>
 retA [v20_14] R) (
 readQ (loadNA w0 v1_1 10) fun v21_15 =>
 readQ (loadNA w0 v1_1 10) fun v23_16 =>
 allA [
 (callA P w0 n_layout_Journal [v21_15] fun v22_17 =>
 stillA [(sameQ (loadNA w0 v1_1 10) v23_16)] (
 allA [
 (callA P w0 n_layout_Data [v23_16] fun v24_18 =>
 stillA [] (
 allA [
 (newA [(.int .i64 0), (.int .i64 0)] 2 fun v3_19 =>
 stillA [(sameQ (loadNA w0 v1_1 10) v23_16), (sameQ (loadNA w0 v1_1 10) v21_15)] (
 allA [
 (newA [(.int .i64 0), (.int .i64 0)] 2 fun v4_20 =>
 stillA [(sameQ (loadNA w0 v1_1 10) v23_16), (sameQ (loadNA w0 v1_1 10) v21_15)] (
 allA [
 (storeNA w0 v3_19 v22_17 2 fun _ =>
 stillA [] (
 allA [
 (storeNA w0 v4_20 v24_18 2 fun _ =>
 stillA [] (
 endA (
 addA v3_19 0 fun v25_21 =>
 loadA w0 v25_21 fun v26_22 =>
 pureA (binA .neq v26_22 (.int .i64 2)) fun v27_23 =>
 guardA v27_23 false (addA v4_20 0) fun v29_24 =>
 guardA v27_23 false (loadA w0 v29_24) fun v30_25 =>
 guardA v27_23 false (addA v3_19 0) fun v31_26 =>
 guardA v27_23 false (loadA w0 v31_26) fun v32_27 =>
 guardA v27_23 false (addA v3_19 1) fun v33_28 =>
 guardA v27_23 false (loadA w0 v33_28) fun v34_29 =>
 guardA v27_23 false (pureA (binA .add v32_27 v34_29)) fun v35_30 =>
 guardA v27_23 false (pureA (binA .neq v30_25 v35_30)) fun v36_31 =>
 pickA v27_23 (.bool true) v36_31 fun v37_32 =>
 guardA v37_32 false (addA v4_20 0) fun v39_33 =>
 guardA v37_32 false (loadA w0 v39_33) fun v40_34 =>
 guardA v37_32 false (addA v4_20 1) fun v41_35 =>
 guardA v37_32 false (loadA w0 v41_35) fun v42_36 =>
 guardA v37_32 false (pureA (binA .add v40_34 v42_36)) fun v43_37 =>
 guardA v37_32 false (addA v1_1 1) fun v44_38 =>
 guardA v37_32 false (loadA w0 v44_38) fun v45_39 =>
 guardA v37_32 false (pureA (binA .neq v43_37 v45_39)) fun v46_40 =>
 pickA v37_32 (.bool true) v46_40 fun v47_41 =>
 guardA v47_41 false (addA v3_19 1) fun v49_42 =>
 guardA v47_41 false (loadA w0 v49_42) fun v50_43 =>
 guardA v47_41 false (pureA (binA .lss v50_43 (.int .i64 2))) fun v51_44 =>
 pickA v47_41 (.bool true) v51_44 fun v52_45 =>
 guardA v52_45 false (addA v4_20 1) fun v54_46 =>
 guardA v52_45 false (loadA w0 v54_46) fun v55_47 =>
 guardA v52_45 false (pureA (binA .lss v55_47 (.int .i64 1))) fun v56_48 =>
 pickA v52_45 (.bool true) v56_48 fun v57_49 =>
 guardA v57_49 false (addA v1_1 1) fun v59_50 =>
 guardA v57_49 false (loadA w0 v59_50) fun v60_51 =>
 guardA v57_49 false (pureA (binA .gtr v60_51 (.int .i64 4096))) fun v61_52 =>
 pickA v57_49 (.bool true) v61_52 fun v62_53 =>
 condA v62_53 (
 retA [(.bool false)] R) (
 deduplaw04_LayoutParts_E1 P w0 (fun y1_85 y2_86 =>
 loadNA w0 y1_85 10 fun v101_87 =>
 callA P w0 n_layout_Kind [v101_87, (.int .i64 (-1))] fun v102_88 =>
 pureA (binA .eql v102_88 (.int .i64 0)) fun v103_89 =>
 guardA v103_89 true (loadNA w0 y1_85 10) fun v105_90 =>
 guardA v103_89 true (addA y1_85 1) fun v106_91 =>
 guardA v103_89 true (loadA w0 v106_91) fun v107_92 =>
 guardA v103_89 true (callA P w0 n_layout_Kind [v105_90, v107_92]) fun v108_93 =>
 guardA v103_89 true (pureA (binA .eql v108_93 (.int .i64 0))) fun v109_94 =>
 pickA v103_89 v109_94 (.bool false) fun v110_95 =>
 retA [v110_95] R) (fun y1_96 y2_97 =>
 retA [y2_97] R) v1_1 (.bool false) v3_19 v4_20 (.int .i64 0)))))]))]))])),
 (newA [(.int .i64 0), (.int .i64 0)] 2 fun v4_98 =>
 stillA [(sameQ (loadNA w0 v1_1 10) v23_16), (sameQ (loadNA w0 v1_1 10) v21_15)] (
 allA [
 (newA [(.int .i64 0), (.int .i64 0)] 2 fun v3_99 =>
 stillA [(sameQ (loadNA w0 v1_1 10) v23_16), (sameQ (loadNA w0 v1_1 10) v21_15)] (
 allA [
 (storeNA w0 v3_99 v22_17 2 fun _ =>
 stillA [] (
 allA [
 (storeNA w0 v4_98 v24_18 2 fun _ =>
 stillA [] (
 endA (
 addA v3_99 0 fun v25_100 =>
 loadA w0 v25_100 fun v26_101 =>
 pureA (binA .neq v26_101 (.int .i64 2)) fun v27_102 =>
 guardA v27_102 false (addA v4_98 0) fun v29_103 =>
 guardA v27_102 false (loadA w0 v29_103) fun v30_104 =>
 guardA v27_102 false (addA v3_99 0) fun v31_105 =>
 guardA v27_102 false (loadA w0 v31_105) fun v32_106 =>
 guardA v27_102 false (addA v3_99 1) fun v33_107 =>
 guardA v27_102 false (loadA w0 v33_107) fun v34_108 =>
 guardA v27_102 false (pureA (binA .add v32_106 v34_108)) fun v35_109 =>
 guardA v27_102 false (pureA (binA .neq v30_104 v35_109)) fun v36_110 =>
 pickA v27_102 (.bool true) v36_110 fun v37_111 =>
 guardA v37_111 false (addA v4_98 0) fun v39_112 =>
 guardA v37_111 false (loadA w0 v39_112) fun v40_113 =>
 guardA v37_111 false (addA v4_98 1) fun v41_114 =>
 guardA v37_111 false (loadA w0 v41_114) fun v42_115 =>
 guardA v37_111 false (pureA (binA .add v40_113 v42_115)) fun v43_116 =>
 guardA v37_111 false (addA v1_1 1) fun v44_117 =>
 guardA v37_111 false (loadA w0 v44_117) fun v45_118 =>
 guardA v37_111 false (pureA (binA .neq v43_116 v45_118)) fun v46_119 =>
 pickA v37_111 (.bool true) v46_119 fun v47_120 =>
 guardA v47_120 false (addA v3_99 1) fun v49_121 =>
 guardA v47_120 false (loadA w0 v49_121) fun v50_122 =>
 guardA v47_120 false (pureA (binA .lss v50_122 (.int .i64 2))) fun v51_123 =>
 pickA v47_120 (.bool true) v51_123 fun v52_124 =>
 guardA v52_124 false (addA v4_98 1) fun v54_125 =>
 guardA v52_124 false (loadA w0 v54_125) fun v55_126 =>
 guardA v52_124 false (pureA (binA .lss v55_126 (.int .i64 1))) fun v56_127 =>
 pickA v52_124 (.bool true) v56_127 fun v57_128 =>
 guardA v57_128 false (addA v1_1 1) fun v59_129 =>
 guardA v57_128 false (loadA w0 v59_129) fun v60_130 =>
 guardA v57_128 false (pureA (binA .gtr v60_130 (.int .i64 4096))) fun v61_131 =>
 pickA v57_128 (.bool true) v61_131 fun v62_132 =>
 condA v62_132 (
 retA [(.bool false)] R) (
 deduplaw04_LayoutParts_E1 P w0 (fun y1_133 y2_134 =>
 loadNA w0 y1_133 10 fun v101_135 =>
 callA P w0 n_layout_Kind [v101_135, (.int .i64 (-1))] fun v102_136 =>
 pureA (binA .eql v102_136 (.int .i64 0)) fun v103_137 =>
 guardA v103_137 true (loadNA w0 y1_133 10) fun v105_138 =>
 guardA v103_137 true (addA y1_133 1) fun v106_139 =>
 guardA v103_137 true (loadA w0 v106_139) fun v107_140 =>
 guardA v103_137 true (callA P w0 n_layout_Kind [v105_138, v107_140]) fun v108_141 =>
 guardA v103_137 true (pureA (binA .eql v108_141 (.int .i64 0))) fun v109_142 =>
 pickA v103_137 v109_142 (.bool false) fun v110_143 =>
 retA [v110_143] R) (fun y1_144 y2_145 =>
 retA [y2_145] R) v1_1 (.bool false) v3_99 v4_98 (.int .i64 0)))))]))]))]))])),
 (newA [(.int .i64 0), (.int .i64 0)] 2 fun v3_146 =>
 stillA [(sameQ (loadNA w0 v1_1 10) v23_16), (sameQ (loadNA w0 v1_1 10) v21_15)] (
 allA [
 (callA P w0 n_layout_Data [v23_16] fun v24_147 =>
 stillA [] (
 allA [
 (newA [(.int .i64 0), (.int .i64 0)] 2 fun v4_148 =>
 stillA [(sameQ (loadNA w0 v1_1 10) v23_16), (sameQ (loadNA w0 v1_1 10) v21_15)] (
 allA [
 (storeNA w0 v3_146 v22_17 2 fun _ =>
 stillA [] (
 allA [
 (storeNA w0 v4_148 v24_147 2 fun _ =>
 stillA [] (
 endA (
 addA v3_146 0 fun v25_149 =>
 loadA w0 v25_149 fun v26_150 =>
 pureA (binA .neq v26_150 (.int .i64 2)) fun v27_151 =>
 guardA v27_151 false (addA v4_148 0) fun v29_152 =>
 guardA v27_151 false (loadA w0 v29_152) fun v30_153 =>
 guardA v27_151 false (addA v3_146 0) fun v31_154 =>
 guardA v27_151 false (loadA w0 v31_154) fun v32_155 =>
 guardA v27_151 false (addA v3_146 1) fun v33_156 =>
 guardA v27_151 false (loadA w0 v33_156) fun v34_157 =>
 guardA v27_151 false (pureA (binA .add v32_155 v34_157)) fun v35_158 =>
 guardA v27_151 false (pureA (binA .neq v30_153 v35_158)) fun v36_159 =>
 pickA v27_151 (.bool true) v36_159 fun v37_160 =>
 guardA v37_160 false (addA v4_148 0) fun v39_161 =>
 guardA v37_160 false (loadA w0 v39_161) fun v40_162 =>
 guardA v37_160 false (addA v4_148 1) fun v41_163 =>
 guardA v37_160 false (loadA w0 v41_163) fun v42_164 =>
 guardA v37_160 false (pureA (binA .add v40_162 v42_164)) fun v43_165 =>
 guardA v37_160 false (addA v1_1 1) fun v44_166 =>
 guardA v37_160 false (loadA w0 v44_166) fun v45_167 =>
 guardA v37_160 false (pureA (binA .neq v43_165 v45_167)) fun v46_168 =>
 pickA v37_160 (.bool true) v46_168 fun v47_169 =>
 guardA v47_169 false (addA v3_146 1) fun v49_170 =>
 guardA v47_169 false (loadA w0 v49_170) fun v50_171 =>
 guardA v47_169 false (pureA (binA .lss v50_171 (.int .i64 2))) fun v51_172 =>
 pickA v47_169 (.bool true) v51_172 fun v52_173 =>
 guardA v52_173 false (addA v4_148 1) fun v54_174 =>
 guardA v52_173 false (loadA w0 v54_174) fun v55_175 =>
 guardA v52_173 false (pureA (binA .lss v55_175 (.int .i64 1))) fun v56_176 =>
 pickA v52_173 (.bool true) v56_176 fun v57_177 =>
 guardA v57_177 false (addA v1_1 1) fun v59_178 =>
 guardA v57_177 false (loadA w0 v59_178) fun v60_179 =>
 guardA v57_177 false (pureA (binA .gtr v60_179 (.int .i64 4096))) fun v61_180 =>
 pickA v57_177 (.bool true) v61_180 fun v62_181 =>
 condA v62_181 (
 retA [(.bool false)] R) (
 deduplaw04_LayoutParts_E1 P w0 (fun y1_182 y2_183 =>
 loadNA w0 y1_182 10 fun v101_184 =>
 callA P w0 n_layout_Kind [v101_184, (.int .i64 (-1))] fun v102_185 =>
 pureA (binA .eql v102_185 (.int .i64 0)) fun v103_186 =>
 guardA v103_186 true (loadNA w0 y1_182 10) fun v105_187 =>
 guardA v103_186 true (addA y1_182 1) fun v106_188 =>
 guardA v103_186 true (loadA w0 v106_188) fun v107_189 =>
 guardA v103_186 true (callA P w0 n_layout_Kind [v105_187, v107_189]) fun v108_190 =>
 guardA v103_186 true (pureA (binA .eql v108_190 (.int .i64 0))) fun v109_191 =>
 pickA v103_186 v109_191 (.bool false) fun v110_192 =>
 retA [v110_192] R) (fun y1_193 y2_194 =>
 retA [y2_194] R) v1_1 (.bool false) v3_146 v4_148 (.int .i64 0)))))]))]))])),
 (newA [(.int .i64 0), (.int .i64 0)] 2 fun v4_195 =>
 stillA [(sameQ (loadNA w0 v1_1 10) v23_16), (sameQ (loadNA w0 v1_1 10) v21_15)] (
 allA [
 (callA P w0 n_layout_Data [v23_16] fun v24_196 =>
 stillA [] (
 allA [
 (storeNA w0 v3_146 v22_17 2 fun _ =>
 stillA [] (
 allA [
 (storeNA w0 v4_195 v24_196 2 fun _ =>
 stillA [] (
 endA (
 addA v3_146 0 fun v25_197 =>
 loadA w0 v25_197 fun v26_198 =>
 pureA (binA .neq v26_198 (.int .i64 2)) fun v27_199 =>
 guardA v27_199 false (addA v4_195 0) fun v29_200 =>
 guardA v27_199 false (loadA w0 v29_200) fun v30_201 =>
 guardA v27_199 false (addA v3_146 0) fun v31_202 =>
 guardA v27_199 false (loadA w0 v31_202) fun v32_203 =>
 guardA v27_199 false (addA v3_146 1) fun v33_204 =>
 guardA v27_199 false (loadA w0 v33_204) fun v34_205 =>
 guardA v27_199 false (pureA (binA .add v32_203 v34_205)) fun v35_206 =>
 guardA v27_199 false (pureA (binA .neq v30_201 v35_206)) fun v36_207 =>
 pickA v27_199 (.bool true) v36_207 fun v37_208 =>
 guardA v37_208 false (addA v4_195 0) fun v39_209 =>
 guardA v37_208 false (loadA w0 v39_209) fun v40_210 =>
 guardA v37_208 false (addA v4_195 1) fun v41_211 =>
 guardA v37_208 false (loadA w0 v41_211) fun v42_212 =>
 guardA v37_208 false (pureA (binA .add v40_210 v42_212)) fun v43_213 =>
 guardA v37_208 false (addA v1_1 1) fun v44_214 =>
 guardA v37_208 false (loadA w0 v44_214) fun v45_215 =>
 guardA v37_208 false (pureA (binA .neq v43_213 v45_215)) fun v46_216 =>
 pickA v37_208 (.bool true) v46_216 fun v47_217 =>
 guardA v47_217 false (addA v3_146 1) fun v49_218 =>
 guardA v47_217 false (loadA w0 v49_218) fun v50_219 =>
 guardA v47_217 false (pureA (binA .lss v50_219 (.int .i64 2))) fun v51_220 =>
 pickA v47_217 (.bool true) v51_220 fun v52_221 =>
 guardA v52_221 false (addA v4_195 1) fun v54_222 =>
 guardA v52_221 false (loadA w0 v54_222) fun v55_223 =>
 guardA v52_221 false (pureA (binA .lss v55_223 (.int .i64 1))) fun v56_224 =>
 pickA v52_221 (.bool true) v56_224 fun v57_225 =>
 guardA v57_225 false (addA v1_1 1) fun v59_226 =>
 guardA v57_225 false (loadA w0 v59_226) fun v60_227 =>
 guardA v57_225 false (pureA (binA .gtr v60_227 (.int .i64 4096))) fun v61_228 =>
 pickA v57_225 (.bool true) v61_228 fun v62_229 =>
 condA v62_229 (
 retA [(.bool false)] R) (
 deduplaw04_LayoutParts_E1 P w0 (fun y1_230 y2_231 =>
 loadNA w0 y1_230 10 fun v101_232 =>
 callA P w0 n_layout_Kind [v101_232, (.int .i64 (-1))] fun v102_233 =>
 pureA (binA .eql v102_233 (.int .i64 0)) fun v103_234 =>
 guardA v103_234 true (loadNA w0 y1_230 10) fun v105_235 =>
 guardA v103_234 true (addA y1_230 1) fun v106_236 =>
 guardA v103_234 true (loadA w0 v106_236) fun v107_237 =>
 guardA v103_234 true (callA P w0 n_layout_Kind [v105_235, v107_237]) fun v108_238 =>
 guardA v103_234 true (pureA (binA .eql v108_238 (.int .i64 0))) fun v109_239 =>
 pickA v103_234 v109_239 (.bool false) fun v110_240 =>
 retA [v110_240] R) (fun y1_241 y2_242 =>
 retA [y2_242] R) v1_1 (.bool false) v3_146 v4_195 (.int .i64 0)))))]))]))]))])),
 (newA [(.int .i64 0), (.int .i64 0)] 2 fun v4_243 =>
 stillA [(sameQ (loadNA w0 v1_1 10) v23_16), (sameQ (loadNA w0 v1_1 10) v21_15)] (
 allA [
 (callA P w0 n_layout_Data [v23_16] fun v24_244 =>
 stillA [] (
 allA [
 (newA [(.int .i64 0), (.int .i64 0)] 2 fun v3_245 =>
 stillA [(sameQ (loadNA w0 v1_1 10) v23_16), (sameQ (loadNA w0 v1_1 10) v21_15)] (
 allA [
 (storeNA w0 v3_245 v22_17 2 fun _ =>
 stillA [] (
 allA [
 (storeNA w0 v4_243 v24_244 2 fun _ =>
 stillA [] (
 endA (
 addA v3_245 0 fun v25_246 =>
 loadA w0 v25_246 fun v26_247 =>
 pureA (binA .neq v26_247 (.int .i64 2)) fun v27_248 =>
 guardA v27_248 false (addA v4_243 0) fun v29_249 =>
 guardA v27_248 false (loadA w0 v29_249) fun v30_250 =>
 guardA v27_248 false (addA v3_245 0) fun v31_251 =>
 guardA v27_248 false (loadA w0 v31_251) fun v32_252 =>
 guardA v27_248 false (addA v3_245 1) fun v33_253 =>
 guardA v27_248 false (loadA w0 v33_253) fun v34_254 =>
 guardA v27_248 false (pureA (binA .add v32_252 v34_254)) fun v35_255 =>
 guardA v27_248 false (pureA (binA .neq v30_250 v35_255)) fun v36_256 =>
 pickA v27_248 (.bool true) v36_256 fun v37_257 =>
 guardA v37_257 false (addA v4_243 0) fun v39_258 =>
 guardA v37_257 false (loadA w0 v39_258) fun v40_259 =>
 guardA v37_257 false (addA v4_243 1) fun v41_260 =>
 guardA v37_257 false (loadA w0 v41_260) fun v42_261 =>
 guardA v37_257 false (pureA (binA .add v40_259 v42_261)) fun v43_262 =>
 guardA v37_257 false (addA v1_1 1) fun v44_263 =>
 guardA v37_257 false (loadA w0 v44_263) fun v45_264 =>
 guardA v37_257 false (pureA (binA .neq v43_262 v45_264)) fun v46_265 =>
 pickA v37_257 (.bool true) v46_265 fun v47_266 =>
 guardA v47_266 false (addA v3_245 1) fun v49_267 =>
 guardA v47_266 false (loadA w0 v49_267) fun v50_268 =>
 guardA v47_266 false (pureA (binA .lss v50_268 (.int .i64 2))) fun v51_269 =>
 pickA v47_266 (.bool true) v51_269 fun v52_270 =>
 guardA v52_270 false (addA v4_243 1) fun v54_271 =>
 guardA v52_270 false (loadA w0 v54_271) fun v55_272 =>
 guardA v52_270 false (pureA (binA .lss v55_272 (.int .i64 1))) fun v56_273 =>
 pickA v52_270 (.bool true) v56_273 fun v57_274 =>
 guardA v57_274 false (addA v1_1 1) fun v59_275 =>
 guardA v57_274 false (loadA w0 v59_275) fun v60_276 =>
 guardA v57_274 false (pureA (binA .gtr v60_276 (.int .i64 4096))) fun v61_277 =>
 pickA v57_274 (.bool true) v61_277 fun v62_278 =>
 condA v62_278 (
 retA [(.bool false)] R) (
 deduplaw04_LayoutParts_E1 P w0 (fun y1_279 y2_280 =>
 loadNA w0 y1_279 10 fun v101_281 =>
 callA P w0 n_layout_Kind [v101_281, (.int .i64 (-1))] fun v102_282 =>
 pureA (binA .eql v102_282 (.int .i64 0)) fun v103_283 =>
 guardA v103_283 true (loadNA w0 y1_279 10) fun v105_284 =>
 guardA v103_283 true (addA y1_279 1) fun v106_285 =>
 guardA v103_283 true (loadA w0 v106_285) fun v107_286 =>
 guardA v103_283 true (callA P w0 n_layout_Kind [v105_284, v107_286]) fun v108_287 =>
 guardA v103_283 true (pureA (binA .eql v108_287 (.int .i64 0))) fun v109_288 =>
 pickA v103_283 v109_288 (.bool false) fun v110_289 =>
 retA [v110_289] R) (fun y1_290 y2_291 =>
 retA [y2_291] R) v1_1 (.bool false) v3_245 v4_243 (.int .i64 0)))))]))]))])),
 (newA [(.int .i64 0), (.int .i64 0)] 2 fun v3_292 =>
 stillA [(sameQ (loadNA w0 v1_1 10) v23_16), (sameQ (loadNA w0 v1_1 10) v21_15)] (
 allA [
 (callA P w0 n_layout_Data [v23_16] fun v24_293 =>
 stillA [] (
 allA [
 (storeNA w0 v3_292 v22_17 2 fun _ =>
 stillA [] (
 allA [
 (storeNA w0 v4_243 v24_293 2 fun _ =>
 stillA [] (
 endA (
 addA v3_292 0 fun v25_294 =>
 loadA w0 v25_294 fun v26_295 =>
 pureA (binA .neq v26_295 (.int .i64 2)) fun v27_296 =>
 guardA v27_296 false (addA v4_243 0) fun v29_297 =>
 guardA v27_296 false (loadA w0 v29_297) fun v30_298 =>
 guardA v27_296 false (addA v3_292 0) fun v31_299 =>
 guardA v27_296 false (loadA w0 v31_299) fun v32_300 =>
 guardA v27_296 false (addA v3_292 1) fun v33_301 =>
 guardA v27_296 false (loadA w0 v33_301) fun v34_302 =>
 guardA v27_296 false (pureA (binA .add v32_300 v34_302)) fun v35_303 =>
 guardA v27_296 false (pureA (binA .neq v30_298 v35_303)) fun v36_304 =>
 pickA v27_296 (.bool true) v36_304 fun v37_305 =>
 guardA v37_305 false (addA v4_243 0) fun v39_306 =>
 guardA v37_305 false (loadA w0 v39_306) fun v40_307 =>
 guardA v37_305 false (addA v4_243 1) fun v41_308 =>
 guardA v37_305 false (loadA w0 v41_308) fun v42_309 =>
 guardA v37_305 false (pureA (binA .add v40_307 v42_309)) fun v43_310 =>
 guardA v37_305 false (addA v1_1 1) fun v44_311 =>
 guardA v37_305 false (loadA w0 v44_311) fun v45_312 =>
 guardA v37_305 false (pureA (binA .neq v43_310 v45_312)) fun v46_313 =>
 pickA v37_305 (.bool true) v46_313 fun v47_314 =>
 guardA v47_314 false (addA v3_292 1) fun v49_315 =>
 guardA v47_314 false (loadA w0 v49_315) fun v50_316 =>
 guardA v47_314 false (pureA (binA .lss v50_316 (.int .i64 2))) fun v51_317 =>
 pickA v47_314 (.bool true) v51_317 fun v52_318 =>
 guardA v52_318 false (addA v4_243 1) fun v54_319 =>
 guardA v52_318 false (loadA w0 v54_319) fun v55_320 =>
 guardA v52_318 false (pureA (binA .lss v55_320 (.int .i64 1))) fun v56_321 =>
 pickA v52_318 (.bool true) v56_321 fun v57_322 =>
 guardA v57_322 false (addA v1_1 1) fun v59_323 =>
 guardA v57_322 false (loadA w0 v59_323) fun v60_324 =>
 guardA v57_322 false (pureA (binA .gtr v60_324 (.int .i64 4096))) fun v61_325 =>
 pickA v57_322 (.bool true) v61_325 fun v62_326 =>
 condA v62_326 (
 retA [(.bool false)] R) (
 deduplaw04_LayoutParts_E1 P w0 (fun y1_327 y2_328 =>
 loadNA w0 y1_327 10 fun v101_329 =>
 callA P w0 n_layout_Kind [v101_329, (.int .i64 (-1))] fun v102_330 =>
 pureA (binA .eql v102_330 (.int .i64 0)) fun v103_331 =>
 guardA v103_331 true (loadNA w0 y1_327 10) fun v105_332 =>
 guardA v103_331 true (addA y1_327 1) fun v106_333 =>
 guardA v103_331 true (loadA w0 v106_333) fun v107_334 =>
 guardA v103_331 true (callA P w0 n_layout_Kind [v105_332, v107_334]) fun v108_335 =>
 guardA v103_331 true (pureA (binA .eql v108_335 (.int .i64 0))) fun v109_336 =>
 pickA v103_331 v109_336 (.bool false) fun v110_337 =>
 retA [v110_337] R) (fun y1_338 y2_339 =>
 retA [y2_339] R) v1_1 (.bool false) v3_292 v4_243 (.int .i64 0)))))]))]))]))]))])),
 (newA [(.int .i64 0), (.int .i64 0)] 2 fun v3_340 =>
 stillA [(sameQ (loadNA w0 v1_1 10) v23_16), (sameQ (loadNA w0 v1_1 10) v21_15)] (
 allA [
 (callA P w0 n_layout_Journal [v21_15] fun v22_341 =>
 stillA [(sameQ (loadNA w0 v1_1 10) v23_16)] (
 allA [
 (callA P w0 n_layout_Data [v23_16] fun v24_342 =>
 stillA [] (
 allA [
 (newA [(.int .i64 0), (.int .i64 0)] 2 fun v4_343 =>
 stillA [(sameQ (loadNA w0 v1_1 10) v23_16), (sameQ (loadNA w0 v1_1 10) v21_15)] (
 allA [
 (storeNA w0 v3_340 v22_341 2 fun _ =>
 stillA [] (
 allA [
 (storeNA w0 v4_343 v24_342 2 fun _ =>
 stillA [] (
 endA (
 addA v3_340 0 fun v25_344 =>
 loadA w0 v25_344 fun v26_345 =>
 pureA (binA .neq v26_345 (.int .i64 2)) fun v27_346 =>
 guardA v27_346 false (addA v4_343 0) fun v29_347 =>
 guardA v27_346 false (loadA w0 v29_347) fun v30_348 =>
 guardA v27_346 false (addA v3_340 0) fun v31_349 =>
 guardA v27_346 false (loadA w0 v31_349) fun v32_350 =>
 guardA v27_346 false (addA v3_340 1) fun v33_351 =>
 guardA v27_346 false (loadA w0 v33_351) fun v34_352 =>
 guardA v27_346 false (pureA (binA .add v32_350 v34_352)) fun v35_353 =>
 guardA v27_346 false (pureA (binA .neq v30_348 v35_353)) fun v36_354 =>
 pickA v27_346 (.bool true) v36_354 fun v37_355 =>
 guardA v37_355 false (addA v4_343 0) fun v39_356 =>
 guardA v37_355 false (loadA w0 v39_356) fun v40_357 =>
 guardA v37_355 false (addA v4_343 1) fun v41_358 =>
 guardA v37_355 false (loadA w0 v41_358) fun v42_359 =>
 guardA v37_355 false (pureA (binA .add v40_357 v42_359)) fun v43_360 =>
 guardA v37_355 false (addA v1_1 1) fun v44_361 =>
 guardA v37_355 false (loadA w0 v44_361) fun v45_362 =>
 guardA v37_355 false (pureA (binA .neq v43_360 v45_362)) fun v46_363 =>
 pickA v37_355 (.bool true) v46_363 fun v47_364 =>
 guardA v47_364 false (addA v3_340 1) fun v49_365 =>
 guardA v47_364 false (loadA w0 v49_365) fun v50_366 =>
 guardA v47_364 false (pureA (binA .lss v50_366 (.int .i64 2))) fun v51_367 =>
 pickA v47_364 (.bool true) v51_367 fun v52_368 =>
 guardA v52_368 false (addA v4_343 1) fun v54_369 =>
 guardA v52_368 false (loadA w0 v54_369) fun v55_370 =>
 guardA v52_368 false (pureA (binA .lss v55_370 (.int .i64 1))) fun v56_371 =>
 pickA v52_368 (.bool true) v56_371 fun v57_372 =>
 guardA v57_372 false (addA v1_1 1) fun v59_373 =>
 guardA v57_372 false (loadA w0 v59_373) fun v60_374 =>
 guardA v57_372 false (pureA (binA .gtr v60_374 (.int .i64 4096))) fun v61_375 =>
 pickA v57_372 (.bool true) v61_375 fun v62_376 =>
 condA v62_376 (
 retA [(.bool false)] R) (
 deduplaw04_LayoutParts_E1 P w0 (fun y1_377 y2_378 =>
 loadNA w0 y1_377 10 fun v101_379 =>
 callA P w0 n_layout_Kind [v101_379, (.int .i64 (-1))] fun v102_380 =>
 pureA (binA .eql v102_380 (.int .i64 0)) fun v103_381 =>
 guardA v103_381 true (loadNA w0 y1_377 10) fun v105_382 =>
 guardA v103_381 true (addA y1_377 1) fun v106_383 =>
 guardA v103_381 true (loadA w0 v106_383) fun v107_384 =>
 guardA v103_381 true (callA P w0 n_layout_Kind [v105_382, v107_384]) fun v108_385 =>
 guardA v103_381 true (pureA (binA .eql v108_385 (.int .i64 0))) fun v109_386 =>
 pickA v103_381 v109_386 (.bool false) fun v110_387 =>
 retA [v110_387] R) (fun y1_388 y2_389 =>
 retA [y2_389] R) v1_1 (.bool false) v3_340 v4_343 (.int .i64 0)))))]))]))])),
 (newA [(.int .i64 0), (.int .i64 0)] 2 fun v4_390 =>
 stillA [(sameQ (loadNA w0 v1_1 10) v23_16), (sameQ (loadNA w0 v1_1 10) v21_15)] (
 allA [
 (callA P w0 n_layout_Data [v23_16] fun v24_391 =>
 stillA [] (
 allA [
 (storeNA w0 v3_340 v22_341 2 fun _ =>
 stillA [] (
 allA [
 (storeNA w0 v4_390 v24_391 2 fun _ =>
 stillA [] (
 endA (
 addA v3_340 0 fun v25_392 =>
 loadA w0 v25_392 fun v26_393 =>
 pureA (binA .neq v26_393 (.int .i64 2)) fun v27_394 =>
 guardA v27_394 false (addA v4_390 0) fun v29_395 =>
 guardA v27_394 false (loadA w0 v29_395) fun v30_396 =>
 guardA v27_394 false (addA v3_340 0) fun v31_397 =>
 guardA v27_394 false (loadA w0 v31_397) fun v32_398 =>
 guardA v27_394 false (addA v3_340 1) fun v33_399 =>
 guardA v27_394 false (loadA w0 v33_399) fun v34_400 =>
 guardA v27_394 false (pureA (binA .add v32_398 v34_400)) fun v35_401 =>
 guardA v27_394 false (pureA (binA .neq v30_396 v35_401)) fun v36_402 =>
 pickA v27_394 (.bool true) v36_402 fun v37_403 =>
 guardA v37_403 false (addA v4_390 0) fun v39_404 =>
 guardA v37_403 false (loadA w0 v39_404) fun v40_405 =>
 guardA v37_403 false (addA v4_390 1) fun v41_406 =>
 guardA v37_403 false (loadA w0 v41_406) fun v42_407 =>
 guardA v37_403 false (pureA (binA .add v40_405 v42_407)) fun v43_408 =>
 guardA v37_403 false (addA v1_1 1) fun v44_409 =>
 guardA v37_403 false (loadA w0 v44_409) fun v45_410 =>
 guardA v37_403 false (pureA (binA .neq v43_408 v45_410)) fun v46_411 =>
 pickA v37_403 (.bool true) v46_411 fun v47_412 =>
 guardA v47_412 false (addA v3_340 1) fun v49_413 =>
 guardA v47_412 false (loadA w0 v49_413) fun v50_414 =>
 guardA v47_412 false (pureA (binA .lss v50_414 (.int .i64 2))) fun v51_415 =>
 pickA v47_412 (.bool true) v51_415 fun v52_416 =>
 guardA v52_416 false (addA v4_390 1) fun v54_417 =>
 guardA v52_416 false (loadA w0 v54_417) fun v55_418 =>
 guardA v52_416 false (pureA (binA .lss v55_418 (.int .i64 1))) fun v56_419 =>
 pickA v52_416 (.bool true) v56_419 fun v57_420 =>
 guardA v57_420 false (addA v1_1 1) fun v59_421 =>
 guardA v57_420 false (loadA w0 v59_421) fun v60_422 =>
 guardA v57_420 false (pureA (binA .gtr v60_422 (.int .i64 4096))) fun v61_423 =>
 pickA v57_420 (.bool true) v61_423 fun v62_424 =>
 condA v62_424 (
 retA [(.bool false)] R) (
 deduplaw04_LayoutParts_E1 P w0 (fun y1_425 y2_426 =>
 loadNA w0 y1_425 10 fun v101_427 =>
 callA P w0 n_layout_Kind [v101_427, (.int .i64 (-1))] fun v102_428 =>
 pureA (binA .eql v102_428 (.int .i64 0)) fun v103_429 =>
 guardA v103_429 true (loadNA w0 y1_425 10) fun v105_430 =>
 guardA v103_429 true (addA y1_425 1) fun v106_431 =>
 guardA v103_429 true (loadA w0 v106_431) fun v107_432 =>
 guardA v103_429 true (callA P w0 n_layout_Kind [v105_430, v107_432]) fun v108_433 =>
 guardA v103_429 true (pureA (binA .eql v108_433 (.int .i64 0))) fun v109_434 =>
 pickA v103_429 v109_434 (.bool false) fun v110_435 =>
 retA [v110_435] R) (fun y1_436 y2_437 =>
 retA [y2_437] R) v1_1 (.bool false) v3_340 v4_390 (.int .i64 0)))))]))]))]))])),
 (newA [(.int .i64 0), (.int .i64 0)] 2 fun v4_438 =>
 stillA [(sameQ (loadNA w0 v1_1 10) v23_16), (sameQ (loadNA w0 v1_1 10) v21_15)] (
 allA [
 (callA P w0 n_layout_Journal [v21_15] fun v22_439 =>
 stillA [(sameQ (loadNA w0 v1_1 10) v23_16)] (
 allA [
 (callA P w0 n_layout_Data [v23_16] fun v24_440 =>
 stillA [] (
 allA [
 (storeNA w0 v3_340 v22_439 2 fun _ =>
 stillA [] (
 allA [
 (storeNA w0 v4_438 v24_440 2 fun _ =>
 stillA [] (
 endA (
 addA v3_340 0 fun v25_441 =>
 loadA w0 v25_441 fun v26_442 =>
 pureA (binA .neq v26_442 (.int .i64 2)) fun v27_443 =>
 guardA v27_443 false (addA v4_438 0) fun v29_444 =>
 guardA v27_443 false (loadA w0 v29_444) fun v30_445 =>
 guardA v27_443 false (addA v3_340 0) fun v31_446 =>
 guardA v27_443 false (loadA w0 v31_446) fun v32_447 =>
 guardA v27_443 false (addA v3_340 1) fun v33_448 =>
 guardA v27_443 false (loadA w0 v33_448) fun v34_449 =>
 guardA v27_443 false (pureA (binA .add v32_447 v34_449)) fun v35_450 =>
 guardA v27_443 false (pureA (binA .neq v30_445 v35_450)) fun v36_451 =>
 pickA v27_443 (.bool true) v36_451 fun v37_452 =>
 guardA v37_452 false (addA v4_438 0) fun v39_453 =>
 guardA v37_452 false (loadA w0 v39_453) fun v40_454 =>
 guardA v37_452 false (addA v4_438 1) fun v41_455 =>
 guardA v37_452 false (loadA w0 v41_455) fun v42_456 =>
 guardA v37_452 false (pureA (binA .add v40_454 v42_456)) fun v43_457 =>
 guardA v37_452 false (addA v1_1 1) fun v44_458 =>
 guardA v37_452 false (loadA w0 v44_458) fun v45_459 =>
 guardA v37_452 false (pureA (binA .neq v43_457 v45_459)) fun v46_460 =>
 pickA v37_452 (.bool true) v46_460 fun v47_461 =>
 guardA v47_461 false (addA v3_340 1) fun v49_462 =>
 guardA v47_461 false (loadA w0 v49_462) fun v50_463 =>
 guardA v47_461 false (pureA (binA .lss v50_463 (.int .i64 2))) fun v51_464 =>
 pickA v47_461 (.bool true) v51_464 fun v52_465 =>
 guardA v52_465 false (addA v4_438 1) fun v54_466 =>
 guardA v52_465 false (loadA w0 v54_466) fun v55_467 =>
 guardA v52_465 false (pureA (binA .lss v55_467 (.int .i64 1))) fun v56_468 =>
 pickA v52_465 (.bool true) v56_468 fun v57_469 =>
 guardA v57_469 false (addA v1_1 1) fun v59_470 =>
 guardA v57_469 false (loadA w0 v59_470) fun v60_471 =>
 guardA v57_469 false (pureA (binA .gtr v60_471 (.int .i64 4096))) fun v61_472 =>
 pickA v57_469 (.bool true) v61_472 fun v62_473 =>
 condA v62_473 (
 retA [(.bool false)] R) (
 deduplaw04_LayoutParts_E1 P w0 (fun y1_474 y2_475 =>
 loadNA w0 y1_474 10 fun v101_476 =>
 callA P w0 n_layout_Kind [v101_476, (.int .i64 (-1))] fun v102_477 =>
 pureA (binA .eql v102_477 (.int .i64 0)) fun v103_478 =>
 guardA v103_478 true (loadNA w0 y1_474 10) fun v105_479 =>
 guardA v103_478 true (addA y1_474 1) fun v106_480 =>
 guardA v103_478 true (loadA w0 v106_480) fun v107_481 =>
 guardA v103_478 true (callA P w0 n_layout_Kind [v105_479, v107_481]) fun v108_482 =>
 guardA v103_478 true (pureA (binA .eql v108_482 (.int .i64 0))) fun v109_483 =>
 pickA v103_478 v109_483 (.bool false) fun v110_484 =>
 retA [v110_484] R) (fun y1_485 y2_486 =>
 retA [y2_486] R) v1_1 (.bool false) v3_340 v4_438 (.int .i64 0)))))]))]))]))]))])),
 (newA [(.int .i64 0), (.int .i64 0)] 2 fun v4_487 =>
 stillA [(sameQ (loadNA w0 v1_1 10) v23_16), (sameQ (loadNA w0 v1_1 10) v21_15)] (
 allA [
 (callA P w0 n_layout_Journal [v21_15] fun v22_488 =>
 stillA [(sameQ (loadNA w0 v1_1 10) v23_16)] (
 allA [
 (callA P w0 n_layout_Data [v23_16] fun v24_489 =>
 stillA [] (
 allA [
 (newA [(.int .i64 0), (.int .i64 0)] 2 fun v3_490 =>
 stillA [(sameQ (loadNA w0 v1_1 10) v23_16), (sameQ (loadNA w0 v1_1 10) v21_15)] (
 allA [
 (storeNA w0 v3_490 v22_488 2 fun _ =>
 stillA [] (
 allA [
 (storeNA w0 v4_487 v24_489 2 fun _ =>
 stillA [] (
 endA (
 addA v3_490 0 fun v25_491 =>
 loadA w0 v25_491 fun v26_492 =>
 pureA (binA .neq v26_492 (.int .i64 2)) fun v27_493 =>
 guardA v27_493 false (addA v4_487 0) fun v29_494 =>
 guardA v27_493 false (loadA w0 v29_494) fun v30_495 =>
 guardA v27_493 false (addA v3_490 0) fun v31_496 =>
 guardA v27_493 false (loadA w0 v31_496) fun v32_497 =>
 guardA v27_493 false (addA v3_490 1) fun v33_498 =>
 guardA v27_493 false (loadA w0 v33_498) fun v34_499 =>
 guardA v27_493 false (pureA (binA .add v32_497 v34_499)) fun v35_500 =>
 guardA v27_493 false (pureA (binA .neq v30_495 v35_500)) fun v36_501 =>
 pickA v27_493 (.bool true) v36_501 fun v37_502 =>
 guardA v37_502 false (addA v4_487 0) fun v39_503 =>
 guardA v37_502 false (loadA w0 v39_503) fun v40_504 =>
 guardA v37_502 false (addA v4_487 1) fun v41_505 =>
 guardA v37_502 false (loadA w0 v41_505) fun v42_506 =>
 guardA v37_502 false (pureA (binA .add v40_504 v42_506)) fun v43_507 =>
 guardA v37_502 false (addA v1_1 1) fun v44_508 =>
 guardA v37_502 false (loadA w0 v44_508) fun v45_509 =>
 guardA v37_502 false (pureA (binA .neq v43_507 v45_509)) fun v46_510 =>
 pickA v37_502 (.bool true) v46_510 fun v47_511 =>
 guardA v47_511 false (addA v3_490 1) fun v49_512 =>
 guardA v47_511 false (loadA w0 v49_512) fun v50_513 =>
 guardA v47_511 false (pureA (binA .lss v50_513 (.int .i64 2))) fun v51_514 =>
 pickA v47_511 (.bool true) v51_514 fun v52_515 =>
 guardA v52_515 false (addA v4_487 1) fun v54_516 =>
 guardA v52_515 false (loadA w0 v54_516) fun v55_517 =>
 guardA v52_515 false (pureA (binA .lss v55_517 (.int .i64 1))) fun v56_518 =>
 pickA v52_515 (.bool true) v56_518 fun v57_519 =>
 guardA v57_519 false (addA v1_1 1) fun v59_520 =>
 guardA v57_519 false (loadA w0 v59_520) fun v60_521 =>
 guardA v57_519 false (pureA (binA .gtr v60_521 (.int .i64 4096))) fun v61_522 =>
 pickA v57_519 (.bool true) v61_522 fun v62_523 =>
 condA v62_523 (
 retA [(.bool false)] R) (
 deduplaw04_LayoutParts_E1 P w0 (fun y1_524 y2_525 =>
 loadNA w0 y1_524 10 fun v101_526 =>
 callA P w0 n_layout_Kind [v101_526, (.int .i64 (-1))] fun v102_527 =>
 pureA (binA .eql v102_527 (.int .i64 0)) fun v103_528 =>
 guardA v103_528 true (loadNA w0 y1_524 10) fun v105_529 =>
 guardA v103_528 true (addA y1_524 1) fun v106_530 =>
 guardA v103_528 true (loadA w0 v106_530) fun v107_531 =>
 guardA v103_528 true (callA P w0 n_layout_Kind [v105_529, v107_531]) fun v108_532 =>
 guardA v103_528 true (pureA (binA .eql v108_532 (.int .i64 0))) fun v109_533 =>
 pickA v103_528 v109_533 (.bool false) fun v110_534 =>
 retA [v110_534] R) (fun y1_535 y2_536 =>
 retA [y2_536] R) v1_1 (.bool false) v3_490 v4_487 (.int .i64 0)))))]))]))])),
 (newA [(.int .i64 0), (.int .i64 0)] 2 fun v3_537 =>
 stillA [(sameQ (loadNA w0 v1_1 10) v23_16), (sameQ (loadNA w0 v1_1 10) v21_15)] (
 allA [
 (callA P w0 n_layout_Data [v23_16] fun v24_538 =>
 stillA [] (
 allA [
 (storeNA w0 v3_537 v22_488 2 fun _ =>
 stillA [] (
 allA [
 (storeNA w0 v4_487 v24_538 2 fun _ =>
 stillA [] (
 endA (
 addA v3_537 0 fun v25_539 =>
 loadA w0 v25_539 fun v26_540 =>
 pureA (binA .neq v26_540 (.int .i64 2)) fun v27_541 =>
 guardA v27_541 false (addA v4_487 0) fun v29_542 =>
 guardA v27_541 false (loadA w0 v29_542) fun v30_543 =>
 guardA v27_541 false (addA v3_537 0) fun v31_544 =>
 guardA v27_541 false (loadA w0 v31_544) fun v32_545 =>
 guardA v27_541 false (addA v3_537 1) fun v33_546 =>
 guardA v27_541 false (loadA w0 v33_546) fun v34_547 =>
 guardA v27_541 false (pureA (binA .add v32_545 v34_547)) fun v35_548 =>
 guardA v27_541 false (pureA (binA .neq v30_543 v35_548)) fun v36_549 =>
 pickA v27_541 (.bool true) v36_549 fun v37_550 =>
 guardA v37_550 false (addA v4_487 0) fun v39_551 =>
 guardA v37_550 false (loadA w0 v39_551) fun v40_552 =>
 guardA v37_550 false (addA v4_487 1) fun v41_553 =>
 guardA v37_550 false (loadA w0 v41_553) fun v42_554 =>
 guardA v37_550 false (pureA (binA .add v40_552 v42_554)) fun v43_555 =>
 guardA v37_550 false (addA v1_1 1) fun v44_556 =>
 guardA v37_550 false (loadA w0 v44_556) fun v45_557 =>
 guardA v37_550 false (pureA (binA .neq v43_555 v45_557)) fun v46_558 =>
 pickA v37_550 (.bool true) v46_558 fun v47_559 =>
 guardA v47_559 false (addA v3_537 1) fun v49_560 =>
 guardA v47_559 false (loadA w0 v49_560) fun v50_561 =>
 guardA v47_559 false (pureA (binA .lss v50_561 (.int .i64 2))) fun v51_562 =>
 pickA v47_559 (.bool true) v51_562 fun v52_563 =>
 guardA v52_563 false (addA v4_487 1) fun v54_564 =>
 guardA v52_563 false (loadA w0 v54_564) fun v55_565 =>
 guardA v52_563 false (pureA (binA .lss v55_565 (.int .i64 1))) fun v56_566 =>
 pickA v52_563 (.bool true) v56_566 fun v57_567 =>
 guardA v57_567 false (addA v1_1 1) fun v59_568 =>
 guardA v57_567 false (loadA w0 v59_568) fun v60_569 =>
 guardA v57_567 false (pureA (binA .gtr v60_569 (.int .i64 4096))) fun v61_570 =>
 pickA v57_567 (.bool true) v61_570 fun v62_571 =>
 condA v62_571 (
 retA [(.bool false)] R) (
 deduplaw04_LayoutParts_E1 P w0 (fun y1_572 y2_573 =>
 loadNA w0 y1_572 10 fun v101_574 =>
 callA P w0 n_layout_Kind [v101_574, (.int .i64 (-1))] fun v102_575 =>
 pureA (binA .eql v102_575 (.int .i64 0)) fun v103_576 =>
 guardA v103_576 true (loadNA w0 y1_572 10) fun v105_577 =>
 guardA v103_576 true (addA y1_572 1) fun v106_578 =>
 guardA v103_576 true (loadA w0 v106_578) fun v107_579 =>
 guardA v103_576 true (callA P w0 n_layout_Kind [v105_577, v107_579]) fun v108_580 =>
 guardA v103_576 true (pureA (binA .eql v108_580 (.int .i64 0))) fun v109_581 =>
 pickA v103_576 v109_581 (.bool false) fun v110_582 =>
 retA [v110_582] R) (fun y1_583 y2_584 =>
 retA [y2_584] R) v1_1 (.bool false) v3_537 v4_487 (.int .i64 0)))))]))]))]))])),
 (newA [(.int .i64 0), (.int .i64 0)] 2 fun v3_585 =>
 stillA [(sameQ (loadNA w0 v1_1 10) v23_16), (sameQ (loadNA w0 v1_1 10) v21_15)] (
 allA [
 (callA P w0 n_layout_Journal [v21_15] fun v22_586 =>
 stillA [(sameQ (loadNA w0 v1_1 10) v23_16)] (
 allA [
 (callA P w0 n_layout_Data [v23_16] fun v24_587 =>
 stillA [] (
 allA [
 (storeNA w0 v3_585 v22_586 2 fun _ =>
 stillA [] (
 allA [
 (storeNA w0 v4_487 v24_587 2 fun _ =>
 stillA [] (
 endA (
 addA v3_585 0 fun v25_588 =>
 loadA w0 v25_588 fun v26_589 =>
 pureA (binA .neq v26_589 (.int .i64 2)) fun v27_590 =>
 guardA v27_590 false (addA v4_487 0) fun v29_591 =>
 guardA v27_590 false (loadA w0 v29_591) fun v30_592 =>
 guardA v27_590 false (addA v3_585 0) fun v31_593 =>
 guardA v27_590 false (loadA w0 v31_593) fun v32_594 =>
 guardA v27_590 false (addA v3_585 1) fun v33_595 =>
 guardA v27_590 false (loadA w0 v33_595) fun v34_596 =>
 guardA v27_590 false (pureA (binA .add v32_594 v34_596)) fun v35_597 =>
 guardA v27_590 false (pureA (binA .neq v30_592 v35_597)) fun v36_598 =>
 pickA v27_590 (.bool true) v36_598 fun v37_599 =>
 guardA v37_599 false (addA v4_487 0) fun v39_600 =>
 guardA v37_599 false (loadA w0 v39_600) fun v40_601 =>
 guardA v37_599 false (addA v4_487 1) fun v41_602 =>
 guardA v37_599 false (loadA w0 v41_602) fun v42_603 =>
 guardA v37_599 false (pureA (binA .add v40_601 v42_603)) fun v43_604 =>
 guardA v37_599 false (addA v1_1 1) fun v44_605 =>
 guardA v37_599 false (loadA w0 v44_605) fun v45_606 =>
 guardA v37_599 false (pureA (binA .neq v43_604 v45_606)) fun v46_607 =>
 pickA v37_599 (.bool true) v46_607 fun v47_608 =>
 guardA v47_608 false (addA v3_585 1) fun v49_609 =>
 guardA v47_608 false (loadA w0 v49_609) fun v50_610 =>
 guardA v47_608 false (pureA (binA .lss v50_610 (.int .i64 2))) fun v51_611 =>
 pickA v47_608 (.bool true) v51_611 fun v52_612 =>
 guardA v52_612 false (addA v4_487 1) fun v54_613 =>
 guardA v52_612 false (loadA w0 v54_613) fun v55_614 =>
 guardA v52_612 false (pureA (binA .lss v55_614 (.int .i64 1))) fun v56_615 =>
 pickA v52_612 (.bool true) v56_615 fun v57_616 =>
 guardA v57_616 false (addA v1_1 1) fun v59_617 =>
 guardA v57_616 false (loadA w0 v59_617) fun v60_618 =>
 guardA v57_616 false (pureA (binA .gtr v60_618 (.int .i64 4096))) fun v61_619 =>
 pickA v57_616 (.bool true) v61_619 fun v62_620 =>
 condA v62_620 (
 retA [(.bool false)] R) (
 deduplaw04_LayoutParts_E1 P w0 (fun y1_621 y2_622 =>
 loadNA w0 y1_621 10 fun v101_623 =>
 callA P w0 n_layout_Kind [v101_623, (.int .i64 (-1))] fun v102_624 =>
 pureA (binA .eql v102_624 (.int .i64 0)) fun v103_625 =>
 guardA v103_625 true (loadNA w0 y1_621 10) fun v105_626 =>
 guardA v103_625 true (addA y1_621 1) fun v106_627 =>
 guardA v103_625 true (loadA w0 v106_627) fun v107_628 =>
 guardA v103_625 true (callA P w0 n_layout_Kind [v105_626, v107_628]) fun v108_629 =>
 guardA v103_625 true (pureA (binA .eql v108_629 (.int .i64 0))) fun v109_630 =>
 pickA v103_625 v109_630 (.bool false) fun v110_631 =>
 retA [v110_631] R) (fun y1_632 y2_633 =>
 retA [y2_633] R) v1_1 (.bool false) v3_585 v4_487 (.int .i64 0)))))]))]))]))]))]))]))
theorem deduplaw04_LayoutParts_L1_eq (w0 : World) (k0 : Value → Value → Hp → Prop) (kr : Value → Value → Hp → Prop) : ∀ (m : Nat) (x1 x2 x3 x4 x5 : Value) (h : Hp), loopA (stepL ⟨prog, w0, 111, ks_deduplaw04_LayoutParts⟩ (drw w0 111) (loopAt fn_deduplaw04_LayoutParts 0)) m (mkFr [(1, x1), (2, x2), (3, x3), (4, x4), (5, x5)]) [fun t => k0 (t 1) (t 2), fun t => kr (t 1) (t 2)] h = deduplaw04_LayoutParts_L1 prog w0 k0 kr m x1 x2 x3 x4 x5 h := by
  intro m
  induction m with
  | zero => intros; kernel_rfl
  | succ m ih =>
    intro x1 x2 x3 x4 x5 h
    have e : deduplaw04_LayoutParts_L1 prog w0 k0 kr m = fun x1 x2 x3 x4 x5 h => loopA (stepL ⟨prog, w0, 111, ks_deduplaw04_LayoutParts⟩ (drw w0 111) (loopAt fn_deduplaw04_LayoutParts 0)) m (mkFr [(1, x1), (2, x2), (3, x3), (4, x4), (5, x5)]) [fun t => k0 (t 1) (t 2), fun t => kr (t 1) (t 2)] h := by funext x1 x2 x3 x4 x5 h; exact (ih x1 x2 x3 x4 x5 h).symm
    show _ = deduplaw04_LayoutParts_B1 prog w0 (deduplaw04_LayoutParts_L1 prog w0 k0 kr m) k0 kr x1 x2 x3 x4 x5 h
    rw [e]
    kernel_rfl
theorem deduplaw04_LayoutParts_E1_eq (w0 : World) : deduplaw04_LayoutParts_E1 prog w0 = fun k0 kr x1 x2 x3 x4 x5 h => ∃ m, loopA (stepL ⟨prog, w0, 111, ks_deduplaw04_LayoutParts⟩ (drw w0 111) (loopAt fn_deduplaw04_LayoutParts 0)) m (mkFr [(1, x1), (2, x2), (3, x3), (4, x4), (5, x5)]) [fun t => k0 (t 1) (t 2), fun t => kr (t 1) (t 2)] h := by
  funext k0 kr x1 x2 x3 x4 x5 h
  exact congrArg Exists (funext fun m => (deduplaw04_LayoutParts_L1_eq w0 k0 kr m x1 x2 x3 x4 x5 h).symm)
theorem c_deduplaw04_LayoutParts {w0 : World} {h : Hp} {R : Kont} {a0 : Value} (hj : ∀ v, v ∈ [a0] → v ≠ junk) (hv : s_deduplaw04_LayoutParts prog w0 a0 R h) : ACalls prog w0 n_deduplaw04_LayoutParts [a0] h R := by
  have e : vcFn ⟨prog, w0, 111, ks_deduplaw04_LayoutParts⟩ (drw w0 111) fn_deduplaw04_LayoutParts [a0] R h = s_deduplaw04_LayoutParts prog w0 a0 R h := by
    unfold s_deduplaw04_LayoutParts
    rw [deduplaw04_LayoutParts_E1_eq w0]
    kernel_rfl
  exact acalls_of_eq (fn := fn_deduplaw04_LayoutParts) (ks := ks_deduplaw04_LayoutParts) (n := 111) (by kernel_rfl) (by kernel_rfl) (draw_ok (by kernel_rfl)) (by simp) hj e hv

abbrev fn_deduplaw04_LayoutChooses : Func := f9
def ks_deduplaw04_LayoutChooses : List (Nat × List Nat × List Nat) := []
def s_deduplaw04_LayoutChooses (P : Program) (w0 : World) (a0 a1 a2 : Value) (R : Kont) : Hp → Prop :=
 callA P w0 n_deduplaw04_awake [] fun v17_1 =>
 pureA (unA .not v17_1) fun v18_2 =>
 condA v18_2 (
 retA [(.bool false)] R) (
 callA P w0 n_layout_Choose [a0, a1, a2] fun v23_3 =>
 pureA (extA v23_3 0) fun v24_4 =>
 pureA (extA v23_3 1) fun v25_5 =>
 pureA (extA v23_3 2) fun v26_6 =>
 newA [(.int .u64 0), (.int .i64 0), (.int .i64 0), (.int .i64 0), (.int .i64 0), (.int .i64 0), (.int .i64 0), (.int .i64 0), (.int .i64 0), (.int .u64 0), (.int .i64 0), (.bool false)] 12 fun v7_7 =>
 storeNA w0 v7_7 v24_4 12 fun _ =>
 callA P w0 n_dedupref04_Choose [a0, a1, a2] fun v31_8 =>
 pureA (extA v31_8 0) fun v32_9 =>
 pureA (extA v31_8 1) fun v33_10 =>
 pureA (extA v31_8 2) fun v34_11 =>
 newA [(.int .u64 0), (.int .i64 0), (.int .i64 0), (.int .i64 0), (.int .i64 0), (.int .i64 0), (.int .i64 0), (.int .i64 0), (.int .i64 0), (.int .u64 0), (.int .i64 0), (.bool false)] 12 fun v10_12 =>
 storeNA w0 v10_12 v32_9 12 fun _ =>
 loadNA w0 v7_7 12 fun v35_13 =>
 loadNA w0 v10_12 12 fun v36_14 =>
 eqStA P .neq 31 v35_13 v36_14 fun v37_15 =>
 guardA v37_15 false (fun K => K v25_5) fun v39_16 =>
 guardA v37_15 false (fun K => K v33_10) fun v40_17 =>
 guardA v37_15 false (pureA (binA .neq v39_16 v40_17)) fun v41_18 =>
 pickA v37_15 (.bool true) v41_18 fun v42_19 =>
 guardA v42_19 false (fun K => K v26_6) fun v44_20 =>
 guardA v42_19 false (fun K => K v34_11) fun v45_21 =>
 guardA v42_19 false (pureA (binA .neq v44_20 v45_21)) fun v46_22 =>
 pickA v42_19 (.bool true) v46_22 fun v47_23 =>
 condA v47_23 (
 retA [(.bool false)] R) (
 loadNA w0 v7_7 12 fun v49_24 =>
 callA P w0 n_layout_Next [v49_24] fun v50_25 =>
 pureA (extA v50_25 0) fun v51_26 =>
 pureA (extA v50_25 1) fun v52_27 =>
 pureA (extA v50_25 2) fun v53_28 =>
 loadNA w0 v7_7 12 fun v55_29 =>
 callA P w0 n_dedupref04_Next [v55_29] fun v56_30 =>
 pureA (extA v56_30 0) fun v57_31 =>
 pureA (extA v56_30 1) fun v58_32 =>
 pureA (extA v56_30 2) fun v59_33 =>
 pureQ (fun K => K v51_26) fun v60_34 =>
 pureQ (fun K => K v57_31) fun v61_35 =>
 pureQ (pureA (binA .eql v60_34 v61_35)) fun v62_36 =>
 pureQ (fun K => K v62_36) fun v63_37 =>
 pureQ (guardA v63_37 true (fun K => K v52_27)) fun v64_38 =>
 pureQ (guardA v63_37 true (fun K => K v58_32)) fun v65_39 =>
 pureQ (guardA v63_37 true (pureA (binA .eql v64_38 v65_39))) fun v66_40 =>
 pureQ (pickA v63_37 v66_40 (.bool false)) fun v67_41 =>
 pureQ (fun K => K v67_41) fun v68_42 =>
 pureQ (guardA v68_42 true (fun K => K v53_28)) fun v69_43 =>
 pureQ (guardA v68_42 true (fun K => K v59_33)) fun v70_44 =>
 pureQ (guardA v68_42 true (pureA (binA .eql v69_43 v70_44))) fun v71_45 =>
 pureQ (pickA v68_42 v71_45 (.bool false)) fun v72_46 =>
 pureQ (fun K => K v72_46) fun v73_47 =>
 pureQ (guardA v73_47 true (addA v7_7 0)) fun v74_48 =>
 readQ (guardA v73_47 true (loadA w0 v74_48)) fun v75_49 =>
 pureQ (guardA v73_47 true (addA v7_7 0)) fun v77_50 =>
 readQ (guardA v73_47 true (loadA w0 v77_50)) fun v78_51 =>
 allA [
 (guardA v73_47 true (callA P w0 n_layout_Slot [v75_49]) fun v76_52 =>
 stillA [(sameQ (guardA v73_47 true (loadA w0 v77_50)) v78_51)] (
 allA [
 (guardA v73_47 true (callA P w0 n_dedupref04_Slot [v78_51]) fun v79_53 =>
 stillA [] (
 pureQ (guardA v73_47 true (pureA (binA .eql v76_52 v79_53))) fun v80_54 =>
 pureQ (pickA v73_47 v80_54 (.bool false)) fun v81_55 =>
 pureQ (fun K => K v81_55) fun v6_56 =>
 endA (
 retA [v6_56] R)))]))]))
theorem c_deduplaw04_LayoutChooses {w0 : World} {h : Hp} {R : Kont} {a0 a1 a2 : Value} (hj : ∀ v, v ∈ [a0, a1, a2] → v ≠ junk) (hv : s_deduplaw04_LayoutChooses prog w0 a0 a1 a2 R h) : ACalls prog w0 n_deduplaw04_LayoutChooses [a0, a1, a2] h R := by
  have e : vcFn ⟨prog, w0, 82, ks_deduplaw04_LayoutChooses⟩ (drw w0 82) fn_deduplaw04_LayoutChooses [a0, a1, a2] R h = s_deduplaw04_LayoutChooses prog w0 a0 a1 a2 R h := by
    kernel_rfl
  exact acalls_of_eq (fn := fn_deduplaw04_LayoutChooses) (ks := ks_deduplaw04_LayoutChooses) (n := 82) (by kernel_rfl) (by kernel_rfl) (draw_ok (by kernel_rfl)) (by simp) hj e hv

abbrev fn_deduplaw04_LayoutOneOrOther : Func := f10
def ks_deduplaw04_LayoutOneOrOther : List (Nat × List Nat × List Nat) := []
def s_deduplaw04_LayoutOneOrOther (P : Program) (w0 : World) (a0 a1 a2 : Value) (R : Kont) : Hp → Prop :=
 boxA true 12 a0 fun v3_1 =>
 callA P w0 n_deduplaw04_awake [] fun v30_2 =>
 pureA (unA .not v30_2) fun v31_3 =>
 condA v31_3 (
 retA [(.bool false)] R) (
 loadNA w0 v3_1 12 fun v32_4 =>
 callA P w0 n_dedupref04_CheckSuper [v32_4] fun v33_5 =>
 pureA (binA .neq v33_5 (.int .i64 0)) fun v34_6 =>
 guardA v34_6 false (addA v3_1 0) fun v36_7 =>
 guardA v34_6 false (loadA w0 v36_7) fun v37_8 =>
 guardA v34_6 false (pureA (binA .eql v37_8 (.int .u64 18446744073709551615))) fun v38_9 =>
 pickA v34_6 (.bool true) v38_9 fun v39_10 =>
 condA v39_10 (
 retA [(.bool true)] R) (
 loadNA w0 v3_1 12 fun v40_11 =>
 newA [(.int .u64 0), (.int .i64 0), (.int .i64 0), (.int .i64 0), (.int .i64 0), (.int .i64 0), (.int .i64 0), (.int .i64 0), (.int .i64 0), (.int .u64 0), (.int .i64 0), (.bool false)] 12 fun v7_12 =>
 storeNA w0 v7_12 v40_11 12 fun _ =>
 addA v7_12 0 fun v41_13 =>
 loadA w0 v41_13 fun v42_14 =>
 pureA (binA .add v42_14 (.int .u64 1)) fun v43_15 =>
 addA v7_12 0 fun v44_16 =>
 storeA w0 v44_16 v43_15 fun _ =>
 addA v7_12 1 fun v46_17 =>
 storeA w0 v46_17 a1 fun _ =>
 loadNA w0 v7_12 12 fun v47_18 =>
 callA P w0 n_dedupref04_CheckSuper [v47_18] fun v48_19 =>
 pureA (binA .neq v48_19 (.int .i64 0)) fun v49_20 =>
 condA v49_20 (
 retA [(.bool true)] R) (
 callA P w0 n_dedupref04_DecodeSuper [a2] fun v52_21 =>
 pureA (extA v52_21 0) fun v53_22 =>
 pureA (extA v52_21 1) fun v54_23 =>
 newA [(.int .u64 0), (.int .i64 0), (.int .i64 0), (.int .i64 0), (.int .i64 0), (.int .i64 0), (.int .i64 0), (.int .i64 0), (.int .i64 0), (.int .u64 0), (.int .i64 0), (.bool false)] 12 fun v8_24 =>
 storeNA w0 v8_24 v53_22 12 fun _ =>
 pureA (binA .eql v54_23 (.int .i64 0)) fun v56_25 =>
 guardA v56_25 true (addA v8_24 0) fun v58_26 =>
 guardA v56_25 true (loadA w0 v58_26) fun v59_27 =>
 guardA v56_25 true (addA v3_1 0) fun v60_28 =>
 guardA v56_25 true (loadA w0 v60_28) fun v61_29 =>
 guardA v56_25 true (pureA (binA .gtr v59_27 v61_29)) fun v62_30 =>
 pickA v56_25 v62_30 (.bool false) fun v63_31 =>
 condA v63_31 (
 retA [(.bool true)] R) (
 loadNA w0 v3_1 12 fun v65_32 =>
 callA P w0 n_layout_EncodeSuper [v65_32] fun v66_33 =>
 pureA (extA v66_33 0) fun v67_34 =>
 pureA (extA v66_33 1) fun v68_35 =>
 loadNA w0 v7_12 12 fun v70_36 =>
 callA P w0 n_layout_EncodeSuper [v70_36] fun v71_37 =>
 pureA (extA v71_37 0) fun v72_38 =>
 pureA (extA v71_37 1) fun v73_39 =>
 loadNA w0 v3_1 12 fun v75_40 =>
 callA P w0 n_layout_Next [v75_40] fun v76_41 =>
 pureA (extA v76_41 0) fun v77_42 =>
 pureA (extA v76_41 1) fun v78_43 =>
 pureA (extA v76_41 2) fun v79_44 =>
 pureA (binA .neq v68_35 (.int .i64 0)) fun v81_45 =>
 guardA v81_45 false (fun K => K v73_39) fun v83_46 =>
 guardA v81_45 false (pureA (binA .neq v83_46 (.int .i64 0))) fun v84_47 =>
 pickA v81_45 (.bool true) v84_47 fun v85_48 =>
 guardA v85_48 false (fun K => K v79_44) fun v87_49 =>
 guardA v85_48 false (pureA (binA .neq v87_49 (.int .i64 0))) fun v88_50 =>
 pickA v85_48 (.bool true) v88_50 fun v89_51 =>
 guardA v89_51 false (fun K => K v77_42) fun v91_52 =>
 guardA v89_51 false (addA v7_12 0) fun v92_53 =>
 guardA v89_51 false (loadA w0 v92_53) fun v93_54 =>
 guardA v89_51 false (pureA (binA .neq v91_52 v93_54)) fun v94_55 =>
 pickA v89_51 (.bool true) v94_55 fun v95_56 =>
 guardA v95_56 false (fun K => K v78_43) fun v97_57 =>
 guardA v95_56 false (addA v3_1 0) fun v98_58 =>
 guardA v95_56 false (loadA w0 v98_58) fun v99_59 =>
 guardA v95_56 false (callA P w0 n_layout_Slot [v99_59]) fun v100_60 =>
 guardA v95_56 false (pureA (binA .sub (.int .i64 1) v100_60)) fun v101_61 =>
 guardA v95_56 false (pureA (binA .neq v97_57 v101_61)) fun v102_62 =>
 pickA v95_56 (.bool true) v102_62 fun v103_63 =>
 condA v103_63 (
 retA [(.bool false)] R) (
 pureA (binA .eql v78_43 (.int .i64 0)) fun v108_64 =>
 condA v108_64 (
 addA v3_1 2 fun v110_65 =>
 addA v110_65 0 fun v111_66 =>
 loadA w0 v111_66 fun v112_67 =>
 callA P w0 n_layout_Choose [v112_67, a2, v67_34] fun v115_68 =>
 pureA (extA v115_68 0) fun v116_69 =>
 pureA (extA v115_68 1) fun v117_70 =>
 pureA (extA v115_68 2) fun v118_71 =>
 newA [(.int .u64 0), (.int .i64 0), (.int .i64 0), (.int .i64 0), (.int .i64 0), (.int .i64 0), (.int .i64 0), (.int .i64 0), (.int .i64 0), (.int .u64 0), (.int .i64 0), (.bool false)] 12 fun v20_72 =>
 storeNA w0 v20_72 v116_69 12 fun _ =>
 addA v3_1 2 fun v120_73 =>
 addA v120_73 0 fun v121_74 =>
 loadA w0 v121_74 fun v122_75 =>
 callA P w0 n_layout_Choose [v122_75, v72_38, v67_34] fun v125_76 =>
 pureA (extA v125_76 0) fun v126_77 =>
 pureA (extA v125_76 1) fun v127_78 =>
 pureA (extA v125_76 2) fun v128_79 =>
 newA [(.int .u64 0), (.int .i64 0), (.int .i64 0), (.int .i64 0), (.int .i64 0), (.int .i64 0), (.int .i64 0), (.int .i64 0), (.int .i64 0), (.int .u64 0), (.int .i64 0), (.bool false)] 12 fun v23_80 =>
 storeNA w0 v23_80 v126_77 12 fun _ =>
 loadNA w0 v20_72 12 fun v129_81 =>
 loadNA w0 v3_1 12 fun v130_82 =>
 eqStA P .eql 31 v129_81 v130_82 fun v131_83 =>
 guardA v131_83 true (fun K => K v117_70) fun v133_84 =>
 guardA v131_83 true (pureA (binA .eql v133_84 (.int .i64 1))) fun v134_85 =>
 pickA v131_83 v134_85 (.bool false) fun v135_86 =>
 guardA v135_86 true (fun K => K v118_71) fun v137_87 =>
 guardA v135_86 true (pureA (binA .eql v137_87 (.int .i64 0))) fun v138_88 =>
 pickA v135_86 v138_88 (.bool false) fun v139_89 =>
 guardA v139_89 true (loadNA w0 v23_80 12) fun v141_90 =>
 guardA v139_89 true (loadNA w0 v7_12 12) fun v142_91 =>
 guardA v139_89 true (eqStA P .eql 31 v141_90 v142_91) fun v143_92 =>
 pickA v139_89 v143_92 (.bool false) fun v144_93 =>
 guardA v144_93 true (fun K => K v127_78) fun v146_94 =>
 guardA v144_93 true (pureA (binA .eql v146_94 (.int .i64 0))) fun v147_95 =>
 pickA v144_93 v147_95 (.bool false) fun v148_96 =>
 guardA v148_96 true (fun K => K v128_79) fun v150_97 =>
 guardA v148_96 true (pureA (binA .eql v150_97 (.int .i64 0))) fun v151_98 =>
 pickA v148_96 v151_98 (.bool false) fun v152_99 =>
 retA [v152_99] R) (
 addA v3_1 2 fun v154_100 =>
 addA v154_100 0 fun v155_101 =>
 loadA w0 v155_101 fun v156_102 =>
 callA P w0 n_layout_Choose [v156_102, v67_34, a2] fun v159_103 =>
 pureA (extA v159_103 0) fun v160_104 =>
 pureA (extA v159_103 1) fun v161_105 =>
 pureA (extA v159_103 2) fun v162_106 =>
 newA [(.int .u64 0), (.int .i64 0), (.int .i64 0), (.int .i64 0), (.int .i64 0), (.int .i64 0), (.int .i64 0), (.int .i64 0), (.int .i64 0), (.int .u64 0), (.int .i64 0), (.bool false)] 12 fun v26_107 =>
 storeNA w0 v26_107 v160_104 12 fun _ =>
 addA v3_1 2 fun v164_108 =>
 addA v164_108 0 fun v165_109 =>
 loadA w0 v165_109 fun v166_110 =>
 callA P w0 n_layout_Choose [v166_110, v67_34, v72_38] fun v169_111 =>
 pureA (extA v169_111 0) fun v170_112 =>
 pureA (extA v169_111 1) fun v171_113 =>
 pureA (extA v169_111 2) fun v172_114 =>
 newA [(.int .u64 0), (.int .i64 0), (.int .i64 0), (.int .i64 0), (.int .i64 0), (.int .i64 0), (.int .i64 0), (.int .i64 0), (.int .i64 0), (.int .u64 0), (.int .i64 0), (.bool false)] 12 fun v28_115 =>
 storeNA w0 v28_115 v170_112 12 fun _ =>
 loadNA w0 v26_107 12 fun v173_116 =>
 loadNA w0 v3_1 12 fun v174_117 =>
 eqStA P .eql 31 v173_116 v174_117 fun v175_118 =>
 guardA v175_118 true (fun K => K v161_105) fun v177_119 =>
 guardA v175_118 true (pureA (binA .eql v177_119 (.int .i64 0))) fun v178_120 =>
 pickA v175_118 v178_120 (.bool false) fun v179_121 =>
 guardA v179_121 true (fun K => K v162_106) fun v181_122 =>
 guardA v179_121 true (pureA (binA .eql v181_122 (.int .i64 0))) fun v182_123 =>
 pickA v179_121 v182_123 (.bool false) fun v183_124 =>
 guardA v183_124 true (loadNA w0 v28_115 12) fun v185_125 =>
 guardA v183_124 true (loadNA w0 v7_12 12) fun v186_126 =>
 guardA v183_124 true (eqStA P .eql 31 v185_125 v186_126) fun v187_127 =>
 pickA v183_124 v187_127 (.bool false) fun v188_128 =>
 guardA v188_128 true (fun K => K v171_113) fun v190_129 =>
 guardA v188_128 true (pureA (binA .eql v190_129 (.int .i64 1))) fun v191_130 =>
 pickA v188_128 v191_130 (.bool false) fun v192_131 =>
 guardA v192_131 true (fun K => K v172_114) fun v194_132 =>
 guardA v192_131 true (pureA (binA .eql v194_132 (.int .i64 0))) fun v195_133 =>
 pickA v192_131 v195_133 (.bool false) fun v196_134 =>
 retA [v196_134] R))))))
theorem c_deduplaw04_LayoutOneOrOther {w0 : World} {h : Hp} {R : Kont} {a0 a1 a2 : Value} (hj : ∀ v, v ∈ [a0, a1, a2] → v ≠ junk) (hv : s_deduplaw04_LayoutOneOrOther prog w0 a0 a1 a2 R h) : ACalls prog w0 n_deduplaw04_LayoutOneOrOther [a0, a1, a2] h R := by
  have e : vcFn ⟨prog, w0, 197, ks_deduplaw04_LayoutOneOrOther⟩ (drw w0 197) fn_deduplaw04_LayoutOneOrOther [a0, a1, a2] R h = s_deduplaw04_LayoutOneOrOther prog w0 a0 a1 a2 R h := by
    kernel_rfl
  exact acalls_of_eq (fn := fn_deduplaw04_LayoutOneOrOther) (ks := ks_deduplaw04_LayoutOneOrOther) (n := 197) (by kernel_rfl) (by kernel_rfl) (draw_ok (by kernel_rfl)) (by simp) hj e hv

abbrev fn_deduplaw04_awake : Func := f11
def ks_deduplaw04_awake : List (Nat × List Nat × List Nat) := []
def s_deduplaw04_awake (P : Program) (w0 : World) (R : Kont) : Hp → Prop :=
 callA P w0 n_deduplaw04_small [] fun v6_1 =>
 buildA [(0, 1, false, (.int .u64 5)), (1, 1, false, (.int .i64 9)), (2, 10, true, v6_1)] [(.int .u64 0), (.int .i64 0), (.int .i64 0), (.int .i64 0), (.int .i64 0), (.int .i64 0), (.int .i64 0), (.int .i64 0), (.int .i64 0), (.int .u64 0), (.int .i64 0), (.bool false)] fun v7_2 =>
 callA P w0 n_layout_EncodeSuper [v7_2] fun v8_3 =>
 pureA (extA v8_3 0) fun v9_4 =>
 pureA (extA v8_3 1) fun v10_5 =>
 callA P w0 n_layout_DecodeSuper [v9_4] fun v13_6 =>
 pureA (extA v13_6 0) fun v14_7 =>
 pureA (extA v13_6 1) fun v15_8 =>
 newA [(.int .u64 0), (.int .i64 0), (.int .i64 0), (.int .i64 0), (.int .i64 0), (.int .i64 0), (.int .i64 0), (.int .i64 0), (.int .i64 0), (.int .u64 0), (.int .i64 0), (.bool false)] 12 fun v3_9 =>
 storeNA w0 v3_9 v14_7 12 fun _ =>
 pureA (binA .eql v10_5 (.int .i64 0)) fun v17_10 =>
 guardA v17_10 true (fun K => K v15_8) fun v19_11 =>
 guardA v17_10 true (pureA (binA .eql v19_11 (.int .i64 0))) fun v20_12 =>
 pickA v17_10 v20_12 (.bool false) fun v21_13 =>
 guardA v21_13 true (fun K => K v9_4) fun v23_14 =>
 guardA v21_13 true (pureA (lenSl v23_14)) fun v24_15 =>
 guardA v21_13 true (pureA (binA .eql v24_15 (.int .i64 512))) fun v25_16 =>
 pickA v21_13 v25_16 (.bool false) fun v26_17 =>
 guardA v26_17 true (addA v3_9 1) fun v28_18 =>
 guardA v26_17 true (loadA w0 v28_18) fun v29_19 =>
 guardA v26_17 true (pureA (binA .eql v29_19 (.int .i64 9))) fun v30_20 =>
 pickA v26_17 v30_20 (.bool false) fun v31_21 =>
 guardA v31_21 true (addA v3_9 0) fun v33_22 =>
 guardA v31_21 true (loadA w0 v33_22) fun v34_23 =>
 guardA v31_21 true (pureA (binA .eql v34_23 (.int .u64 5))) fun v35_24 =>
 pickA v31_21 v35_24 (.bool false) fun v36_25 =>
 guardA v36_25 true (callA P w0 n_deduplaw04_small []) fun v38_26 =>
 guardA v36_25 true (callA P w0 n_layout_Journal [v38_26]) fun v39_27 =>
 guardA v36_25 true (buildA [(0, 1, false, (.int .i64 2)), (1, 1, false, (.int .i64 6))] [(.int .i64 0), (.int .i64 0)]) fun v40_28 =>
 guardA v36_25 true (eqStA P .eql 43 v39_27 v40_28) fun v41_29 =>
 pickA v36_25 v41_29 (.bool false) fun v42_30 =>
 guardA v42_30 true (callA P w0 n_deduplaw04_small []) fun v44_31 =>
 guardA v42_30 true (callA P w0 n_layout_Data [v44_31]) fun v45_32 =>
 guardA v42_30 true (buildA [(0, 1, false, (.int .i64 8)), (1, 1, false, (.int .i64 24))] [(.int .i64 0), (.int .i64 0)]) fun v46_33 =>
 guardA v42_30 true (eqStA P .eql 43 v45_32 v46_33) fun v47_34 =>
 pickA v42_30 v47_34 (.bool false) fun v48_35 =>
 retA [v48_35] R
theorem c_deduplaw04_awake {w0 : World} {h : Hp} {R : Kont} (hj : ∀ v, v ∈ [] → v ≠ junk) (hv : s_deduplaw04_awake prog w0  R h) : ACalls prog w0 n_deduplaw04_awake [] h R := by
  have e : vcFn ⟨prog, w0, 49, ks_deduplaw04_awake⟩ (drw w0 49) fn_deduplaw04_awake [] R h = s_deduplaw04_awake prog w0  R h := by
    kernel_rfl
  exact acalls_of_eq (fn := fn_deduplaw04_awake) (ks := ks_deduplaw04_awake) (n := 49) (by kernel_rfl) (by kernel_rfl) (draw_ok (by kernel_rfl)) (by simp) hj e hv

abbrev fn_deduplaw04_small : Func := f32
def ks_deduplaw04_small : List (Nat × List Nat × List Nat) := []
def s_deduplaw04_small (P : Program) (w0 : World) (R : Kont) : Hp → Prop :=
 newA [(.int .i64 0), (.int .i64 0), (.int .i64 0), (.int .i64 0), (.int .i64 0), (.int .i64 0), (.int .i64 0), (.int .u64 0), (.int .i64 0), (.bool false)] 10 fun v0_1 =>
 buildA [(0, 1, false, (.int .i64 16)), (1, 1, false, (.int .i64 64)), (2, 1, false, (.int .i64 128)), (3, 1, false, (.int .u64 7))] [(.int .i64 0), (.int .i64 0), (.int .i64 0), (.int .u64 0)] fun v1_2 =>
 buildA [(0, 1, false, (.int .i64 512)), (1, 1, false, (.int .i64 32)), (2, 1, false, (.int .i64 6)), (3, 1, false, (.int .i64 4)), (4, 4, true, v1_2), (8, 1, false, (.int .i64 256)), (9, 1, false, (.bool true))] [(.int .i64 0), (.int .i64 0), (.int .i64 0), (.int .i64 0), (.int .i64 0), (.int .i64 0), (.int .i64 0), (.int .u64 0), (.int .i64 0), (.bool false)] fun v2_3 =>
 storeNA w0 v0_1 v2_3 10 fun _ =>
 loadNA w0 v0_1 10 fun v0_4 =>
 retA [v0_4] R
theorem c_deduplaw04_small {w0 : World} {h : Hp} {R : Kont} (hj : ∀ v, v ∈ [] → v ≠ junk) (hv : s_deduplaw04_small prog w0  R h) : ACalls prog w0 n_deduplaw04_small [] h R := by
  have e : vcFn ⟨prog, w0, 3, ks_deduplaw04_small⟩ (drw w0 3) fn_deduplaw04_small [] R h = s_deduplaw04_small prog w0  R h := by
    kernel_rfl
  exact acalls_of_eq (fn := fn_deduplaw04_small) (ks := ks_deduplaw04_small) (n := 3) (by kernel_rfl) (by kernel_rfl) (draw_ok (by kernel_rfl)) (by simp) hj e hv

end
end Go.Proofs.Ytihebhdgjnibfaa.Ah
