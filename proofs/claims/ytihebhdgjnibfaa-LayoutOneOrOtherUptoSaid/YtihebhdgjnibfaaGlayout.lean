/- PRINTED by wip/tools/shallow.py: functions of the program as readable words, and that each is what its text says. -/
import Derived.Test.YtihebhdgjnibfaaGn
set_option linter.unusedVariables false
set_option linter.unusedSimpArgs false
namespace Go.Proofs.Ytihebhdgjnibfaa.Ah
open Go Go.Proofs.Try
noncomputable section

abbrev fn_layout_Kind : Func := f12
def ks_layout_Kind : List (Nat × List Nat × List Nat) := []
def s_layout_Kind (P : Program) (w0 : World) (a0 a1 : Value) (R : Kont) : Hp → Prop :=
 boxA true 10 a0 fun v2_1 =>
 loadNA w0 v2_1 10 fun v6_2 =>
 callA P w0 n_layout_Data [v6_2] fun v7_3 =>
 buildA [] [(.int .i64 0), (.int .i64 0)] fun v8_4 =>
 eqStA P .eql 43 v7_3 v8_4 fun v9_5 =>
 condA v9_5 (
 condA v9_5 (
 retA [(.int .i64 0)] R) (
 loadNA w0 v2_1 10 fun v17_6 =>
 callA P w0 n_layout_Journal [v17_6] fun v18_7 =>
 callA P w0 n_layout_has [v18_7, a1] fun v20_8 =>
 condA v20_8 (
 retA [(.int .i64 2)] R) (
 loadNA w0 v2_1 10 fun v22_9 =>
 callA P w0 n_layout_Data [v22_9] fun v23_10 =>
 callA P w0 n_layout_has [v23_10, a1] fun v25_11 =>
 condA v25_11 (
 retA [(.int .i64 3)] R) (
 retA [(.int .i64 1)] R)))) (
 pureA (binA .lss a1 (.int .i64 0)) fun v11_12 =>
 condA v11_12 (
 condA v11_12 (
 retA [(.int .i64 0)] R) (
 loadNA w0 v2_1 10 fun v17_13 =>
 callA P w0 n_layout_Journal [v17_13] fun v18_14 =>
 callA P w0 n_layout_has [v18_14, a1] fun v20_15 =>
 condA v20_15 (
 retA [(.int .i64 2)] R) (
 loadNA w0 v2_1 10 fun v22_16 =>
 callA P w0 n_layout_Data [v22_16] fun v23_17 =>
 callA P w0 n_layout_has [v23_17, a1] fun v25_18 =>
 condA v25_18 (
 retA [(.int .i64 3)] R) (
 retA [(.int .i64 1)] R)))) (
 addA v2_1 1 fun v13_19 =>
 loadA w0 v13_19 fun v14_20 =>
 pureA (binA .geq a1 v14_20) fun v15_21 =>
 condA v15_21 (
 retA [(.int .i64 0)] R) (
 loadNA w0 v2_1 10 fun v17_22 =>
 callA P w0 n_layout_Journal [v17_22] fun v18_23 =>
 callA P w0 n_layout_has [v18_23, a1] fun v20_24 =>
 condA v20_24 (
 retA [(.int .i64 2)] R) (
 loadNA w0 v2_1 10 fun v22_25 =>
 callA P w0 n_layout_Data [v22_25] fun v23_26 =>
 callA P w0 n_layout_has [v23_26, a1] fun v25_27 =>
 condA v25_27 (
 retA [(.int .i64 3)] R) (
 retA [(.int .i64 1)] R)))))
theorem c_layout_Kind {w0 : World} {h : Hp} {R : Kont} {a0 a1 : Value} (hj : ∀ v, v ∈ [a0, a1] → v ≠ junk) (hv : s_layout_Kind prog w0 a0 a1 R h) : ACalls prog w0 n_layout_Kind [a0, a1] h R := by
  have e : vcFn ⟨prog, w0, 26, ks_layout_Kind⟩ (drw w0 26) fn_layout_Kind [a0, a1] R h = s_layout_Kind prog w0 a0 a1 R h := by
    kernel_rfl
  exact acalls_of_eq (fn := fn_layout_Kind) (ks := ks_layout_Kind) (n := 26) (by kernel_rfl) (by kernel_rfl) (draw_ok (by kernel_rfl)) (by simp) hj e hv

abbrev fn_layout_CheckSuper : Func := f14
def ks_layout_CheckSuper : List (Nat × List Nat × List Nat) := []
def s_layout_CheckSuper (P : Program) (w0 : World) (a0 : Value) (R : Kont) : Hp → Prop :=
 boxA true 12 a0 fun v1_1 =>
 addA v1_1 2 fun v4_2 =>
 loadNA w0 v4_2 10 fun v5_3 =>
 callA P w0 n_layout_right [v5_3] fun v6_4 =>
 pureA (unA .not v6_4) fun v7_5 =>
 condA v7_5 (
 retA [(.int .i64 41)] R) (
 addA v1_1 1 fun v9_6 =>
 loadA w0 v9_6 fun v10_7 =>
 pureA (binA .neq v10_7 (.int .i64 0)) fun v11_8 =>
 guardA v11_8 true (addA v1_1 2) fun v13_9 =>
 guardA v11_8 true (loadNA w0 v13_9 10) fun v14_10 =>
 guardA v11_8 true (addA v1_1 1) fun v15_11 =>
 guardA v11_8 true (loadA w0 v15_11) fun v16_12 =>
 guardA v11_8 true (callA P w0 n_layout_Kind [v14_10, v16_12]) fun v17_13 =>
 guardA v11_8 true (pureA (binA .neq v17_13 (.int .i64 3))) fun v18_14 =>
 pickA v11_8 v18_14 (.bool false) fun v19_15 =>
 condA v19_15 (
 retA [(.int .i64 40)] R) (
 retA [(.int .i64 0)] R))
theorem c_layout_CheckSuper {w0 : World} {h : Hp} {R : Kont} {a0 : Value} (hj : ∀ v, v ∈ [a0] → v ≠ junk) (hv : s_layout_CheckSuper prog w0 a0 R h) : ACalls prog w0 n_layout_CheckSuper [a0] h R := by
  have e : vcFn ⟨prog, w0, 20, ks_layout_CheckSuper⟩ (drw w0 20) fn_layout_CheckSuper [a0] R h = s_layout_CheckSuper prog w0 a0 R h := by
    kernel_rfl
  exact acalls_of_eq (fn := fn_layout_CheckSuper) (ks := ks_layout_CheckSuper) (n := 20) (by kernel_rfl) (by kernel_rfl) (draw_ok (by kernel_rfl)) (by simp) hj e hv

abbrev fn_layout_EncodeSuper : Func := f16
def ks_layout_EncodeSuper : List (Nat × List Nat × List Nat) := [(8, [5, 6, 47, 48, 49], [5, 6])]
def layout_EncodeSuper_B1 (P : Program) (w0 : World) (R : Value → Value → Value → Value → Value → Hp → Prop) (k0 : Value → Value → Hp → Prop) (x5 x6 x47 x48 x49 : Value) : Hp → Prop :=
 pureA (binA .lss x49 x48) fun v50_35 =>
 condA v50_35 (
 idxSlA 1 x47 x49 fun v51_36 =>
 loadA w0 v51_36 fun v52_37 =>
 pureA (convA .u32 v52_37) fun v55_38 =>
 callA P w0 n_codec_Writer_U32 [x6, v55_38] fun v56_39 =>
 pureA (binA .add x49 (.int .i64 1)) fun v57_40 =>
 R x5 x6 x47 x48 v57_40) (
 k0 x5 x6)
def layout_EncodeSuper_L1 (P : Program) (w0 : World) (k0 : Value → Value → Hp → Prop) : Nat → Value → Value → Value → Value → Value → Hp → Prop
  | 0, _, _, _, _, _ => fun _ => False
  | m + 1, x5, x6, x47, x48, x49 => layout_EncodeSuper_B1 P w0 (layout_EncodeSuper_L1 P w0 k0 m) k0 x5 x6 x47 x48 x49
def layout_EncodeSuper_E1 (P : Program) (w0 : World) (k0 : Value → Value → Hp → Prop) (x5 x6 x47 x48 x49 : Value) : Hp → Prop := fun h => ∃ m, layout_EncodeSuper_L1 P w0 k0 m x5 x6 x47 x48 x49 h
def s_layout_EncodeSuper (P : Program) (w0 : World) (a0 : Value) (R : Kont) : Hp → Prop :=
 boxA true 12 a0 fun v1_1 =>
 loadNA w0 v1_1 12 fun v14_2 =>
 callA P w0 n_layout_CheckSuper [v14_2] fun v15_3 =>
 pureA (binA .neq v15_3 (.int .i64 0)) fun v17_4 =>
 condA v17_4 (
 retA [(.slice none 0 0), v15_3] R) (
 addA v1_1 2 fun v19_5 =>
 loadNA w0 v19_5 10 fun v20_6 =>
 newA [(.int .i64 0), (.int .i64 0), (.int .i64 0), (.int .i64 0), (.int .i64 0), (.int .i64 0), (.int .i64 0), (.int .u64 0), (.int .i64 0), (.bool false)] 10 fun v5_7 =>
 storeNA w0 v5_7 v20_6 10 fun _ =>
 addA v5_7 0 fun v21_8 =>
 loadA w0 v21_8 fun v22_9 =>
 callA P w0 n_codec_NewWriter [v22_9] fun v23_10 =>
 addA v1_1 0 fun v25_11 =>
 loadA w0 v25_11 fun v26_12 =>
 callA P w0 n_codec_Writer_U64 [v23_10, v26_12] fun v27_13 =>
 addA v1_1 1 fun v28_14 =>
 loadA w0 v28_14 fun v29_15 =>
 addA v5_7 0 fun v30_16 =>
 loadA w0 v30_16 fun v31_17 =>
 addA v5_7 1 fun v32_18 =>
 loadA w0 v32_18 fun v33_19 =>
 addA v5_7 2 fun v34_20 =>
 loadA w0 v34_20 fun v35_21 =>
 addA v5_7 3 fun v36_22 =>
 loadA w0 v36_22 fun v37_23 =>
 addA v5_7 4 fun v38_24 =>
 addA v38_24 0 fun v39_25 =>
 loadA w0 v39_25 fun v40_26 =>
 addA v5_7 4 fun v41_27 =>
 addA v41_27 1 fun v42_28 =>
 loadA w0 v42_28 fun v43_29 =>
 addA v5_7 4 fun v44_30 =>
 addA v44_30 2 fun v45_31 =>
 loadA w0 v45_31 fun v46_32 =>
 bslA [(0, 1, false, v29_15), (1, 1, false, v31_17), (2, 1, false, v33_19), (3, 1, false, v35_21), (4, 1, false, v37_23), (5, 1, false, v40_26), (6, 1, false, v43_29), (7, 1, false, v46_32)] (zerosL [(.int .i64 0)] 8) 8 1 fun v47_33 =>
 pureA (lenSl v47_33) fun v48_34 =>
 layout_EncodeSuper_E1 P w0 (fun y5_41 y6_42 =>
 addA y5_41 4 fun v59_43 =>
 addA v59_43 3 fun v60_44 =>
 loadA w0 v60_44 fun v61_45 =>
 callA P w0 n_codec_Writer_U64 [y6_42, v61_45] fun v62_46 =>
 addA y5_41 8 fun v64_47 =>
 loadA w0 v64_47 fun v65_48 =>
 pureA (convA .u16 v65_48) fun v66_49 =>
 callA P w0 n_codec_Writer_U16 [y6_42, v66_49] fun v67_50 =>
 addA y5_41 9 fun v68_51 =>
 loadA w0 v68_51 fun v69_52 =>
 condA v69_52 (
 callA P w0 n_codec_Writer_U8 [y6_42, (.int .u8 1)] fun v71_53 =>
 callA P w0 n_codec_Writer_Done [y6_42] fun v76_54 =>
 pureA (extA v76_54 0) fun v77_55 =>
 pureA (extA v76_54 1) fun v78_56 =>
 callA P w0 n_codec_Frame [(.int .u8 83), v77_55] fun v81_57 =>
 pureA (extA v81_57 0) fun v82_58 =>
 pureA (extA v81_57 1) fun v83_59 =>
 addA y5_41 0 fun v84_60 =>
 loadA w0 v84_60 fun v85_61 =>
 mkA 1 1 [(.int .u8 0)] v85_61 v85_61 fun v86_62 =>
 copyA w0 1 v86_62 v82_58 fun v89_63 =>
 retA [v86_62, (.int .i64 0)] R) (
 callA P w0 n_codec_Writer_U8 [y6_42, (.int .u8 0)] fun v73_64 =>
 callA P w0 n_codec_Writer_Done [y6_42] fun v76_65 =>
 pureA (extA v76_65 0) fun v77_66 =>
 pureA (extA v76_65 1) fun v78_67 =>
 callA P w0 n_codec_Frame [(.int .u8 83), v77_66] fun v81_68 =>
 pureA (extA v81_68 0) fun v82_69 =>
 pureA (extA v81_68 1) fun v83_70 =>
 addA y5_41 0 fun v84_71 =>
 loadA w0 v84_71 fun v85_72 =>
 mkA 1 1 [(.int .u8 0)] v85_72 v85_72 fun v86_73 =>
 copyA w0 1 v86_73 v82_69 fun v89_74 =>
 retA [v86_73, (.int .i64 0)] R)) v5_7 v23_10 v47_33 v48_34 (.int .i64 0))
theorem layout_EncodeSuper_L1_eq (w0 : World) (k0 : Value → Value → Hp → Prop) : ∀ (m : Nat) (x5 x6 x47 x48 x49 : Value) (h : Hp), loopA (stepL ⟨prog, w0, 91, ks_layout_EncodeSuper⟩ (drw w0 91) (loopAt fn_layout_EncodeSuper 0)) m (mkFr [(5, x5), (6, x6), (47, x47), (48, x48), (49, x49)]) [fun t => k0 (t 5) (t 6)] h = layout_EncodeSuper_L1 prog w0 k0 m x5 x6 x47 x48 x49 h := by
  intro m
  induction m with
  | zero => intros; kernel_rfl
  | succ m ih =>
    intro x5 x6 x47 x48 x49 h
    have e : layout_EncodeSuper_L1 prog w0 k0 m = fun x5 x6 x47 x48 x49 h => loopA (stepL ⟨prog, w0, 91, ks_layout_EncodeSuper⟩ (drw w0 91) (loopAt fn_layout_EncodeSuper 0)) m (mkFr [(5, x5), (6, x6), (47, x47), (48, x48), (49, x49)]) [fun t => k0 (t 5) (t 6)] h := by funext x5 x6 x47 x48 x49 h; exact (ih x5 x6 x47 x48 x49 h).symm
    show _ = layout_EncodeSuper_B1 prog w0 (layout_EncodeSuper_L1 prog w0 k0 m) k0 x5 x6 x47 x48 x49 h
    rw [e]
    kernel_rfl
theorem layout_EncodeSuper_E1_eq (w0 : World) : layout_EncodeSuper_E1 prog w0 = fun k0 x5 x6 x47 x48 x49 h => ∃ m, loopA (stepL ⟨prog, w0, 91, ks_layout_EncodeSuper⟩ (drw w0 91) (loopAt fn_layout_EncodeSuper 0)) m (mkFr [(5, x5), (6, x6), (47, x47), (48, x48), (49, x49)]) [fun t => k0 (t 5) (t 6)] h := by
  funext k0 x5 x6 x47 x48 x49 h
  exact congrArg Exists (funext fun m => (layout_EncodeSuper_L1_eq w0 k0 m x5 x6 x47 x48 x49 h).symm)
theorem c_layout_EncodeSuper {w0 : World} {h : Hp} {R : Kont} {a0 : Value} (hj : ∀ v, v ∈ [a0] → v ≠ junk) (hv : s_layout_EncodeSuper prog w0 a0 R h) : ACalls prog w0 n_layout_EncodeSuper [a0] h R := by
  have e : vcFn ⟨prog, w0, 91, ks_layout_EncodeSuper⟩ (drw w0 91) fn_layout_EncodeSuper [a0] R h = s_layout_EncodeSuper prog w0 a0 R h := by
    unfold s_layout_EncodeSuper
    rw [layout_EncodeSuper_E1_eq w0]
    kernel_rfl
  exact acalls_of_eq (fn := fn_layout_EncodeSuper) (ks := ks_layout_EncodeSuper) (n := 91) (by kernel_rfl) (by kernel_rfl) (draw_ok (by kernel_rfl)) (by simp) hj e hv

abbrev fn_layout_DecodeSuper : Func := f18
def ks_layout_DecodeSuper : List (Nat × List Nat × List Nat) := []
def s_layout_DecodeSuper (P : Program) (w0 : World) (a0 : Value) (R : Kont) : Hp → Prop :=
 newA [(.int .u64 0), (.int .i64 0), (.int .i64 0), (.int .i64 0), (.int .i64 0), (.int .i64 0), (.int .i64 0), (.int .i64 0), (.int .i64 0), (.int .u64 0), (.int .i64 0), (.bool false)] 12 fun v2_1 =>
 b2sA w0 a0 fun v14_2 =>
 callA P w0 n_codec_Unframe [v14_2] fun v15_3 =>
 pureA (extA v15_3 0) fun v16_4 =>
 pureA (extA v15_3 1) fun v17_5 =>
 pureA (extA v15_3 2) fun v18_6 =>
 pureA (extA v15_3 3) fun v19_7 =>
 pureA (binA .neq v19_7 (.int .i64 0)) fun v21_8 =>
 guardA v21_8 false (fun K => K v16_4) fun v23_9 =>
 guardA v21_8 false (pureA (binA .neq v23_9 (.int .u8 83))) fun v24_10 =>
 pickA v21_8 (.bool true) v24_10 fun v25_11 =>
 condA v25_11 (
 buildA [] [(.int .u64 0), (.int .i64 0), (.int .i64 0), (.int .i64 0), (.int .i64 0), (.int .i64 0), (.int .i64 0), (.int .i64 0), (.int .i64 0), (.int .u64 0), (.int .i64 0), (.bool false)] fun v26_12 =>
 storeNA w0 v2_1 v26_12 12 fun _ =>
 loadNA w0 v2_1 12 fun v2_13 =>
 retA [v2_13, (.int .i64 40)] R) (
 callA P w0 n_layout_read [v17_5] fun v29_14 =>
 pureA (extA v29_14 0) fun v30_15 =>
 pureA (extA v29_14 1) fun v31_16 =>
 newA [(.int .u64 0), (.int .i64 0), (.int .i64 0), (.int .i64 0), (.int .i64 0), (.int .i64 0), (.int .i64 0), (.int .i64 0), (.int .i64 0), (.int .u64 0), (.int .i64 0), (.bool false)] 12 fun v8_17 =>
 storeNA w0 v8_17 v30_15 12 fun _ =>
 pureA (unA .not v31_16) fun v33_18 =>
 condA v33_18 (
 buildA [] [(.int .u64 0), (.int .i64 0), (.int .i64 0), (.int .i64 0), (.int .i64 0), (.int .i64 0), (.int .i64 0), (.int .i64 0), (.int .i64 0), (.int .u64 0), (.int .i64 0), (.bool false)] fun v34_19 =>
 storeNA w0 v2_1 v34_19 12 fun _ =>
 loadNA w0 v2_1 12 fun v2_20 =>
 retA [v2_20, (.int .i64 40)] R) (
 loadNA w0 v8_17 12 fun v36_21 =>
 callA P w0 n_layout_EncodeSuper [v36_21] fun v37_22 =>
 pureA (extA v37_22 0) fun v38_23 =>
 pureA (extA v37_22 1) fun v39_24 =>
 pureA (binA .neq v39_24 (.int .i64 0)) fun v41_25 =>
 guardA v41_25 false (fun K => K v38_23) fun v43_26 =>
 guardA v41_25 false (b2sA w0 v43_26) fun v44_27 =>
 guardA v41_25 false (fun K => K a0) fun v45_28 =>
 guardA v41_25 false (b2sA w0 v45_28) fun v46_29 =>
 guardA v41_25 false (pureA (binA .neq v44_27 v46_29)) fun v47_30 =>
 pickA v41_25 (.bool true) v47_30 fun v48_31 =>
 condA v48_31 (
 buildA [] [(.int .u64 0), (.int .i64 0), (.int .i64 0), (.int .i64 0), (.int .i64 0), (.int .i64 0), (.int .i64 0), (.int .i64 0), (.int .i64 0), (.int .u64 0), (.int .i64 0), (.bool false)] fun v49_32 =>
 storeNA w0 v2_1 v49_32 12 fun _ =>
 loadNA w0 v2_1 12 fun v2_33 =>
 retA [v2_33, (.int .i64 40)] R) (
 loadNA w0 v8_17 12 fun v50_34 =>
 storeNA w0 v2_1 v50_34 12 fun _ =>
 loadNA w0 v2_1 12 fun v2_35 =>
 retA [v2_35, (.int .i64 0)] R)))
theorem c_layout_DecodeSuper {w0 : World} {h : Hp} {R : Kont} {a0 : Value} (hj : ∀ v, v ∈ [a0] → v ≠ junk) (hv : s_layout_DecodeSuper prog w0 a0 R h) : ACalls prog w0 n_layout_DecodeSuper [a0] h R := by
  have e : vcFn ⟨prog, w0, 51, ks_layout_DecodeSuper⟩ (drw w0 51) fn_layout_DecodeSuper [a0] R h = s_layout_DecodeSuper prog w0 a0 R h := by
    kernel_rfl
  exact acalls_of_eq (fn := fn_layout_DecodeSuper) (ks := ks_layout_DecodeSuper) (n := 51) (by kernel_rfl) (by kernel_rfl) (draw_ok (by kernel_rfl)) (by simp) hj e hv

abbrev fn_layout_Check : Func := f20
def ks_layout_Check : List (Nat × List Nat × List Nat) := []
def s_layout_Check (P : Program) (w0 : World) (a0 : Value) (R : Kont) : Hp → Prop :=
 boxA true 10 a0 fun v1_1 =>
 loadNA w0 v1_1 10 fun v3_2 =>
 callA P w0 n_layout_right [v3_2] fun v4_3 =>
 pureA (unA .not v4_3) fun v5_4 =>
 condA v5_4 (
 retA [(.int .i64 41)] R) (
 retA [(.int .i64 0)] R)
theorem c_layout_Check {w0 : World} {h : Hp} {R : Kont} {a0 : Value} (hj : ∀ v, v ∈ [a0] → v ≠ junk) (hv : s_layout_Check prog w0 a0 R h) : ACalls prog w0 n_layout_Check [a0] h R := by
  have e : vcFn ⟨prog, w0, 6, ks_layout_Check⟩ (drw w0 6) fn_layout_Check [a0] R h = s_layout_Check prog w0 a0 R h := by
    kernel_rfl
  exact acalls_of_eq (fn := fn_layout_Check) (ks := ks_layout_Check) (n := 6) (by kernel_rfl) (by kernel_rfl) (draw_ok (by kernel_rfl)) (by simp) hj e hv

abbrev fn_layout_Journal : Func := f22
def ks_layout_Journal : List (Nat × List Nat × List Nat) := []
def s_layout_Journal (P : Program) (w0 : World) (a0 : Value) (R : Kont) : Hp → Prop :=
 boxA true 10 a0 fun v1_1 =>
 newA [(.int .i64 0), (.int .i64 0)] 2 fun v2_2 =>
 loadNA w0 v1_1 10 fun v3_3 =>
 callA P w0 n_layout_right [v3_3] fun v4_4 =>
 pureA (unA .not v4_4) fun v5_5 =>
 condA v5_5 (
 buildA [] [(.int .i64 0), (.int .i64 0)] fun v6_6 =>
 storeNA w0 v2_2 v6_6 2 fun _ =>
 loadNA w0 v2_2 2 fun v2_7 =>
 retA [v2_7] R) (
 addA v1_1 2 fun v7_8 =>
 loadA w0 v7_8 fun v8_9 =>
 buildA [(0, 1, false, (.int .i64 2)), (1, 1, false, v8_9)] [(.int .i64 0), (.int .i64 0)] fun v9_10 =>
 storeNA w0 v2_2 v9_10 2 fun _ =>
 loadNA w0 v2_2 2 fun v2_11 =>
 retA [v2_11] R)
theorem c_layout_Journal {w0 : World} {h : Hp} {R : Kont} {a0 : Value} (hj : ∀ v, v ∈ [a0] → v ≠ junk) (hv : s_layout_Journal prog w0 a0 R h) : ACalls prog w0 n_layout_Journal [a0] h R := by
  have e : vcFn ⟨prog, w0, 10, ks_layout_Journal⟩ (drw w0 10) fn_layout_Journal [a0] R h = s_layout_Journal prog w0 a0 R h := by
    kernel_rfl
  exact acalls_of_eq (fn := fn_layout_Journal) (ks := ks_layout_Journal) (n := 10) (by kernel_rfl) (by kernel_rfl) (draw_ok (by kernel_rfl)) (by simp) hj e hv

abbrev fn_layout_Data : Func := f24
def ks_layout_Data : List (Nat × List Nat × List Nat) := []
def s_layout_Data (P : Program) (w0 : World) (a0 : Value) (R : Kont) : Hp → Prop :=
 boxA true 10 a0 fun v1_1 =>
 newA [(.int .i64 0), (.int .i64 0)] 2 fun v2_2 =>
 loadNA w0 v1_1 10 fun v4_3 =>
 callA P w0 n_layout_right [v4_3] fun v5_4 =>
 pureA (unA .not v5_4) fun v6_5 =>
 condA v6_5 (
 buildA [] [(.int .i64 0), (.int .i64 0)] fun v7_6 =>
 storeNA w0 v2_2 v7_6 2 fun _ =>
 loadNA w0 v2_2 2 fun v2_7 =>
 retA [v2_7] R) (
 addA v1_1 2 fun v8_8 =>
 loadA w0 v8_8 fun v9_9 =>
 pureA (binA .add (.int .i64 2) v9_9) fun v10_10 =>
 addA v1_1 1 fun v12_11 =>
 loadA w0 v12_11 fun v13_12 =>
 pureA (binA .sub v13_12 v10_10) fun v15_13 =>
 buildA [(0, 1, false, v10_10), (1, 1, false, v15_13)] [(.int .i64 0), (.int .i64 0)] fun v16_14 =>
 storeNA w0 v2_2 v16_14 2 fun _ =>
 loadNA w0 v2_2 2 fun v2_15 =>
 retA [v2_15] R)
theorem c_layout_Data {w0 : World} {h : Hp} {R : Kont} {a0 : Value} (hj : ∀ v, v ∈ [a0] → v ≠ junk) (hv : s_layout_Data prog w0 a0 R h) : ACalls prog w0 n_layout_Data [a0] h R := by
  have e : vcFn ⟨prog, w0, 17, ks_layout_Data⟩ (drw w0 17) fn_layout_Data [a0] R h = s_layout_Data prog w0 a0 R h := by
    kernel_rfl
  exact acalls_of_eq (fn := fn_layout_Data) (ks := ks_layout_Data) (n := 17) (by kernel_rfl) (by kernel_rfl) (draw_ok (by kernel_rfl)) (by simp) hj e hv

abbrev fn_layout_Choose : Func := f26
def ks_layout_Choose : List (Nat × List Nat × List Nat) := [(4, [0, 6, 9, 10, 17, 18, 19], [6, 9, 10])]
def layout_Choose_B1 (P : Program) (w0 : World) (R : Value → Value → Value → Value → Value → Value → Value → Hp → Prop) (k0 : Value → Value → Value → Hp → Prop) (x0 x6 x9 x10 x17 x18 x19 : Value) : Hp → Prop :=
 pureA (binA .lss x19 x18) fun v20_5 =>
 condA v20_5 (
 idxSlA 1 x17 x19 fun v22_6 =>
 loadA w0 v22_6 fun v23_7 =>
 callA P w0 n_layout_DecodeSuper [v23_7] fun v26_8 =>
 pureA (extA v26_8 0) fun v27_9 =>
 pureA (extA v26_8 1) fun v28_10 =>
 newA [(.int .u64 0), (.int .i64 0), (.int .i64 0), (.int .i64 0), (.int .i64 0), (.int .i64 0), (.int .i64 0), (.int .i64 0), (.int .i64 0), (.int .u64 0), (.int .i64 0), (.bool false)] 12 fun v13_11 =>
 storeNA w0 v13_11 v27_9 12 fun _ =>
 pureA (binA .neq v28_10 (.int .i64 0)) fun v30_12 =>
 guardA v30_12 false (addA v13_11 2) fun v32_13 =>
 guardA v30_12 false (addA v32_13 0) fun v33_14 =>
 guardA v30_12 false (loadA w0 v33_14) fun v34_15 =>
 guardA v30_12 false (fun K => K x0) fun v35_16 =>
 guardA v30_12 false (pureA (binA .neq v34_15 v35_16)) fun v36_17 =>
 pickA v30_12 (.bool true) v36_17 fun v37_18 =>
 guardA v37_18 false (addA v13_11 0) fun v39_19 =>
 guardA v37_18 false (loadA w0 v39_19) fun v40_20 =>
 guardA v37_18 false (callA P w0 n_layout_Slot [v40_20]) fun v41_21 =>
 guardA v37_18 false (fun K => K x19) fun v42_22 =>
 guardA v37_18 false (pureA (binA .neq v41_21 v42_22)) fun v43_23 =>
 pickA v37_18 (.bool true) v43_23 fun v44_24 =>
 condA v44_24 (
 pureA (binA .add x19 (.int .i64 1)) fun v56_25 =>
 R x0 x6 x9 x10 x17 x18 v56_25) (
 pureA (binA .lss x10 (.int .i64 0)) fun v46_26 =>
 guardA v46_26 false (addA v13_11 0) fun v48_27 =>
 guardA v46_26 false (loadA w0 v48_27) fun v49_28 =>
 guardA v46_26 false (addA x9 0) fun v50_29 =>
 guardA v46_26 false (loadA w0 v50_29) fun v51_30 =>
 guardA v46_26 false (pureA (binA .gtr v49_28 v51_30)) fun v52_31 =>
 pickA v46_26 (.bool true) v52_31 fun v53_32 =>
 condA v53_32 (
 loadNA w0 v13_11 12 fun v54_33 =>
 storeNA w0 x9 v54_33 12 fun _ =>
 pureA (binA .add x19 (.int .i64 1)) fun v56_34 =>
 R x0 x6 x9 x19 x17 x18 v56_34) (
 pureA (binA .add x19 (.int .i64 1)) fun v56_35 =>
 R x0 x6 x9 x10 x17 x18 v56_35))) (
 k0 x6 x9 x10)
def layout_Choose_L1 (P : Program) (w0 : World) (k0 : Value → Value → Value → Hp → Prop) : Nat → Value → Value → Value → Value → Value → Value → Value → Hp → Prop
  | 0, _, _, _, _, _, _, _ => fun _ => False
  | m + 1, x0, x6, x9, x10, x17, x18, x19 => layout_Choose_B1 P w0 (layout_Choose_L1 P w0 k0 m) k0 x0 x6 x9 x10 x17 x18 x19
def layout_Choose_E1 (P : Program) (w0 : World) (k0 : Value → Value → Value → Hp → Prop) (x0 x6 x9 x10 x17 x18 x19 : Value) : Hp → Prop := fun h => ∃ m, layout_Choose_L1 P w0 k0 m x0 x6 x9 x10 x17 x18 x19 h
def s_layout_Choose (P : Program) (w0 : World) (a0 a1 a2 : Value) (R : Kont) : Hp → Prop :=
 newA [(.int .u64 0), (.int .i64 0), (.int .i64 0), (.int .i64 0), (.int .i64 0), (.int .i64 0), (.int .i64 0), (.int .i64 0), (.int .i64 0), (.int .u64 0), (.int .i64 0), (.bool false)] 12 fun v6_1 =>
 newA [(.int .u64 0), (.int .i64 0), (.int .i64 0), (.int .i64 0), (.int .i64 0), (.int .i64 0), (.int .i64 0), (.int .i64 0), (.int .i64 0), (.int .u64 0), (.int .i64 0), (.bool false)] 12 fun v9_2 =>
 bslA [(0, 1, false, a1), (1, 1, false, a2)] (zerosL [(.slice none 0 0)] 2) 2 1 fun v17_3 =>
 pureA (lenSl v17_3) fun v18_4 =>
 layout_Choose_E1 P w0 (fun y6_36 y9_37 y10_38 =>
 pureA (binA .lss y10_38 (.int .i64 0)) fun v58_39 =>
 condA v58_39 (
 buildA [] [(.int .u64 0), (.int .i64 0), (.int .i64 0), (.int .i64 0), (.int .i64 0), (.int .i64 0), (.int .i64 0), (.int .i64 0), (.int .i64 0), (.int .u64 0), (.int .i64 0), (.bool false)] fun v59_40 =>
 storeNA w0 y6_36 v59_40 12 fun _ =>
 loadNA w0 y6_36 12 fun v6_41 =>
 retA [v6_41, (.int .i64 0), (.int .i64 40)] R) (
 loadNA w0 y9_37 12 fun v60_42 =>
 storeNA w0 y6_36 v60_42 12 fun _ =>
 loadNA w0 y6_36 12 fun v6_43 =>
 retA [v6_43, y10_38, (.int .i64 0)] R)) a0 v6_1 v9_2 (.int .i64 (-1)) v17_3 v18_4 (.int .i64 0)
theorem layout_Choose_L1_eq (w0 : World) (k0 : Value → Value → Value → Hp → Prop) : ∀ (m : Nat) (x0 x6 x9 x10 x17 x18 x19 : Value) (h : Hp), loopA (stepL ⟨prog, w0, 62, ks_layout_Choose⟩ (drw w0 62) (loopAt fn_layout_Choose 0)) m (mkFr [(0, x0), (6, x6), (9, x9), (10, x10), (17, x17), (18, x18), (19, x19)]) [fun t => k0 (t 6) (t 9) (t 10)] h = layout_Choose_L1 prog w0 k0 m x0 x6 x9 x10 x17 x18 x19 h := by
  intro m
  induction m with
  | zero => intros; kernel_rfl
  | succ m ih =>
    intro x0 x6 x9 x10 x17 x18 x19 h
    have e : layout_Choose_L1 prog w0 k0 m = fun x0 x6 x9 x10 x17 x18 x19 h => loopA (stepL ⟨prog, w0, 62, ks_layout_Choose⟩ (drw w0 62) (loopAt fn_layout_Choose 0)) m (mkFr [(0, x0), (6, x6), (9, x9), (10, x10), (17, x17), (18, x18), (19, x19)]) [fun t => k0 (t 6) (t 9) (t 10)] h := by funext x0 x6 x9 x10 x17 x18 x19 h; exact (ih x0 x6 x9 x10 x17 x18 x19 h).symm
    show _ = layout_Choose_B1 prog w0 (layout_Choose_L1 prog w0 k0 m) k0 x0 x6 x9 x10 x17 x18 x19 h
    rw [e]
    kernel_rfl
theorem layout_Choose_E1_eq (w0 : World) : layout_Choose_E1 prog w0 = fun k0 x0 x6 x9 x10 x17 x18 x19 h => ∃ m, loopA (stepL ⟨prog, w0, 62, ks_layout_Choose⟩ (drw w0 62) (loopAt fn_layout_Choose 0)) m (mkFr [(0, x0), (6, x6), (9, x9), (10, x10), (17, x17), (18, x18), (19, x19)]) [fun t => k0 (t 6) (t 9) (t 10)] h := by
  funext k0 x0 x6 x9 x10 x17 x18 x19 h
  exact congrArg Exists (funext fun m => (layout_Choose_L1_eq w0 k0 m x0 x6 x9 x10 x17 x18 x19 h).symm)
theorem c_layout_Choose {w0 : World} {h : Hp} {R : Kont} {a0 a1 a2 : Value} (hj : ∀ v, v ∈ [a0, a1, a2] → v ≠ junk) (hv : s_layout_Choose prog w0 a0 a1 a2 R h) : ACalls prog w0 n_layout_Choose [a0, a1, a2] h R := by
  have e : vcFn ⟨prog, w0, 62, ks_layout_Choose⟩ (drw w0 62) fn_layout_Choose [a0, a1, a2] R h = s_layout_Choose prog w0 a0 a1 a2 R h := by
    unfold s_layout_Choose
    rw [layout_Choose_E1_eq w0]
    kernel_rfl
  exact acalls_of_eq (fn := fn_layout_Choose) (ks := ks_layout_Choose) (n := 62) (by kernel_rfl) (by kernel_rfl) (draw_ok (by kernel_rfl)) (by simp) hj e hv

abbrev fn_layout_Next : Func := f28
def ks_layout_Next : List (Nat × List Nat × List Nat) := []
def s_layout_Next (P : Program) (w0 : World) (a0 : Value) (R : Kont) : Hp → Prop :=
 boxA true 12 a0 fun v1_1 =>
 addA v1_1 0 fun v5_2 =>
 loadA w0 v5_2 fun v6_3 =>
 pureA (binA .eql v6_3 (.int .u64 18446744073709551615)) fun v7_4 =>
 condA v7_4 (
 retA [(.int .u64 0), (.int .i64 0), (.int .i64 2)] R) (
 pureQ (addA v1_1 0) fun v8_5 =>
 readQ (loadA w0 v8_5) fun v9_6 =>
 pureQ (pureA (binA .add v9_6 (.int .u64 1))) fun v10_7 =>
 pureQ (addA v1_1 0) fun v11_8 =>
 readQ (loadA w0 v11_8) fun v12_9 =>
 pureQ (pureA (binA .add v12_9 (.int .u64 1))) fun v13_10 =>
 allA [
 (callA P w0 n_layout_Slot [v13_10] fun v14_11 =>
 stillA [(sameQ (loadA w0 v8_5) v9_6)] (
 pureQ (fun K => K v10_7) fun v2_12 =>
 pureQ (fun K => K v14_11) fun v3_13 =>
 pureQ (fun K => K (.int .i64 0)) fun v4_14 =>
 endA (
 retA [v2_12, v3_13, v4_14] R)))])
theorem c_layout_Next {w0 : World} {h : Hp} {R : Kont} {a0 : Value} (hj : ∀ v, v ∈ [a0] → v ≠ junk) (hv : s_layout_Next prog w0 a0 R h) : ACalls prog w0 n_layout_Next [a0] h R := by
  have e : vcFn ⟨prog, w0, 15, ks_layout_Next⟩ (drw w0 15) fn_layout_Next [a0] R h = s_layout_Next prog w0 a0 R h := by
    kernel_rfl
  exact acalls_of_eq (fn := fn_layout_Next) (ks := ks_layout_Next) (n := 15) (by kernel_rfl) (by kernel_rfl) (draw_ok (by kernel_rfl)) (by simp) hj e hv

abbrev fn_layout_Slot : Func := f30
def ks_layout_Slot : List (Nat × List Nat × List Nat) := []
def s_layout_Slot (P : Program) (w0 : World) (a0 : Value) (R : Kont) : Hp → Prop :=
 pureA (binA .and a0 (.int .u64 1)) fun v4_1 =>
 pureA (convA .i64 v4_1) fun v5_2 =>
 retA [v5_2] R
theorem c_layout_Slot {w0 : World} {h : Hp} {R : Kont} {a0 : Value} (hj : ∀ v, v ∈ [a0] → v ≠ junk) (hv : s_layout_Slot prog w0 a0 R h) : ACalls prog w0 n_layout_Slot [a0] h R := by
  have e : vcFn ⟨prog, w0, 6, ks_layout_Slot⟩ (drw w0 6) fn_layout_Slot [a0] R h = s_layout_Slot prog w0 a0 R h := by
    kernel_rfl
  exact acalls_of_eq (fn := fn_layout_Slot) (ks := ks_layout_Slot) (n := 6) (by kernel_rfl) (by kernel_rfl) (draw_ok (by kernel_rfl)) (by simp) hj e hv

abbrev fn_layout_has : Func := f33
def ks_layout_has : List (Nat × List Nat × List Nat) := []
def s_layout_has (P : Program) (w0 : World) (a0 a1 : Value) (R : Kont) : Hp → Prop :=
 boxA true 2 a0 fun v2_1 =>
 addA v2_1 0 fun v6_2 =>
 loadA w0 v6_2 fun v7_3 =>
 pureA (binA .geq a1 v7_3) fun v8_4 =>
 guardA v8_4 true (fun K => K a1) fun v10_5 =>
 guardA v8_4 true (addA v2_1 0) fun v11_6 =>
 guardA v8_4 true (loadA w0 v11_6) fun v12_7 =>
 guardA v8_4 true (addA v2_1 1) fun v13_8 =>
 guardA v8_4 true (loadA w0 v13_8) fun v14_9 =>
 guardA v8_4 true (pureA (binA .add v12_7 v14_9)) fun v15_10 =>
 guardA v8_4 true (pureA (binA .lss v10_5 v15_10)) fun v16_11 =>
 pickA v8_4 v16_11 (.bool false) fun v17_12 =>
 retA [v17_12] R
theorem c_layout_has {w0 : World} {h : Hp} {R : Kont} {a0 a1 : Value} (hj : ∀ v, v ∈ [a0, a1] → v ≠ junk) (hv : s_layout_has prog w0 a0 a1 R h) : ACalls prog w0 n_layout_has [a0, a1] h R := by
  have e : vcFn ⟨prog, w0, 18, ks_layout_has⟩ (drw w0 18) fn_layout_has [a0, a1] R h = s_layout_has prog w0 a0 a1 R h := by
    kernel_rfl
  exact acalls_of_eq (fn := fn_layout_has) (ks := ks_layout_has) (n := 18) (by kernel_rfl) (by kernel_rfl) (draw_ok (by kernel_rfl)) (by simp) hj e hv

abbrev fn_layout_right : Func := f34
def ks_layout_right : List (Nat × List Nat × List Nat) := []
def s_layout_right (P : Program) (w0 : World) (a0 : Value) (R : Kont) : Hp → Prop :=
 boxA true 10 a0 fun v1_1 =>
 addA v1_1 0 fun v4_2 =>
 loadA w0 v4_2 fun v5_3 =>
 callA P w0 n_layout_power [v5_3, (.int .i64 512), (.int .i64 4096)] fun v6_4 =>
 pureA (unA .not v6_4) fun v7_5 =>
 guardA v7_5 false (addA v1_1 1) fun v9_6 =>
 guardA v7_5 false (loadA w0 v9_6) fun v10_7 =>
 guardA v7_5 false (callA P w0 n_layout_within [v10_7, (.int .i64 16), (.int .i64 4096)]) fun v11_8 =>
 guardA v7_5 false (pureA (unA .not v11_8)) fun v12_9 =>
 pickA v7_5 (.bool true) v12_9 fun v13_10 =>
 condA v13_10 (
 retA [(.bool false)] R) (
 addA v1_1 2 fun v14_11 =>
 loadA w0 v14_11 fun v15_12 =>
 addA v1_1 1 fun v16_13 =>
 loadA w0 v16_13 fun v17_14 =>
 pureA (binA .quo v17_14 (.int .i64 4)) fun v18_15 =>
 callA P w0 n_layout_within [v15_12, (.int .i64 2), v18_15] fun v19_16 =>
 pureA (unA .not v19_16) fun v20_17 =>
 guardA v20_17 false (addA v1_1 3) fun v22_18 =>
 guardA v20_17 false (loadA w0 v22_18) fun v23_19 =>
 guardA v20_17 false (callA P w0 n_layout_within [v23_19, (.int .i64 2), (.int .i64 64)]) fun v24_20 =>
 guardA v20_17 false (pureA (unA .not v24_20)) fun v25_21 =>
 pickA v20_17 (.bool true) v25_21 fun v26_22 =>
 guardA v26_22 false (addA v1_1 8) fun v28_23 =>
 guardA v26_22 false (loadA w0 v28_23) fun v29_24 =>
 guardA v26_22 false (callA P w0 n_layout_within [v29_24, (.int .i64 0), (.int .i64 256)]) fun v30_25 =>
 guardA v26_22 false (pureA (unA .not v30_25)) fun v31_26 =>
 pickA v26_22 (.bool true) v31_26 fun v32_27 =>
 condA v32_27 (
 retA [(.bool false)] R) (
 addA v1_1 4 fun v33_28 =>
 loadNA w0 v33_28 4 fun v34_29 =>
 newA [(.int .i64 0), (.int .i64 0), (.int .i64 0), (.int .u64 0)] 4 fun v3_30 =>
 storeNA w0 v3_30 v34_29 4 fun _ =>
 addA v3_30 1 fun v35_31 =>
 loadA w0 v35_31 fun v36_32 =>
 callA P w0 n_layout_power [v36_32, (.int .i64 16), (.int .i64 65536)] fun v37_33 =>
 guardA v37_33 true (addA v3_30 0) fun v39_34 =>
 guardA v37_33 true (loadA w0 v39_34) fun v40_35 =>
 guardA v37_33 true (addA v3_30 1) fun v41_36 =>
 guardA v37_33 true (loadA w0 v41_36) fun v42_37 =>
 guardA v37_33 true (callA P w0 n_layout_within [v40_35, (.int .i64 1), v42_37]) fun v43_38 =>
 pickA v37_33 v43_38 (.bool false) fun v44_39 =>
 guardA v44_39 true (addA v3_30 2) fun v46_40 =>
 guardA v44_39 true (loadA w0 v46_40) fun v47_41 =>
 guardA v44_39 true (addA v3_30 1) fun v48_42 =>
 guardA v44_39 true (loadA w0 v48_42) fun v49_43 =>
 guardA v44_39 true (addA v3_30 1) fun v50_44 =>
 guardA v44_39 true (loadA w0 v50_44) fun v51_45 =>
 guardA v44_39 true (pureA (binA .mul (.int .i64 8) v51_45)) fun v52_46 =>
 guardA v44_39 true (addA v1_1 3) fun v53_47 =>
 guardA v44_39 true (loadA w0 v53_47) fun v54_48 =>
 guardA v44_39 true (addA v1_1 0) fun v55_49 =>
 guardA v44_39 true (loadA w0 v55_49) fun v56_50 =>
 guardA v44_39 true (pureA (binA .mul v54_48 v56_50)) fun v57_51 =>
 guardA v44_39 true (pureA (binA .sub v57_51 (.int .i64 40))) fun v58_52 =>
 guardA v44_39 true (pureA (foldA min2A v52_46 [v58_52])) fun v59_53 =>
 guardA v44_39 true (callA P w0 n_layout_within [v47_41, v49_43, v59_53]) fun v60_54 =>
 pickA v44_39 v60_54 (.bool false) fun v61_55 =>
 retA [v61_55] R))
theorem c_layout_right {w0 : World} {h : Hp} {R : Kont} {a0 : Value} (hj : ∀ v, v ∈ [a0] → v ≠ junk) (hv : s_layout_right prog w0 a0 R h) : ACalls prog w0 n_layout_right [a0] h R := by
  have e : vcFn ⟨prog, w0, 62, ks_layout_right⟩ (drw w0 62) fn_layout_right [a0] R h = s_layout_right prog w0 a0 R h := by
    kernel_rfl
  exact acalls_of_eq (fn := fn_layout_right) (ks := ks_layout_right) (n := 62) (by kernel_rfl) (by kernel_rfl) (draw_ok (by kernel_rfl)) (by simp) hj e hv

abbrev fn_layout_read : Func := f45
def ks_layout_read : List (Nat × List Nat × List Nat) := [(5, [2, 4, 5, 40, 41, 42], [2, 4, 5])]
def layout_read_B1 (P : Program) (w0 : World) (R : Value → Value → Value → Value → Value → Value → Hp → Prop) (k0 : Value → Value → Value → Hp → Prop) (x2 x4 x5 x40 x41 x42 : Value) : Hp → Prop :=
 pureA (binA .lss x42 x41) fun v43_34 =>
 condA v43_34 (
 idxSlA 1 x40 x42 fun v44_35 =>
 loadA w0 v44_35 fun v45_36 =>
 callA P w0 n_codec_Reader_U32 [x4] fun v48_37 =>
 pureA (convA .i64 v48_37) fun v49_38 =>
 nilA v45_36 fun v50_39 =>
 storeA w0 v50_39 v49_38 fun _ =>
 pureA (binA .add x42 (.int .i64 1)) fun v51_40 =>
 R x2 x4 x5 x40 x41 v51_40) (
 k0 x2 x4 x5)
def layout_read_L1 (P : Program) (w0 : World) (k0 : Value → Value → Value → Hp → Prop) : Nat → Value → Value → Value → Value → Value → Value → Hp → Prop
  | 0, _, _, _, _, _, _ => fun _ => False
  | m + 1, x2, x4, x5, x40, x41, x42 => layout_read_B1 P w0 (layout_read_L1 P w0 k0 m) k0 x2 x4 x5 x40 x41 x42
def layout_read_E1 (P : Program) (w0 : World) (k0 : Value → Value → Value → Hp → Prop) (x2 x4 x5 x40 x41 x42 : Value) : Hp → Prop := fun h => ∃ m, layout_read_L1 P w0 k0 m x2 x4 x5 x40 x41 x42 h
def s_layout_read (P : Program) (w0 : World) (a0 : Value) (R : Kont) : Hp → Prop :=
 newA [(.int .u64 0), (.int .i64 0), (.int .i64 0), (.int .i64 0), (.int .i64 0), (.int .i64 0), (.int .i64 0), (.int .i64 0), (.int .i64 0), (.int .u64 0), (.int .i64 0), (.bool false)] 12 fun v2_1 =>
 callA P w0 n_codec_NewReader [a0] fun v10_2 =>
 callA P w0 n_codec_Reader_U64 [v10_2] fun v12_3 =>
 addA v2_1 0 fun v13_4 =>
 storeA w0 v13_4 v12_3 fun _ =>
 addA v2_1 2 fun v14_5 =>
 pureQ (addA v2_1 1) fun v15_6 =>
 pureQ (fun K => K v14_5) fun v16_7 =>
 pureQ (nilA v16_7) fun v17_8 =>
 pureQ (addA v17_8 0) fun v18_9 =>
 pureQ (fun K => K v14_5) fun v19_10 =>
 pureQ (nilA v19_10) fun v20_11 =>
 pureQ (addA v20_11 1) fun v21_12 =>
 pureQ (fun K => K v14_5) fun v22_13 =>
 pureQ (nilA v22_13) fun v23_14 =>
 pureQ (addA v23_14 2) fun v24_15 =>
 pureQ (fun K => K v14_5) fun v25_16 =>
 pureQ (nilA v25_16) fun v26_17 =>
 pureQ (addA v26_17 3) fun v27_18 =>
 pureQ (fun K => K v14_5) fun v28_19 =>
 pureQ (nilA v28_19) fun v29_20 =>
 pureQ (addA v29_20 4) fun v30_21 =>
 pureQ (addA v30_21 0) fun v31_22 =>
 pureQ (fun K => K v14_5) fun v32_23 =>
 pureQ (nilA v32_23) fun v33_24 =>
 pureQ (addA v33_24 4) fun v34_25 =>
 pureQ (addA v34_25 1) fun v35_26 =>
 pureQ (fun K => K v14_5) fun v36_27 =>
 pureQ (nilA v36_27) fun v37_28 =>
 pureQ (addA v37_28 4) fun v38_29 =>
 pureQ (addA v38_29 2) fun v39_30 =>
 pureQ (fun K => K (.int .i64 0)) fun v42_31 =>
 allA [
 (bslA [(0, 1, false, v15_6), (1, 1, false, v18_9), (2, 1, false, v21_12), (3, 1, false, v24_15), (4, 1, false, v27_18), (5, 1, false, v31_22), (6, 1, false, v35_26), (7, 1, false, v39_30)] (zerosL [(.pointer none)] 8) 8 1 fun v40_32 =>
 stillA [] (
 pureQ (pureA (lenSl v40_32)) fun v41_33 =>
 endA (
 layout_read_E1 P w0 (fun y2_41 y4_42 y5_43 =>
 callA P w0 n_codec_Reader_U64 [y4_42] fun v54_44 =>
 nilA y5_43 fun v55_45 =>
 addA v55_45 4 fun v56_46 =>
 addA v56_46 3 fun v57_47 =>
 storeA w0 v57_47 v54_44 fun _ =>
 callA P w0 n_codec_Reader_U16 [y4_42] fun v60_48 =>
 pureA (convA .i64 v60_48) fun v61_49 =>
 nilA y5_43 fun v62_50 =>
 addA v62_50 8 fun v63_51 =>
 storeA w0 v63_51 v61_49 fun _ =>
 callA P w0 n_codec_Reader_U8 [y4_42] fun v65_52 =>
 pureA (binA .eql v65_52 (.int .u8 1)) fun v68_53 =>
 nilA y5_43 fun v69_54 =>
 addA v69_54 9 fun v70_55 =>
 storeA w0 v70_55 v68_53 fun _ =>
 readQ (loadNA w0 y2_41 12) fun v71_56 =>
 pureQ (fun K => K v65_52) fun v72_57 =>
 pureQ (pureA (binA .leq v72_57 (.int .u8 1))) fun v73_58 =>
 pureQ (fun K => K v73_58) fun v74_59 =>
 pureQ (guardA v74_59 true (fun K => K y4_42)) fun v75_60 =>
 allA [
 (guardA v74_59 true (callA P w0 n_codec_Reader_Done [v75_60]) fun v76_61 =>
 stillA [(sameQ (loadNA w0 y2_41 12) v71_56)] (
 pureQ (guardA v74_59 true (pureA (binA .eql v76_61 (.int .i64 0)))) fun v77_62 =>
 pureQ (pickA v74_59 v77_62 (.bool false)) fun v78_63 =>
 allA [
 (storeNA w0 y2_41 v71_56 12 fun _ =>
 stillA [] (
 pureQ (fun K => K v78_63) fun v3_64 =>
 endA (
 loadNA w0 y2_41 12 fun v2_65 =>
 retA [v2_65, v3_64] R)))]))]) v2_1 v10_2 v14_5 v40_32 v41_33 v42_31)))]
theorem layout_read_L1_eq (w0 : World) (k0 : Value → Value → Value → Hp → Prop) : ∀ (m : Nat) (x2 x4 x5 x40 x41 x42 : Value) (h : Hp), loopA (stepL ⟨prog, w0, 79, ks_layout_read⟩ (drw w0 79) (loopAt fn_layout_read 0)) m (mkFr [(2, x2), (4, x4), (5, x5), (40, x40), (41, x41), (42, x42)]) [fun t => k0 (t 2) (t 4) (t 5)] h = layout_read_L1 prog w0 k0 m x2 x4 x5 x40 x41 x42 h := by
  intro m
  induction m with
  | zero => intros; kernel_rfl
  | succ m ih =>
    intro x2 x4 x5 x40 x41 x42 h
    have e : layout_read_L1 prog w0 k0 m = fun x2 x4 x5 x40 x41 x42 h => loopA (stepL ⟨prog, w0, 79, ks_layout_read⟩ (drw w0 79) (loopAt fn_layout_read 0)) m (mkFr [(2, x2), (4, x4), (5, x5), (40, x40), (41, x41), (42, x42)]) [fun t => k0 (t 2) (t 4) (t 5)] h := by funext x2 x4 x5 x40 x41 x42 h; exact (ih x2 x4 x5 x40 x41 x42 h).symm
    show _ = layout_read_B1 prog w0 (layout_read_L1 prog w0 k0 m) k0 x2 x4 x5 x40 x41 x42 h
    rw [e]
    kernel_rfl
theorem layout_read_E1_eq (w0 : World) : layout_read_E1 prog w0 = fun k0 x2 x4 x5 x40 x41 x42 h => ∃ m, loopA (stepL ⟨prog, w0, 79, ks_layout_read⟩ (drw w0 79) (loopAt fn_layout_read 0)) m (mkFr [(2, x2), (4, x4), (5, x5), (40, x40), (41, x41), (42, x42)]) [fun t => k0 (t 2) (t 4) (t 5)] h := by
  funext k0 x2 x4 x5 x40 x41 x42 h
  exact congrArg Exists (funext fun m => (layout_read_L1_eq w0 k0 m x2 x4 x5 x40 x41 x42 h).symm)
theorem c_layout_read {w0 : World} {h : Hp} {R : Kont} {a0 : Value} (hj : ∀ v, v ∈ [a0] → v ≠ junk) (hv : s_layout_read prog w0 a0 R h) : ACalls prog w0 n_layout_read [a0] h R := by
  have e : vcFn ⟨prog, w0, 79, ks_layout_read⟩ (drw w0 79) fn_layout_read [a0] R h = s_layout_read prog w0 a0 R h := by
    unfold s_layout_read
    rw [layout_read_E1_eq w0]
    kernel_rfl
  exact acalls_of_eq (fn := fn_layout_read) (ks := ks_layout_read) (n := 79) (by kernel_rfl) (by kernel_rfl) (draw_ok (by kernel_rfl)) (by simp) hj e hv

abbrev fn_layout_power : Func := f49
def ks_layout_power : List (Nat × List Nat × List Nat) := []
def s_layout_power (P : Program) (w0 : World) (a0 a1 a2 : Value) (R : Kont) : Hp → Prop :=
 pureA (binA .geq a0 a1) fun v9_1 =>
 guardA v9_1 true (fun K => K a0) fun v11_2 =>
 guardA v9_1 true (fun K => K a2) fun v12_3 =>
 guardA v9_1 true (pureA (binA .leq v11_2 v12_3)) fun v13_4 =>
 pickA v9_1 v13_4 (.bool false) fun v14_5 =>
 guardA v14_5 true (fun K => K a0) fun v16_6 =>
 guardA v14_5 true (fun K => K a0) fun v17_7 =>
 guardA v14_5 true (pureA (binA .sub v17_7 (.int .i64 1))) fun v18_8 =>
 guardA v14_5 true (pureA (binA .and v16_6 v18_8)) fun v19_9 =>
 guardA v14_5 true (pureA (binA .eql v19_9 (.int .i64 0))) fun v20_10 =>
 pickA v14_5 v20_10 (.bool false) fun v21_11 =>
 retA [v21_11] R
theorem c_layout_power {w0 : World} {h : Hp} {R : Kont} {a0 a1 a2 : Value} (hj : ∀ v, v ∈ [a0, a1, a2] → v ≠ junk) (hv : s_layout_power prog w0 a0 a1 a2 R h) : ACalls prog w0 n_layout_power [a0, a1, a2] h R := by
  have e : vcFn ⟨prog, w0, 22, ks_layout_power⟩ (drw w0 22) fn_layout_power [a0, a1, a2] R h = s_layout_power prog w0 a0 a1 a2 R h := by
    kernel_rfl
  exact acalls_of_eq (fn := fn_layout_power) (ks := ks_layout_power) (n := 22) (by kernel_rfl) (by kernel_rfl) (draw_ok (by kernel_rfl)) (by simp) hj e hv

abbrev fn_layout_within : Func := f50
def ks_layout_within : List (Nat × List Nat × List Nat) := []
def s_layout_within (P : Program) (w0 : World) (a0 a1 a2 : Value) (R : Kont) : Hp → Prop :=
 pureA (binA .geq a0 a1) fun v9_1 =>
 guardA v9_1 true (fun K => K a0) fun v11_2 =>
 guardA v9_1 true (fun K => K a2) fun v12_3 =>
 guardA v9_1 true (pureA (binA .leq v11_2 v12_3)) fun v13_4 =>
 pickA v9_1 v13_4 (.bool false) fun v14_5 =>
 retA [v14_5] R
theorem c_layout_within {w0 : World} {h : Hp} {R : Kont} {a0 a1 a2 : Value} (hj : ∀ v, v ∈ [a0, a1, a2] → v ≠ junk) (hv : s_layout_within prog w0 a0 a1 a2 R h) : ACalls prog w0 n_layout_within [a0, a1, a2] h R := by
  have e : vcFn ⟨prog, w0, 15, ks_layout_within⟩ (drw w0 15) fn_layout_within [a0, a1, a2] R h = s_layout_within prog w0 a0 a1 a2 R h := by
    kernel_rfl
  exact acalls_of_eq (fn := fn_layout_within) (ks := ks_layout_within) (n := 15) (by kernel_rfl) (by kernel_rfl) (draw_ok (by kernel_rfl)) (by simp) hj e hv

end
end Go.Proofs.Ytihebhdgjnibfaa.Ah
