/- PRINTED by wip/tools/shallow.py: functions of the program as readable words, and that each is what its text says. -/
import Derived.Test.YtfhamcobfpmgbaaGn
set_option linter.unusedVariables false
set_option linter.unusedSimpArgs false
namespace Go.Proofs.Ytfhamcobfpmgbaa.Ah
open Go Go.Proofs.Try
noncomputable section

abbrev fn_pack_Chunk : Func := f9
def ks_pack_Chunk : List (Nat × List Nat × List Nat) := []
def s_pack_Chunk (P : Program) (w0 : World) (a0 a1 : Value) (R : Kont) : Hp → Prop :=
 boxA true 2 a1 fun v3_1 =>
 addA v3_1 0 fun v8_2 =>
 loadA w0 v8_2 fun v9_3 =>
 pureA (binA .lss v9_3 (.int .i64 8)) fun v10_4 =>
 condA v10_4 (
 retA [(.slice none 0 0), (.int .i64 130)] R) (
 addA v3_1 0 fun v13_5 =>
 loadA w0 v13_5 fun v14_6 =>
 pureA (binA .sub v14_6 (.int .i64 8)) fun v15_7 =>
 pureA (lenSl a0) fun v17_8 =>
 callA P w0 n_pack_slotAt [a0, v15_7, v17_8] fun v18_9 =>
 pureA (extA v18_9 0) fun v19_10 =>
 pureA (extA v18_9 1) fun v20_11 =>
 newA [(.int .i64 0), (.int .i64 0)] 2 fun v6_12 =>
 storeNA w0 v6_12 v19_10 2 fun _ =>
 pureA (unA .not v20_11) fun v22_13 =>
 guardA v22_13 false (loadNA w0 v6_12 2) fun v24_14 =>
 guardA v22_13 false (loadNA w0 v3_1 2) fun v25_15 =>
 guardA v22_13 false (eqStA P .neq 24 v24_14 v25_15) fun v26_16 =>
 pickA v22_13 (.bool true) v26_16 fun v27_17 =>
 condA v27_17 (
 retA [(.slice none 0 0), (.int .i64 130)] R) (
 addA v3_1 0 fun v29_18 =>
 loadA w0 v29_18 fun v30_19 =>
 addA v3_1 0 fun v31_20 =>
 loadA w0 v31_20 fun v32_21 =>
 addA v3_1 1 fun v33_22 =>
 loadA w0 v33_22 fun v34_23 =>
 pureA (binA .add v32_21 v34_23) fun v35_24 =>
 slSlA 1 a0 (some v30_19) (some v35_24) none fun v36_25 =>
 callA P w0 n_slices_Clone_lbyte_byte [v36_25] fun v37_26 =>
 retA [v37_26, (.int .i64 0)] R))
theorem c_pack_Chunk {w0 : World} {h : Hp} {R : Kont} {a0 a1 : Value} (hj : ∀ v, v ∈ [a0, a1] → v ≠ junk) (hv : s_pack_Chunk prog w0 a0 a1 R h) : ACalls prog w0 n_pack_Chunk [a0, a1] h R := by
  have e : vcFn ⟨prog, w0, 38, ks_pack_Chunk⟩ (drw w0 38) fn_pack_Chunk [a0, a1] R h = s_pack_Chunk prog w0 a0 a1 R h := by
    kernel_rfl
  exact acalls_of_eq (fn := fn_pack_Chunk) (ks := ks_pack_Chunk) (n := 38) (by kernel_rfl) (by kernel_rfl) (draw_ok (by kernel_rfl)) (by simp) hj e hv

abbrev fn_pack_Scan : Func := f13
def ks_pack_Scan : List (Nat × List Nat × List Nat) := [(9, [2, 6, 7, 11, 12], [2, 6, 7, 11, 12])]
def pack_Scan_B1 (P : Program) (w0 : World) (R : Value → Value → Value → Value → Value → Hp → Prop) (k0 : Value → Value → Value → Value → Value → Hp → Prop) (x2 x6 x7 x11 x12 : Value) : Hp → Prop :=
 callA P w0 n_pack_slotAt [x2, x12, x11] fun v48_24 =>
 pureA (extA v48_24 0) fun v49_25 =>
 pureA (extA v48_24 1) fun v50_26 =>
 newA [(.int .i64 0), (.int .i64 0)] 2 fun v13_27 =>
 storeNA w0 v13_27 v49_25 2 fun _ =>
 pureA (unA .not v50_26) fun v52_28 =>
 condA v52_28 (
 k0 x2 x6 x7 x11 x12) (
 loadNA w0 v13_27 2 fun v54_29 =>
 bslA [(0, 2, true, v54_29)] (zerosL [(.int .i64 0), (.int .i64 0)] 1) 1 2 fun v55_30 =>
 appA w0 2 16 x7 v55_30 fun v56_31 =>
 addA v13_27 0 fun v57_32 =>
 loadA w0 v57_32 fun v58_33 =>
 addA v13_27 1 fun v59_34 =>
 loadA w0 v59_34 fun v60_35 =>
 pureA (binA .add v58_33 v60_35) fun v61_36 =>
 R x2 x6 v56_31 x11 v61_36)
def pack_Scan_L1 (P : Program) (w0 : World) (k0 : Value → Value → Value → Value → Value → Hp → Prop) : Nat → Value → Value → Value → Value → Value → Hp → Prop
  | 0, _, _, _, _, _ => fun _ => False
  | m + 1, x2, x6, x7, x11, x12 => pack_Scan_B1 P w0 (pack_Scan_L1 P w0 k0 m) k0 x2 x6 x7 x11 x12
def pack_Scan_E1 (P : Program) (w0 : World) (k0 : Value → Value → Value → Value → Value → Hp → Prop) (x2 x6 x7 x11 x12 : Value) : Hp → Prop := fun h => ∃ m, pack_Scan_L1 P w0 k0 m x2 x6 x7 x11 x12 h
def s_pack_Scan (P : Program) (w0 : World) (a0 a1 a2 : Value) (R : Kont) : Hp → Prop :=
 callA P w0 n_pack_fits [a0, a1] fun v17_1 =>
 pureA (unA .not v17_1) fun v18_2 =>
 guardA v18_2 false (fun K => K a2) fun v20_3 =>
 guardA v18_2 false (pureA (lenSl v20_3)) fun v21_4 =>
 guardA v18_2 false (fun K => K a0) fun v22_5 =>
 guardA v18_2 false (fun K => K a1) fun v23_6 =>
 guardA v18_2 false (pureA (binA .mul v22_5 v23_6)) fun v24_7 =>
 guardA v18_2 false (pureA (binA .neq v21_4 v24_7)) fun v25_8 =>
 pickA v18_2 (.bool true) v25_8 fun v26_9 =>
 condA v26_9 (
 retA [(.int .u32 0), (.slice none 0 0), (.bool false), (.int .i64 1)] R) (
 slSlA 1 a2 (some (.int .i64 4)) (some (.int .i64 8)) none fun v28_10 =>
 b2sA w0 v28_10 fun v29_11 =>
 callA P w0 n_codec_NewReader [v29_11] fun v30_12 =>
 callA P w0 n_codec_Reader_U32 [v30_12] fun v32_13 =>
 pureQ (fun K => K a2) fun v33_14 =>
 readQ (slSlA 1 v33_14 none (some (.int .i64 16)) none) fun v34_15 =>
 readQ (b2sA w0 v34_15) fun v35_16 =>
 pureQ (fun K => K v32_13) fun v36_17 =>
 pureQ (fun K => K a1) fun v37_18 =>
 pureQ (pureA (convA .u32 v37_18)) fun v38_19 =>
 allA [
 (callA P w0 n_pack_marked [(.string ⟨#[68, 80, 65, 75]⟩), v36_17, v38_19] fun v39_20 =>
 stillA [(sameQ (b2sA w0 v34_15) v35_16), (sameQ (slSlA 1 v33_14 none (some (.int .i64 16)) none) v34_15)] (
 pureQ (pureA (binA .neq v35_16 v39_20)) fun v40_21 =>
 endA (
 condA v40_21 (
 retA [(.int .u32 0), (.slice none 0 0), (.bool false), (.int .i64 130)] R) (
 pureA (lenSl a2) fun v42_22 =>
 pureA (binA .sub v42_22 (.int .i64 16)) fun v43_23 =>
 pack_Scan_E1 P w0 (fun y2_37 y6_38 y7_39 y11_40 y12_41 =>
 pureQ (fun K => K y6_38) fun v62_42 =>
 pureQ (fun K => K y7_39) fun v63_43 =>
 pureQ (fun K => K y2_37) fun v64_44 =>
 pureQ (fun K => K y11_40) fun v65_45 =>
 readQ (slSlA 1 v64_44 (some v65_45) none none) fun v66_46 =>
 readQ (b2sA w0 v66_46) fun v67_47 =>
 pureQ (fun K => K y7_39) fun v68_48 =>
 pureQ (pureA (lenSl v68_48)) fun v69_49 =>
 pureQ (pureA (convA .u32 v69_49)) fun v70_50 =>
 pureQ (fun K => K y12_41) fun v71_51 =>
 pureQ (pureA (convA .u32 v71_51)) fun v72_52 =>
 allA [
 (callA P w0 n_pack_marked [(.string ⟨#[68, 70, 79, 84]⟩), v70_50, v72_52] fun v73_53 =>
 stillA [(sameQ (b2sA w0 v66_46) v67_47), (sameQ (slSlA 1 v64_44 (some v65_45) none none) v66_46)] (
 pureQ (pureA (binA .eql v67_47 v73_53)) fun v74_54 =>
 pureQ (fun K => K v62_42) fun v6_55 =>
 pureQ (fun K => K v63_43) fun v7_56 =>
 pureQ (fun K => K v74_54) fun v8_57 =>
 pureQ (fun K => K (.int .i64 0)) fun v9_58 =>
 endA (
 retA [v6_55, v7_56, v8_57, v9_58] R)))]) a2 v32_13 (.slice none 0 0) v43_23 (.int .i64 16)))))])
theorem pack_Scan_L1_eq (w0 : World) (k0 : Value → Value → Value → Value → Value → Hp → Prop) : ∀ (m : Nat) (x2 x6 x7 x11 x12 : Value) (h : Hp), loopA (stepL ⟨prog, w0, 75, ks_pack_Scan⟩ (drw w0 75) (loopAt fn_pack_Scan 0)) m (mkFr [(2, x2), (6, x6), (7, x7), (11, x11), (12, x12)]) [fun t => k0 (t 2) (t 6) (t 7) (t 11) (t 12)] h = pack_Scan_L1 prog w0 k0 m x2 x6 x7 x11 x12 h := by
  intro m
  induction m with
  | zero => intros; kernel_rfl
  | succ m ih =>
    intro x2 x6 x7 x11 x12 h
    have e : pack_Scan_L1 prog w0 k0 m = fun x2 x6 x7 x11 x12 h => loopA (stepL ⟨prog, w0, 75, ks_pack_Scan⟩ (drw w0 75) (loopAt fn_pack_Scan 0)) m (mkFr [(2, x2), (6, x6), (7, x7), (11, x11), (12, x12)]) [fun t => k0 (t 2) (t 6) (t 7) (t 11) (t 12)] h := by funext x2 x6 x7 x11 x12 h; exact (ih x2 x6 x7 x11 x12 h).symm
    show _ = pack_Scan_B1 prog w0 (pack_Scan_L1 prog w0 k0 m) k0 x2 x6 x7 x11 x12 h
    rw [e]
    kernel_rfl
theorem pack_Scan_E1_eq (w0 : World) : pack_Scan_E1 prog w0 = fun k0 x2 x6 x7 x11 x12 h => ∃ m, loopA (stepL ⟨prog, w0, 75, ks_pack_Scan⟩ (drw w0 75) (loopAt fn_pack_Scan 0)) m (mkFr [(2, x2), (6, x6), (7, x7), (11, x11), (12, x12)]) [fun t => k0 (t 2) (t 6) (t 7) (t 11) (t 12)] h := by
  funext k0 x2 x6 x7 x11 x12 h
  exact congrArg Exists (funext fun m => (pack_Scan_L1_eq w0 k0 m x2 x6 x7 x11 x12 h).symm)
theorem c_pack_Scan {w0 : World} {h : Hp} {R : Kont} {a0 a1 a2 : Value} (hj : ∀ v, v ∈ [a0, a1, a2] → v ≠ junk) (hv : s_pack_Scan prog w0 a0 a1 a2 R h) : ACalls prog w0 n_pack_Scan [a0, a1, a2] h R := by
  have e : vcFn ⟨prog, w0, 75, ks_pack_Scan⟩ (drw w0 75) fn_pack_Scan [a0, a1, a2] R h = s_pack_Scan prog w0 a0 a1 a2 R h := by
    unfold s_pack_Scan
    rw [pack_Scan_E1_eq w0]
    kernel_rfl
  exact acalls_of_eq (fn := fn_pack_Scan) (ks := ks_pack_Scan) (n := 75) (by kernel_rfl) (by kernel_rfl) (draw_ok (by kernel_rfl)) (by simp) hj e hv

abbrev fn_pack_New : Func := f16
def ks_pack_New : List (Nat × List Nat × List Nat) := []
def s_pack_New (P : Program) (w0 : World) (a0 a1 a2 : Value) (R : Kont) : Hp → Prop :=
 callA P w0 n_pack_fits [a0, a1] fun v11_1 =>
 pureA (unA .not v11_1) fun v12_2 =>
 condA v12_2 (
 retA [(.pointer none), (.int .i64 1)] R) (
 pureA (binA .mul a0 a1) fun v18_3 =>
 mkA 1 1 [(.int .u8 0)] v18_3 v18_3 fun v19_4 =>
 buildA [(0, 1, false, a0), (1, 1, false, a1), (2, 1, false, a2), (3, 1, false, v19_4)] [(.int .i64 0), (.int .i64 0), (.int .u32 0), (.slice none 0 0), (.slice none 0 0), (.bool false), (.slice none 0 0), (.int .i64 0), (.bool false)] fun v20_5 =>
 boxA true 9 v20_5 fun v21_6 =>
 pureQ (fun K => K v21_6) fun v22_7 =>
 pureQ (nilA v22_7) fun v23_8 =>
 pureQ (addA v23_8 3) fun v24_9 =>
 readQ (loadA w0 v24_9) fun v25_10 =>
 pureQ (fun K => K a2) fun v26_11 =>
 pureQ (fun K => K a1) fun v27_12 =>
 pureQ (pureA (convA .u32 v27_12)) fun v28_13 =>
 allA [
 (callA P w0 n_pack_marked [(.string ⟨#[68, 80, 65, 75]⟩), v26_11, v28_13] fun v29_14 =>
 stillA [(sameQ (loadA w0 v24_9) v25_10)] (
 allA [
 (copyA w0 1 v25_10 v29_14 fun v30_15 =>
 stillA [] (
 endA (
 retA [v21_6, (.int .i64 0)] R)))]))])
theorem c_pack_New {w0 : World} {h : Hp} {R : Kont} {a0 a1 a2 : Value} (hj : ∀ v, v ∈ [a0, a1, a2] → v ≠ junk) (hv : s_pack_New prog w0 a0 a1 a2 R h) : ACalls prog w0 n_pack_New [a0, a1, a2] h R := by
  have e : vcFn ⟨prog, w0, 32, ks_pack_New⟩ (drw w0 32) fn_pack_New [a0, a1, a2] R h = s_pack_New prog w0 a0 a1 a2 R h := by
    kernel_rfl
  exact acalls_of_eq (fn := fn_pack_New) (ks := ks_pack_New) (n := 32) (by kernel_rfl) (by kernel_rfl) (draw_ok (by kernel_rfl)) (by simp) hj e hv

abbrev fn_pack_Pack_Fork : Func := f18
def ks_pack_Pack_Fork : List (Nat × List Nat × List Nat) := []
def s_pack_Pack_Fork (P : Program) (w0 : World) (a0 : Value) (R : Kont) : Hp → Prop :=
 callA P w0 n_pack_Pack_made [a0] fun v5_1 =>
 pureA (unA .not v5_1) fun v6_2 =>
 condA v6_2 (
 retA [(.pointer none)] R) (
 nilA a0 fun v8_3 =>
 loadNA w0 v8_3 9 fun v9_4 =>
 newA [(.int .i64 0), (.int .i64 0), (.int .u32 0), (.slice none 0 0), (.slice none 0 0), (.bool false), (.slice none 0 0), (.int .i64 0), (.bool false)] 9 fun v3_5 =>
 storeNA w0 v3_5 v9_4 9 fun _ =>
 nilA a0 fun v11_6 =>
 addA v11_6 3 fun v12_7 =>
 loadA w0 v12_7 fun v13_8 =>
 callA P w0 n_slices_Clone_lbyte_byte [v13_8] fun v14_9 =>
 addA v3_5 3 fun v15_10 =>
 storeA w0 v15_10 v14_9 fun _ =>
 nilA a0 fun v17_11 =>
 addA v17_11 4 fun v18_12 =>
 loadA w0 v18_12 fun v19_13 =>
 callA P w0 n_slices_Clone_lapi_Slot_api_Slot [v19_13] fun v20_14 =>
 addA v3_5 4 fun v21_15 =>
 storeA w0 v21_15 v20_14 fun _ =>
 nilA a0 fun v23_16 =>
 addA v23_16 6 fun v24_17 =>
 loadA w0 v24_17 fun v25_18 =>
 callA P w0 n_slices_Clone_lbyte_byte [v25_18] fun v26_19 =>
 addA v3_5 6 fun v27_20 =>
 storeA w0 v27_20 v26_19 fun _ =>
 retA [v3_5] R)
theorem c_pack_Pack_Fork {w0 : World} {h : Hp} {R : Kont} {a0 : Value} (hj : ∀ v, v ∈ [a0] → v ≠ junk) (hv : s_pack_Pack_Fork prog w0 a0 R h) : ACalls prog w0 n_pack_Pack_Fork [a0] h R := by
  have e : vcFn ⟨prog, w0, 28, ks_pack_Pack_Fork⟩ (drw w0 28) fn_pack_Pack_Fork [a0] R h = s_pack_Pack_Fork prog w0 a0 R h := by
    kernel_rfl
  exact acalls_of_eq (fn := fn_pack_Pack_Fork) (ks := ks_pack_Pack_Fork) (n := 28) (by kernel_rfl) (by kernel_rfl) (draw_ok (by kernel_rfl)) (by simp) hj e hv

abbrev fn_pack_Pack_Append : Func := f19
def ks_pack_Pack_Append : List (Nat × List Nat × List Nat) := []
def s_pack_Pack_Append (P : Program) (w0 : World) (a0 a1 : Value) (R : Kont) : Hp → Prop :=
 newA [(.int .i64 0), (.int .i64 0)] 2 fun v4_1 =>
 callA P w0 n_pack_Pack_made [a0] fun v14_2 =>
 pureA (unA .not v14_2) fun v15_3 =>
 guardA v15_3 false (fun K => K a0) fun v17_4 =>
 guardA v15_3 false (nilA v17_4) fun v18_5 =>
 guardA v15_3 false (addA v18_5 5) fun v19_6 =>
 guardA v15_3 false (loadA w0 v19_6) fun v20_7 =>
 pickA v15_3 (.bool true) v20_7 fun v21_8 =>
 condA v21_8 (
 buildA [] [(.int .i64 0), (.int .i64 0)] fun v22_9 =>
 storeNA w0 v4_1 v22_9 2 fun _ =>
 loadNA w0 v4_1 2 fun v4_10 =>
 retA [v4_10, (.int .i64 6)] R) (
 pureA (lenSl a1) fun v25_11 =>
 pureA (binA .eql v25_11 (.int .i64 0)) fun v26_12 =>
 condA v26_12 (
 buildA [] [(.int .i64 0), (.int .i64 0)] fun v27_13 =>
 storeNA w0 v4_1 v27_13 2 fun _ =>
 loadNA w0 v4_1 2 fun v4_14 =>
 retA [v4_14, (.int .i64 1)] R) (
 pureA (lenSl a1) fun v30_15 =>
 callA P w0 n_pack_Pack_Left [a0] fun v32_16 =>
 pureA (binA .gtr v30_15 v32_16) fun v33_17 =>
 condA v33_17 (
 buildA [] [(.int .i64 0), (.int .i64 0)] fun v34_18 =>
 storeNA w0 v4_1 v34_18 2 fun _ =>
 loadNA w0 v4_1 2 fun v4_19 =>
 retA [v4_19, (.int .i64 2)] R) (
 callA P w0 n_pack_Pack_end [a0] fun v36_20 =>
 pureA (lenSl a1) fun v38_21 =>
 callA P w0 n_pack_length [v38_21] fun v39_22 =>
 nilA a0 fun v41_23 =>
 addA v41_23 3 fun v42_24 =>
 loadA w0 v42_24 fun v43_25 =>
 pureA (lenSl v43_25) fun v44_26 =>
 callA P w0 n_codec_NewWriter [v44_26] fun v45_27 =>
 callA P w0 n_codec_Writer_Raw [v45_27, v39_22] fun v48_28 =>
 b2sA w0 a1 fun v52_29 =>
 pureA (binA .add v39_22 v52_29) fun v53_30 =>
 callA P w0 n_codec_Crc [v53_30] fun v54_31 =>
 callA P w0 n_codec_Writer_U32 [v45_27, v54_31] fun v55_32 =>
 b2sA w0 a1 fun v58_33 =>
 callA P w0 n_codec_Writer_Raw [v45_27, v58_33] fun v59_34 =>
 callA P w0 n_codec_Writer_Done [v45_27] fun v62_35 =>
 pureA (extA v62_35 0) fun v63_36 =>
 pureA (extA v62_35 1) fun v64_37 =>
 nilA a0 fun v66_38 =>
 addA v66_38 3 fun v67_39 =>
 loadA w0 v67_39 fun v68_40 =>
 slSlA 1 v68_40 (some v36_20) none none fun v70_41 =>
 copyA w0 1 v70_41 v63_36 fun v72_42 =>
 pureA (binA .add v36_20 (.int .i64 8)) fun v74_43 =>
 pureA (lenSl a1) fun v76_44 =>
 buildA [(0, 1, false, v74_43), (1, 1, false, v76_44)] [(.int .i64 0), (.int .i64 0)] fun v77_45 =>
 newA [(.int .i64 0), (.int .i64 0)] 2 fun v11_46 =>
 storeNA w0 v11_46 v77_45 2 fun _ =>
 pureQ (fun K => K a0) fun v78_47 =>
 pureQ (fun K => K a0) fun v79_48 =>
 pureQ (nilA v79_48) fun v80_49 =>
 pureQ (addA v80_49 4) fun v81_50 =>
 readQ (loadA w0 v81_50) fun v82_51 =>
 readQ (loadNA w0 v11_46 2) fun v83_52 =>
 allA [
 (bslA [(0, 2, true, v83_52)] (zerosL [(.int .i64 0), (.int .i64 0)] 1) 1 2 fun v84_53 =>
 stillA [(sameQ (loadA w0 v81_50) v82_51)] (
 allA [
 (appA w0 2 16 v82_51 v84_53 fun v85_54 =>
 stillA [] (
 pureQ (nilA v78_47) fun v86_55 =>
 pureQ (addA v86_55 4) fun v87_56 =>
 allA [
 (storeA w0 v87_56 v85_54 fun _ =>
 stillA [] (
 endA (
 loadNA w0 v11_46 2 fun v88_57 =>
 storeNA w0 v4_1 v88_57 2 fun _ =>
 loadNA w0 v4_1 2 fun v4_58 =>
 retA [v4_58, (.int .i64 0)] R)))]))]))])))
theorem c_pack_Pack_Append {w0 : World} {h : Hp} {R : Kont} {a0 a1 : Value} (hj : ∀ v, v ∈ [a0, a1] → v ≠ junk) (hv : s_pack_Pack_Append prog w0 a0 a1 R h) : ACalls prog w0 n_pack_Pack_Append [a0, a1] h R := by
  have e : vcFn ⟨prog, w0, 89, ks_pack_Pack_Append⟩ (drw w0 89) fn_pack_Pack_Append [a0, a1] R h = s_pack_Pack_Append prog w0 a0 a1 R h := by
    kernel_rfl
  exact acalls_of_eq (fn := fn_pack_Pack_Append) (ks := ks_pack_Pack_Append) (n := 89) (by kernel_rfl) (by kernel_rfl) (draw_ok (by kernel_rfl)) (by simp) hj e hv

abbrev fn_pack_Pack_Take : Func := f20
def ks_pack_Pack_Take : List (Nat × List Nat × List Nat) := [(5, [0, 3, 13, 14], [0, 3])]
def pack_Pack_Take_B1 (P : Program) (w0 : World) (R : Value → Value → Value → Value → Hp → Prop) (k0 : Value → Value → Hp → Prop) (x0 x3 x13 x14 : Value) : Hp → Prop :=
 pureA (binA .lss x14 x13) fun v15_6 =>
 condA v15_6 (
 pureQ (fun K => K x14) fun v17_7 =>
 pureQ (fun K => K x0) fun v18_8 =>
 pureQ (nilA v18_8) fun v19_9 =>
 pureQ (addA v19_9 0) fun v20_10 =>
 readQ (loadA w0 v20_10) fun v21_11 =>
 pureQ (pureA (binA .mul v17_7 v21_11)) fun v22_12 =>
 pureQ (fun K => K x14) fun v23_13 =>
 pureQ (pureA (binA .add v23_13 (.int .i64 1))) fun v24_14 =>
 pureQ (fun K => K x0) fun v25_15 =>
 pureQ (nilA v25_15) fun v26_16 =>
 pureQ (addA v26_16 0) fun v27_17 =>
 readQ (loadA w0 v27_17) fun v28_18 =>
 pureQ (pureA (binA .mul v24_14 v28_18)) fun v29_19 =>
 pureQ (fun K => K v22_12) fun v5_20 =>
 pureQ (fun K => K v29_19) fun v6_21 =>
 endA (
 pureQ (fun K => K x0) fun v30_22 =>
 pureQ (nilA v30_22) fun v31_23 =>
 pureQ (addA v31_23 6) fun v32_24 =>
 readQ (loadA w0 v32_24) fun v33_25 =>
 pureQ (pureA (binSlA .eql v33_25 (.slice none 0 0))) fun v34_26 =>
 pureQ (fun K => K v34_26) fun v35_27 =>
 pureQ (guardA v35_27 false (fun K => K x0)) fun v36_28 =>
 pureQ (guardA v35_27 false (nilA v36_28)) fun v37_29 =>
 pureQ (guardA v35_27 false (addA v37_29 3)) fun v38_30 =>
 readQ (guardA v35_27 false (loadA w0 v38_30)) fun v39_31 =>
 pureQ (guardA v35_27 false (fun K => K v5_20)) fun v40_32 =>
 pureQ (guardA v35_27 false (fun K => K v6_21)) fun v41_33 =>
 readQ (guardA v35_27 false (slSlA 1 v39_31 (some v40_32) (some v41_33) none)) fun v42_34 =>
 pureQ (guardA v35_27 false (fun K => K x0)) fun v43_35 =>
 pureQ (guardA v35_27 false (nilA v43_35)) fun v44_36 =>
 pureQ (guardA v35_27 false (addA v44_36 6)) fun v45_37 =>
 readQ (guardA v35_27 false (loadA w0 v45_37)) fun v46_38 =>
 pureQ (guardA v35_27 false (fun K => K v5_20)) fun v47_39 =>
 pureQ (guardA v35_27 false (fun K => K v6_21)) fun v48_40 =>
 readQ (guardA v35_27 false (slSlA 1 v46_38 (some v47_39) (some v48_40) none)) fun v49_41 =>
 allA [
 (guardA v35_27 false (callA P w0 n_slices_Equal_lbyte_byte [v42_34, v49_41]) fun v50_42 =>
 stillA [] (
 pureQ (guardA v35_27 false (pureA (unA .not v50_42))) fun v51_43 =>
 pureQ (pickA v35_27 (.bool true) v51_43) fun v52_44 =>
 endA (
 condA v52_44 (
 nilA x0 fun v56_45 =>
 addA v56_45 3 fun v57_46 =>
 loadA w0 v57_46 fun v58_47 =>
 slSlA 1 v58_47 (some v5_20) (some v6_21) none fun v61_48 =>
 callA P w0 n_slices_Clone_lbyte_byte [v61_48] fun v62_49 =>
 buildA [(0, 1, false, x14), (1, 1, false, v62_49)] [(.int .i64 0), (.slice none 0 0)] fun v63_50 =>
 bslA [(0, 2, true, v63_50)] (zerosL [(.int .i64 0), (.slice none 0 0)] 1) 1 2 fun v64_51 =>
 appA w0 2 32 x3 v64_51 fun v65_52 =>
 pureA (binA .add x14 (.int .i64 1)) fun v66_53 =>
 R x0 v65_52 x13 v66_53) (
 pureA (binA .add x14 (.int .i64 1)) fun v66_54 =>
 R x0 x3 x13 v66_54))))])) (
 k0 x0 x3)
def pack_Pack_Take_L1 (P : Program) (w0 : World) (k0 : Value → Value → Hp → Prop) : Nat → Value → Value → Value → Value → Hp → Prop
  | 0, _, _, _, _ => fun _ => False
  | m + 1, x0, x3, x13, x14 => pack_Pack_Take_B1 P w0 (pack_Pack_Take_L1 P w0 k0 m) k0 x0 x3 x13 x14
def pack_Pack_Take_E1 (P : Program) (w0 : World) (k0 : Value → Value → Hp → Prop) (x0 x3 x13 x14 : Value) : Hp → Prop := fun h => ∃ m, pack_Pack_Take_L1 P w0 k0 m x0 x3 x13 x14 h
def s_pack_Pack_Take (P : Program) (w0 : World) (a0 : Value) (R : Kont) : Hp → Prop :=
 callA P w0 n_pack_Pack_made [a0] fun v8_1 =>
 pureA (unA .not v8_1) fun v9_2 =>
 condA v9_2 (
 retA [(.slice none 0 0)] R) (
 nilA a0 fun v11_3 =>
 addA v11_3 1 fun v12_4 =>
 loadA w0 v12_4 fun v13_5 =>
 pack_Pack_Take_E1 P w0 (fun y0_55 y3_56 =>
 nilA y0_55 fun v69_57 =>
 addA v69_57 3 fun v70_58 =>
 loadA w0 v70_58 fun v71_59 =>
 callA P w0 n_slices_Clone_lbyte_byte [v71_59] fun v72_60 =>
 nilA y0_55 fun v73_61 =>
 addA v73_61 6 fun v74_62 =>
 storeA w0 v74_62 v72_60 fun _ =>
 pureQ (fun K => K y0_55) fun v75_63 =>
 pureQ (fun K => K y0_55) fun v76_64 =>
 pureQ (fun K => K y0_55) fun v77_65 =>
 pureQ (nilA v77_65) fun v78_66 =>
 pureQ (addA v78_66 4) fun v79_67 =>
 readQ (loadA w0 v79_67) fun v80_68 =>
 pureQ (pureA (lenSl v80_68)) fun v81_69 =>
 pureQ (fun K => K y0_55) fun v82_70 =>
 pureQ (nilA v82_70) fun v83_71 =>
 pureQ (addA v83_71 5) fun v84_72 =>
 readQ (loadA w0 v84_72) fun v85_73 =>
 pureQ (nilA v75_63) fun v86_74 =>
 pureQ (addA v86_74 7) fun v87_75 =>
 allA [
 (storeA w0 v87_75 v81_69 fun _ =>
 stillA [] (
 pureQ (nilA v76_64) fun v88_76 =>
 pureQ (addA v88_76 8) fun v89_77 =>
 allA [
 (storeA w0 v89_77 v85_73 fun _ =>
 stillA [] (
 endA (
 retA [y3_56] R)))]))]) a0 (.slice none 0 0) v13_5 (.int .i64 0))
theorem pack_Pack_Take_L1_eq (w0 : World) (k0 : Value → Value → Hp → Prop) : ∀ (m : Nat) (x0 x3 x13 x14 : Value) (h : Hp), loopA (stepL ⟨prog, w0, 91, ks_pack_Pack_Take⟩ (drw w0 91) (loopAt fn_pack_Pack_Take 0)) m (mkFr [(0, x0), (3, x3), (13, x13), (14, x14)]) [fun t => k0 (t 0) (t 3)] h = pack_Pack_Take_L1 prog w0 k0 m x0 x3 x13 x14 h := by
  intro m
  induction m with
  | zero => intros; kernel_rfl
  | succ m ih =>
    intro x0 x3 x13 x14 h
    have e : pack_Pack_Take_L1 prog w0 k0 m = fun x0 x3 x13 x14 h => loopA (stepL ⟨prog, w0, 91, ks_pack_Pack_Take⟩ (drw w0 91) (loopAt fn_pack_Pack_Take 0)) m (mkFr [(0, x0), (3, x3), (13, x13), (14, x14)]) [fun t => k0 (t 0) (t 3)] h := by funext x0 x3 x13 x14 h; exact (ih x0 x3 x13 x14 h).symm
    show _ = pack_Pack_Take_B1 prog w0 (pack_Pack_Take_L1 prog w0 k0 m) k0 x0 x3 x13 x14 h
    rw [e]
    kernel_rfl
theorem pack_Pack_Take_E1_eq (w0 : World) : pack_Pack_Take_E1 prog w0 = fun k0 x0 x3 x13 x14 h => ∃ m, loopA (stepL ⟨prog, w0, 91, ks_pack_Pack_Take⟩ (drw w0 91) (loopAt fn_pack_Pack_Take 0)) m (mkFr [(0, x0), (3, x3), (13, x13), (14, x14)]) [fun t => k0 (t 0) (t 3)] h := by
  funext k0 x0 x3 x13 x14 h
  exact congrArg Exists (funext fun m => (pack_Pack_Take_L1_eq w0 k0 m x0 x3 x13 x14 h).symm)
theorem c_pack_Pack_Take {w0 : World} {h : Hp} {R : Kont} {a0 : Value} (hj : ∀ v, v ∈ [a0] → v ≠ junk) (hv : s_pack_Pack_Take prog w0 a0 R h) : ACalls prog w0 n_pack_Pack_Take [a0] h R := by
  have e : vcFn ⟨prog, w0, 91, ks_pack_Pack_Take⟩ (drw w0 91) fn_pack_Pack_Take [a0] R h = s_pack_Pack_Take prog w0 a0 R h := by
    unfold s_pack_Pack_Take
    rw [pack_Pack_Take_E1_eq w0]
    kernel_rfl
  exact acalls_of_eq (fn := fn_pack_Pack_Take) (ks := ks_pack_Pack_Take) (n := 91) (by kernel_rfl) (by kernel_rfl) (draw_ok (by kernel_rfl)) (by simp) hj e hv

abbrev fn_pack_Pack_Seal : Func := f21
def ks_pack_Pack_Seal : List (Nat × List Nat × List Nat) := []
def s_pack_Pack_Seal (P : Program) (w0 : World) (a0 : Value) (R : Kont) : Hp → Prop :=
 callA P w0 n_pack_Pack_made [a0] fun v4_1 =>
 pureA (unA .not v4_1) fun v5_2 =>
 guardA v5_2 false (fun K => K a0) fun v7_3 =>
 guardA v5_2 false (nilA v7_3) fun v8_4 =>
 guardA v5_2 false (addA v8_4 5) fun v9_5 =>
 guardA v5_2 false (loadA w0 v9_5) fun v10_6 =>
 pickA v5_2 (.bool true) v10_6 fun v11_7 =>
 condA v11_7 (
 retA [(.int .i64 6)] R) (
 nilA a0 fun v13_8 =>
 addA v13_8 5 fun v14_9 =>
 storeA w0 v14_9 (.bool true) fun _ =>
 pureQ (fun K => K a0) fun v15_10 =>
 pureQ (nilA v15_10) fun v16_11 =>
 pureQ (addA v16_11 3) fun v17_12 =>
 readQ (loadA w0 v17_12) fun v18_13 =>
 pureQ (fun K => K a0) fun v19_14 =>
 pureQ (nilA v19_14) fun v20_15 =>
 pureQ (addA v20_15 3) fun v21_16 =>
 readQ (loadA w0 v21_16) fun v22_17 =>
 pureQ (pureA (lenSl v22_17)) fun v23_18 =>
 pureQ (pureA (binA .sub v23_18 (.int .i64 16))) fun v24_19 =>
 readQ (slSlA 1 v18_13 (some v24_19) none none) fun v25_20 =>
 pureQ (fun K => K a0) fun v26_21 =>
 pureQ (nilA v26_21) fun v27_22 =>
 pureQ (addA v27_22 4) fun v28_23 =>
 readQ (loadA w0 v28_23) fun v29_24 =>
 pureQ (pureA (lenSl v29_24)) fun v30_25 =>
 pureQ (pureA (convA .u32 v30_25)) fun v31_26 =>
 pureQ (fun K => K a0) fun v32_27 =>
 allA [
 (callA P w0 n_pack_Pack_end [v32_27] fun v33_28 =>
 stillA [(sameQ (loadA w0 v28_23) v29_24), (sameQ (slSlA 1 v18_13 (some v24_19) none none) v25_20), (sameQ (loadA w0 v21_16) v22_17), (sameQ (loadA w0 v17_12) v18_13)] (
 pureQ (pureA (convA .u32 v33_28)) fun v34_29 =>
 allA [
 (callA P w0 n_pack_marked [(.string ⟨#[68, 70, 79, 84]⟩), v31_26, v34_29] fun v35_30 =>
 stillA [(sameQ (slSlA 1 v18_13 (some v24_19) none none) v25_20), (sameQ (loadA w0 v21_16) v22_17), (sameQ (loadA w0 v17_12) v18_13)] (
 allA [
 (copyA w0 1 v25_20 v35_30 fun v36_31 =>
 stillA [] (
 endA (
 retA [(.int .i64 0)] R)))]))]))])
theorem c_pack_Pack_Seal {w0 : World} {h : Hp} {R : Kont} {a0 : Value} (hj : ∀ v, v ∈ [a0] → v ≠ junk) (hv : s_pack_Pack_Seal prog w0 a0 R h) : ACalls prog w0 n_pack_Pack_Seal [a0] h R := by
  have e : vcFn ⟨prog, w0, 37, ks_pack_Pack_Seal⟩ (drw w0 37) fn_pack_Pack_Seal [a0] R h = s_pack_Pack_Seal prog w0 a0 R h := by
    kernel_rfl
  exact acalls_of_eq (fn := fn_pack_Pack_Seal) (ks := ks_pack_Pack_Seal) (n := 37) (by kernel_rfl) (by kernel_rfl) (draw_ok (by kernel_rfl)) (by simp) hj e hv

abbrev fn_pack_Pack_Image : Func := f23
def ks_pack_Pack_Image : List (Nat × List Nat × List Nat) := []
def s_pack_Pack_Image (P : Program) (w0 : World) (a0 : Value) (R : Kont) : Hp → Prop :=
 callA P w0 n_pack_Pack_made [a0] fun v4_1 =>
 pureA (unA .not v4_1) fun v5_2 =>
 condA v5_2 (
 retA [(.slice none 0 0)] R) (
 nilA a0 fun v7_3 =>
 addA v7_3 3 fun v8_4 =>
 loadA w0 v8_4 fun v9_5 =>
 callA P w0 n_slices_Clone_lbyte_byte [v9_5] fun v10_6 =>
 retA [v10_6] R)
theorem c_pack_Pack_Image {w0 : World} {h : Hp} {R : Kont} {a0 : Value} (hj : ∀ v, v ∈ [a0] → v ≠ junk) (hv : s_pack_Pack_Image prog w0 a0 R h) : ACalls prog w0 n_pack_Pack_Image [a0] h R := by
  have e : vcFn ⟨prog, w0, 11, ks_pack_Pack_Image⟩ (drw w0 11) fn_pack_Pack_Image [a0] R h = s_pack_Pack_Image prog w0 a0 R h := by
    kernel_rfl
  exact acalls_of_eq (fn := fn_pack_Pack_Image) (ks := ks_pack_Pack_Image) (n := 11) (by kernel_rfl) (by kernel_rfl) (draw_ok (by kernel_rfl)) (by simp) hj e hv

abbrev fn_pack_Pack_Slots : Func := f25
def ks_pack_Pack_Slots : List (Nat × List Nat × List Nat) := []
def s_pack_Pack_Slots (P : Program) (w0 : World) (a0 : Value) (R : Kont) : Hp → Prop :=
 callA P w0 n_pack_Pack_made [a0] fun v4_1 =>
 pureA (unA .not v4_1) fun v5_2 =>
 condA v5_2 (
 retA [(.slice none 0 0)] R) (
 nilA a0 fun v7_3 =>
 addA v7_3 4 fun v8_4 =>
 loadA w0 v8_4 fun v9_5 =>
 callA P w0 n_slices_Clone_lapi_Slot_api_Slot [v9_5] fun v10_6 =>
 retA [v10_6] R)
theorem c_pack_Pack_Slots {w0 : World} {h : Hp} {R : Kont} {a0 : Value} (hj : ∀ v, v ∈ [a0] → v ≠ junk) (hv : s_pack_Pack_Slots prog w0 a0 R h) : ACalls prog w0 n_pack_Pack_Slots [a0] h R := by
  have e : vcFn ⟨prog, w0, 11, ks_pack_Pack_Slots⟩ (drw w0 11) fn_pack_Pack_Slots [a0] R h = s_pack_Pack_Slots prog w0 a0 R h := by
    kernel_rfl
  exact acalls_of_eq (fn := fn_pack_Pack_Slots) (ks := ks_pack_Pack_Slots) (n := 11) (by kernel_rfl) (by kernel_rfl) (draw_ok (by kernel_rfl)) (by simp) hj e hv

abbrev fn_pack_Pack_Read : Func := f29
def ks_pack_Pack_Read : List (Nat × List Nat × List Nat) := []
def s_pack_Pack_Read (P : Program) (w0 : World) (a0 a1 : Value) (R : Kont) : Hp → Prop :=
 boxA true 2 a1 fun v3_1 =>
 callA P w0 n_pack_Pack_made [a0] fun v8_2 =>
 pureA (unA .not v8_2) fun v9_3 =>
 condA v9_3 (
 retA [(.slice none 0 0), (.int .i64 6)] R) (
 pureQ (fun K => K a0) fun v11_4 =>
 pureQ (nilA v11_4) fun v12_5 =>
 pureQ (addA v12_5 4) fun v13_6 =>
 readQ (loadA w0 v13_6) fun v14_7 =>
 readQ (loadNA w0 v3_1 2) fun v15_8 =>
 allA [
 (callA P w0 n_slices_Contains_lapi_Slot_api_Slot [v14_7, v15_8] fun v16_9 =>
 stillA [] (
 pureQ (pureA (unA .not v16_9)) fun v17_10 =>
 pureQ (fun K => K v17_10) fun v10_11 =>
 endA (
 condA v10_11 (
 retA [(.slice none 0 0), (.int .i64 130)] R) (
 pureQ (fun K => K a0) fun v18_12 =>
 pureQ (nilA v18_12) fun v19_13 =>
 pureQ (addA v19_13 3) fun v20_14 =>
 readQ (loadA w0 v20_14) fun v21_15 =>
 pureQ (addA v3_1 0) fun v22_16 =>
 readQ (loadA w0 v22_16) fun v23_17 =>
 pureQ (addA v3_1 0) fun v24_18 =>
 readQ (loadA w0 v24_18) fun v25_19 =>
 pureQ (addA v3_1 1) fun v26_20 =>
 readQ (loadA w0 v26_20) fun v27_21 =>
 pureQ (pureA (binA .add v25_19 v27_21)) fun v28_22 =>
 readQ (slSlA 1 v21_15 (some v23_17) (some v28_22) none) fun v29_23 =>
 allA [
 (callA P w0 n_slices_Clone_lbyte_byte [v29_23] fun v30_24 =>
 stillA [] (
 pureQ (fun K => K v30_24) fun v4_25 =>
 pureQ (fun K => K (.int .i64 0)) fun v5_26 =>
 endA (
 retA [v4_25, v5_26] R)))]))))])
theorem c_pack_Pack_Read {w0 : World} {h : Hp} {R : Kont} {a0 a1 : Value} (hj : ∀ v, v ∈ [a0, a1] → v ≠ junk) (hv : s_pack_Pack_Read prog w0 a0 a1 R h) : ACalls prog w0 n_pack_Pack_Read [a0, a1] h R := by
  have e : vcFn ⟨prog, w0, 31, ks_pack_Pack_Read⟩ (drw w0 31) fn_pack_Pack_Read [a0, a1] R h = s_pack_Pack_Read prog w0 a0 a1 R h := by
    kernel_rfl
  exact acalls_of_eq (fn := fn_pack_Pack_Read) (ks := ks_pack_Pack_Read) (n := 31) (by kernel_rfl) (by kernel_rfl) (draw_ok (by kernel_rfl)) (by simp) hj e hv

abbrev fn_pack_Pack_Back : Func := f30
def ks_pack_Pack_Back : List (Nat × List Nat × List Nat) := []
def s_pack_Pack_Back (P : Program) (w0 : World) (a0 a1 : Value) (R : Kont) : Hp → Prop :=
 callA P w0 n_pack_Pack_made [a0] fun v7_1 =>
 pureA (unA .not v7_1) fun v8_2 =>
 condA v8_2 (
 retA [(.int .i64 6)] R) (
 pureA (binA .lss a1 (.int .i64 0)) fun v11_3 =>
 guardA v11_3 false (fun K => K a1) fun v13_4 =>
 guardA v11_3 false (fun K => K a0) fun v14_5 =>
 guardA v11_3 false (nilA v14_5) fun v15_6 =>
 guardA v11_3 false (addA v15_6 4) fun v16_7 =>
 guardA v11_3 false (loadA w0 v16_7) fun v17_8 =>
 guardA v11_3 false (pureA (lenSl v17_8)) fun v18_9 =>
 guardA v11_3 false (pureA (binA .gtr v13_4 v18_9)) fun v19_10 =>
 pickA v11_3 (.bool true) v19_10 fun v20_11 =>
 guardA v20_11 false (fun K => K a1) fun v22_12 =>
 guardA v20_11 false (fun K => K a0) fun v23_13 =>
 guardA v20_11 false (nilA v23_13) fun v24_14 =>
 guardA v20_11 false (addA v24_14 7) fun v25_15 =>
 guardA v20_11 false (loadA w0 v25_15) fun v26_16 =>
 guardA v20_11 false (pureA (binA .lss v22_12 v26_16)) fun v27_17 =>
 pickA v20_11 (.bool true) v27_17 fun v28_18 =>
 condA v28_18 (
 retA [(.int .i64 1)] R) (
 nilA a0 fun v31_19 =>
 addA v31_19 4 fun v32_20 =>
 loadA w0 v32_20 fun v33_21 =>
 slSlA 2 v33_21 none (some a1) none fun v35_22 =>
 callA P w0 n_slices_Clone_lapi_Slot_api_Slot [v35_22] fun v36_23 =>
 nilA a0 fun v37_24 =>
 addA v37_24 4 fun v38_25 =>
 storeA w0 v38_25 v36_23 fun _ =>
 nilA a0 fun v40_26 =>
 addA v40_26 5 fun v41_27 =>
 loadA w0 v41_27 fun v42_28 =>
 guardA v42_28 true (fun K => K a0) fun v44_29 =>
 guardA v42_28 true (nilA v44_29) fun v45_30 =>
 guardA v42_28 true (addA v45_30 8) fun v46_31 =>
 guardA v42_28 true (loadA w0 v46_31) fun v47_32 =>
 guardA v42_28 true (pureA (unA .not v47_32)) fun v48_33 =>
 pickA v42_28 v48_33 (.bool false) fun v49_34 =>
 condA v49_34 (
 nilA a0 fun v51_35 =>
 addA v51_35 5 fun v52_36 =>
 storeA w0 v52_36 (.bool false) fun _ =>
 pureQ (fun K => K a0) fun v53_37 =>
 pureQ (nilA v53_37) fun v54_38 =>
 pureQ (addA v54_38 3) fun v55_39 =>
 readQ (loadA w0 v55_39) fun v56_40 =>
 pureQ (fun K => K a0) fun v57_41 =>
 pureQ (nilA v57_41) fun v58_42 =>
 pureQ (addA v58_42 3) fun v59_43 =>
 readQ (loadA w0 v59_43) fun v60_44 =>
 pureQ (pureA (lenSl v60_44)) fun v61_45 =>
 pureQ (pureA (binA .sub v61_45 (.int .i64 16))) fun v62_46 =>
 readQ (slSlA 1 v56_40 (some v62_46) none none) fun v63_47 =>
 allA [
 (clearA w0 1 [(.int .u8 0)] v63_47 fun _ =>
 stillA [] (
 endA (
 pureQ (fun K => K a0) fun v64_48 =>
 pureQ (nilA v64_48) fun v65_49 =>
 pureQ (addA v65_49 3) fun v66_50 =>
 readQ (loadA w0 v66_50) fun v67_51 =>
 pureQ (fun K => K a0) fun v68_52 =>
 pureQ (fun K => K a0) fun v70_53 =>
 pureQ (nilA v70_53) fun v71_54 =>
 pureQ (addA v71_54 3) fun v72_55 =>
 readQ (loadA w0 v72_55) fun v73_56 =>
 pureQ (pureA (lenSl v73_56)) fun v74_57 =>
 pureQ (pureA (binA .sub v74_57 (.int .i64 16))) fun v75_58 =>
 allA [
 (callA P w0 n_pack_Pack_end [v68_52] fun v69_59 =>
 stillA [(sameQ (loadA w0 v72_55) v73_56), (sameQ (loadA w0 v66_50) v67_51)] (
 readQ (slSlA 1 v67_51 (some v69_59) (some v75_58) none) fun v76_60 =>
 allA [
 (clearA w0 1 [(.int .u8 0)] v76_60 fun _ =>
 stillA [] (
 endA (
 retA [(.int .i64 0)] R)))]))])))]) (
 pureQ (fun K => K a0) fun v64_61 =>
 pureQ (nilA v64_61) fun v65_62 =>
 pureQ (addA v65_62 3) fun v66_63 =>
 readQ (loadA w0 v66_63) fun v67_64 =>
 pureQ (fun K => K a0) fun v68_65 =>
 pureQ (fun K => K a0) fun v70_66 =>
 pureQ (nilA v70_66) fun v71_67 =>
 pureQ (addA v71_67 3) fun v72_68 =>
 readQ (loadA w0 v72_68) fun v73_69 =>
 pureQ (pureA (lenSl v73_69)) fun v74_70 =>
 pureQ (pureA (binA .sub v74_70 (.int .i64 16))) fun v75_71 =>
 allA [
 (callA P w0 n_pack_Pack_end [v68_65] fun v69_72 =>
 stillA [(sameQ (loadA w0 v72_68) v73_69), (sameQ (loadA w0 v66_63) v67_64)] (
 readQ (slSlA 1 v67_64 (some v69_72) (some v75_71) none) fun v76_73 =>
 allA [
 (clearA w0 1 [(.int .u8 0)] v76_73 fun _ =>
 stillA [] (
 endA (
 retA [(.int .i64 0)] R)))]))])))
theorem c_pack_Pack_Back {w0 : World} {h : Hp} {R : Kont} {a0 a1 : Value} (hj : ∀ v, v ∈ [a0, a1] → v ≠ junk) (hv : s_pack_Pack_Back prog w0 a0 a1 R h) : ACalls prog w0 n_pack_Pack_Back [a0, a1] h R := by
  have e : vcFn ⟨prog, w0, 77, ks_pack_Pack_Back⟩ (drw w0 77) fn_pack_Pack_Back [a0, a1] R h = s_pack_Pack_Back prog w0 a0 a1 R h := by
    kernel_rfl
  exact acalls_of_eq (fn := fn_pack_Pack_Back) (ks := ks_pack_Pack_Back) (n := 77) (by kernel_rfl) (by kernel_rfl) (draw_ok (by kernel_rfl)) (by simp) hj e hv

abbrev fn_pack_Pack_Left : Func := f31
def ks_pack_Pack_Left : List (Nat × List Nat × List Nat) := []
def s_pack_Pack_Left (P : Program) (w0 : World) (a0 : Value) (R : Kont) : Hp → Prop :=
 callA P w0 n_pack_Pack_made [a0] fun v4_1 =>
 pureA (unA .not v4_1) fun v5_2 =>
 guardA v5_2 false (fun K => K a0) fun v7_3 =>
 guardA v5_2 false (nilA v7_3) fun v8_4 =>
 guardA v5_2 false (addA v8_4 5) fun v9_5 =>
 guardA v5_2 false (loadA w0 v9_5) fun v10_6 =>
 pickA v5_2 (.bool true) v10_6 fun v11_7 =>
 condA v11_7 (
 retA [(.int .i64 0)] R) (
 pureQ (fun K => K a0) fun v12_8 =>
 pureQ (nilA v12_8) fun v13_9 =>
 pureQ (addA v13_9 3) fun v14_10 =>
 readQ (loadA w0 v14_10) fun v15_11 =>
 pureQ (pureA (lenSl v15_11)) fun v16_12 =>
 pureQ (pureA (binA .sub v16_12 (.int .i64 16))) fun v17_13 =>
 pureQ (fun K => K a0) fun v18_14 =>
 allA [
 (callA P w0 n_pack_Pack_end [v18_14] fun v19_15 =>
 stillA [(sameQ (loadA w0 v14_10) v15_11)] (
 pureQ (pureA (binA .sub v17_13 v19_15)) fun v20_16 =>
 pureQ (pureA (binA .sub v20_16 (.int .i64 8))) fun v21_17 =>
 pureQ (pureA (foldA max2A (.int .i64 0) [v21_17])) fun v22_18 =>
 pureQ (fun K => K v22_18) fun v2_19 =>
 endA (
 retA [v2_19] R)))])
theorem c_pack_Pack_Left {w0 : World} {h : Hp} {R : Kont} {a0 : Value} (hj : ∀ v, v ∈ [a0] → v ≠ junk) (hv : s_pack_Pack_Left prog w0 a0 R h) : ACalls prog w0 n_pack_Pack_Left [a0] h R := by
  have e : vcFn ⟨prog, w0, 23, ks_pack_Pack_Left⟩ (drw w0 23) fn_pack_Pack_Left [a0] R h = s_pack_Pack_Left prog w0 a0 R h := by
    kernel_rfl
  exact acalls_of_eq (fn := fn_pack_Pack_Left) (ks := ks_pack_Pack_Left) (n := 23) (by kernel_rfl) (by kernel_rfl) (draw_ok (by kernel_rfl)) (by simp) hj e hv

abbrev fn_pack_Pack_Mark : Func := f32
def ks_pack_Pack_Mark : List (Nat × List Nat × List Nat) := []
def s_pack_Pack_Mark (P : Program) (w0 : World) (a0 : Value) (R : Kont) : Hp → Prop :=
 callA P w0 n_pack_Pack_made [a0] fun v4_1 =>
 pureA (unA .not v4_1) fun v5_2 =>
 condA v5_2 (
 retA [(.int .i64 0)] R) (
 nilA a0 fun v7_3 =>
 addA v7_3 4 fun v8_4 =>
 loadA w0 v8_4 fun v9_5 =>
 pureA (lenSl v9_5) fun v10_6 =>
 retA [v10_6] R)
theorem c_pack_Pack_Mark {w0 : World} {h : Hp} {R : Kont} {a0 : Value} (hj : ∀ v, v ∈ [a0] → v ≠ junk) (hv : s_pack_Pack_Mark prog w0 a0 R h) : ACalls prog w0 n_pack_Pack_Mark [a0] h R := by
  have e : vcFn ⟨prog, w0, 11, ks_pack_Pack_Mark⟩ (drw w0 11) fn_pack_Pack_Mark [a0] R h = s_pack_Pack_Mark prog w0 a0 R h := by
    kernel_rfl
  exact acalls_of_eq (fn := fn_pack_Pack_Mark) (ks := ks_pack_Pack_Mark) (n := 11) (by kernel_rfl) (by kernel_rfl) (draw_ok (by kernel_rfl)) (by simp) hj e hv

abbrev fn_pack_slotAt : Func := f35
def ks_pack_slotAt : List (Nat × List Nat × List Nat) := []
def s_pack_slotAt (P : Program) (w0 : World) (a0 a1 a2 : Value) (R : Kont) : Hp → Prop :=
 newA [(.int .i64 0), (.int .i64 0)] 2 fun v6_1 =>
 pureA (binA .lss a1 (.int .i64 0)) fun v13_2 =>
 guardA v13_2 false (fun K => K a1) fun v15_3 =>
 guardA v13_2 false (fun K => K a2) fun v16_4 =>
 guardA v13_2 false (pureA (binA .sub v16_4 (.int .i64 8))) fun v17_5 =>
 guardA v13_2 false (pureA (binA .gtr v15_3 v17_5)) fun v18_6 =>
 pickA v13_2 (.bool true) v18_6 fun v19_7 =>
 condA v19_7 (
 buildA [] [(.int .i64 0), (.int .i64 0)] fun v20_8 =>
 storeNA w0 v6_1 v20_8 2 fun _ =>
 loadNA w0 v6_1 2 fun v6_9 =>
 retA [v6_9, (.bool false)] R) (
 pureA (binA .add a1 (.int .i64 8)) fun v24_10 =>
 slSlA 1 a0 (some a1) (some v24_10) none fun v25_11 =>
 b2sA w0 v25_11 fun v26_12 =>
 callA P w0 n_codec_NewReader [v26_12] fun v27_13 =>
 callA P w0 n_codec_Reader_U32 [v27_13] fun v29_14 =>
 pureA (convA .i64 v29_14) fun v30_15 =>
 callA P w0 n_codec_Reader_U32 [v27_13] fun v32_16 =>
 pureA (binA .add a1 (.int .i64 8)) fun v34_17 =>
 pureQ (fun K => K v30_15) fun v35_18 =>
 pureQ (pureA (binA .lss v35_18 (.int .i64 1))) fun v36_19 =>
 pureQ (fun K => K v36_19) fun v37_20 =>
 pureQ (guardA v37_20 false (fun K => K v30_15)) fun v38_21 =>
 pureQ (guardA v37_20 false (fun K => K a2)) fun v39_22 =>
 pureQ (guardA v37_20 false (fun K => K v34_17)) fun v40_23 =>
 pureQ (guardA v37_20 false (pureA (binA .sub v39_22 v40_23))) fun v41_24 =>
 pureQ (guardA v37_20 false (pureA (binA .gtr v38_21 v41_24))) fun v42_25 =>
 pureQ (pickA v37_20 (.bool true) v42_25) fun v43_26 =>
 pureQ (fun K => K v43_26) fun v44_27 =>
 pureQ (guardA v44_27 false (fun K => K a0)) fun v45_28 =>
 pureQ (guardA v44_27 false (fun K => K a1)) fun v46_29 =>
 pureQ (guardA v44_27 false (fun K => K a1)) fun v47_30 =>
 pureQ (guardA v44_27 false (pureA (binA .add v47_30 (.int .i64 4)))) fun v48_31 =>
 readQ (guardA v44_27 false (slSlA 1 v45_28 (some v46_29) (some v48_31) none)) fun v49_32 =>
 readQ (guardA v44_27 false (b2sA w0 v49_32)) fun v50_33 =>
 pureQ (guardA v44_27 false (fun K => K a0)) fun v51_34 =>
 pureQ (guardA v44_27 false (fun K => K v34_17)) fun v52_35 =>
 pureQ (guardA v44_27 false (fun K => K v34_17)) fun v53_36 =>
 pureQ (guardA v44_27 false (fun K => K v30_15)) fun v54_37 =>
 pureQ (guardA v44_27 false (pureA (binA .add v53_36 v54_37))) fun v55_38 =>
 readQ (guardA v44_27 false (slSlA 1 v51_34 (some v52_35) (some v55_38) none)) fun v56_39 =>
 readQ (guardA v44_27 false (b2sA w0 v56_39)) fun v57_40 =>
 pureQ (guardA v44_27 false (pureA (binA .add v50_33 v57_40))) fun v58_41 =>
 pureQ (guardA v44_27 false (fun K => K v32_16)) fun v60_42 =>
 allA [
 (guardA v44_27 false (callA P w0 n_codec_Crc [v58_41]) fun v59_43 =>
 stillA [] (
 pureQ (guardA v44_27 false (pureA (binA .neq v59_43 v60_42))) fun v61_44 =>
 pureQ (pickA v44_27 (.bool true) v61_44) fun v62_45 =>
 endA (
 condA v62_45 (
 buildA [] [(.int .i64 0), (.int .i64 0)] fun v63_46 =>
 storeNA w0 v6_1 v63_46 2 fun _ =>
 loadNA w0 v6_1 2 fun v6_47 =>
 retA [v6_47, (.bool false)] R) (
 buildA [(0, 1, false, v34_17), (1, 1, false, v30_15)] [(.int .i64 0), (.int .i64 0)] fun v66_48 =>
 storeNA w0 v6_1 v66_48 2 fun _ =>
 loadNA w0 v6_1 2 fun v6_49 =>
 retA [v6_49, (.bool true)] R))))])
theorem c_pack_slotAt {w0 : World} {h : Hp} {R : Kont} {a0 a1 a2 : Value} (hj : ∀ v, v ∈ [a0, a1, a2] → v ≠ junk) (hv : s_pack_slotAt prog w0 a0 a1 a2 R h) : ACalls prog w0 n_pack_slotAt [a0, a1, a2] h R := by
  have e : vcFn ⟨prog, w0, 67, ks_pack_slotAt⟩ (drw w0 67) fn_pack_slotAt [a0, a1, a2] R h = s_pack_slotAt prog w0 a0 a1 a2 R h := by
    kernel_rfl
  exact acalls_of_eq (fn := fn_pack_slotAt) (ks := ks_pack_slotAt) (n := 67) (by kernel_rfl) (by kernel_rfl) (draw_ok (by kernel_rfl)) (by simp) hj e hv

abbrev fn_pack_fits : Func := f38
def ks_pack_fits : List (Nat × List Nat × List Nat) := []
def s_pack_fits (P : Program) (w0 : World) (a0 a1 : Value) (R : Kont) : Hp → Prop :=
 pureA (binA .geq a0 (.int .i64 512)) fun v6_1 =>
 guardA v6_1 true (fun K => K a0) fun v8_2 =>
 guardA v6_1 true (pureA (binA .leq v8_2 (.int .i64 4096))) fun v9_3 =>
 pickA v6_1 v9_3 (.bool false) fun v10_4 =>
 guardA v10_4 true (fun K => K a0) fun v12_5 =>
 guardA v10_4 true (fun K => K a0) fun v13_6 =>
 guardA v10_4 true (pureA (binA .sub v13_6 (.int .i64 1))) fun v14_7 =>
 guardA v10_4 true (pureA (binA .and v12_5 v14_7)) fun v15_8 =>
 guardA v10_4 true (pureA (binA .eql v15_8 (.int .i64 0))) fun v16_9 =>
 pickA v10_4 v16_9 (.bool false) fun v17_10 =>
 guardA v17_10 true (fun K => K a1) fun v19_11 =>
 guardA v17_10 true (pureA (binA .geq v19_11 (.int .i64 1))) fun v20_12 =>
 pickA v17_10 v20_12 (.bool false) fun v21_13 =>
 guardA v21_13 true (fun K => K a1) fun v23_14 =>
 guardA v21_13 true (pureA (binA .leq v23_14 (.int .i64 64))) fun v24_15 =>
 pickA v21_13 v24_15 (.bool false) fun v25_16 =>
 retA [v25_16] R
theorem c_pack_fits {w0 : World} {h : Hp} {R : Kont} {a0 a1 : Value} (hj : ∀ v, v ∈ [a0, a1] → v ≠ junk) (hv : s_pack_fits prog w0 a0 a1 R h) : ACalls prog w0 n_pack_fits [a0, a1] h R := by
  have e : vcFn ⟨prog, w0, 26, ks_pack_fits⟩ (drw w0 26) fn_pack_fits [a0, a1] R h = s_pack_fits prog w0 a0 a1 R h := by
    kernel_rfl
  exact acalls_of_eq (fn := fn_pack_fits) (ks := ks_pack_fits) (n := 26) (by kernel_rfl) (by kernel_rfl) (draw_ok (by kernel_rfl)) (by simp) hj e hv

abbrev fn_pack_marked : Func := f41
def ks_pack_marked : List (Nat × List Nat × List Nat) := []
def s_pack_marked (P : Program) (w0 : World) (a0 a1 a2 : Value) (R : Kont) : Hp → Prop :=
 callA P w0 n_codec_NewWriter [(.int .i64 16)] fun v10_1 =>
 callA P w0 n_codec_Writer_Raw [v10_1, a0] fun v13_2 =>
 callA P w0 n_codec_Writer_U32 [v10_1, a1] fun v16_3 =>
 callA P w0 n_codec_Writer_U32 [v10_1, a2] fun v19_4 =>
 callA P w0 n_codec_Writer_Done [v10_1] fun v22_5 =>
 pureA (extA v22_5 0) fun v23_6 =>
 pureA (extA v22_5 1) fun v24_7 =>
 callA P w0 n_codec_Crc [v23_6] fun v27_8 =>
 callA P w0 n_codec_Writer_U32 [v10_1, v27_8] fun v28_9 =>
 callA P w0 n_codec_Writer_Done [v10_1] fun v31_10 =>
 pureA (extA v31_10 0) fun v32_11 =>
 pureA (extA v31_10 1) fun v33_12 =>
 retA [v32_11] R
theorem c_pack_marked {w0 : World} {h : Hp} {R : Kont} {a0 a1 a2 : Value} (hj : ∀ v, v ∈ [a0, a1, a2] → v ≠ junk) (hv : s_pack_marked prog w0 a0 a1 a2 R h) : ACalls prog w0 n_pack_marked [a0, a1, a2] h R := by
  have e : vcFn ⟨prog, w0, 35, ks_pack_marked⟩ (drw w0 35) fn_pack_marked [a0, a1, a2] R h = s_pack_marked prog w0 a0 a1 a2 R h := by
    kernel_rfl
  exact acalls_of_eq (fn := fn_pack_marked) (ks := ks_pack_marked) (n := 35) (by kernel_rfl) (by kernel_rfl) (draw_ok (by kernel_rfl)) (by simp) hj e hv

abbrev fn_pack_Pack_made : Func := f46
def ks_pack_Pack_made : List (Nat × List Nat × List Nat) := []
def s_pack_Pack_made (P : Program) (w0 : World) (a0 : Value) (R : Kont) : Hp → Prop :=
 pureA (binPtrA .neq a0 (.pointer none)) fun v4_1 =>
 guardA v4_1 true (fun K => K a0) fun v6_2 =>
 guardA v4_1 true (nilA v6_2) fun v7_3 =>
 guardA v4_1 true (addA v7_3 0) fun v8_4 =>
 guardA v4_1 true (loadA w0 v8_4) fun v9_5 =>
 guardA v4_1 true (pureA (binA .gtr v9_5 (.int .i64 0))) fun v10_6 =>
 pickA v4_1 v10_6 (.bool false) fun v11_7 =>
 retA [v11_7] R
theorem c_pack_Pack_made {w0 : World} {h : Hp} {R : Kont} {a0 : Value} (hj : ∀ v, v ∈ [a0] → v ≠ junk) (hv : s_pack_Pack_made prog w0 a0 R h) : ACalls prog w0 n_pack_Pack_made [a0] h R := by
  have e : vcFn ⟨prog, w0, 12, ks_pack_Pack_made⟩ (drw w0 12) fn_pack_Pack_made [a0] R h = s_pack_Pack_made prog w0 a0 R h := by
    kernel_rfl
  exact acalls_of_eq (fn := fn_pack_Pack_made) (ks := ks_pack_Pack_made) (n := 12) (by kernel_rfl) (by kernel_rfl) (draw_ok (by kernel_rfl)) (by simp) hj e hv

abbrev fn_pack_Pack_end : Func := f48
def ks_pack_Pack_end : List (Nat × List Nat × List Nat) := []
def s_pack_Pack_end (P : Program) (w0 : World) (a0 : Value) (R : Kont) : Hp → Prop :=
 nilA a0 fun v5_1 =>
 addA v5_1 4 fun v6_2 =>
 loadA w0 v6_2 fun v7_3 =>
 pureA (lenSl v7_3) fun v8_4 =>
 pureA (binA .gtr v8_4 (.int .i64 0)) fun v10_5 =>
 condA v10_5 (
 pureQ (fun K => K a0) fun v11_6 =>
 pureQ (nilA v11_6) fun v12_7 =>
 pureQ (addA v12_7 4) fun v13_8 =>
 readQ (loadA w0 v13_8) fun v14_9 =>
 pureQ (fun K => K v8_4) fun v15_10 =>
 pureQ (pureA (binA .sub v15_10 (.int .i64 1))) fun v16_11 =>
 pureQ (idxSlA 2 v14_9 v16_11) fun v17_12 =>
 pureQ (addA v17_12 0) fun v18_13 =>
 readQ (loadA w0 v18_13) fun v19_14 =>
 pureQ (fun K => K a0) fun v20_15 =>
 pureQ (nilA v20_15) fun v21_16 =>
 pureQ (addA v21_16 4) fun v22_17 =>
 readQ (loadA w0 v22_17) fun v23_18 =>
 pureQ (fun K => K v8_4) fun v24_19 =>
 pureQ (pureA (binA .sub v24_19 (.int .i64 1))) fun v25_20 =>
 pureQ (idxSlA 2 v23_18 v25_20) fun v26_21 =>
 pureQ (addA v26_21 1) fun v27_22 =>
 readQ (loadA w0 v27_22) fun v28_23 =>
 pureQ (pureA (binA .add v19_14 v28_23)) fun v29_24 =>
 pureQ (fun K => K v29_24) fun v2_25 =>
 endA (
 retA [v2_25] R)) (
 retA [(.int .i64 16)] R)
theorem c_pack_Pack_end {w0 : World} {h : Hp} {R : Kont} {a0 : Value} (hj : ∀ v, v ∈ [a0] → v ≠ junk) (hv : s_pack_Pack_end prog w0 a0 R h) : ACalls prog w0 n_pack_Pack_end [a0] h R := by
  have e : vcFn ⟨prog, w0, 30, ks_pack_Pack_end⟩ (drw w0 30) fn_pack_Pack_end [a0] R h = s_pack_Pack_end prog w0 a0 R h := by
    kernel_rfl
  exact acalls_of_eq (fn := fn_pack_Pack_end) (ks := ks_pack_Pack_end) (n := 30) (by kernel_rfl) (by kernel_rfl) (draw_ok (by kernel_rfl)) (by simp) hj e hv

abbrev fn_pack_length : Func := f49
def ks_pack_length : List (Nat × List Nat × List Nat) := []
def s_pack_length (P : Program) (w0 : World) (a0 : Value) (R : Kont) : Hp → Prop :=
 callA P w0 n_codec_NewWriter [(.int .i64 4)] fun v6_1 =>
 pureA (convA .u32 a0) fun v9_2 =>
 callA P w0 n_codec_Writer_U32 [v6_1, v9_2] fun v10_3 =>
 callA P w0 n_codec_Writer_Done [v6_1] fun v13_4 =>
 pureA (extA v13_4 0) fun v14_5 =>
 pureA (extA v13_4 1) fun v15_6 =>
 retA [v14_5] R
theorem c_pack_length {w0 : World} {h : Hp} {R : Kont} {a0 : Value} (hj : ∀ v, v ∈ [a0] → v ≠ junk) (hv : s_pack_length prog w0 a0 R h) : ACalls prog w0 n_pack_length [a0] h R := by
  have e : vcFn ⟨prog, w0, 17, ks_pack_length⟩ (drw w0 17) fn_pack_length [a0] R h = s_pack_length prog w0 a0 R h := by
    kernel_rfl
  exact acalls_of_eq (fn := fn_pack_length) (ks := ks_pack_length) (n := 17) (by kernel_rfl) (by kernel_rfl) (draw_ok (by kernel_rfl)) (by simp) hj e hv

end
end Go.Proofs.Ytfhamcobfpmgbaa.Ah
