/- PRINTED by wip/tools/shallow.py: functions of the program as readable words, and that each is what its text says. -/
import Derived.Test.YtfhamcobfpmgbaaGn
set_option linter.unusedVariables false
set_option linter.unusedSimpArgs false
namespace Go.Proofs.Ytfhamcobfpmgbaa.Ah
open Go Go.Proofs.Try
noncomputable section

abbrev fn_deduplaw13_PackChunks : Func := f3
def ks_deduplaw13_PackChunks : List (Nat × List Nat × List Nat) := []
def s_deduplaw13_PackChunks (P : Program) (w0 : World) (a0 a1 : Value) (R : Kont) : Hp → Prop :=
 boxA true 2 a1 fun v3_1 =>
 loadNA w0 v3_1 2 fun v11_2 =>
 callA P w0 n_pack_Chunk [a0, v11_2] fun v12_3 =>
 pureA (extA v12_3 0) fun v13_4 =>
 pureA (extA v12_3 1) fun v14_5 =>
 loadNA w0 v3_1 2 fun v17_6 =>
 callA P w0 n_dedupref13_Chunk [a0, v17_6] fun v18_7 =>
 pureA (extA v18_7 0) fun v19_8 =>
 pureA (extA v18_7 1) fun v20_9 =>
 callA P w0 n_deduplaw13_lives [] fun v21_10 =>
 guardA v21_10 true (fun K => K v13_4) fun v23_11 =>
 guardA v21_10 true (fun K => K v19_8) fun v24_12 =>
 guardA v21_10 true (callA P w0 n_deduplaw13_sameBytes [v23_11, v24_12]) fun v25_13 =>
 pickA v21_10 v25_13 (.bool false) fun v26_14 =>
 guardA v26_14 true (fun K => K v14_5) fun v28_15 =>
 guardA v26_14 true (fun K => K v20_9) fun v29_16 =>
 guardA v26_14 true (pureA (binA .eql v28_15 v29_16)) fun v30_17 =>
 pickA v26_14 v30_17 (.bool false) fun v31_18 =>
 retA [v31_18] R
theorem c_deduplaw13_PackChunks {w0 : World} {h : Hp} {R : Kont} {a0 a1 : Value} (hj : ∀ v, v ∈ [a0, a1] → v ≠ junk) (hv : s_deduplaw13_PackChunks prog w0 a0 a1 R h) : ACalls prog w0 n_deduplaw13_PackChunks [a0, a1] h R := by
  have e : vcFn ⟨prog, w0, 32, ks_deduplaw13_PackChunks⟩ (drw w0 32) fn_deduplaw13_PackChunks [a0, a1] R h = s_deduplaw13_PackChunks prog w0 a0 a1 R h := by
    kernel_rfl
  exact acalls_of_eq (fn := fn_deduplaw13_PackChunks) (ks := ks_deduplaw13_PackChunks) (n := 32) (by kernel_rfl) (by kernel_rfl) (draw_ok (by kernel_rfl)) (by simp) hj e hv

abbrev fn_deduplaw13_PackScans : Func := f4
def ks_deduplaw13_PackScans : List (Nat × List Nat × List Nat) := []
def s_deduplaw13_PackScans (P : Program) (w0 : World) (a0 a1 a2 : Value) (R : Kont) : Hp → Prop :=
 bslA [] (zerosL [(.int .u8 0)] 0) 0 1 fun v16_1 =>
 appA w0 1 1 v16_1 a2 fun v18_2 =>
 callA P w0 n_pack_Scan [a0, a1, v18_2] fun v23_3 =>
 pureA (extA v23_3 0) fun v24_4 =>
 pureA (extA v23_3 1) fun v25_5 =>
 pureA (extA v23_3 2) fun v26_6 =>
 pureA (extA v23_3 3) fun v27_7 =>
 callA P w0 n_dedupref13_Scan [a0, a1, a2] fun v32_8 =>
 pureA (extA v32_8 0) fun v33_9 =>
 pureA (extA v32_8 1) fun v34_10 =>
 pureA (extA v32_8 2) fun v35_11 =>
 pureA (extA v32_8 3) fun v36_12 =>
 callA P w0 n_deduplaw13_lives [] fun v37_13 =>
 guardA v37_13 true (fun K => K v24_4) fun v39_14 =>
 guardA v37_13 true (fun K => K v33_9) fun v40_15 =>
 guardA v37_13 true (pureA (binA .eql v39_14 v40_15)) fun v41_16 =>
 pickA v37_13 v41_16 (.bool false) fun v42_17 =>
 guardA v42_17 true (fun K => K v25_5) fun v44_18 =>
 guardA v42_17 true (fun K => K v34_10) fun v45_19 =>
 guardA v42_17 true (callA P w0 n_deduplaw13_sameSlots [v44_18, v45_19]) fun v46_20 =>
 pickA v42_17 v46_20 (.bool false) fun v47_21 =>
 guardA v47_21 true (fun K => K v26_6) fun v49_22 =>
 guardA v47_21 true (fun K => K v35_11) fun v50_23 =>
 guardA v47_21 true (pureA (binBoolA .eql v49_22 v50_23)) fun v51_24 =>
 pickA v47_21 v51_24 (.bool false) fun v52_25 =>
 guardA v52_25 true (fun K => K v27_7) fun v54_26 =>
 guardA v52_25 true (fun K => K v36_12) fun v55_27 =>
 guardA v52_25 true (pureA (binA .eql v54_26 v55_27)) fun v56_28 =>
 pickA v52_25 v56_28 (.bool false) fun v57_29 =>
 guardA v57_29 true (fun K => K v18_2) fun v59_30 =>
 guardA v57_29 true (fun K => K a2) fun v60_31 =>
 guardA v57_29 true (callA P w0 n_deduplaw13_sameBytes [v59_30, v60_31]) fun v61_32 =>
 pickA v57_29 v61_32 (.bool false) fun v62_33 =>
 retA [v62_33] R
theorem c_deduplaw13_PackScans {w0 : World} {h : Hp} {R : Kont} {a0 a1 a2 : Value} (hj : ∀ v, v ∈ [a0, a1, a2] → v ≠ junk) (hv : s_deduplaw13_PackScans prog w0 a0 a1 a2 R h) : ACalls prog w0 n_deduplaw13_PackScans [a0, a1, a2] h R := by
  have e : vcFn ⟨prog, w0, 63, ks_deduplaw13_PackScans⟩ (drw w0 63) fn_deduplaw13_PackScans [a0, a1, a2] R h = s_deduplaw13_PackScans prog w0 a0 a1 a2 R h := by
    kernel_rfl
  exact acalls_of_eq (fn := fn_deduplaw13_PackScans) (ks := ks_deduplaw13_PackScans) (n := 63) (by kernel_rfl) (by kernel_rfl) (draw_ok (by kernel_rfl)) (by simp) hj e hv

abbrev fn_deduplaw13_PackPlays : Func := f5
def ks_deduplaw13_PackPlays : List (Nat × List Nat × List Nat) := [(10, [3, 8, 9, 11, 13], [8, 9, 11])]
def deduplaw13_PackPlays_B1 (P : Program) (w0 : World) (R : Value → Value → Value → Value → Value → Hp → Prop) (k0 : Value → Value → Value → Hp → Prop) (kr : Value → Value → Value → Hp → Prop) (x3 x8 x9 x11 x13 : Value) : Hp → Prop :=
 pureA (lenSl x3) fun v45_17 =>
 pureA (binA .lss x13 v45_17) fun v46_18 =>
 condA v46_18 (
 idxSlA 5 x3 x13 fun v51_19 =>
 addA v51_19 0 fun v52_20 =>
 loadA w0 v52_20 fun v53_21 =>
 pureA (binA .eql v53_21 (.int .i64 9)) fun v54_22 =>
 condA v54_22 (
 callA P w0 n_pack_Pack_Fork [x9] fun v56_23 =>
 pureA (binPtrA .eql v56_23 (.pointer none)) fun v58_24 =>
 condA v58_24 (
 kr (.bool false) x9 x11) (
 idxSlA 5 x3 x13 fun v62_25 =>
 addA v62_25 2 fun v63_26 =>
 loadA w0 v63_26 fun v64_27 =>
 callA P w0 n_pack_Pack_Append [x9, v64_27] fun v65_28 =>
 callA P w0 n_pack_Pack_Take [x9] fun v67_29 =>
 callA P w0 n_pack_Pack_Seal [x9] fun v69_30 =>
 pureA (binA .add x13 (.int .i64 1)) fun v48_31 =>
 R x3 x8 v56_23 x11 v48_31)) (
 idxSlA 5 x3 x13 fun v75_32 =>
 loadNA w0 v75_32 5 fun v76_33 =>
 callA P w0 n_deduplaw13_step [x9, x11, v76_33] fun v77_34 =>
 pureA (unA .not v77_34) fun v78_35 =>
 condA v78_35 (
 kr (.bool false) x9 x11) (
 pureA (binA .add x13 (.int .i64 1)) fun v48_36 =>
 R x3 x8 x9 x11 v48_36))) (
 k0 x8 x9 x11)
def deduplaw13_PackPlays_L1 (P : Program) (w0 : World) (k0 : Value → Value → Value → Hp → Prop) (kr : Value → Value → Value → Hp → Prop) : Nat → Value → Value → Value → Value → Value → Hp → Prop
  | 0, _, _, _, _, _ => fun _ => False
  | m + 1, x3, x8, x9, x11, x13 => deduplaw13_PackPlays_B1 P w0 (deduplaw13_PackPlays_L1 P w0 k0 kr m) k0 kr x3 x8 x9 x11 x13
def deduplaw13_PackPlays_E1 (P : Program) (w0 : World) (k0 : Value → Value → Value → Hp → Prop) (kr : Value → Value → Value → Hp → Prop) (x3 x8 x9 x11 x13 : Value) : Hp → Prop := fun h => ∃ m, deduplaw13_PackPlays_L1 P w0 k0 kr m x3 x8 x9 x11 x13 h
def s_deduplaw13_PackPlays (P : Program) (w0 : World) (a0 a1 a2 a3 : Value) (R : Kont) : Hp → Prop :=
 callA P w0 n_deduplaw13_lives [] fun v15_1 =>
 pureA (unA .not v15_1) fun v16_2 =>
 condA v16_2 (
 retA [(.bool false)] R) (
 callA P w0 n_pack_New [a0, a1, a2] fun v21_3 =>
 pureA (extA v21_3 0) fun v22_4 =>
 pureA (extA v21_3 1) fun v23_5 =>
 callA P w0 n_dedupref13_New [a0, a1, a2] fun v28_6 =>
 pureA (extA v28_6 0) fun v29_7 =>
 pureA (extA v28_6 1) fun v30_8 =>
 pureA (binA .neq v23_5 v30_8) fun v33_9 =>
 guardA v33_9 false (fun K => K v22_4) fun v35_10 =>
 guardA v33_9 false (pureA (binPtrA .eql v35_10 (.pointer none))) fun v36_11 =>
 guardA v33_9 false (fun K => K v29_7) fun v37_12 =>
 guardA v33_9 false (pureA (binPtrA .eql v37_12 (.pointer none))) fun v38_13 =>
 guardA v33_9 false (pureA (binBoolA .neq v36_11 v38_13)) fun v39_14 =>
 pickA v33_9 (.bool true) v39_14 fun v40_15 =>
 condA v40_15 (
 retA [(.bool false)] R) (
 pureA (binPtrA .eql v29_7 (.pointer none)) fun v42_16 =>
 condA v42_16 (
 retA [(.bool true)] R) (
 deduplaw13_PackPlays_E1 P w0 (fun y8_37 y9_38 y11_39 =>
 callA P w0 n_pack_Pack_Image [y9_38] fun v80_40 =>
 callA P w0 n_dedupref13_Pack_Image [y11_39] fun v82_41 =>
 callA P w0 n_deduplaw13_sameBytes [v80_40, v82_41] fun v83_42 =>
 guardA v83_42 true (fun K => K y9_38) fun v85_43 =>
 guardA v83_42 true (callA P w0 n_pack_Pack_Slots [v85_43]) fun v86_44 =>
 guardA v83_42 true (fun K => K y11_39) fun v87_45 =>
 guardA v83_42 true (callA P w0 n_dedupref13_Pack_Slots [v87_45]) fun v88_46 =>
 guardA v83_42 true (callA P w0 n_deduplaw13_sameSlots [v86_44, v88_46]) fun v89_47 =>
 pickA v83_42 v89_47 (.bool false) fun v90_48 =>
 guardA v90_48 true (fun K => K y9_38) fun v92_49 =>
 guardA v90_48 true (callA P w0 n_pack_Pack_Take [v92_49]) fun v93_50 =>
 guardA v90_48 true (fun K => K y11_39) fun v94_51 =>
 guardA v90_48 true (callA P w0 n_dedupref13_Pack_Take [v94_51]) fun v95_52 =>
 guardA v90_48 true (callA P w0 n_deduplaw13_sectors [v93_50, v95_52]) fun v96_53 =>
 pickA v90_48 v96_53 (.bool false) fun v97_54 =>
 retA [v97_54] R) (fun y8_55 y9_56 y11_57 =>
 retA [y8_55] R) a3 (.bool false) v22_4 v29_7 (.int .i64 0))))
theorem deduplaw13_PackPlays_L1_eq (w0 : World) (k0 : Value → Value → Value → Hp → Prop) (kr : Value → Value → Value → Hp → Prop) : ∀ (m : Nat) (x3 x8 x9 x11 x13 : Value) (h : Hp), loopA (stepL ⟨prog, w0, 98, ks_deduplaw13_PackPlays⟩ (drw w0 98) (loopAt fn_deduplaw13_PackPlays 0)) m (mkFr [(3, x3), (8, x8), (9, x9), (11, x11), (13, x13)]) [fun t => k0 (t 8) (t 9) (t 11), fun t => kr (t 8) (t 9) (t 11)] h = deduplaw13_PackPlays_L1 prog w0 k0 kr m x3 x8 x9 x11 x13 h := by
  intro m
  induction m with
  | zero => intros; kernel_rfl
  | succ m ih =>
    intro x3 x8 x9 x11 x13 h
    have e : deduplaw13_PackPlays_L1 prog w0 k0 kr m = fun x3 x8 x9 x11 x13 h => loopA (stepL ⟨prog, w0, 98, ks_deduplaw13_PackPlays⟩ (drw w0 98) (loopAt fn_deduplaw13_PackPlays 0)) m (mkFr [(3, x3), (8, x8), (9, x9), (11, x11), (13, x13)]) [fun t => k0 (t 8) (t 9) (t 11), fun t => kr (t 8) (t 9) (t 11)] h := by funext x3 x8 x9 x11 x13 h; exact (ih x3 x8 x9 x11 x13 h).symm
    show _ = deduplaw13_PackPlays_B1 prog w0 (deduplaw13_PackPlays_L1 prog w0 k0 kr m) k0 kr x3 x8 x9 x11 x13 h
    rw [e]
    kernel_rfl
theorem deduplaw13_PackPlays_E1_eq (w0 : World) : deduplaw13_PackPlays_E1 prog w0 = fun k0 kr x3 x8 x9 x11 x13 h => ∃ m, loopA (stepL ⟨prog, w0, 98, ks_deduplaw13_PackPlays⟩ (drw w0 98) (loopAt fn_deduplaw13_PackPlays 0)) m (mkFr [(3, x3), (8, x8), (9, x9), (11, x11), (13, x13)]) [fun t => k0 (t 8) (t 9) (t 11), fun t => kr (t 8) (t 9) (t 11)] h := by
  funext k0 kr x3 x8 x9 x11 x13 h
  exact congrArg Exists (funext fun m => (deduplaw13_PackPlays_L1_eq w0 k0 kr m x3 x8 x9 x11 x13 h).symm)
theorem c_deduplaw13_PackPlays {w0 : World} {h : Hp} {R : Kont} {a0 a1 a2 a3 : Value} (hj : ∀ v, v ∈ [a0, a1, a2, a3] → v ≠ junk) (hv : s_deduplaw13_PackPlays prog w0 a0 a1 a2 a3 R h) : ACalls prog w0 n_deduplaw13_PackPlays [a0, a1, a2, a3] h R := by
  have e : vcFn ⟨prog, w0, 98, ks_deduplaw13_PackPlays⟩ (drw w0 98) fn_deduplaw13_PackPlays [a0, a1, a2, a3] R h = s_deduplaw13_PackPlays prog w0 a0 a1 a2 a3 R h := by
    unfold s_deduplaw13_PackPlays
    rw [deduplaw13_PackPlays_E1_eq w0]
    kernel_rfl
  exact acalls_of_eq (fn := fn_deduplaw13_PackPlays) (ks := ks_deduplaw13_PackPlays) (n := 98) (by kernel_rfl) (by kernel_rfl) (draw_ok (by kernel_rfl)) (by simp) hj e hv

abbrev fn_deduplaw13_PackNobody : Func := f6
def ks_deduplaw13_PackNobody : List (Nat × List Nat × List Nat) := []
def s_deduplaw13_PackNobody (P : Program) (w0 : World) (a0 a1 a2 : Value) (R : Kont) : Hp → Prop :=
 boxA true 2 a1 fun v4_1 =>
 callA P w0 n_pack_Pack_Append [(.pointer none), a0] fun v15_2 =>
 pureA (extA v15_2 0) fun v16_3 =>
 pureA (extA v15_2 1) fun v17_4 =>
 newA [(.int .i64 0), (.int .i64 0)] 2 fun v8_5 =>
 storeNA w0 v8_5 v16_3 2 fun _ =>
 loadNA w0 v4_1 2 fun v20_6 =>
 callA P w0 n_pack_Pack_Read [(.pointer none), v20_6] fun v21_7 =>
 pureA (extA v21_7 0) fun v22_8 =>
 pureA (extA v21_7 1) fun v23_9 =>
 callA P w0 n_deduplaw13_lives [] fun v24_10 =>
 guardA v24_10 true (loadNA w0 v8_5 2) fun v26_11 =>
 guardA v24_10 true (buildA [] [(.int .i64 0), (.int .i64 0)]) fun v27_12 =>
 guardA v24_10 true (eqStA P .eql 24 v26_11 v27_12) fun v28_13 =>
 pickA v24_10 v28_13 (.bool false) fun v29_14 =>
 guardA v29_14 true (fun K => K v17_4) fun v31_15 =>
 guardA v29_14 true (pureA (binA .eql v31_15 (.int .i64 6))) fun v32_16 =>
 pickA v29_14 v32_16 (.bool false) fun v33_17 =>
 guardA v33_17 true (fun K => K v22_8) fun v35_18 =>
 guardA v33_17 true (pureA (lenSl v35_18)) fun v36_19 =>
 guardA v33_17 true (pureA (binA .eql v36_19 (.int .i64 0))) fun v37_20 =>
 pickA v33_17 v37_20 (.bool false) fun v38_21 =>
 guardA v38_21 true (fun K => K v23_9) fun v40_22 =>
 guardA v38_21 true (pureA (binA .eql v40_22 (.int .i64 6))) fun v41_23 =>
 pickA v38_21 v41_23 (.bool false) fun v42_24 =>
 guardA v42_24 true (fun K => K (.pointer none)) fun v44_25 =>
 guardA v42_24 true (fun K => K a2) fun v45_26 =>
 guardA v42_24 true (callA P w0 n_pack_Pack_Back [v44_25, v45_26]) fun v46_27 =>
 guardA v42_24 true (pureA (binA .eql v46_27 (.int .i64 6))) fun v47_28 =>
 pickA v42_24 v47_28 (.bool false) fun v48_29 =>
 guardA v48_29 true (fun K => K (.pointer none)) fun v50_30 =>
 guardA v48_29 true (callA P w0 n_pack_Pack_Seal [v50_30]) fun v51_31 =>
 guardA v48_29 true (pureA (binA .eql v51_31 (.int .i64 6))) fun v52_32 =>
 pickA v48_29 v52_32 (.bool false) fun v53_33 =>
 guardA v53_33 true (fun K => K (.pointer none)) fun v55_34 =>
 guardA v53_33 true (callA P w0 n_pack_Pack_Left [v55_34]) fun v56_35 =>
 guardA v53_33 true (pureA (binA .eql v56_35 (.int .i64 0))) fun v57_36 =>
 pickA v53_33 v57_36 (.bool false) fun v58_37 =>
 guardA v58_37 true (fun K => K (.pointer none)) fun v60_38 =>
 guardA v58_37 true (callA P w0 n_pack_Pack_Mark [v60_38]) fun v61_39 =>
 guardA v58_37 true (pureA (binA .eql v61_39 (.int .i64 0))) fun v62_40 =>
 pickA v58_37 v62_40 (.bool false) fun v63_41 =>
 guardA v63_41 true (fun K => K (.pointer none)) fun v65_42 =>
 guardA v63_41 true (callA P w0 n_pack_Pack_Take [v65_42]) fun v66_43 =>
 guardA v63_41 true (pureA (lenSl v66_43)) fun v67_44 =>
 guardA v63_41 true (pureA (binA .eql v67_44 (.int .i64 0))) fun v68_45 =>
 pickA v63_41 v68_45 (.bool false) fun v69_46 =>
 guardA v69_46 true (fun K => K (.pointer none)) fun v71_47 =>
 guardA v69_46 true (callA P w0 n_pack_Pack_Slots [v71_47]) fun v72_48 =>
 guardA v69_46 true (pureA (lenSl v72_48)) fun v73_49 =>
 guardA v69_46 true (pureA (binA .eql v73_49 (.int .i64 0))) fun v74_50 =>
 pickA v69_46 v74_50 (.bool false) fun v75_51 =>
 guardA v75_51 true (fun K => K (.pointer none)) fun v77_52 =>
 guardA v75_51 true (callA P w0 n_pack_Pack_Image [v77_52]) fun v78_53 =>
 guardA v75_51 true (pureA (lenSl v78_53)) fun v79_54 =>
 guardA v75_51 true (pureA (binA .eql v79_54 (.int .i64 0))) fun v80_55 =>
 pickA v75_51 v80_55 (.bool false) fun v81_56 =>
 guardA v81_56 true (fun K => K (.pointer none)) fun v83_57 =>
 guardA v81_56 true (callA P w0 n_pack_Pack_Fork [v83_57]) fun v84_58 =>
 guardA v81_56 true (pureA (binPtrA .eql v84_58 (.pointer none))) fun v85_59 =>
 pickA v81_56 v85_59 (.bool false) fun v86_60 =>
 retA [v86_60] R
theorem c_deduplaw13_PackNobody {w0 : World} {h : Hp} {R : Kont} {a0 a1 a2 : Value} (hj : ∀ v, v ∈ [a0, a1, a2] → v ≠ junk) (hv : s_deduplaw13_PackNobody prog w0 a0 a1 a2 R h) : ACalls prog w0 n_deduplaw13_PackNobody [a0, a1, a2] h R := by
  have e : vcFn ⟨prog, w0, 87, ks_deduplaw13_PackNobody⟩ (drw w0 87) fn_deduplaw13_PackNobody [a0, a1, a2] R h = s_deduplaw13_PackNobody prog w0 a0 a1 a2 R h := by
    kernel_rfl
  exact acalls_of_eq (fn := fn_deduplaw13_PackNobody) (ks := ks_deduplaw13_PackNobody) (n := 87) (by kernel_rfl) (by kernel_rfl) (draw_ok (by kernel_rfl)) (by simp) hj e hv

abbrev fn_deduplaw13_PackForks : Func := f7
def ks_deduplaw13_PackForks : List (Nat × List Nat × List Nat) := [(10, [2, 3, 8, 9, 11, 13], [3, 8, 9, 11]), (18, [3, 8, 9, 11, 14, 15, 16], [8, 9, 11, 14, 15])]
def deduplaw13_PackForks_B1 (P : Program) (w0 : World) (R : Value → Value → Value → Value → Value → Value → Hp → Prop) (k0 : Value → Value → Value → Value → Hp → Prop) (kr : Value → Value → Value → Value → Hp → Prop) (x2 x3 x8 x9 x11 x13 : Value) : Hp → Prop :=
 pureA (lenSl x2) fun v45_17 =>
 pureA (binA .lss x13 v45_17) fun v46_18 =>
 condA v46_18 (
 idxSlA 5 x2 x13 fun v51_19 =>
 addA v51_19 0 fun v52_20 =>
 loadA w0 v52_20 fun v53_21 =>
 pureA (binA .neq v53_21 (.int .i64 9)) fun v54_22 =>
 guardA v54_22 true (fun K => K x9) fun v56_23 =>
 guardA v54_22 true (fun K => K x11) fun v57_24 =>
 guardA v54_22 true (fun K => K x2) fun v58_25 =>
 guardA v54_22 true (fun K => K x13) fun v59_26 =>
 guardA v54_22 true (idxSlA 5 v58_25 v59_26) fun v60_27 =>
 guardA v54_22 true (loadNA w0 v60_27 5) fun v61_28 =>
 guardA v54_22 true (callA P w0 n_deduplaw13_step [v56_23, v57_24, v61_28]) fun v62_29 =>
 guardA v54_22 true (pureA (unA .not v62_29)) fun v63_30 =>
 pickA v54_22 v63_30 (.bool false) fun v64_31 =>
 condA v64_31 (
 kr x3 (.bool false) x9 x11) (
 pureA (binA .add x13 (.int .i64 1)) fun v48_32 =>
 R x2 x3 x8 x9 x11 v48_32)) (
 k0 x3 x8 x9 x11)
def deduplaw13_PackForks_L1 (P : Program) (w0 : World) (k0 : Value → Value → Value → Value → Hp → Prop) (kr : Value → Value → Value → Value → Hp → Prop) : Nat → Value → Value → Value → Value → Value → Value → Hp → Prop
  | 0, _, _, _, _, _, _ => fun _ => False
  | m + 1, x2, x3, x8, x9, x11, x13 => deduplaw13_PackForks_B1 P w0 (deduplaw13_PackForks_L1 P w0 k0 kr m) k0 kr x2 x3 x8 x9 x11 x13
def deduplaw13_PackForks_E1 (P : Program) (w0 : World) (k0 : Value → Value → Value → Value → Hp → Prop) (kr : Value → Value → Value → Value → Hp → Prop) (x2 x3 x8 x9 x11 x13 : Value) : Hp → Prop := fun h => ∃ m, deduplaw13_PackForks_L1 P w0 k0 kr m x2 x3 x8 x9 x11 x13 h
def deduplaw13_PackForks_B2 (P : Program) (w0 : World) (R : Value → Value → Value → Value → Value → Value → Value → Hp → Prop) (k2 : Value → Value → Value → Value → Value → Hp → Prop) (kr : Value → Value → Value → Value → Value → Hp → Prop) (x3 x8 x9 x11 x14 x15 x16 : Value) : Hp → Prop :=
 pureA (lenSl x3) fun v73_40 =>
 pureA (binA .lss x16 v73_40) fun v74_41 =>
 condA v74_41 (
 idxSlA 5 x3 x16 fun v79_42 =>
 addA v79_42 0 fun v80_43 =>
 loadA w0 v80_43 fun v81_44 =>
 pureA (binA .eql v81_44 (.int .i64 9)) fun v82_45 =>
 condA v82_45 (
 pureA (binA .add x16 (.int .i64 1)) fun v76_46 =>
 R x3 x8 x9 x11 x14 x15 v76_46) (
 pureA (binA .rem x16 (.int .i64 2)) fun v84_47 =>
 pureA (binA .eql v84_47 (.int .i64 0)) fun v85_48 =>
 guardA v85_48 true (fun K => K x9) fun v87_49 =>
 guardA v85_48 true (fun K => K x11) fun v88_50 =>
 guardA v85_48 true (fun K => K x3) fun v89_51 =>
 guardA v85_48 true (fun K => K x16) fun v90_52 =>
 guardA v85_48 true (idxSlA 5 v89_51 v90_52) fun v91_53 =>
 guardA v85_48 true (loadNA w0 v91_53 5) fun v92_54 =>
 guardA v85_48 true (callA P w0 n_deduplaw13_step [v87_49, v88_50, v92_54]) fun v93_55 =>
 guardA v85_48 true (pureA (unA .not v93_55)) fun v94_56 =>
 pickA v85_48 v94_56 (.bool false) fun v95_57 =>
 guardA v95_57 false (fun K => K x16) fun v97_58 =>
 guardA v95_57 false (pureA (binA .rem v97_58 (.int .i64 2))) fun v98_59 =>
 guardA v95_57 false (pureA (binA .eql v98_59 (.int .i64 1))) fun v99_60 =>
 guardA v95_57 false (fun K => K v99_60) fun v100_61 =>
 guardA v100_61 true (fun K => K x14) fun v101_62 =>
 guardA v100_61 true (fun K => K x15) fun v102_63 =>
 guardA v100_61 true (fun K => K x3) fun v103_64 =>
 guardA v100_61 true (fun K => K x16) fun v104_65 =>
 guardA v100_61 true (idxSlA 5 v103_64 v104_65) fun v105_66 =>
 guardA v100_61 true (loadNA w0 v105_66 5) fun v106_67 =>
 guardA v100_61 true (callA P w0 n_deduplaw13_step [v101_62, v102_63, v106_67]) fun v107_68 =>
 guardA v100_61 true (pureA (unA .not v107_68)) fun v108_69 =>
 guardA v95_57 false (pickA v100_61 v108_69 (.bool false)) fun v109_70 =>
 pickA v95_57 (.bool true) v109_70 fun v110_71 =>
 condA v110_71 (
 kr (.bool false) x9 x11 x14 x15) (
 pureA (binA .add x16 (.int .i64 1)) fun v76_72 =>
 R x3 x8 x9 x11 x14 x15 v76_72))) (
 k2 x8 x9 x11 x14 x15)
def deduplaw13_PackForks_L2 (P : Program) (w0 : World) (k2 : Value → Value → Value → Value → Value → Hp → Prop) (kr : Value → Value → Value → Value → Value → Hp → Prop) : Nat → Value → Value → Value → Value → Value → Value → Value → Hp → Prop
  | 0, _, _, _, _, _, _, _ => fun _ => False
  | m + 1, x3, x8, x9, x11, x14, x15, x16 => deduplaw13_PackForks_B2 P w0 (deduplaw13_PackForks_L2 P w0 k2 kr m) k2 kr x3 x8 x9 x11 x14 x15 x16
def deduplaw13_PackForks_E2 (P : Program) (w0 : World) (k2 : Value → Value → Value → Value → Value → Hp → Prop) (kr : Value → Value → Value → Value → Value → Hp → Prop) (x3 x8 x9 x11 x14 x15 x16 : Value) : Hp → Prop := fun h => ∃ m, deduplaw13_PackForks_L2 P w0 k2 kr m x3 x8 x9 x11 x14 x15 x16 h
def s_deduplaw13_PackForks (P : Program) (w0 : World) (a0 a1 a2 a3 : Value) (R : Kont) : Hp → Prop :=
 callA P w0 n_deduplaw13_lives [] fun v17_1 =>
 pureA (unA .not v17_1) fun v18_2 =>
 condA v18_2 (
 retA [(.bool false)] R) (
 callA P w0 n_pack_New [a0, a1, (.int .u32 7)] fun v22_3 =>
 pureA (extA v22_3 0) fun v23_4 =>
 pureA (extA v22_3 1) fun v24_5 =>
 callA P w0 n_dedupref13_New [a0, a1, (.int .u32 7)] fun v28_6 =>
 pureA (extA v28_6 0) fun v29_7 =>
 pureA (extA v28_6 1) fun v30_8 =>
 pureA (binA .neq v24_5 v30_8) fun v33_9 =>
 guardA v33_9 false (fun K => K v23_4) fun v35_10 =>
 guardA v33_9 false (pureA (binPtrA .eql v35_10 (.pointer none))) fun v36_11 =>
 guardA v33_9 false (fun K => K v29_7) fun v37_12 =>
 guardA v33_9 false (pureA (binPtrA .eql v37_12 (.pointer none))) fun v38_13 =>
 guardA v33_9 false (pureA (binBoolA .neq v36_11 v38_13)) fun v39_14 =>
 pickA v33_9 (.bool true) v39_14 fun v40_15 =>
 condA v40_15 (
 retA [(.bool false)] R) (
 pureA (binPtrA .eql v29_7 (.pointer none)) fun v42_16 =>
 condA v42_16 (
 retA [(.bool true)] R) (
 deduplaw13_PackForks_E1 P w0 (fun y3_33 y8_34 y9_35 y11_36 =>
 callA P w0 n_pack_Pack_Fork [y9_35] fun v66_37 =>
 callA P w0 n_dedupref13_Pack_Fork [y11_36] fun v68_38 =>
 pureA (binPtrA .eql v66_37 (.pointer none)) fun v70_39 =>
 condA v70_39 (
 retA [(.bool false)] R) (
 deduplaw13_PackForks_E2 P w0 (fun y8_73 y9_74 y11_75 y14_76 y15_77 =>
 callA P w0 n_pack_Pack_Image [y9_74] fun v112_78 =>
 callA P w0 n_dedupref13_Pack_Image [y11_75] fun v114_79 =>
 callA P w0 n_deduplaw13_sameBytes [v112_78, v114_79] fun v115_80 =>
 guardA v115_80 true (fun K => K y14_76) fun v117_81 =>
 guardA v115_80 true (callA P w0 n_pack_Pack_Image [v117_81]) fun v118_82 =>
 guardA v115_80 true (fun K => K y15_77) fun v119_83 =>
 guardA v115_80 true (callA P w0 n_dedupref13_Pack_Image [v119_83]) fun v120_84 =>
 guardA v115_80 true (callA P w0 n_deduplaw13_sameBytes [v118_82, v120_84]) fun v121_85 =>
 pickA v115_80 v121_85 (.bool false) fun v122_86 =>
 guardA v122_86 true (fun K => K y9_74) fun v124_87 =>
 guardA v122_86 true (callA P w0 n_pack_Pack_Take [v124_87]) fun v125_88 =>
 guardA v122_86 true (fun K => K y11_75) fun v126_89 =>
 guardA v122_86 true (callA P w0 n_dedupref13_Pack_Take [v126_89]) fun v127_90 =>
 guardA v122_86 true (callA P w0 n_deduplaw13_sectors [v125_88, v127_90]) fun v128_91 =>
 pickA v122_86 v128_91 (.bool false) fun v129_92 =>
 guardA v129_92 true (fun K => K y14_76) fun v131_93 =>
 guardA v129_92 true (callA P w0 n_pack_Pack_Take [v131_93]) fun v132_94 =>
 guardA v129_92 true (fun K => K y15_77) fun v133_95 =>
 guardA v129_92 true (callA P w0 n_dedupref13_Pack_Take [v133_95]) fun v134_96 =>
 guardA v129_92 true (callA P w0 n_deduplaw13_sectors [v132_94, v134_96]) fun v135_97 =>
 pickA v129_92 v135_97 (.bool false) fun v136_98 =>
 retA [v136_98] R) (fun y8_99 y9_100 y11_101 y14_102 y15_103 =>
 retA [y8_99] R) y3_33 y8_34 y9_35 y11_36 v66_37 v68_38 (.int .i64 0))) (fun y3_104 y8_105 y9_106 y11_107 =>
 retA [y8_105] R) a2 a3 (.bool false) v23_4 v29_7 (.int .i64 0))))
theorem deduplaw13_PackForks_L2_eq (w0 : World) (k2 : Value → Value → Value → Value → Value → Hp → Prop) (kr : Value → Value → Value → Value → Value → Hp → Prop) : ∀ (m : Nat) (x3 x8 x9 x11 x14 x15 x16 : Value) (h : Hp), loopA (stepL ⟨prog, w0, 137, ks_deduplaw13_PackForks⟩ (drw w0 137) (loopAt fn_deduplaw13_PackForks 1)) m (mkFr [(3, x3), (8, x8), (9, x9), (11, x11), (14, x14), (15, x15), (16, x16)]) [fun t => k2 (t 8) (t 9) (t 11) (t 14) (t 15), fun t => kr (t 8) (t 9) (t 11) (t 14) (t 15)] h = deduplaw13_PackForks_L2 prog w0 k2 kr m x3 x8 x9 x11 x14 x15 x16 h := by
  intro m
  induction m with
  | zero => intros; kernel_rfl
  | succ m ih =>
    intro x3 x8 x9 x11 x14 x15 x16 h
    have e : deduplaw13_PackForks_L2 prog w0 k2 kr m = fun x3 x8 x9 x11 x14 x15 x16 h => loopA (stepL ⟨prog, w0, 137, ks_deduplaw13_PackForks⟩ (drw w0 137) (loopAt fn_deduplaw13_PackForks 1)) m (mkFr [(3, x3), (8, x8), (9, x9), (11, x11), (14, x14), (15, x15), (16, x16)]) [fun t => k2 (t 8) (t 9) (t 11) (t 14) (t 15), fun t => kr (t 8) (t 9) (t 11) (t 14) (t 15)] h := by funext x3 x8 x9 x11 x14 x15 x16 h; exact (ih x3 x8 x9 x11 x14 x15 x16 h).symm
    show _ = deduplaw13_PackForks_B2 prog w0 (deduplaw13_PackForks_L2 prog w0 k2 kr m) k2 kr x3 x8 x9 x11 x14 x15 x16 h
    rw [e]
    kernel_rfl
theorem deduplaw13_PackForks_E2_eq (w0 : World) : deduplaw13_PackForks_E2 prog w0 = fun k2 kr x3 x8 x9 x11 x14 x15 x16 h => ∃ m, loopA (stepL ⟨prog, w0, 137, ks_deduplaw13_PackForks⟩ (drw w0 137) (loopAt fn_deduplaw13_PackForks 1)) m (mkFr [(3, x3), (8, x8), (9, x9), (11, x11), (14, x14), (15, x15), (16, x16)]) [fun t => k2 (t 8) (t 9) (t 11) (t 14) (t 15), fun t => kr (t 8) (t 9) (t 11) (t 14) (t 15)] h := by
  funext k2 kr x3 x8 x9 x11 x14 x15 x16 h
  exact congrArg Exists (funext fun m => (deduplaw13_PackForks_L2_eq w0 k2 kr m x3 x8 x9 x11 x14 x15 x16 h).symm)
theorem deduplaw13_PackForks_L1_eq (w0 : World) (k0 : Value → Value → Value → Value → Hp → Prop) (kr : Value → Value → Value → Value → Hp → Prop) : ∀ (m : Nat) (x2 x3 x8 x9 x11 x13 : Value) (h : Hp), loopA (stepL ⟨prog, w0, 137, ks_deduplaw13_PackForks⟩ (drw w0 137) (loopAt fn_deduplaw13_PackForks 0)) m (mkFr [(2, x2), (3, x3), (8, x8), (9, x9), (11, x11), (13, x13)]) [fun t => k0 (t 3) (t 8) (t 9) (t 11), fun t => kr (t 3) (t 8) (t 9) (t 11)] h = deduplaw13_PackForks_L1 prog w0 k0 kr m x2 x3 x8 x9 x11 x13 h := by
  intro m
  induction m with
  | zero => intros; kernel_rfl
  | succ m ih =>
    intro x2 x3 x8 x9 x11 x13 h
    have e : deduplaw13_PackForks_L1 prog w0 k0 kr m = fun x2 x3 x8 x9 x11 x13 h => loopA (stepL ⟨prog, w0, 137, ks_deduplaw13_PackForks⟩ (drw w0 137) (loopAt fn_deduplaw13_PackForks 0)) m (mkFr [(2, x2), (3, x3), (8, x8), (9, x9), (11, x11), (13, x13)]) [fun t => k0 (t 3) (t 8) (t 9) (t 11), fun t => kr (t 3) (t 8) (t 9) (t 11)] h := by funext x2 x3 x8 x9 x11 x13 h; exact (ih x2 x3 x8 x9 x11 x13 h).symm
    show _ = deduplaw13_PackForks_B1 prog w0 (deduplaw13_PackForks_L1 prog w0 k0 kr m) k0 kr x2 x3 x8 x9 x11 x13 h
    rw [e]
    kernel_rfl
theorem deduplaw13_PackForks_E1_eq (w0 : World) : deduplaw13_PackForks_E1 prog w0 = fun k0 kr x2 x3 x8 x9 x11 x13 h => ∃ m, loopA (stepL ⟨prog, w0, 137, ks_deduplaw13_PackForks⟩ (drw w0 137) (loopAt fn_deduplaw13_PackForks 0)) m (mkFr [(2, x2), (3, x3), (8, x8), (9, x9), (11, x11), (13, x13)]) [fun t => k0 (t 3) (t 8) (t 9) (t 11), fun t => kr (t 3) (t 8) (t 9) (t 11)] h := by
  funext k0 kr x2 x3 x8 x9 x11 x13 h
  exact congrArg Exists (funext fun m => (deduplaw13_PackForks_L1_eq w0 k0 kr m x2 x3 x8 x9 x11 x13 h).symm)
theorem c_deduplaw13_PackForks {w0 : World} {h : Hp} {R : Kont} {a0 a1 a2 a3 : Value} (hj : ∀ v, v ∈ [a0, a1, a2, a3] → v ≠ junk) (hv : s_deduplaw13_PackForks prog w0 a0 a1 a2 a3 R h) : ACalls prog w0 n_deduplaw13_PackForks [a0, a1, a2, a3] h R := by
  have e : vcFn ⟨prog, w0, 137, ks_deduplaw13_PackForks⟩ (drw w0 137) fn_deduplaw13_PackForks [a0, a1, a2, a3] R h = s_deduplaw13_PackForks prog w0 a0 a1 a2 a3 R h := by
    unfold s_deduplaw13_PackForks
    rw [deduplaw13_PackForks_E1_eq w0, deduplaw13_PackForks_E2_eq w0]
    kernel_rfl
  exact acalls_of_eq (fn := fn_deduplaw13_PackForks) (ks := ks_deduplaw13_PackForks) (n := 137) (by kernel_rfl) (by kernel_rfl) (draw_ok (by kernel_rfl)) (by simp) hj e hv

abbrev fn_deduplaw13_PackBack : Func := f8
def ks_deduplaw13_PackBack : List (Nat × List Nat × List Nat) := [(11, [0, 1, 2, 3, 8, 9, 11, 12, 13, 14, 15], [0, 1, 2, 8, 9, 11, 12, 13, 14]), (31, [8, 9, 11, 12, 13, 21], [8])]
def deduplaw13_PackBack_B1 (P : Program) (w0 : World) (R : Value → Value → Value → Value → Value → Value → Value → Value → Value → Value → Value → Hp → Prop) (k0 : Value → Value → Value → Value → Value → Value → Value → Value → Value → Hp → Prop) (kr : Value → Value → Value → Value → Value → Value → Value → Value → Value → Hp → Prop) (x0 x1 x2 x3 x8 x9 x11 x12 x13 x14 x15 : Value) : Hp → Prop :=
 pureA (lenSl x3) fun v45_10 =>
 pureA (binA .lss x15 v45_10) fun v46_11 =>
 condA v46_11 (
 idxSlA 5 x3 x15 fun v51_12 =>
 addA v51_12 0 fun v52_13 =>
 loadA w0 v52_13 fun v53_14 =>
 pureA (binA .eql v53_14 (.int .i64 1)) fun v55_15 =>
 condA v55_15 (
 idxSlA 5 x3 x15 fun v60_16 =>
 addA v60_16 2 fun v61_17 =>
 loadA w0 v61_17 fun v62_18 =>
 callA P w0 n_pack_Pack_Append [x9, v62_18] fun v63_19 =>
 pureA (extA v63_19 0) fun v64_20 =>
 pureA (extA v63_19 1) fun v65_21 =>
 newA [(.int .i64 0), (.int .i64 0)] 2 fun v16_22 =>
 storeNA w0 v16_22 v64_20 2 fun _ =>
 pureA (binA .eql v65_21 (.int .i64 0)) fun v67_23 =>
 condA v67_23 (
 loadNA w0 v16_22 2 fun v69_24 =>
 bslA [(0, 2, true, v69_24)] (zerosL [(.int .i64 0), (.int .i64 0)] 1) 1 2 fun v70_25 =>
 appA w0 2 16 x12 v70_25 fun v71_26 =>
 idxSlA 5 x3 x15 fun v75_27 =>
 addA v75_27 2 fun v76_28 =>
 loadA w0 v76_28 fun v77_29 =>
 bslA [(0, 1, false, v77_29)] (zerosL [(.slice none 0 0)] 1) 1 1 fun v78_30 =>
 appA w0 1 24 x13 v78_30 fun v79_31 =>
 pureA (binA .add x15 (.int .i64 1)) fun v48_32 =>
 R x0 x1 x2 x3 x8 x9 x11 v71_26 v79_31 x14 v48_32) (
 pureA (binA .add x15 (.int .i64 1)) fun v48_33 =>
 R x0 x1 x2 x3 x8 x9 x11 x12 x13 x14 v48_33)) (
 pureA (binA .eql v53_14 (.int .i64 3)) fun v81_34 =>
 condA v81_34 (
 callA P w0 n_pack_Pack_Take [x9] fun v85_35 =>
 callA P w0 n_deduplaw13_laid [x11, x0, v85_35] fun v86_36 =>
 pureA (unA .not v86_36) fun v87_37 =>
 condA v87_37 (
 kr x0 x1 x2 (.bool false) x9 x11 x12 x13 x14) (
 pureA (binA .add x15 (.int .i64 1)) fun v48_38 =>
 R x0 x1 x2 x3 x8 x9 x11 x12 x13 x14 v48_38)) (
 pureA (binA .eql v53_14 (.int .i64 7)) fun v89_39 =>
 condA v89_39 (
 callA P w0 n_pack_Pack_Seal [x9] fun v91_40 =>
 pureA (binA .add x15 (.int .i64 1)) fun v48_41 =>
 R x0 x1 x2 x3 x8 x9 x11 x12 x13 (.bool true) v48_41) (
 pureA (binA .add x15 (.int .i64 1)) fun v48_42 =>
 R x0 x1 x2 x3 x8 x9 x11 x12 x13 x14 v48_42)))) (
 k0 x0 x1 x2 x8 x9 x11 x12 x13 x14)
def deduplaw13_PackBack_L1 (P : Program) (w0 : World) (k0 : Value → Value → Value → Value → Value → Value → Value → Value → Value → Hp → Prop) (kr : Value → Value → Value → Value → Value → Value → Value → Value → Value → Hp → Prop) : Nat → Value → Value → Value → Value → Value → Value → Value → Value → Value → Value → Value → Hp → Prop
  | 0, _, _, _, _, _, _, _, _, _, _, _ => fun _ => False
  | m + 1, x0, x1, x2, x3, x8, x9, x11, x12, x13, x14, x15 => deduplaw13_PackBack_B1 P w0 (deduplaw13_PackBack_L1 P w0 k0 kr m) k0 kr x0 x1 x2 x3 x8 x9 x11 x12 x13 x14 x15
def deduplaw13_PackBack_E1 (P : Program) (w0 : World) (k0 : Value → Value → Value → Value → Value → Value → Value → Value → Value → Hp → Prop) (kr : Value → Value → Value → Value → Value → Value → Value → Value → Value → Hp → Prop) (x0 x1 x2 x3 x8 x9 x11 x12 x13 x14 x15 : Value) : Hp → Prop := fun h => ∃ m, deduplaw13_PackBack_L1 P w0 k0 kr m x0 x1 x2 x3 x8 x9 x11 x12 x13 x14 x15 h
def deduplaw13_PackBack_B2 (P : Program) (w0 : World) (R : Value → Value → Value → Value → Value → Value → Hp → Prop) (k3 : Value → Hp → Prop) (kr : Value → Hp → Prop) (x8 x9 x11 x12 x13 x21 : Value) : Hp → Prop :=
 pureA (lenSl x12) fun v141_86 =>
 pureA (binA .lss x21 v141_86) fun v142_87 =>
 condA v142_87 (
 idxSlA 2 x12 x21 fun v149_88 =>
 loadNA w0 v149_88 2 fun v150_89 =>
 callA P w0 n_pack_Chunk [x11, v150_89] fun v151_90 =>
 pureA (extA v151_90 0) fun v152_91 =>
 pureA (extA v151_90 1) fun v153_92 =>
 idxSlA 2 x12 x21 fun v158_93 =>
 loadNA w0 v158_93 2 fun v159_94 =>
 callA P w0 n_pack_Pack_Read [x9, v159_94] fun v160_95 =>
 pureA (extA v160_95 0) fun v161_96 =>
 pureA (extA v160_95 1) fun v162_97 =>
 pureA (binA .neq v153_92 (.int .i64 0)) fun v164_98 =>
 guardA v164_98 false (fun K => K v162_97) fun v166_99 =>
 guardA v164_98 false (pureA (binA .neq v166_99 (.int .i64 0))) fun v167_100 =>
 pickA v164_98 (.bool true) v167_100 fun v168_101 =>
 guardA v168_101 false (fun K => K v152_91) fun v170_102 =>
 guardA v168_101 false (fun K => K x13) fun v171_103 =>
 guardA v168_101 false (fun K => K x21) fun v172_104 =>
 guardA v168_101 false (idxSlA 1 v171_103 v172_104) fun v173_105 =>
 guardA v168_101 false (loadA w0 v173_105) fun v174_106 =>
 guardA v168_101 false (callA P w0 n_deduplaw13_sameBytes [v170_102, v174_106]) fun v175_107 =>
 guardA v168_101 false (pureA (unA .not v175_107)) fun v176_108 =>
 pickA v168_101 (.bool true) v176_108 fun v177_109 =>
 guardA v177_109 false (fun K => K v161_96) fun v179_110 =>
 guardA v177_109 false (fun K => K x13) fun v180_111 =>
 guardA v177_109 false (fun K => K x21) fun v181_112 =>
 guardA v177_109 false (idxSlA 1 v180_111 v181_112) fun v182_113 =>
 guardA v177_109 false (loadA w0 v182_113) fun v183_114 =>
 guardA v177_109 false (callA P w0 n_deduplaw13_sameBytes [v179_110, v183_114]) fun v184_115 =>
 guardA v177_109 false (pureA (unA .not v184_115)) fun v185_116 =>
 pickA v177_109 (.bool true) v185_116 fun v186_117 =>
 condA v186_117 (
 kr (.bool false)) (
 pureA (binA .add x21 (.int .i64 1)) fun v144_118 =>
 R x8 x9 x11 x12 x13 v144_118)) (
 k3 x8)
def deduplaw13_PackBack_L2 (P : Program) (w0 : World) (k3 : Value → Hp → Prop) (kr : Value → Hp → Prop) : Nat → Value → Value → Value → Value → Value → Value → Hp → Prop
  | 0, _, _, _, _, _, _ => fun _ => False
  | m + 1, x8, x9, x11, x12, x13, x21 => deduplaw13_PackBack_B2 P w0 (deduplaw13_PackBack_L2 P w0 k3 kr m) k3 kr x8 x9 x11 x12 x13 x21
def deduplaw13_PackBack_E2 (P : Program) (w0 : World) (k3 : Value → Hp → Prop) (kr : Value → Hp → Prop) (x8 x9 x11 x12 x13 x21 : Value) : Hp → Prop := fun h => ∃ m, deduplaw13_PackBack_L2 P w0 k3 kr m x8 x9 x11 x12 x13 x21 h
def s_deduplaw13_PackBack (P : Program) (w0 : World) (a0 a1 a2 a3 : Value) (R : Kont) : Hp → Prop :=
 callA P w0 n_deduplaw13_lives [] fun v26_1 =>
 pureA (unA .not v26_1) fun v27_2 =>
 condA v27_2 (
 retA [(.bool false)] R) (
 callA P w0 n_pack_New [a0, a1, a2] fun v32_3 =>
 pureA (extA v32_3 0) fun v33_4 =>
 pureA (extA v32_3 1) fun v34_5 =>
 pureA (binA .neq v34_5 (.int .i64 0)) fun v36_6 =>
 condA v36_6 (
 pureA (binPtrA .eql v33_4 (.pointer none)) fun v38_7 =>
 retA [v38_7] R) (
 pureA (binA .mul a0 a1) fun v41_8 =>
 mkA 1 1 [(.int .u8 0)] v41_8 v41_8 fun v42_9 =>
 deduplaw13_PackBack_E1 P w0 (fun y0_43 y1_44 y2_45 y8_46 y9_47 y11_48 y12_49 y13_50 y14_51 =>
 callA P w0 n_pack_Pack_Take [y9_47] fun v95_52 =>
 callA P w0 n_deduplaw13_laid [y11_48, y0_43, v95_52] fun v96_53 =>
 pureA (unA .not v96_53) fun v97_54 =>
 guardA v97_54 false (fun K => K y11_48) fun v99_55 =>
 guardA v97_54 false (fun K => K y9_47) fun v100_56 =>
 guardA v97_54 false (callA P w0 n_pack_Pack_Image [v100_56]) fun v101_57 =>
 guardA v97_54 false (callA P w0 n_deduplaw13_sameBytes [v99_55, v101_57]) fun v102_58 =>
 guardA v97_54 false (pureA (unA .not v102_58)) fun v103_59 =>
 pickA v97_54 (.bool true) v103_59 fun v104_60 =>
 condA v104_60 (
 retA [(.bool false)] R) (
 callA P w0 n_pack_Scan [y0_43, y1_44, y11_48] fun v109_61 =>
 pureA (extA v109_61 0) fun v110_62 =>
 pureA (extA v109_61 1) fun v111_63 =>
 pureA (extA v109_61 2) fun v112_64 =>
 pureA (extA v109_61 3) fun v113_65 =>
 pureA (binA .neq v113_65 (.int .i64 0)) fun v115_66 =>
 guardA v115_66 false (fun K => K v110_62) fun v117_67 =>
 guardA v115_66 false (fun K => K y2_45) fun v118_68 =>
 guardA v115_66 false (pureA (binA .neq v117_67 v118_68)) fun v119_69 =>
 pickA v115_66 (.bool true) v119_69 fun v120_70 =>
 guardA v120_70 false (fun K => K v111_63) fun v122_71 =>
 guardA v120_70 false (fun K => K y12_49) fun v123_72 =>
 guardA v120_70 false (callA P w0 n_deduplaw13_sameSlots [v122_71, v123_72]) fun v124_73 =>
 guardA v120_70 false (pureA (unA .not v124_73)) fun v125_74 =>
 pickA v120_70 (.bool true) v125_74 fun v126_75 =>
 guardA v126_75 false (fun K => K v112_64) fun v128_76 =>
 guardA v126_75 false (fun K => K y14_51) fun v129_77 =>
 guardA v126_75 false (pureA (binBoolA .neq v128_76 v129_77)) fun v130_78 =>
 pickA v126_75 (.bool true) v130_78 fun v131_79 =>
 guardA v131_79 false (fun K => K y9_47) fun v133_80 =>
 guardA v131_79 false (callA P w0 n_pack_Pack_Slots [v133_80]) fun v134_81 =>
 guardA v131_79 false (fun K => K y12_49) fun v135_82 =>
 guardA v131_79 false (callA P w0 n_deduplaw13_sameSlots [v134_81, v135_82]) fun v136_83 =>
 guardA v131_79 false (pureA (unA .not v136_83)) fun v137_84 =>
 pickA v131_79 (.bool true) v137_84 fun v138_85 =>
 condA v138_85 (
 retA [(.bool false)] R) (
 deduplaw13_PackBack_E2 P w0 (fun y8_119 =>
 retA [(.bool true)] R) (fun y8_120 =>
 retA [y8_120] R) y8_46 y9_47 y11_48 y12_49 y13_50 (.int .i64 0)))) (fun y0_121 y1_122 y2_123 y8_124 y9_125 y11_126 y12_127 y13_128 y14_129 =>
 retA [y8_124] R) a0 a1 a2 a3 (.bool false) v33_4 v42_9 (.slice none 0 0) (.slice none 0 0) (.bool false) (.int .i64 0)))
theorem deduplaw13_PackBack_L2_eq (w0 : World) (k3 : Value → Hp → Prop) (kr : Value → Hp → Prop) : ∀ (m : Nat) (x8 x9 x11 x12 x13 x21 : Value) (h : Hp), loopA (stepL ⟨prog, w0, 187, ks_deduplaw13_PackBack⟩ (drw w0 187) (loopAt fn_deduplaw13_PackBack 1)) m (mkFr [(8, x8), (9, x9), (11, x11), (12, x12), (13, x13), (21, x21)]) [fun t => k3 (t 8), fun t => kr (t 8)] h = deduplaw13_PackBack_L2 prog w0 k3 kr m x8 x9 x11 x12 x13 x21 h := by
  intro m
  induction m with
  | zero => intros; kernel_rfl
  | succ m ih =>
    intro x8 x9 x11 x12 x13 x21 h
    have e : deduplaw13_PackBack_L2 prog w0 k3 kr m = fun x8 x9 x11 x12 x13 x21 h => loopA (stepL ⟨prog, w0, 187, ks_deduplaw13_PackBack⟩ (drw w0 187) (loopAt fn_deduplaw13_PackBack 1)) m (mkFr [(8, x8), (9, x9), (11, x11), (12, x12), (13, x13), (21, x21)]) [fun t => k3 (t 8), fun t => kr (t 8)] h := by funext x8 x9 x11 x12 x13 x21 h; exact (ih x8 x9 x11 x12 x13 x21 h).symm
    show _ = deduplaw13_PackBack_B2 prog w0 (deduplaw13_PackBack_L2 prog w0 k3 kr m) k3 kr x8 x9 x11 x12 x13 x21 h
    rw [e]
    kernel_rfl
theorem deduplaw13_PackBack_E2_eq (w0 : World) : deduplaw13_PackBack_E2 prog w0 = fun k3 kr x8 x9 x11 x12 x13 x21 h => ∃ m, loopA (stepL ⟨prog, w0, 187, ks_deduplaw13_PackBack⟩ (drw w0 187) (loopAt fn_deduplaw13_PackBack 1)) m (mkFr [(8, x8), (9, x9), (11, x11), (12, x12), (13, x13), (21, x21)]) [fun t => k3 (t 8), fun t => kr (t 8)] h := by
  funext k3 kr x8 x9 x11 x12 x13 x21 h
  exact congrArg Exists (funext fun m => (deduplaw13_PackBack_L2_eq w0 k3 kr m x8 x9 x11 x12 x13 x21 h).symm)
theorem deduplaw13_PackBack_L1_eq (w0 : World) (k0 : Value → Value → Value → Value → Value → Value → Value → Value → Value → Hp → Prop) (kr : Value → Value → Value → Value → Value → Value → Value → Value → Value → Hp → Prop) : ∀ (m : Nat) (x0 x1 x2 x3 x8 x9 x11 x12 x13 x14 x15 : Value) (h : Hp), loopA (stepL ⟨prog, w0, 187, ks_deduplaw13_PackBack⟩ (drw w0 187) (loopAt fn_deduplaw13_PackBack 0)) m (mkFr [(0, x0), (1, x1), (2, x2), (3, x3), (8, x8), (9, x9), (11, x11), (12, x12), (13, x13), (14, x14), (15, x15)]) [fun t => k0 (t 0) (t 1) (t 2) (t 8) (t 9) (t 11) (t 12) (t 13) (t 14), fun t => kr (t 0) (t 1) (t 2) (t 8) (t 9) (t 11) (t 12) (t 13) (t 14)] h = deduplaw13_PackBack_L1 prog w0 k0 kr m x0 x1 x2 x3 x8 x9 x11 x12 x13 x14 x15 h := by
  intro m
  induction m with
  | zero => intros; kernel_rfl
  | succ m ih =>
    intro x0 x1 x2 x3 x8 x9 x11 x12 x13 x14 x15 h
    have e : deduplaw13_PackBack_L1 prog w0 k0 kr m = fun x0 x1 x2 x3 x8 x9 x11 x12 x13 x14 x15 h => loopA (stepL ⟨prog, w0, 187, ks_deduplaw13_PackBack⟩ (drw w0 187) (loopAt fn_deduplaw13_PackBack 0)) m (mkFr [(0, x0), (1, x1), (2, x2), (3, x3), (8, x8), (9, x9), (11, x11), (12, x12), (13, x13), (14, x14), (15, x15)]) [fun t => k0 (t 0) (t 1) (t 2) (t 8) (t 9) (t 11) (t 12) (t 13) (t 14), fun t => kr (t 0) (t 1) (t 2) (t 8) (t 9) (t 11) (t 12) (t 13) (t 14)] h := by funext x0 x1 x2 x3 x8 x9 x11 x12 x13 x14 x15 h; exact (ih x0 x1 x2 x3 x8 x9 x11 x12 x13 x14 x15 h).symm
    show _ = deduplaw13_PackBack_B1 prog w0 (deduplaw13_PackBack_L1 prog w0 k0 kr m) k0 kr x0 x1 x2 x3 x8 x9 x11 x12 x13 x14 x15 h
    rw [e]
    kernel_rfl
theorem deduplaw13_PackBack_E1_eq (w0 : World) : deduplaw13_PackBack_E1 prog w0 = fun k0 kr x0 x1 x2 x3 x8 x9 x11 x12 x13 x14 x15 h => ∃ m, loopA (stepL ⟨prog, w0, 187, ks_deduplaw13_PackBack⟩ (drw w0 187) (loopAt fn_deduplaw13_PackBack 0)) m (mkFr [(0, x0), (1, x1), (2, x2), (3, x3), (8, x8), (9, x9), (11, x11), (12, x12), (13, x13), (14, x14), (15, x15)]) [fun t => k0 (t 0) (t 1) (t 2) (t 8) (t 9) (t 11) (t 12) (t 13) (t 14), fun t => kr (t 0) (t 1) (t 2) (t 8) (t 9) (t 11) (t 12) (t 13) (t 14)] h := by
  funext k0 kr x0 x1 x2 x3 x8 x9 x11 x12 x13 x14 x15 h
  exact congrArg Exists (funext fun m => (deduplaw13_PackBack_L1_eq w0 k0 kr m x0 x1 x2 x3 x8 x9 x11 x12 x13 x14 x15 h).symm)
theorem c_deduplaw13_PackBack {w0 : World} {h : Hp} {R : Kont} {a0 a1 a2 a3 : Value} (hj : ∀ v, v ∈ [a0, a1, a2, a3] → v ≠ junk) (hv : s_deduplaw13_PackBack prog w0 a0 a1 a2 a3 R h) : ACalls prog w0 n_deduplaw13_PackBack [a0, a1, a2, a3] h R := by
  have e : vcFn ⟨prog, w0, 187, ks_deduplaw13_PackBack⟩ (drw w0 187) fn_deduplaw13_PackBack [a0, a1, a2, a3] R h = s_deduplaw13_PackBack prog w0 a0 a1 a2 a3 R h := by
    unfold s_deduplaw13_PackBack
    rw [deduplaw13_PackBack_E1_eq w0, deduplaw13_PackBack_E2_eq w0]
    kernel_rfl
  exact acalls_of_eq (fn := fn_deduplaw13_PackBack) (ks := ks_deduplaw13_PackBack) (n := 187) (by kernel_rfl) (by kernel_rfl) (draw_ok (by kernel_rfl)) (by simp) hj e hv

abbrev fn_deduplaw13_lives : Func := f11
def ks_deduplaw13_lives : List (Nat × List Nat × List Nat) := []
def s_deduplaw13_lives (P : Program) (w0 : World) (R : Kont) : Hp → Prop :=
 callA P w0 n_pack_New [(.int .i64 512), (.int .i64 1), (.int .u32 7)] fun v7_1 =>
 pureA (extA v7_1 0) fun v8_2 =>
 pureA (extA v7_1 1) fun v9_3 =>
 pureA (binA .neq v9_3 (.int .i64 0)) fun v11_4 =>
 guardA v11_4 false (fun K => K v8_2) fun v13_5 =>
 guardA v11_4 false (pureA (binPtrA .eql v13_5 (.pointer none))) fun v14_6 =>
 pickA v11_4 (.bool true) v14_6 fun v15_7 =>
 guardA v15_7 false (fun K => K v8_2) fun v17_8 =>
 guardA v15_7 false (callA P w0 n_pack_Pack_Left [v17_8]) fun v18_9 =>
 guardA v15_7 false (pureA (binA .neq v18_9 (.int .i64 472))) fun v19_10 =>
 pickA v15_7 (.bool true) v19_10 fun v20_11 =>
 condA v20_11 (
 retA [(.bool false)] R) (
 bslA [(0, 1, false, (.int .u8 97)), (1, 1, false, (.int .u8 98)), (2, 1, false, (.int .u8 99))] (zerosL [(.int .u8 0)] 3) 3 1 fun v23_12 =>
 sl2slA w0 v23_12 fun v24_13 =>
 callA P w0 n_pack_Pack_Append [v8_2, v24_13] fun v25_14 =>
 pureA (extA v25_14 0) fun v26_15 =>
 pureA (extA v25_14 1) fun v27_16 =>
 newA [(.int .i64 0), (.int .i64 0)] 2 fun v3_17 =>
 storeNA w0 v3_17 v26_15 2 fun _ =>
 loadNA w0 v3_17 2 fun v30_18 =>
 callA P w0 n_pack_Pack_Read [v8_2, v30_18] fun v31_19 =>
 pureA (extA v31_19 0) fun v32_20 =>
 pureA (extA v31_19 1) fun v33_21 =>
 pureA (binA .eql v27_16 (.int .i64 0)) fun v35_22 =>
 guardA v35_22 true (loadNA w0 v3_17 2) fun v37_23 =>
 guardA v35_22 true (buildA [(0, 1, false, (.int .i64 24)), (1, 1, false, (.int .i64 3))] [(.int .i64 0), (.int .i64 0)]) fun v38_24 =>
 guardA v35_22 true (eqStA P .eql 24 v37_23 v38_24) fun v39_25 =>
 pickA v35_22 v39_25 (.bool false) fun v40_26 =>
 guardA v40_26 true (fun K => K v33_21) fun v42_27 =>
 guardA v40_26 true (pureA (binA .eql v42_27 (.int .i64 0))) fun v43_28 =>
 pickA v40_26 v43_28 (.bool false) fun v44_29 =>
 guardA v44_29 true (fun K => K v32_20) fun v46_30 =>
 guardA v44_29 true (b2sA w0 v46_30) fun v47_31 =>
 guardA v44_29 true (pureA (binA .eql v47_31 (.string ⟨#[97, 98, 99]⟩))) fun v48_32 =>
 pickA v44_29 v48_32 (.bool false) fun v49_33 =>
 guardA v49_33 true (fun K => K v8_2) fun v51_34 =>
 guardA v49_33 true (callA P w0 n_pack_Pack_Left [v51_34]) fun v52_35 =>
 guardA v49_33 true (pureA (binA .eql v52_35 (.int .i64 461))) fun v53_36 =>
 pickA v49_33 v53_36 (.bool false) fun v54_37 =>
 retA [v54_37] R)
theorem c_deduplaw13_lives {w0 : World} {h : Hp} {R : Kont} (hj : ∀ v, v ∈ [] → v ≠ junk) (hv : s_deduplaw13_lives prog w0  R h) : ACalls prog w0 n_deduplaw13_lives [] h R := by
  have e : vcFn ⟨prog, w0, 55, ks_deduplaw13_lives⟩ (drw w0 55) fn_deduplaw13_lives [] R h = s_deduplaw13_lives prog w0  R h := by
    kernel_rfl
  exact acalls_of_eq (fn := fn_deduplaw13_lives) (ks := ks_deduplaw13_lives) (n := 55) (by kernel_rfl) (by kernel_rfl) (draw_ok (by kernel_rfl)) (by simp) hj e hv

abbrev fn_deduplaw13_sameBytes : Func := f12
def ks_deduplaw13_sameBytes : List (Nat × List Nat × List Nat) := [(4, [0, 1, 4, 5], [4])]
def deduplaw13_sameBytes_B1 (P : Program) (w0 : World) (R : Value → Value → Value → Value → Hp → Prop) (k0 : Value → Hp → Prop) (kr : Value → Hp → Prop) (x0 x1 x4 x5 : Value) : Hp → Prop :=
 pureA (lenSl x0) fun v13_4 =>
 pureA (binA .lss x5 v13_4) fun v14_5 =>
 condA v14_5 (
 pureQ (fun K => K x0) fun v17_6 =>
 pureQ (fun K => K x5) fun v18_7 =>
 pureQ (idxSlA 1 v17_6 v18_7) fun v19_8 =>
 readQ (loadA w0 v19_8) fun v20_9 =>
 pureQ (fun K => K x1) fun v21_10 =>
 pureQ (fun K => K x5) fun v22_11 =>
 pureQ (idxSlA 1 v21_10 v22_11) fun v23_12 =>
 readQ (loadA w0 v23_12) fun v24_13 =>
 pureQ (pureA (binA .neq v20_9 v24_13)) fun v25_14 =>
 endA (
 condA v25_14 (
 kr (.bool false)) (
 pureA (binA .add x5 (.int .i64 1)) fun v16_15 =>
 R x0 x1 x4 v16_15))) (
 k0 x4)
def deduplaw13_sameBytes_L1 (P : Program) (w0 : World) (k0 : Value → Hp → Prop) (kr : Value → Hp → Prop) : Nat → Value → Value → Value → Value → Hp → Prop
  | 0, _, _, _, _ => fun _ => False
  | m + 1, x0, x1, x4, x5 => deduplaw13_sameBytes_B1 P w0 (deduplaw13_sameBytes_L1 P w0 k0 kr m) k0 kr x0 x1 x4 x5
def deduplaw13_sameBytes_E1 (P : Program) (w0 : World) (k0 : Value → Hp → Prop) (kr : Value → Hp → Prop) (x0 x1 x4 x5 : Value) : Hp → Prop := fun h => ∃ m, deduplaw13_sameBytes_L1 P w0 k0 kr m x0 x1 x4 x5 h
def s_deduplaw13_sameBytes (P : Program) (w0 : World) (a0 a1 : Value) (R : Kont) : Hp → Prop :=
 pureA (lenSl a0) fun v7_1 =>
 pureA (lenSl a1) fun v9_2 =>
 pureA (binA .neq v7_1 v9_2) fun v10_3 =>
 condA v10_3 (
 retA [(.bool false)] R) (
 deduplaw13_sameBytes_E1 P w0 (fun y4_16 =>
 retA [(.bool true)] R) (fun y4_17 =>
 retA [y4_17] R) a0 a1 (.bool false) (.int .i64 0))
theorem deduplaw13_sameBytes_L1_eq (w0 : World) (k0 : Value → Hp → Prop) (kr : Value → Hp → Prop) : ∀ (m : Nat) (x0 x1 x4 x5 : Value) (h : Hp), loopA (stepL ⟨prog, w0, 26, ks_deduplaw13_sameBytes⟩ (drw w0 26) (loopAt fn_deduplaw13_sameBytes 0)) m (mkFr [(0, x0), (1, x1), (4, x4), (5, x5)]) [fun t => k0 (t 4), fun t => kr (t 4)] h = deduplaw13_sameBytes_L1 prog w0 k0 kr m x0 x1 x4 x5 h := by
  intro m
  induction m with
  | zero => intros; kernel_rfl
  | succ m ih =>
    intro x0 x1 x4 x5 h
    have e : deduplaw13_sameBytes_L1 prog w0 k0 kr m = fun x0 x1 x4 x5 h => loopA (stepL ⟨prog, w0, 26, ks_deduplaw13_sameBytes⟩ (drw w0 26) (loopAt fn_deduplaw13_sameBytes 0)) m (mkFr [(0, x0), (1, x1), (4, x4), (5, x5)]) [fun t => k0 (t 4), fun t => kr (t 4)] h := by funext x0 x1 x4 x5 h; exact (ih x0 x1 x4 x5 h).symm
    show _ = deduplaw13_sameBytes_B1 prog w0 (deduplaw13_sameBytes_L1 prog w0 k0 kr m) k0 kr x0 x1 x4 x5 h
    rw [e]
    kernel_rfl
theorem deduplaw13_sameBytes_E1_eq (w0 : World) : deduplaw13_sameBytes_E1 prog w0 = fun k0 kr x0 x1 x4 x5 h => ∃ m, loopA (stepL ⟨prog, w0, 26, ks_deduplaw13_sameBytes⟩ (drw w0 26) (loopAt fn_deduplaw13_sameBytes 0)) m (mkFr [(0, x0), (1, x1), (4, x4), (5, x5)]) [fun t => k0 (t 4), fun t => kr (t 4)] h := by
  funext k0 kr x0 x1 x4 x5 h
  exact congrArg Exists (funext fun m => (deduplaw13_sameBytes_L1_eq w0 k0 kr m x0 x1 x4 x5 h).symm)
theorem c_deduplaw13_sameBytes {w0 : World} {h : Hp} {R : Kont} {a0 a1 : Value} (hj : ∀ v, v ∈ [a0, a1] → v ≠ junk) (hv : s_deduplaw13_sameBytes prog w0 a0 a1 R h) : ACalls prog w0 n_deduplaw13_sameBytes [a0, a1] h R := by
  have e : vcFn ⟨prog, w0, 26, ks_deduplaw13_sameBytes⟩ (drw w0 26) fn_deduplaw13_sameBytes [a0, a1] R h = s_deduplaw13_sameBytes prog w0 a0 a1 R h := by
    unfold s_deduplaw13_sameBytes
    rw [deduplaw13_sameBytes_E1_eq w0]
    kernel_rfl
  exact acalls_of_eq (fn := fn_deduplaw13_sameBytes) (ks := ks_deduplaw13_sameBytes) (n := 26) (by kernel_rfl) (by kernel_rfl) (draw_ok (by kernel_rfl)) (by simp) hj e hv

abbrev fn_deduplaw13_sameSlots : Func := f15
def ks_deduplaw13_sameSlots : List (Nat × List Nat × List Nat) := [(4, [0, 1, 4, 5], [4])]
def deduplaw13_sameSlots_B1 (P : Program) (w0 : World) (R : Value → Value → Value → Value → Hp → Prop) (k0 : Value → Hp → Prop) (kr : Value → Hp → Prop) (x0 x1 x4 x5 : Value) : Hp → Prop :=
 pureA (lenSl x0) fun v13_4 =>
 pureA (binA .lss x5 v13_4) fun v14_5 =>
 condA v14_5 (
 pureQ (fun K => K x0) fun v17_6 =>
 pureQ (fun K => K x5) fun v18_7 =>
 pureQ (idxSlA 2 v17_6 v18_7) fun v19_8 =>
 readQ (loadNA w0 v19_8 2) fun v20_9 =>
 pureQ (fun K => K x1) fun v21_10 =>
 pureQ (fun K => K x5) fun v22_11 =>
 pureQ (idxSlA 2 v21_10 v22_11) fun v23_12 =>
 readQ (loadNA w0 v23_12 2) fun v24_13 =>
 pureQ (eqStA P .neq 24 v20_9 v24_13) fun v25_14 =>
 endA (
 condA v25_14 (
 kr (.bool false)) (
 pureA (binA .add x5 (.int .i64 1)) fun v16_15 =>
 R x0 x1 x4 v16_15))) (
 k0 x4)
def deduplaw13_sameSlots_L1 (P : Program) (w0 : World) (k0 : Value → Hp → Prop) (kr : Value → Hp → Prop) : Nat → Value → Value → Value → Value → Hp → Prop
  | 0, _, _, _, _ => fun _ => False
  | m + 1, x0, x1, x4, x5 => deduplaw13_sameSlots_B1 P w0 (deduplaw13_sameSlots_L1 P w0 k0 kr m) k0 kr x0 x1 x4 x5
def deduplaw13_sameSlots_E1 (P : Program) (w0 : World) (k0 : Value → Hp → Prop) (kr : Value → Hp → Prop) (x0 x1 x4 x5 : Value) : Hp → Prop := fun h => ∃ m, deduplaw13_sameSlots_L1 P w0 k0 kr m x0 x1 x4 x5 h
def s_deduplaw13_sameSlots (P : Program) (w0 : World) (a0 a1 : Value) (R : Kont) : Hp → Prop :=
 pureA (lenSl a0) fun v7_1 =>
 pureA (lenSl a1) fun v9_2 =>
 pureA (binA .neq v7_1 v9_2) fun v10_3 =>
 condA v10_3 (
 retA [(.bool false)] R) (
 deduplaw13_sameSlots_E1 P w0 (fun y4_16 =>
 retA [(.bool true)] R) (fun y4_17 =>
 retA [y4_17] R) a0 a1 (.bool false) (.int .i64 0))
theorem deduplaw13_sameSlots_L1_eq (w0 : World) (k0 : Value → Hp → Prop) (kr : Value → Hp → Prop) : ∀ (m : Nat) (x0 x1 x4 x5 : Value) (h : Hp), loopA (stepL ⟨prog, w0, 26, ks_deduplaw13_sameSlots⟩ (drw w0 26) (loopAt fn_deduplaw13_sameSlots 0)) m (mkFr [(0, x0), (1, x1), (4, x4), (5, x5)]) [fun t => k0 (t 4), fun t => kr (t 4)] h = deduplaw13_sameSlots_L1 prog w0 k0 kr m x0 x1 x4 x5 h := by
  intro m
  induction m with
  | zero => intros; kernel_rfl
  | succ m ih =>
    intro x0 x1 x4 x5 h
    have e : deduplaw13_sameSlots_L1 prog w0 k0 kr m = fun x0 x1 x4 x5 h => loopA (stepL ⟨prog, w0, 26, ks_deduplaw13_sameSlots⟩ (drw w0 26) (loopAt fn_deduplaw13_sameSlots 0)) m (mkFr [(0, x0), (1, x1), (4, x4), (5, x5)]) [fun t => k0 (t 4), fun t => kr (t 4)] h := by funext x0 x1 x4 x5 h; exact (ih x0 x1 x4 x5 h).symm
    show _ = deduplaw13_sameSlots_B1 prog w0 (deduplaw13_sameSlots_L1 prog w0 k0 kr m) k0 kr x0 x1 x4 x5 h
    rw [e]
    kernel_rfl
theorem deduplaw13_sameSlots_E1_eq (w0 : World) : deduplaw13_sameSlots_E1 prog w0 = fun k0 kr x0 x1 x4 x5 h => ∃ m, loopA (stepL ⟨prog, w0, 26, ks_deduplaw13_sameSlots⟩ (drw w0 26) (loopAt fn_deduplaw13_sameSlots 0)) m (mkFr [(0, x0), (1, x1), (4, x4), (5, x5)]) [fun t => k0 (t 4), fun t => kr (t 4)] h := by
  funext k0 kr x0 x1 x4 x5 h
  exact congrArg Exists (funext fun m => (deduplaw13_sameSlots_L1_eq w0 k0 kr m x0 x1 x4 x5 h).symm)
theorem c_deduplaw13_sameSlots {w0 : World} {h : Hp} {R : Kont} {a0 a1 : Value} (hj : ∀ v, v ∈ [a0, a1] → v ≠ junk) (hv : s_deduplaw13_sameSlots prog w0 a0 a1 R h) : ACalls prog w0 n_deduplaw13_sameSlots [a0, a1] h R := by
  have e : vcFn ⟨prog, w0, 26, ks_deduplaw13_sameSlots⟩ (drw w0 26) fn_deduplaw13_sameSlots [a0, a1] R h = s_deduplaw13_sameSlots prog w0 a0 a1 R h := by
    unfold s_deduplaw13_sameSlots
    rw [deduplaw13_sameSlots_E1_eq w0]
    kernel_rfl
  exact acalls_of_eq (fn := fn_deduplaw13_sameSlots) (ks := ks_deduplaw13_sameSlots) (n := 26) (by kernel_rfl) (by kernel_rfl) (draw_ok (by kernel_rfl)) (by simp) hj e hv

abbrev fn_deduplaw13_step : Func := f22
def ks_deduplaw13_step : List (Nat × List Nat × List Nat) := [(9, [7, 12], []), (22, [13, 17, 18], [17])]
def deduplaw13_step_B1 (P : Program) (w0 : World) (R : Value → Value → Hp → Prop) (k1 : Hp → Prop) (x7 x12 : Value) : Hp → Prop :=
 pureA (lenSl x7) fun v57_32 =>
 pureA (binA .lss x12 v57_32) fun v58_33 =>
 condA v58_33 (
 idxSlA 1 x7 x12 fun v65_34 =>
 loadA w0 v65_34 fun v66_35 =>
 pureA (binA .add v66_35 (.int .u8 1)) fun v67_36 =>
 idxSlA 1 x7 x12 fun v68_37 =>
 storeA w0 v68_37 v67_36 fun _ =>
 pureA (binA .add x12 (.int .i64 1)) fun v60_38 =>
 R x7 v60_38) (
 k1)
def deduplaw13_step_L1 (P : Program) (w0 : World) (k1 : Hp → Prop) : Nat → Value → Value → Hp → Prop
  | 0, _, _ => fun _ => False
  | m + 1, x7, x12 => deduplaw13_step_B1 P w0 (deduplaw13_step_L1 P w0 k1 m) k1 x7 x12
def deduplaw13_step_E1 (P : Program) (w0 : World) (k1 : Hp → Prop) (x7 x12 : Value) : Hp → Prop := fun h => ∃ m, deduplaw13_step_L1 P w0 k1 m x7 x12 h
def deduplaw13_step_B2 (P : Program) (w0 : World) (R : Value → Value → Value → Hp → Prop) (k3 : Value → Hp → Prop) (x13 x17 x18 : Value) : Hp → Prop :=
 pureA (lenSl x13) fun v119_76 =>
 pureA (binA .lss x18 v119_76) fun v120_77 =>
 condA v120_77 (
 idxSlA 1 x13 x18 fun v127_78 =>
 loadA w0 v127_78 fun v128_79 =>
 pureA (binA .add v128_79 (.int .u8 1)) fun v129_80 =>
 idxSlA 1 x13 x18 fun v130_81 =>
 storeA w0 v130_81 v129_80 fun _ =>
 pureA (binA .add x18 (.int .i64 1)) fun v122_82 =>
 R x13 x17 v122_82) (
 k3 x17)
def deduplaw13_step_L2 (P : Program) (w0 : World) (k3 : Value → Hp → Prop) : Nat → Value → Value → Value → Hp → Prop
  | 0, _, _, _ => fun _ => False
  | m + 1, x13, x17, x18 => deduplaw13_step_B2 P w0 (deduplaw13_step_L2 P w0 k3 m) k3 x13 x17 x18
def deduplaw13_step_E2 (P : Program) (w0 : World) (k3 : Value → Hp → Prop) (x13 x17 x18 : Value) : Hp → Prop := fun h => ∃ m, deduplaw13_step_L2 P w0 k3 m x13 x17 x18 h
def s_deduplaw13_step (P : Program) (w0 : World) (a0 a1 a2 : Value) (R : Kont) : Hp → Prop :=
 boxA true 5 a2 fun v5_1 =>
 addA v5_1 0 fun v19_2 =>
 loadA w0 v19_2 fun v20_3 =>
 pureA (binA .eql v20_3 (.int .i64 1)) fun v22_4 =>
 condA v22_4 (
 bslA [] (zerosL [(.int .u8 0)] 0) 0 1 fun v23_5 =>
 addA v5_1 2 fun v24_6 =>
 loadA w0 v24_6 fun v25_7 =>
 appA w0 1 1 v23_5 v25_7 fun v26_8 =>
 callA P w0 n_pack_Pack_Append [a0, v26_8] fun v30_9 =>
 pureA (extA v30_9 0) fun v31_10 =>
 pureA (extA v30_9 1) fun v32_11 =>
 newA [(.int .i64 0), (.int .i64 0)] 2 fun v8_12 =>
 storeNA w0 v8_12 v31_10 2 fun _ =>
 addA v5_1 2 fun v35_13 =>
 loadA w0 v35_13 fun v36_14 =>
 callA P w0 n_dedupref13_Pack_Append [a1, v36_14] fun v37_15 =>
 pureA (extA v37_15 0) fun v38_16 =>
 pureA (extA v37_15 1) fun v39_17 =>
 newA [(.int .i64 0), (.int .i64 0)] 2 fun v10_18 =>
 storeNA w0 v10_18 v38_16 2 fun _ =>
 loadNA w0 v8_12 2 fun v40_19 =>
 loadNA w0 v10_18 2 fun v41_20 =>
 eqStA P .neq 24 v40_19 v41_20 fun v42_21 =>
 guardA v42_21 false (fun K => K v32_11) fun v44_22 =>
 guardA v42_21 false (fun K => K v39_17) fun v45_23 =>
 guardA v42_21 false (pureA (binA .neq v44_22 v45_23)) fun v46_24 =>
 pickA v42_21 (.bool true) v46_24 fun v47_25 =>
 guardA v47_25 false (fun K => K v26_8) fun v49_26 =>
 guardA v47_25 false (addA v5_1 2) fun v50_27 =>
 guardA v47_25 false (loadA w0 v50_27) fun v51_28 =>
 guardA v47_25 false (callA P w0 n_deduplaw13_sameBytes [v49_26, v51_28]) fun v52_29 =>
 guardA v47_25 false (pureA (unA .not v52_29)) fun v53_30 =>
 pickA v47_25 (.bool true) v53_30 fun v54_31 =>
 condA v54_31 (
 retA [(.bool false)] R) (
 deduplaw13_step_E1 P w0 (
 retA [(.bool true)] R) v26_8 (.int .i64 0))) (
 pureA (binA .eql v20_3 (.int .i64 2)) fun v70_39 =>
 condA v70_39 (
 pureQ (fun K => K a0) fun v71_40 =>
 pureQ (fun K => K a1) fun v73_41 =>
 allA [
 (callA P w0 n_pack_Pack_Left [v71_40] fun v72_42 =>
 stillA [] (
 allA [
 (callA P w0 n_dedupref13_Pack_Left [v73_41] fun v74_43 =>
 stillA [] (
 pureQ (pureA (binA .eql v72_42 v74_43)) fun v75_44 =>
 pureQ (fun K => K v75_44) fun v76_45 =>
 pureQ (guardA v76_45 true (fun K => K a0)) fun v77_46 =>
 pureQ (guardA v76_45 true (fun K => K a1)) fun v79_47 =>
 pureQ (guardA v76_45 true (nilA v79_47)) fun v80_48 =>
 pureQ (guardA v76_45 true (addA v80_48 3)) fun v81_49 =>
 readQ (guardA v76_45 true (loadA w0 v81_49)) fun v82_50 =>
 pureQ (guardA v76_45 true (pureA (lenSl v82_50))) fun v83_51 =>
 allA [
 (guardA v76_45 true (callA P w0 n_pack_Pack_Mark [v77_46]) fun v78_52 =>
 stillA [(sameQ (guardA v76_45 true (loadA w0 v81_49)) v82_50)] (
 pureQ (guardA v76_45 true (pureA (binA .eql v78_52 v83_51))) fun v84_53 =>
 pureQ (pickA v76_45 v84_53 (.bool false)) fun v85_54 =>
 pureQ (fun K => K v85_54) fun v6_55 =>
 endA (
 retA [v6_55] R)))]))]))]) (
 pureA (binA .eql v20_3 (.int .i64 3)) fun v87_56 =>
 condA v87_56 (
 callA P w0 n_pack_Pack_Take [a0] fun v89_57 =>
 callA P w0 n_dedupref13_Pack_Take [a1] fun v91_58 =>
 callA P w0 n_deduplaw13_sectors [v89_57, v91_58] fun v92_59 =>
 retA [v92_59] R) (
 pureA (binA .eql v20_3 (.int .i64 4)) fun v94_60 =>
 condA v94_60 (
 addA v5_1 3 fun v97_61 =>
 loadNA w0 v97_61 2 fun v98_62 =>
 callA P w0 n_pack_Pack_Read [a0, v98_62] fun v99_63 =>
 pureA (extA v99_63 0) fun v100_64 =>
 pureA (extA v99_63 1) fun v101_65 =>
 addA v5_1 3 fun v104_66 =>
 loadNA w0 v104_66 2 fun v105_67 =>
 callA P w0 n_dedupref13_Pack_Read [a1, v105_67] fun v106_68 =>
 pureA (extA v106_68 0) fun v107_69 =>
 pureA (extA v106_68 1) fun v108_70 =>
 pureA (binA .eql v101_65 v108_70) fun v111_71 =>
 guardA v111_71 true (fun K => K v100_64) fun v113_72 =>
 guardA v111_71 true (fun K => K v107_69) fun v114_73 =>
 guardA v111_71 true (callA P w0 n_deduplaw13_sameBytes [v113_72, v114_73]) fun v115_74 =>
 pickA v111_71 v115_74 (.bool false) fun v116_75 =>
 deduplaw13_step_E2 P w0 (fun y17_83 =>
 retA [y17_83] R) v100_64 v116_75 (.int .i64 0)) (
 pureA (binA .eql v20_3 (.int .i64 5)) fun v133_84 =>
 condA v133_84 (
 callA P w0 n_pack_Pack_Slots [a0] fun v135_85 =>
 callA P w0 n_dedupref13_Pack_Slots [a1] fun v137_86 =>
 callA P w0 n_deduplaw13_sameSlots [v135_85, v137_86] fun v138_87 =>
 retA [v138_87] R) (
 pureA (binA .eql v20_3 (.int .i64 7)) fun v140_88 =>
 condA v140_88 (
 callA P w0 n_pack_Pack_Seal [a0] fun v142_89 =>
 callA P w0 n_dedupref13_Pack_Seal [a1] fun v144_90 =>
 pureA (binA .eql v142_89 v144_90) fun v145_91 =>
 retA [v145_91] R) (
 pureA (binA .eql v20_3 (.int .i64 8)) fun v147_92 =>
 condA v147_92 (
 pureQ (fun K => K a0) fun v148_93 =>
 pureQ (addA v5_1 1) fun v149_94 =>
 readQ (loadA w0 v149_94) fun v150_95 =>
 pureQ (fun K => K a1) fun v152_96 =>
 pureQ (addA v5_1 1) fun v153_97 =>
 readQ (loadA w0 v153_97) fun v154_98 =>
 allA [
 (callA P w0 n_pack_Pack_Back [v148_93, v150_95] fun v151_99 =>
 stillA [(sameQ (loadA w0 v153_97) v154_98)] (
 allA [
 (callA P w0 n_dedupref13_Pack_Back [v152_96, v154_98] fun v155_100 =>
 stillA [] (
 pureQ (pureA (binA .eql v151_99 v155_100)) fun v156_101 =>
 pureQ (fun K => K v156_101) fun v6_102 =>
 endA (
 retA [v6_102] R)))]))]) (
 callA P w0 n_pack_Pack_Image [a0] fun v158_103 =>
 callA P w0 n_dedupref13_Pack_Image [a1] fun v160_104 =>
 callA P w0 n_deduplaw13_sameBytes [v158_103, v160_104] fun v161_105 =>
 retA [v161_105] R)))))))
theorem deduplaw13_step_L2_eq (w0 : World) (k3 : Value → Hp → Prop) : ∀ (m : Nat) (x13 x17 x18 : Value) (h : Hp), loopA (stepL ⟨prog, w0, 162, ks_deduplaw13_step⟩ (drw w0 162) (loopAt fn_deduplaw13_step 1)) m (mkFr [(13, x13), (17, x17), (18, x18)]) [fun t => k3 (t 17)] h = deduplaw13_step_L2 prog w0 k3 m x13 x17 x18 h := by
  intro m
  induction m with
  | zero => intros; kernel_rfl
  | succ m ih =>
    intro x13 x17 x18 h
    have e : deduplaw13_step_L2 prog w0 k3 m = fun x13 x17 x18 h => loopA (stepL ⟨prog, w0, 162, ks_deduplaw13_step⟩ (drw w0 162) (loopAt fn_deduplaw13_step 1)) m (mkFr [(13, x13), (17, x17), (18, x18)]) [fun t => k3 (t 17)] h := by funext x13 x17 x18 h; exact (ih x13 x17 x18 h).symm
    show _ = deduplaw13_step_B2 prog w0 (deduplaw13_step_L2 prog w0 k3 m) k3 x13 x17 x18 h
    rw [e]
    kernel_rfl
theorem deduplaw13_step_E2_eq (w0 : World) : deduplaw13_step_E2 prog w0 = fun k3 x13 x17 x18 h => ∃ m, loopA (stepL ⟨prog, w0, 162, ks_deduplaw13_step⟩ (drw w0 162) (loopAt fn_deduplaw13_step 1)) m (mkFr [(13, x13), (17, x17), (18, x18)]) [fun t => k3 (t 17)] h := by
  funext k3 x13 x17 x18 h
  exact congrArg Exists (funext fun m => (deduplaw13_step_L2_eq w0 k3 m x13 x17 x18 h).symm)
theorem deduplaw13_step_L1_eq (w0 : World) (k1 : Hp → Prop) : ∀ (m : Nat) (x7 x12 : Value) (h : Hp), loopA (stepL ⟨prog, w0, 162, ks_deduplaw13_step⟩ (drw w0 162) (loopAt fn_deduplaw13_step 0)) m (mkFr [(7, x7), (12, x12)]) [fun t => k1] h = deduplaw13_step_L1 prog w0 k1 m x7 x12 h := by
  intro m
  induction m with
  | zero => intros; kernel_rfl
  | succ m ih =>
    intro x7 x12 h
    have e : deduplaw13_step_L1 prog w0 k1 m = fun x7 x12 h => loopA (stepL ⟨prog, w0, 162, ks_deduplaw13_step⟩ (drw w0 162) (loopAt fn_deduplaw13_step 0)) m (mkFr [(7, x7), (12, x12)]) [fun t => k1] h := by funext x7 x12 h; exact (ih x7 x12 h).symm
    show _ = deduplaw13_step_B1 prog w0 (deduplaw13_step_L1 prog w0 k1 m) k1 x7 x12 h
    rw [e]
    kernel_rfl
theorem deduplaw13_step_E1_eq (w0 : World) : deduplaw13_step_E1 prog w0 = fun k1 x7 x12 h => ∃ m, loopA (stepL ⟨prog, w0, 162, ks_deduplaw13_step⟩ (drw w0 162) (loopAt fn_deduplaw13_step 0)) m (mkFr [(7, x7), (12, x12)]) [fun t => k1] h := by
  funext k1 x7 x12 h
  exact congrArg Exists (funext fun m => (deduplaw13_step_L1_eq w0 k1 m x7 x12 h).symm)
theorem c_deduplaw13_step {w0 : World} {h : Hp} {R : Kont} {a0 a1 a2 : Value} (hj : ∀ v, v ∈ [a0, a1, a2] → v ≠ junk) (hv : s_deduplaw13_step prog w0 a0 a1 a2 R h) : ACalls prog w0 n_deduplaw13_step [a0, a1, a2] h R := by
  have e : vcFn ⟨prog, w0, 162, ks_deduplaw13_step⟩ (drw w0 162) fn_deduplaw13_step [a0, a1, a2] R h = s_deduplaw13_step prog w0 a0 a1 a2 R h := by
    unfold s_deduplaw13_step
    rw [deduplaw13_step_E1_eq w0, deduplaw13_step_E2_eq w0]
    kernel_rfl
  exact acalls_of_eq (fn := fn_deduplaw13_step) (ks := ks_deduplaw13_step) (n := 162) (by kernel_rfl) (by kernel_rfl) (draw_ok (by kernel_rfl)) (by simp) hj e hv

abbrev fn_deduplaw13_sectors : Func := f27
def ks_deduplaw13_sectors : List (Nat × List Nat × List Nat) := [(4, [0, 1, 4, 5], [4]), (9, [0, 1, 4, 5, 6], [0, 1, 4, 5])]
def deduplaw13_sectors_B2 (P : Program) (w0 : World) (R : Value → Value → Value → Value → Value → Hp → Prop) (k2 : Value → Value → Value → Value → Hp → Prop) (x0 x1 x4 x5 x6 : Value) : Hp → Prop :=
 idxSlA 2 x0 x5 fun v46_31 =>
 addA v46_31 1 fun v47_32 =>
 loadA w0 v47_32 fun v48_33 =>
 pureA (lenSl v48_33) fun v49_34 =>
 pureA (binA .lss x6 v49_34) fun v50_35 =>
 condA v50_35 (
 idxSlA 2 x0 x5 fun v55_36 =>
 addA v55_36 1 fun v56_37 =>
 loadA w0 v56_37 fun v57_38 =>
 idxSlA 1 v57_38 x6 fun v59_39 =>
 storeA w0 v59_39 (.int .u8 9) fun _ =>
 pureA (binA .add x6 (.int .i64 1)) fun v52_40 =>
 R x0 x1 x4 x5 v52_40) (
 k2 x0 x1 x4 x5)
def deduplaw13_sectors_L2 (P : Program) (w0 : World) (k2 : Value → Value → Value → Value → Hp → Prop) : Nat → Value → Value → Value → Value → Value → Hp → Prop
  | 0, _, _, _, _, _ => fun _ => False
  | m + 1, x0, x1, x4, x5, x6 => deduplaw13_sectors_B2 P w0 (deduplaw13_sectors_L2 P w0 k2 m) k2 x0 x1 x4 x5 x6
def deduplaw13_sectors_E2 (P : Program) (w0 : World) (k2 : Value → Value → Value → Value → Hp → Prop) (x0 x1 x4 x5 x6 : Value) : Hp → Prop := fun h => ∃ m, deduplaw13_sectors_L2 P w0 k2 m x0 x1 x4 x5 x6 h
def deduplaw13_sectors_B1 (P : Program) (w0 : World) (R : Value → Value → Value → Value → Hp → Prop) (k0 : Value → Hp → Prop) (kr : Value → Hp → Prop) (x0 x1 x4 x5 : Value) : Hp → Prop :=
 pureA (lenSl x0) fun v14_4 =>
 pureA (binA .lss x5 v14_4) fun v15_5 =>
 condA v15_5 (
 pureQ (fun K => K x0) fun v18_6 =>
 pureQ (fun K => K x5) fun v19_7 =>
 pureQ (idxSlA 2 v18_6 v19_7) fun v20_8 =>
 pureQ (addA v20_8 0) fun v21_9 =>
 readQ (loadA w0 v21_9) fun v22_10 =>
 pureQ (fun K => K x1) fun v23_11 =>
 pureQ (fun K => K x5) fun v24_12 =>
 pureQ (idxSlA 2 v23_11 v24_12) fun v25_13 =>
 pureQ (addA v25_13 0) fun v26_14 =>
 readQ (loadA w0 v26_14) fun v27_15 =>
 pureQ (pureA (binA .neq v22_10 v27_15)) fun v28_16 =>
 pureQ (fun K => K v28_16) fun v29_17 =>
 pureQ (guardA v29_17 false (fun K => K x0)) fun v30_18 =>
 pureQ (guardA v29_17 false (fun K => K x5)) fun v31_19 =>
 pureQ (guardA v29_17 false (idxSlA 2 v30_18 v31_19)) fun v32_20 =>
 pureQ (guardA v29_17 false (addA v32_20 1)) fun v33_21 =>
 readQ (guardA v29_17 false (loadA w0 v33_21)) fun v34_22 =>
 pureQ (guardA v29_17 false (fun K => K x1)) fun v35_23 =>
 pureQ (guardA v29_17 false (fun K => K x5)) fun v36_24 =>
 pureQ (guardA v29_17 false (idxSlA 2 v35_23 v36_24)) fun v37_25 =>
 pureQ (guardA v29_17 false (addA v37_25 1)) fun v38_26 =>
 readQ (guardA v29_17 false (loadA w0 v38_26)) fun v39_27 =>
 allA [
 (guardA v29_17 false (callA P w0 n_deduplaw13_sameBytes [v34_22, v39_27]) fun v40_28 =>
 stillA [] (
 pureQ (guardA v29_17 false (pureA (unA .not v40_28))) fun v41_29 =>
 pureQ (pickA v29_17 (.bool true) v41_29) fun v42_30 =>
 endA (
 condA v42_30 (
 kr (.bool false)) (
 deduplaw13_sectors_E2 P w0 (fun y0_41 y1_42 y4_43 y5_44 =>
 pureA (binA .add y5_44 (.int .i64 1)) fun v17_45 =>
 R y0_41 y1_42 y4_43 v17_45) x0 x1 x4 x5 (.int .i64 0)))))]) (
 k0 x4)
def deduplaw13_sectors_L1 (P : Program) (w0 : World) (k0 : Value → Hp → Prop) (kr : Value → Hp → Prop) : Nat → Value → Value → Value → Value → Hp → Prop
  | 0, _, _, _, _ => fun _ => False
  | m + 1, x0, x1, x4, x5 => deduplaw13_sectors_B1 P w0 (deduplaw13_sectors_L1 P w0 k0 kr m) k0 kr x0 x1 x4 x5
def deduplaw13_sectors_E1 (P : Program) (w0 : World) (k0 : Value → Hp → Prop) (kr : Value → Hp → Prop) (x0 x1 x4 x5 : Value) : Hp → Prop := fun h => ∃ m, deduplaw13_sectors_L1 P w0 k0 kr m x0 x1 x4 x5 h
def s_deduplaw13_sectors (P : Program) (w0 : World) (a0 a1 : Value) (R : Kont) : Hp → Prop :=
 pureA (lenSl a0) fun v8_1 =>
 pureA (lenSl a1) fun v10_2 =>
 pureA (binA .neq v8_1 v10_2) fun v11_3 =>
 condA v11_3 (
 retA [(.bool false)] R) (
 deduplaw13_sectors_E1 P w0 (fun y4_46 =>
 retA [(.bool true)] R) (fun y4_47 =>
 retA [y4_47] R) a0 a1 (.bool false) (.int .i64 0))
theorem deduplaw13_sectors_L2_eq (w0 : World) (k2 : Value → Value → Value → Value → Hp → Prop) : ∀ (m : Nat) (x0 x1 x4 x5 x6 : Value) (h : Hp), loopA (stepL ⟨prog, w0, 60, ks_deduplaw13_sectors⟩ (drw w0 60) (loopAt fn_deduplaw13_sectors 1)) m (mkFr [(0, x0), (1, x1), (4, x4), (5, x5), (6, x6)]) [fun t => k2 (t 0) (t 1) (t 4) (t 5)] h = deduplaw13_sectors_L2 prog w0 k2 m x0 x1 x4 x5 x6 h := by
  intro m
  induction m with
  | zero => intros; kernel_rfl
  | succ m ih =>
    intro x0 x1 x4 x5 x6 h
    have e : deduplaw13_sectors_L2 prog w0 k2 m = fun x0 x1 x4 x5 x6 h => loopA (stepL ⟨prog, w0, 60, ks_deduplaw13_sectors⟩ (drw w0 60) (loopAt fn_deduplaw13_sectors 1)) m (mkFr [(0, x0), (1, x1), (4, x4), (5, x5), (6, x6)]) [fun t => k2 (t 0) (t 1) (t 4) (t 5)] h := by funext x0 x1 x4 x5 x6 h; exact (ih x0 x1 x4 x5 x6 h).symm
    show _ = deduplaw13_sectors_B2 prog w0 (deduplaw13_sectors_L2 prog w0 k2 m) k2 x0 x1 x4 x5 x6 h
    rw [e]
    kernel_rfl
theorem deduplaw13_sectors_E2_eq (w0 : World) : deduplaw13_sectors_E2 prog w0 = fun k2 x0 x1 x4 x5 x6 h => ∃ m, loopA (stepL ⟨prog, w0, 60, ks_deduplaw13_sectors⟩ (drw w0 60) (loopAt fn_deduplaw13_sectors 1)) m (mkFr [(0, x0), (1, x1), (4, x4), (5, x5), (6, x6)]) [fun t => k2 (t 0) (t 1) (t 4) (t 5)] h := by
  funext k2 x0 x1 x4 x5 x6 h
  exact congrArg Exists (funext fun m => (deduplaw13_sectors_L2_eq w0 k2 m x0 x1 x4 x5 x6 h).symm)
theorem deduplaw13_sectors_L1_eq (w0 : World) (k0 : Value → Hp → Prop) (kr : Value → Hp → Prop) : ∀ (m : Nat) (x0 x1 x4 x5 : Value) (h : Hp), loopA (stepL ⟨prog, w0, 60, ks_deduplaw13_sectors⟩ (drw w0 60) (loopAt fn_deduplaw13_sectors 0)) m (mkFr [(0, x0), (1, x1), (4, x4), (5, x5)]) [fun t => k0 (t 4), fun t => kr (t 4)] h = deduplaw13_sectors_L1 prog w0 k0 kr m x0 x1 x4 x5 h := by
  intro m
  induction m with
  | zero => intros; kernel_rfl
  | succ m ih =>
    intro x0 x1 x4 x5 h
    have e : deduplaw13_sectors_L1 prog w0 k0 kr m = fun x0 x1 x4 x5 h => loopA (stepL ⟨prog, w0, 60, ks_deduplaw13_sectors⟩ (drw w0 60) (loopAt fn_deduplaw13_sectors 0)) m (mkFr [(0, x0), (1, x1), (4, x4), (5, x5)]) [fun t => k0 (t 4), fun t => kr (t 4)] h := by funext x0 x1 x4 x5 h; exact (ih x0 x1 x4 x5 h).symm
    show _ = deduplaw13_sectors_B1 prog w0 (deduplaw13_sectors_L1 prog w0 k0 kr m) k0 kr x0 x1 x4 x5 h
    rw [e]
    unfold deduplaw13_sectors_B1
    rw [deduplaw13_sectors_E2_eq w0]
    kernel_rfl
theorem deduplaw13_sectors_E1_eq (w0 : World) : deduplaw13_sectors_E1 prog w0 = fun k0 kr x0 x1 x4 x5 h => ∃ m, loopA (stepL ⟨prog, w0, 60, ks_deduplaw13_sectors⟩ (drw w0 60) (loopAt fn_deduplaw13_sectors 0)) m (mkFr [(0, x0), (1, x1), (4, x4), (5, x5)]) [fun t => k0 (t 4), fun t => kr (t 4)] h := by
  funext k0 kr x0 x1 x4 x5 h
  exact congrArg Exists (funext fun m => (deduplaw13_sectors_L1_eq w0 k0 kr m x0 x1 x4 x5 h).symm)
theorem c_deduplaw13_sectors {w0 : World} {h : Hp} {R : Kont} {a0 a1 : Value} (hj : ∀ v, v ∈ [a0, a1] → v ≠ junk) (hv : s_deduplaw13_sectors prog w0 a0 a1 R h) : ACalls prog w0 n_deduplaw13_sectors [a0, a1] h R := by
  have e : vcFn ⟨prog, w0, 60, ks_deduplaw13_sectors⟩ (drw w0 60) fn_deduplaw13_sectors [a0, a1] R h = s_deduplaw13_sectors prog w0 a0 a1 R h := by
    unfold s_deduplaw13_sectors
    rw [deduplaw13_sectors_E1_eq w0]
    kernel_rfl
  exact acalls_of_eq (fn := fn_deduplaw13_sectors) (ks := ks_deduplaw13_sectors) (n := 60) (by kernel_rfl) (by kernel_rfl) (draw_ok (by kernel_rfl)) (by simp) hj e hv

abbrev fn_deduplaw13_laid : Func := f34
def ks_deduplaw13_laid : List (Nat × List Nat × List Nat) := [(2, [0, 1, 2, 6, 7], [6]), (8, [0, 1, 2, 6, 7, 8, 9], [0, 1, 2, 6, 7])]
def deduplaw13_laid_B2 (P : Program) (w0 : World) (R : Value → Value → Value → Value → Value → Value → Value → Hp → Prop) (k2 : Value → Value → Value → Value → Value → Hp → Prop) (kr : Value → Value → Value → Value → Value → Hp → Prop) (x0 x1 x2 x6 x7 x8 x9 : Value) : Hp → Prop :=
 pureA (binA .lss x9 x1) fun v54_32 =>
 condA v54_32 (
 pureQ (fun K => K x0) fun v57_33 =>
 pureQ (fun K => K x8) fun v58_34 =>
 pureQ (fun K => K x9) fun v59_35 =>
 pureQ (pureA (binA .add v58_34 v59_35)) fun v60_36 =>
 pureQ (idxSlA 1 v57_33 v60_36) fun v61_37 =>
 readQ (loadA w0 v61_37) fun v62_38 =>
 pureQ (pureA (binA .neq v62_38 (.int .u8 0))) fun v63_39 =>
 pureQ (fun K => K v63_39) fun v64_40 =>
 pureQ (guardA v64_40 true (fun K => K x0)) fun v65_41 =>
 pureQ (guardA v64_40 true (fun K => K x8)) fun v66_42 =>
 pureQ (guardA v64_40 true (fun K => K x9)) fun v67_43 =>
 pureQ (guardA v64_40 true (pureA (binA .add v66_42 v67_43))) fun v68_44 =>
 pureQ (guardA v64_40 true (idxSlA 1 v65_41 v68_44)) fun v69_45 =>
 readQ (guardA v64_40 true (loadA w0 v69_45)) fun v70_46 =>
 pureQ (guardA v64_40 true (fun K => K x2)) fun v71_47 =>
 pureQ (guardA v64_40 true (fun K => K x7)) fun v72_48 =>
 pureQ (guardA v64_40 true (idxSlA 2 v71_47 v72_48)) fun v73_49 =>
 pureQ (guardA v64_40 true (addA v73_49 1)) fun v74_50 =>
 readQ (guardA v64_40 true (loadA w0 v74_50)) fun v75_51 =>
 pureQ (guardA v64_40 true (fun K => K x9)) fun v76_52 =>
 pureQ (guardA v64_40 true (idxSlA 1 v75_51 v76_52)) fun v77_53 =>
 readQ (guardA v64_40 true (loadA w0 v77_53)) fun v78_54 =>
 pureQ (guardA v64_40 true (pureA (binA .neq v70_46 v78_54))) fun v79_55 =>
 pureQ (pickA v64_40 v79_55 (.bool false)) fun v80_56 =>
 endA (
 condA v80_56 (
 kr x0 x1 x2 (.bool false) x7) (
 pureA (binA .add x8 x9) fun v84_57 =>
 idxSlA 2 x2 x7 fun v87_58 =>
 addA v87_58 1 fun v88_59 =>
 loadA w0 v88_59 fun v89_60 =>
 idxSlA 1 v89_60 x9 fun v91_61 =>
 loadA w0 v91_61 fun v92_62 =>
 idxSlA 1 x0 v84_57 fun v93_63 =>
 storeA w0 v93_63 v92_62 fun _ =>
 pureA (binA .add x9 (.int .i64 1)) fun v56_64 =>
 R x0 x1 x2 x6 x7 x8 v56_64))) (
 k2 x0 x1 x2 x6 x7)
def deduplaw13_laid_L2 (P : Program) (w0 : World) (k2 : Value → Value → Value → Value → Value → Hp → Prop) (kr : Value → Value → Value → Value → Value → Hp → Prop) : Nat → Value → Value → Value → Value → Value → Value → Value → Hp → Prop
  | 0, _, _, _, _, _, _, _ => fun _ => False
  | m + 1, x0, x1, x2, x6, x7, x8, x9 => deduplaw13_laid_B2 P w0 (deduplaw13_laid_L2 P w0 k2 kr m) k2 kr x0 x1 x2 x6 x7 x8 x9
def deduplaw13_laid_E2 (P : Program) (w0 : World) (k2 : Value → Value → Value → Value → Value → Hp → Prop) (kr : Value → Value → Value → Value → Value → Hp → Prop) (x0 x1 x2 x6 x7 x8 x9 : Value) : Hp → Prop := fun h => ∃ m, deduplaw13_laid_L2 P w0 k2 kr m x0 x1 x2 x6 x7 x8 x9 h
def deduplaw13_laid_B1 (P : Program) (w0 : World) (R : Value → Value → Value → Value → Value → Hp → Prop) (k0 : Value → Hp → Prop) (kr : Value → Hp → Prop) (x0 x1 x2 x6 x7 : Value) : Hp → Prop :=
 pureA (lenSl x2) fun v12_1 =>
 pureA (binA .lss x7 v12_1) fun v13_2 =>
 condA v13_2 (
 idxSlA 2 x2 x7 fun v18_3 =>
 addA v18_3 0 fun v19_4 =>
 loadA w0 v19_4 fun v20_5 =>
 pureA (binA .lss v20_5 (.int .i64 0)) fun v21_6 =>
 guardA v21_6 false (fun K => K x2) fun v23_7 =>
 guardA v21_6 false (fun K => K x7) fun v24_8 =>
 guardA v21_6 false (idxSlA 2 v23_7 v24_8) fun v25_9 =>
 guardA v21_6 false (addA v25_9 0) fun v26_10 =>
 guardA v21_6 false (loadA w0 v26_10) fun v27_11 =>
 guardA v21_6 false (pureA (binA .add v27_11 (.int .i64 1))) fun v28_12 =>
 guardA v21_6 false (fun K => K x1) fun v29_13 =>
 guardA v21_6 false (pureA (binA .mul v28_12 v29_13)) fun v30_14 =>
 guardA v21_6 false (fun K => K x0) fun v31_15 =>
 guardA v21_6 false (pureA (lenSl v31_15)) fun v32_16 =>
 guardA v21_6 false (pureA (binA .gtr v30_14 v32_16)) fun v33_17 =>
 pickA v21_6 (.bool true) v33_17 fun v34_18 =>
 guardA v34_18 false (fun K => K x2) fun v36_19 =>
 guardA v34_18 false (fun K => K x7) fun v37_20 =>
 guardA v34_18 false (idxSlA 2 v36_19 v37_20) fun v38_21 =>
 guardA v34_18 false (addA v38_21 1) fun v39_22 =>
 guardA v34_18 false (loadA w0 v39_22) fun v40_23 =>
 guardA v34_18 false (pureA (lenSl v40_23)) fun v41_24 =>
 guardA v34_18 false (fun K => K x1) fun v42_25 =>
 guardA v34_18 false (pureA (binA .neq v41_24 v42_25)) fun v43_26 =>
 pickA v34_18 (.bool true) v43_26 fun v44_27 =>
 condA v44_27 (
 kr (.bool false)) (
 idxSlA 2 x2 x7 fun v47_28 =>
 addA v47_28 0 fun v48_29 =>
 loadA w0 v48_29 fun v49_30 =>
 pureA (binA .mul v49_30 x1) fun v51_31 =>
 deduplaw13_laid_E2 P w0 (fun y0_65 y1_66 y2_67 y6_68 y7_69 =>
 pureA (binA .add y7_69 (.int .i64 1)) fun v15_70 =>
 R y0_65 y1_66 y2_67 y6_68 v15_70) (fun y0_71 y1_72 y2_73 y6_74 y7_75 =>
 kr y6_74) x0 x1 x2 x6 x7 v51_31 (.int .i64 0))) (
 k0 x6)
def deduplaw13_laid_L1 (P : Program) (w0 : World) (k0 : Value → Hp → Prop) (kr : Value → Hp → Prop) : Nat → Value → Value → Value → Value → Value → Hp → Prop
  | 0, _, _, _, _, _ => fun _ => False
  | m + 1, x0, x1, x2, x6, x7 => deduplaw13_laid_B1 P w0 (deduplaw13_laid_L1 P w0 k0 kr m) k0 kr x0 x1 x2 x6 x7
def deduplaw13_laid_E1 (P : Program) (w0 : World) (k0 : Value → Hp → Prop) (kr : Value → Hp → Prop) (x0 x1 x2 x6 x7 : Value) : Hp → Prop := fun h => ∃ m, deduplaw13_laid_L1 P w0 k0 kr m x0 x1 x2 x6 x7 h
def s_deduplaw13_laid (P : Program) (w0 : World) (a0 a1 a2 : Value) (R : Kont) : Hp → Prop :=
 deduplaw13_laid_E1 P w0 (fun y6_76 =>
 retA [(.bool true)] R) (fun y6_77 =>
 retA [y6_77] R) a0 a1 a2 (.bool false) (.int .i64 0)
theorem deduplaw13_laid_L2_eq (w0 : World) (k2 : Value → Value → Value → Value → Value → Hp → Prop) (kr : Value → Value → Value → Value → Value → Hp → Prop) : ∀ (m : Nat) (x0 x1 x2 x6 x7 x8 x9 : Value) (h : Hp), loopA (stepL ⟨prog, w0, 94, ks_deduplaw13_laid⟩ (drw w0 94) (loopAt fn_deduplaw13_laid 1)) m (mkFr [(0, x0), (1, x1), (2, x2), (6, x6), (7, x7), (8, x8), (9, x9)]) [fun t => k2 (t 0) (t 1) (t 2) (t 6) (t 7), fun t => kr (t 0) (t 1) (t 2) (t 6) (t 7)] h = deduplaw13_laid_L2 prog w0 k2 kr m x0 x1 x2 x6 x7 x8 x9 h := by
  intro m
  induction m with
  | zero => intros; kernel_rfl
  | succ m ih =>
    intro x0 x1 x2 x6 x7 x8 x9 h
    have e : deduplaw13_laid_L2 prog w0 k2 kr m = fun x0 x1 x2 x6 x7 x8 x9 h => loopA (stepL ⟨prog, w0, 94, ks_deduplaw13_laid⟩ (drw w0 94) (loopAt fn_deduplaw13_laid 1)) m (mkFr [(0, x0), (1, x1), (2, x2), (6, x6), (7, x7), (8, x8), (9, x9)]) [fun t => k2 (t 0) (t 1) (t 2) (t 6) (t 7), fun t => kr (t 0) (t 1) (t 2) (t 6) (t 7)] h := by funext x0 x1 x2 x6 x7 x8 x9 h; exact (ih x0 x1 x2 x6 x7 x8 x9 h).symm
    show _ = deduplaw13_laid_B2 prog w0 (deduplaw13_laid_L2 prog w0 k2 kr m) k2 kr x0 x1 x2 x6 x7 x8 x9 h
    rw [e]
    kernel_rfl
theorem deduplaw13_laid_E2_eq (w0 : World) : deduplaw13_laid_E2 prog w0 = fun k2 kr x0 x1 x2 x6 x7 x8 x9 h => ∃ m, loopA (stepL ⟨prog, w0, 94, ks_deduplaw13_laid⟩ (drw w0 94) (loopAt fn_deduplaw13_laid 1)) m (mkFr [(0, x0), (1, x1), (2, x2), (6, x6), (7, x7), (8, x8), (9, x9)]) [fun t => k2 (t 0) (t 1) (t 2) (t 6) (t 7), fun t => kr (t 0) (t 1) (t 2) (t 6) (t 7)] h := by
  funext k2 kr x0 x1 x2 x6 x7 x8 x9 h
  exact congrArg Exists (funext fun m => (deduplaw13_laid_L2_eq w0 k2 kr m x0 x1 x2 x6 x7 x8 x9 h).symm)
theorem deduplaw13_laid_L1_eq (w0 : World) (k0 : Value → Hp → Prop) (kr : Value → Hp → Prop) : ∀ (m : Nat) (x0 x1 x2 x6 x7 : Value) (h : Hp), loopA (stepL ⟨prog, w0, 94, ks_deduplaw13_laid⟩ (drw w0 94) (loopAt fn_deduplaw13_laid 0)) m (mkFr [(0, x0), (1, x1), (2, x2), (6, x6), (7, x7)]) [fun t => k0 (t 6), fun t => kr (t 6)] h = deduplaw13_laid_L1 prog w0 k0 kr m x0 x1 x2 x6 x7 h := by
  intro m
  induction m with
  | zero => intros; kernel_rfl
  | succ m ih =>
    intro x0 x1 x2 x6 x7 h
    have e : deduplaw13_laid_L1 prog w0 k0 kr m = fun x0 x1 x2 x6 x7 h => loopA (stepL ⟨prog, w0, 94, ks_deduplaw13_laid⟩ (drw w0 94) (loopAt fn_deduplaw13_laid 0)) m (mkFr [(0, x0), (1, x1), (2, x2), (6, x6), (7, x7)]) [fun t => k0 (t 6), fun t => kr (t 6)] h := by funext x0 x1 x2 x6 x7 h; exact (ih x0 x1 x2 x6 x7 h).symm
    show _ = deduplaw13_laid_B1 prog w0 (deduplaw13_laid_L1 prog w0 k0 kr m) k0 kr x0 x1 x2 x6 x7 h
    rw [e]
    unfold deduplaw13_laid_B1
    rw [deduplaw13_laid_E2_eq w0]
    kernel_rfl
theorem deduplaw13_laid_E1_eq (w0 : World) : deduplaw13_laid_E1 prog w0 = fun k0 kr x0 x1 x2 x6 x7 h => ∃ m, loopA (stepL ⟨prog, w0, 94, ks_deduplaw13_laid⟩ (drw w0 94) (loopAt fn_deduplaw13_laid 0)) m (mkFr [(0, x0), (1, x1), (2, x2), (6, x6), (7, x7)]) [fun t => k0 (t 6), fun t => kr (t 6)] h := by
  funext k0 kr x0 x1 x2 x6 x7 h
  exact congrArg Exists (funext fun m => (deduplaw13_laid_L1_eq w0 k0 kr m x0 x1 x2 x6 x7 h).symm)
theorem c_deduplaw13_laid {w0 : World} {h : Hp} {R : Kont} {a0 a1 a2 : Value} (hj : ∀ v, v ∈ [a0, a1, a2] → v ≠ junk) (hv : s_deduplaw13_laid prog w0 a0 a1 a2 R h) : ACalls prog w0 n_deduplaw13_laid [a0, a1, a2] h R := by
  have e : vcFn ⟨prog, w0, 94, ks_deduplaw13_laid⟩ (drw w0 94) fn_deduplaw13_laid [a0, a1, a2] R h = s_deduplaw13_laid prog w0 a0 a1 a2 R h := by
    unfold s_deduplaw13_laid
    rw [deduplaw13_laid_E1_eq w0]
    kernel_rfl
  exact acalls_of_eq (fn := fn_deduplaw13_laid) (ks := ks_deduplaw13_laid) (n := 94) (by kernel_rfl) (by kernel_rfl) (draw_ok (by kernel_rfl)) (by simp) hj e hv

end
end Go.Proofs.Ytfhamcobfpmgbaa.Ah
