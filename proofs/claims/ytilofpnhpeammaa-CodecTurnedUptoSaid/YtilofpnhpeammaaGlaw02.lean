/- PRINTED by wip/tools/shallow.py: functions of the program as readable words, and that each is what its text says. -/
import Derived.Test.YtilofpnhpeammaaGn
set_option linter.unusedVariables false
set_option linter.unusedSimpArgs false
namespace Go.Proofs.Ytilofpnhpeammaa.Ah
open Go Go.Proofs.Try
noncomputable section

abbrev fn_deduplaw02_CodecShortest : Func := f3
def ks_deduplaw02_CodecShortest : List (Nat × List Nat × List Nat) := []
def s_deduplaw02_CodecShortest (P : Program) (w0 : World) (a0 a1 a2 : Value) (R : Kont) : Hp → Prop :=
 callA P w0 n_deduplaw02_awake [] fun v15_1 =>
 pureA (unA .not v15_1) fun v16_2 =>
 condA v16_2 (
 retA [(.bool false)] R) (
 pureA (binA .gtr a0 a1) fun v19_3 =>
 condA v19_3 (
 callA P w0 n_codec_NewWriter [(.int .i64 20)] fun v22_4 =>
 callA P w0 n_codec_NewWriter [(.int .i64 20)] fun v23_5 =>
 pureA (binPtrA .eql v22_4 (.pointer none)) fun v25_6 =>
 guardA v25_6 false (fun K => K v23_5) fun v27_7 =>
 guardA v25_6 false (pureA (binPtrA .eql v27_7 (.pointer none))) fun v28_8 =>
 pickA v25_6 (.bool true) v28_8 fun v29_9 =>
 condA v29_9 (
 retA [(.bool false)] R) (
 callA P w0 n_codec_Writer_Varint [v22_4, a1] fun v32_10 =>
 callA P w0 n_codec_Writer_Varint [v23_5, a0] fun v35_11 =>
 callA P w0 n_codec_Writer_Done [v22_4] fun v38_12 =>
 pureA (extA v38_12 0) fun v39_13 =>
 pureA (extA v38_12 1) fun v40_14 =>
 callA P w0 n_codec_Writer_Done [v23_5] fun v43_15 =>
 pureA (extA v43_15 0) fun v44_16 =>
 pureA (extA v43_15 1) fun v45_17 =>
 pureA (binA .neq v40_14 (.int .i64 0)) fun v47_18 =>
 guardA v47_18 false (fun K => K v45_17) fun v49_19 =>
 guardA v47_18 false (pureA (binA .neq v49_19 (.int .i64 0))) fun v50_20 =>
 pickA v47_18 (.bool true) v50_20 fun v51_21 =>
 guardA v51_21 false (fun K => K v39_13) fun v53_22 =>
 guardA v51_21 false (pureA (lenStr v53_22)) fun v54_23 =>
 guardA v51_21 false (pureA (binA .lss v54_23 (.int .i64 1))) fun v55_24 =>
 pickA v51_21 (.bool true) v55_24 fun v56_25 =>
 guardA v56_25 false (fun K => K v39_13) fun v58_26 =>
 guardA v56_25 false (pureA (lenStr v58_26)) fun v59_27 =>
 guardA v56_25 false (fun K => K v44_16) fun v60_28 =>
 guardA v56_25 false (pureA (lenStr v60_28)) fun v61_29 =>
 guardA v56_25 false (pureA (binA .gtr v59_27 v61_29)) fun v62_30 =>
 pickA v56_25 (.bool true) v62_30 fun v63_31 =>
 guardA v63_31 false (fun K => K v44_16) fun v65_32 =>
 guardA v63_31 false (pureA (lenStr v65_32)) fun v66_33 =>
 guardA v63_31 false (pureA (binA .gtr v66_33 (.int .i64 10))) fun v67_34 =>
 pickA v63_31 (.bool true) v67_34 fun v68_35 =>
 condA v68_35 (
 retA [(.bool false)] R) (
 pureA (binA .add v44_16 a2) fun v71_36 =>
 callA P w0 n_codec_NewReader [v71_36] fun v72_37 =>
 pureA (lenStr v44_16) fun v75_38 =>
 pureA (binA .sub v75_38 (.int .i64 1)) fun v76_39 =>
 pureA (strSlA v44_16 none (some v76_39)) fun v77_40 =>
 callA P w0 n_codec_NewReader [v77_40] fun v78_41 =>
 pureA (binPtrA .eql v72_37 (.pointer none)) fun v80_42 =>
 guardA v80_42 false (fun K => K v78_41) fun v82_43 =>
 guardA v80_42 false (pureA (binPtrA .eql v82_43 (.pointer none))) fun v83_44 =>
 pickA v80_42 (.bool true) v83_44 fun v84_45 =>
 guardA v84_45 false (fun K => K v72_37) fun v86_46 =>
 guardA v84_45 false (callA P w0 n_codec_Reader_Varint [v86_46]) fun v87_47 =>
 guardA v84_45 false (fun K => K a0) fun v88_48 =>
 guardA v84_45 false (pureA (binA .neq v87_47 v88_48)) fun v89_49 =>
 pickA v84_45 (.bool true) v89_49 fun v90_50 =>
 guardA v90_50 false (fun K => K v72_37) fun v92_51 =>
 guardA v90_50 false (callA P w0 n_codec_Reader_Left [v92_51]) fun v93_52 =>
 guardA v90_50 false (fun K => K a2) fun v94_53 =>
 guardA v90_50 false (pureA (lenStr v94_53)) fun v95_54 =>
 guardA v90_50 false (pureA (binA .neq v93_52 v95_54)) fun v96_55 =>
 pickA v90_50 (.bool true) v96_55 fun v97_56 =>
 condA v97_56 (
 retA [(.bool false)] R) (
 callA P w0 n_codec_Reader_Varint [v78_41] fun v99_57 =>
 pureA (binA .eql v99_57 (.int .u64 0)) fun v100_58 =>
 guardA v100_58 true (fun K => K v78_41) fun v102_59 =>
 guardA v100_58 true (callA P w0 n_codec_Reader_Err [v102_59]) fun v103_60 =>
 guardA v100_58 true (pureA (binA .eql v103_60 (.int .i64 20))) fun v104_61 =>
 pickA v100_58 v104_61 (.bool false) fun v105_62 =>
 retA [v105_62] R)))) (
 callA P w0 n_codec_NewWriter [(.int .i64 20)] fun v22_63 =>
 callA P w0 n_codec_NewWriter [(.int .i64 20)] fun v23_64 =>
 pureA (binPtrA .eql v22_63 (.pointer none)) fun v25_65 =>
 guardA v25_65 false (fun K => K v23_64) fun v27_66 =>
 guardA v25_65 false (pureA (binPtrA .eql v27_66 (.pointer none))) fun v28_67 =>
 pickA v25_65 (.bool true) v28_67 fun v29_68 =>
 condA v29_68 (
 retA [(.bool false)] R) (
 callA P w0 n_codec_Writer_Varint [v22_63, a0] fun v32_69 =>
 callA P w0 n_codec_Writer_Varint [v23_64, a1] fun v35_70 =>
 callA P w0 n_codec_Writer_Done [v22_63] fun v38_71 =>
 pureA (extA v38_71 0) fun v39_72 =>
 pureA (extA v38_71 1) fun v40_73 =>
 callA P w0 n_codec_Writer_Done [v23_64] fun v43_74 =>
 pureA (extA v43_74 0) fun v44_75 =>
 pureA (extA v43_74 1) fun v45_76 =>
 pureA (binA .neq v40_73 (.int .i64 0)) fun v47_77 =>
 guardA v47_77 false (fun K => K v45_76) fun v49_78 =>
 guardA v47_77 false (pureA (binA .neq v49_78 (.int .i64 0))) fun v50_79 =>
 pickA v47_77 (.bool true) v50_79 fun v51_80 =>
 guardA v51_80 false (fun K => K v39_72) fun v53_81 =>
 guardA v51_80 false (pureA (lenStr v53_81)) fun v54_82 =>
 guardA v51_80 false (pureA (binA .lss v54_82 (.int .i64 1))) fun v55_83 =>
 pickA v51_80 (.bool true) v55_83 fun v56_84 =>
 guardA v56_84 false (fun K => K v39_72) fun v58_85 =>
 guardA v56_84 false (pureA (lenStr v58_85)) fun v59_86 =>
 guardA v56_84 false (fun K => K v44_75) fun v60_87 =>
 guardA v56_84 false (pureA (lenStr v60_87)) fun v61_88 =>
 guardA v56_84 false (pureA (binA .gtr v59_86 v61_88)) fun v62_89 =>
 pickA v56_84 (.bool true) v62_89 fun v63_90 =>
 guardA v63_90 false (fun K => K v44_75) fun v65_91 =>
 guardA v63_90 false (pureA (lenStr v65_91)) fun v66_92 =>
 guardA v63_90 false (pureA (binA .gtr v66_92 (.int .i64 10))) fun v67_93 =>
 pickA v63_90 (.bool true) v67_93 fun v68_94 =>
 condA v68_94 (
 retA [(.bool false)] R) (
 pureA (binA .add v44_75 a2) fun v71_95 =>
 callA P w0 n_codec_NewReader [v71_95] fun v72_96 =>
 pureA (lenStr v44_75) fun v75_97 =>
 pureA (binA .sub v75_97 (.int .i64 1)) fun v76_98 =>
 pureA (strSlA v44_75 none (some v76_98)) fun v77_99 =>
 callA P w0 n_codec_NewReader [v77_99] fun v78_100 =>
 pureA (binPtrA .eql v72_96 (.pointer none)) fun v80_101 =>
 guardA v80_101 false (fun K => K v78_100) fun v82_102 =>
 guardA v80_101 false (pureA (binPtrA .eql v82_102 (.pointer none))) fun v83_103 =>
 pickA v80_101 (.bool true) v83_103 fun v84_104 =>
 guardA v84_104 false (fun K => K v72_96) fun v86_105 =>
 guardA v84_104 false (callA P w0 n_codec_Reader_Varint [v86_105]) fun v87_106 =>
 guardA v84_104 false (fun K => K a1) fun v88_107 =>
 guardA v84_104 false (pureA (binA .neq v87_106 v88_107)) fun v89_108 =>
 pickA v84_104 (.bool true) v89_108 fun v90_109 =>
 guardA v90_109 false (fun K => K v72_96) fun v92_110 =>
 guardA v90_109 false (callA P w0 n_codec_Reader_Left [v92_110]) fun v93_111 =>
 guardA v90_109 false (fun K => K a2) fun v94_112 =>
 guardA v90_109 false (pureA (lenStr v94_112)) fun v95_113 =>
 guardA v90_109 false (pureA (binA .neq v93_111 v95_113)) fun v96_114 =>
 pickA v90_109 (.bool true) v96_114 fun v97_115 =>
 condA v97_115 (
 retA [(.bool false)] R) (
 callA P w0 n_codec_Reader_Varint [v78_100] fun v99_116 =>
 pureA (binA .eql v99_116 (.int .u64 0)) fun v100_117 =>
 guardA v100_117 true (fun K => K v78_100) fun v102_118 =>
 guardA v100_117 true (callA P w0 n_codec_Reader_Err [v102_118]) fun v103_119 =>
 guardA v100_117 true (pureA (binA .eql v103_119 (.int .i64 20))) fun v104_120 =>
 pickA v100_117 v104_120 (.bool false) fun v105_121 =>
 retA [v105_121] R)))))
theorem c_deduplaw02_CodecShortest {w0 : World} {h : Hp} {R : Kont} {a0 a1 a2 : Value} (hj : ∀ v, v ∈ [a0, a1, a2] → v ≠ junk) (hv : s_deduplaw02_CodecShortest prog w0 a0 a1 a2 R h) : ACalls prog w0 n_deduplaw02_CodecShortest [a0, a1, a2] h R := by
  have e : vcFn ⟨prog, w0, 106, ks_deduplaw02_CodecShortest⟩ (drw w0 106) fn_deduplaw02_CodecShortest [a0, a1, a2] R h = s_deduplaw02_CodecShortest prog w0 a0 a1 a2 R h := by
    kernel_rfl
  exact acalls_of_eq (fn := fn_deduplaw02_CodecShortest) (ks := ks_deduplaw02_CodecShortest) (n := 106) (by kernel_rfl) (by kernel_rfl) (draw_ok (by kernel_rfl)) (by simp) hj e hv

abbrev fn_deduplaw02_CodecReads : Func := f4
def ks_deduplaw02_CodecReads : List (Nat × List Nat × List Nat) := [(6, [4, 5, 6, 20, 21, 22], [4, 5, 6])]
def deduplaw02_CodecReads_B1 (P : Program) (w0 : World) (R : Value → Value → Value → Value → Value → Value → Hp → Prop) (k0 : Value → Value → Value → Hp → Prop) (kr : Value → Value → Value → Hp → Prop) (x4 x5 x6 x20 x21 x22 : Value) : Hp → Prop :=
 pureA (binA .lss x22 x21) fun v23_10 =>
 condA v23_10 (
 idxSlA 3 x20 x22 fun v24_11 =>
 loadNA w0 v24_11 3 fun v25_12 =>
 newA [(.int .i64 0), (.int .u64 0), (.string .empty)] 3 fun v8_13 =>
 storeNA w0 v8_13 v25_12 3 fun _ =>
 loadNA w0 v8_13 3 fun v28_14 =>
 callA P w0 n_deduplaw02_step [x5, x6, v28_14] fun v29_15 =>
 pureA (unA .not v29_15) fun v30_16 =>
 condA v30_16 (
 kr (.bool false) x5 x6) (
 pureA (binA .add x22 (.int .i64 1)) fun v31_17 =>
 R x4 x5 x6 x20 x21 v31_17)) (
 k0 x4 x5 x6)
def deduplaw02_CodecReads_L1 (P : Program) (w0 : World) (k0 : Value → Value → Value → Hp → Prop) (kr : Value → Value → Value → Hp → Prop) : Nat → Value → Value → Value → Value → Value → Value → Hp → Prop
  | 0, _, _, _, _, _, _ => fun _ => False
  | m + 1, x4, x5, x6, x20, x21, x22 => deduplaw02_CodecReads_B1 P w0 (deduplaw02_CodecReads_L1 P w0 k0 kr m) k0 kr x4 x5 x6 x20 x21 x22
def deduplaw02_CodecReads_E1 (P : Program) (w0 : World) (k0 : Value → Value → Value → Hp → Prop) (kr : Value → Value → Value → Hp → Prop) (x4 x5 x6 x20 x21 x22 : Value) : Hp → Prop := fun h => ∃ m, deduplaw02_CodecReads_L1 P w0 k0 kr m x4 x5 x6 x20 x21 x22 h
def s_deduplaw02_CodecReads (P : Program) (w0 : World) (a0 a1 : Value) (R : Kont) : Hp → Prop :=
 callA P w0 n_codec_NewReader [a0] fun v10_1 =>
 callA P w0 n_deduplaw02_awake [] fun v11_2 =>
 pureA (unA .not v11_2) fun v12_3 =>
 guardA v12_3 false (fun K => K v10_1) fun v14_4 =>
 guardA v12_3 false (pureA (binPtrA .eql v14_4 (.pointer none))) fun v15_5 =>
 pickA v12_3 (.bool true) v15_5 fun v16_6 =>
 condA v16_6 (
 retA [(.bool false)] R) (
 buildA [(0, 1, false, a0)] [(.string .empty), (.int .i64 0)] fun v18_7 =>
 boxA true 2 v18_7 fun v19_8 =>
 pureA (lenSl a1) fun v21_9 =>
 deduplaw02_CodecReads_E1 P w0 (fun y4_18 y5_19 y6_20 =>
 buildA [(0, 1, false, (.int .i64 7))] [(.int .i64 0), (.int .u64 0), (.string .empty)] fun v34_21 =>
 callA P w0 n_deduplaw02_step [y5_19, y6_20, v34_21] fun v35_22 =>
 retA [v35_22] R) (fun y4_23 y5_24 y6_25 =>
 retA [y4_23] R) (.bool false) v10_1 v19_8 a1 v21_9 (.int .i64 0))
theorem deduplaw02_CodecReads_L1_eq (w0 : World) (k0 : Value → Value → Value → Hp → Prop) (kr : Value → Value → Value → Hp → Prop) : ∀ (m : Nat) (x4 x5 x6 x20 x21 x22 : Value) (h : Hp), loopA (stepL ⟨prog, w0, 36, ks_deduplaw02_CodecReads⟩ (drw w0 36) (loopAt fn_deduplaw02_CodecReads 0)) m (mkFr [(4, x4), (5, x5), (6, x6), (20, x20), (21, x21), (22, x22)]) [fun t => k0 (t 4) (t 5) (t 6), fun t => kr (t 4) (t 5) (t 6)] h = deduplaw02_CodecReads_L1 prog w0 k0 kr m x4 x5 x6 x20 x21 x22 h := by
  intro m
  induction m with
  | zero => intros; kernel_rfl
  | succ m ih =>
    intro x4 x5 x6 x20 x21 x22 h
    have e : deduplaw02_CodecReads_L1 prog w0 k0 kr m = fun x4 x5 x6 x20 x21 x22 h => loopA (stepL ⟨prog, w0, 36, ks_deduplaw02_CodecReads⟩ (drw w0 36) (loopAt fn_deduplaw02_CodecReads 0)) m (mkFr [(4, x4), (5, x5), (6, x6), (20, x20), (21, x21), (22, x22)]) [fun t => k0 (t 4) (t 5) (t 6), fun t => kr (t 4) (t 5) (t 6)] h := by funext x4 x5 x6 x20 x21 x22 h; exact (ih x4 x5 x6 x20 x21 x22 h).symm
    show _ = deduplaw02_CodecReads_B1 prog w0 (deduplaw02_CodecReads_L1 prog w0 k0 kr m) k0 kr x4 x5 x6 x20 x21 x22 h
    rw [e]
    kernel_rfl
theorem deduplaw02_CodecReads_E1_eq (w0 : World) : deduplaw02_CodecReads_E1 prog w0 = fun k0 kr x4 x5 x6 x20 x21 x22 h => ∃ m, loopA (stepL ⟨prog, w0, 36, ks_deduplaw02_CodecReads⟩ (drw w0 36) (loopAt fn_deduplaw02_CodecReads 0)) m (mkFr [(4, x4), (5, x5), (6, x6), (20, x20), (21, x21), (22, x22)]) [fun t => k0 (t 4) (t 5) (t 6), fun t => kr (t 4) (t 5) (t 6)] h := by
  funext k0 kr x4 x5 x6 x20 x21 x22 h
  exact congrArg Exists (funext fun m => (deduplaw02_CodecReads_L1_eq w0 k0 kr m x4 x5 x6 x20 x21 x22 h).symm)
theorem c_deduplaw02_CodecReads {w0 : World} {h : Hp} {R : Kont} {a0 a1 : Value} (hj : ∀ v, v ∈ [a0, a1] → v ≠ junk) (hv : s_deduplaw02_CodecReads prog w0 a0 a1 R h) : ACalls prog w0 n_deduplaw02_CodecReads [a0, a1] h R := by
  have e : vcFn ⟨prog, w0, 36, ks_deduplaw02_CodecReads⟩ (drw w0 36) fn_deduplaw02_CodecReads [a0, a1] R h = s_deduplaw02_CodecReads prog w0 a0 a1 R h := by
    unfold s_deduplaw02_CodecReads
    rw [deduplaw02_CodecReads_E1_eq w0]
    kernel_rfl
  exact acalls_of_eq (fn := fn_deduplaw02_CodecReads) (ks := ks_deduplaw02_CodecReads) (n := 36) (by kernel_rfl) (by kernel_rfl) (draw_ok (by kernel_rfl)) (by simp) hj e hv

abbrev fn_deduplaw02_CodecWrites : Func := f5
def ks_deduplaw02_CodecWrites : List (Nat × List Nat × List Nat) := [(6, [0, 4, 5, 6, 7, 23, 24, 25], [4, 5, 6, 7])]
def deduplaw02_CodecWrites_B1 (P : Program) (w0 : World) (R : Value → Value → Value → Value → Value → Value → Value → Value → Hp → Prop) (k0 : Value → Value → Value → Value → Hp → Prop) (kr : Value → Value → Value → Value → Hp → Prop) (x0 x4 x5 x6 x7 x23 x24 x25 : Value) : Hp → Prop :=
 pureA (binA .lss x25 x24) fun v26_8 =>
 condA v26_8 (
 idxSlA 3 x23 x25 fun v27_9 =>
 loadNA w0 v27_9 3 fun v28_10 =>
 newA [(.int .i64 0), (.int .u64 0), (.string .empty)] 3 fun v9_11 =>
 storeNA w0 v9_11 v28_10 3 fun _ =>
 loadNA w0 v9_11 3 fun v30_12 =>
 callA P w0 n_deduplaw02_write [x5, v30_12] fun v31_13 =>
 loadNA w0 v9_11 3 fun v32_14 =>
 callA P w0 n_deduplaw02_bytes [v32_14] fun v33_15 =>
 pureA (unA .not x7) fun v35_16 =>
 guardA v35_16 true (fun K => K v33_15) fun v37_17 =>
 guardA v35_16 true (pureA (lenStr v37_17)) fun v38_18 =>
 guardA v35_16 true (fun K => K x0) fun v39_19 =>
 guardA v35_16 true (fun K => K x6) fun v40_20 =>
 guardA v35_16 true (pureA (lenStr v40_20)) fun v41_21 =>
 guardA v35_16 true (pureA (binA .sub v39_19 v41_21)) fun v42_22 =>
 guardA v35_16 true (pureA (binA .gtr v38_18 v42_22)) fun v43_23 =>
 guardA v35_16 true (fun K => K v43_23) fun v44_24 =>
 guardA v44_24 true (fun K => K v33_15) fun v45_25 =>
 guardA v44_24 true (pureA (lenStr v45_25)) fun v46_26 =>
 guardA v44_24 true (pureA (binA .gtr v46_26 (.int .i64 0))) fun v47_27 =>
 guardA v35_16 true (pickA v44_24 v47_27 (.bool false)) fun v48_28 =>
 pickA v35_16 v48_28 (.bool false) fun v49_29 =>
 condA v49_29 (
 addA v9_11 0 fun v55_30 =>
 loadA w0 v55_30 fun v56_31 =>
 pureA (binA .neq v56_31 (.int .i64 7)) fun v57_32 =>
 condA v57_32 (
 pureA (binA .add x25 (.int .i64 1)) fun v87_33 =>
 R x0 x4 x5 (.string .empty) (.bool true) x23 x24 v87_33) (
 callA P w0 n_codec_Writer_Done [x5] fun v60_34 =>
 pureA (extA v60_34 0) fun v61_35 =>
 pureA (extA v60_34 1) fun v62_36 =>
 callA P w0 n_codec_Writer_Len [x5] fun v64_37 =>
 pureA (lenStr (.string .empty)) fun v66_38 =>
 pureA (binA .neq v64_37 v66_38) fun v67_39 =>
 guardA v67_39 false (fun K => K v61_35) fun v69_40 =>
 guardA v67_39 false (fun K => K (.string .empty)) fun v70_41 =>
 guardA v67_39 false (pureA (binA .neq v69_40 v70_41)) fun v71_42 =>
 pickA v67_39 (.bool true) v71_42 fun v72_43 =>
 guardA v72_43 false (fun K => K v62_36) fun v74_44 =>
 guardA v72_43 false (pureA (binA .eql v74_44 (.int .i64 3))) fun v75_45 =>
 guardA v72_43 false (fun K => K (.bool true)) fun v76_46 =>
 guardA v72_43 false (pureA (binBoolA .neq v75_45 v76_46)) fun v77_47 =>
 pickA v72_43 (.bool true) v77_47 fun v78_48 =>
 guardA v78_48 false (fun K => K (.bool true)) fun v80_49 =>
 guardA v78_48 false (pureA (unA .not v80_49)) fun v81_50 =>
 guardA v78_48 false (fun K => K v81_50) fun v82_51 =>
 guardA v82_51 true (fun K => K v62_36) fun v83_52 =>
 guardA v82_51 true (pureA (binA .neq v83_52 (.int .i64 0))) fun v84_53 =>
 guardA v78_48 false (pickA v82_51 v84_53 (.bool false)) fun v85_54 =>
 pickA v78_48 (.bool true) v85_54 fun v86_55 =>
 condA v86_55 (
 kr (.bool false) x5 (.string .empty) (.bool true)) (
 pureA (binA .add x25 (.int .i64 1)) fun v87_56 =>
 R x0 x4 x5 (.string .empty) (.bool true) x23 x24 v87_56))) (
 pureA (unA .not x7) fun v51_57 =>
 condA v51_57 (
 pureA (binA .add x6 v33_15) fun v54_58 =>
 addA v9_11 0 fun v55_59 =>
 loadA w0 v55_59 fun v56_60 =>
 pureA (binA .neq v56_60 (.int .i64 7)) fun v57_61 =>
 condA v57_61 (
 pureA (binA .add x25 (.int .i64 1)) fun v87_62 =>
 R x0 x4 x5 v54_58 x7 x23 x24 v87_62) (
 callA P w0 n_codec_Writer_Done [x5] fun v60_63 =>
 pureA (extA v60_63 0) fun v61_64 =>
 pureA (extA v60_63 1) fun v62_65 =>
 callA P w0 n_codec_Writer_Len [x5] fun v64_66 =>
 pureA (lenStr v54_58) fun v66_67 =>
 pureA (binA .neq v64_66 v66_67) fun v67_68 =>
 guardA v67_68 false (fun K => K v61_64) fun v69_69 =>
 guardA v67_68 false (fun K => K v54_58) fun v70_70 =>
 guardA v67_68 false (pureA (binA .neq v69_69 v70_70)) fun v71_71 =>
 pickA v67_68 (.bool true) v71_71 fun v72_72 =>
 guardA v72_72 false (fun K => K v62_65) fun v74_73 =>
 guardA v72_72 false (pureA (binA .eql v74_73 (.int .i64 3))) fun v75_74 =>
 guardA v72_72 false (fun K => K x7) fun v76_75 =>
 guardA v72_72 false (pureA (binBoolA .neq v75_74 v76_75)) fun v77_76 =>
 pickA v72_72 (.bool true) v77_76 fun v78_77 =>
 guardA v78_77 false (fun K => K x7) fun v80_78 =>
 guardA v78_77 false (pureA (unA .not v80_78)) fun v81_79 =>
 guardA v78_77 false (fun K => K v81_79) fun v82_80 =>
 guardA v82_80 true (fun K => K v62_65) fun v83_81 =>
 guardA v82_80 true (pureA (binA .neq v83_81 (.int .i64 0))) fun v84_82 =>
 guardA v78_77 false (pickA v82_80 v84_82 (.bool false)) fun v85_83 =>
 pickA v78_77 (.bool true) v85_83 fun v86_84 =>
 condA v86_84 (
 kr (.bool false) x5 v54_58 x7) (
 pureA (binA .add x25 (.int .i64 1)) fun v87_85 =>
 R x0 x4 x5 v54_58 x7 x23 x24 v87_85))) (
 addA v9_11 0 fun v55_86 =>
 loadA w0 v55_86 fun v56_87 =>
 pureA (binA .neq v56_87 (.int .i64 7)) fun v57_88 =>
 condA v57_88 (
 pureA (binA .add x25 (.int .i64 1)) fun v87_89 =>
 R x0 x4 x5 x6 x7 x23 x24 v87_89) (
 callA P w0 n_codec_Writer_Done [x5] fun v60_90 =>
 pureA (extA v60_90 0) fun v61_91 =>
 pureA (extA v60_90 1) fun v62_92 =>
 callA P w0 n_codec_Writer_Len [x5] fun v64_93 =>
 pureA (lenStr x6) fun v66_94 =>
 pureA (binA .neq v64_93 v66_94) fun v67_95 =>
 guardA v67_95 false (fun K => K v61_91) fun v69_96 =>
 guardA v67_95 false (fun K => K x6) fun v70_97 =>
 guardA v67_95 false (pureA (binA .neq v69_96 v70_97)) fun v71_98 =>
 pickA v67_95 (.bool true) v71_98 fun v72_99 =>
 guardA v72_99 false (fun K => K v62_92) fun v74_100 =>
 guardA v72_99 false (pureA (binA .eql v74_100 (.int .i64 3))) fun v75_101 =>
 guardA v72_99 false (fun K => K x7) fun v76_102 =>
 guardA v72_99 false (pureA (binBoolA .neq v75_101 v76_102)) fun v77_103 =>
 pickA v72_99 (.bool true) v77_103 fun v78_104 =>
 guardA v78_104 false (fun K => K x7) fun v80_105 =>
 guardA v78_104 false (pureA (unA .not v80_105)) fun v81_106 =>
 guardA v78_104 false (fun K => K v81_106) fun v82_107 =>
 guardA v82_107 true (fun K => K v62_92) fun v83_108 =>
 guardA v82_107 true (pureA (binA .neq v83_108 (.int .i64 0))) fun v84_109 =>
 guardA v78_104 false (pickA v82_107 v84_109 (.bool false)) fun v85_110 =>
 pickA v78_104 (.bool true) v85_110 fun v86_111 =>
 condA v86_111 (
 kr (.bool false) x5 x6 x7) (
 pureA (binA .add x25 (.int .i64 1)) fun v87_112 =>
 R x0 x4 x5 x6 x7 x23 x24 v87_112))))) (
 k0 x4 x5 x6 x7)
def deduplaw02_CodecWrites_L1 (P : Program) (w0 : World) (k0 : Value → Value → Value → Value → Hp → Prop) (kr : Value → Value → Value → Value → Hp → Prop) : Nat → Value → Value → Value → Value → Value → Value → Value → Value → Hp → Prop
  | 0, _, _, _, _, _, _, _, _ => fun _ => False
  | m + 1, x0, x4, x5, x6, x7, x23, x24, x25 => deduplaw02_CodecWrites_B1 P w0 (deduplaw02_CodecWrites_L1 P w0 k0 kr m) k0 kr x0 x4 x5 x6 x7 x23 x24 x25
def deduplaw02_CodecWrites_E1 (P : Program) (w0 : World) (k0 : Value → Value → Value → Value → Hp → Prop) (kr : Value → Value → Value → Value → Hp → Prop) (x0 x4 x5 x6 x7 x23 x24 x25 : Value) : Hp → Prop := fun h => ∃ m, deduplaw02_CodecWrites_L1 P w0 k0 kr m x0 x4 x5 x6 x7 x23 x24 x25 h
def s_deduplaw02_CodecWrites (P : Program) (w0 : World) (a0 a1 : Value) (R : Kont) : Hp → Prop :=
 callA P w0 n_codec_NewWriter [a0] fun v16_1 =>
 callA P w0 n_deduplaw02_awake [] fun v17_2 =>
 pureA (unA .not v17_2) fun v18_3 =>
 guardA v18_3 false (fun K => K v16_1) fun v20_4 =>
 guardA v18_3 false (pureA (binPtrA .eql v20_4 (.pointer none))) fun v21_5 =>
 pickA v18_3 (.bool true) v21_5 fun v22_6 =>
 condA v22_6 (
 retA [(.bool false)] R) (
 pureA (lenSl a1) fun v24_7 =>
 deduplaw02_CodecWrites_E1 P w0 (fun y4_113 y5_114 y6_115 y7_116 =>
 callA P w0 n_codec_Writer_Done [y5_114] fun v90_117 =>
 pureA (extA v90_117 0) fun v91_118 =>
 pureA (extA v90_117 1) fun v92_119 =>
 callA P w0 n_codec_Writer_Len [y5_114] fun v94_120 =>
 pureA (lenStr y6_115) fun v96_121 =>
 pureA (binA .eql v94_120 v96_121) fun v97_122 =>
 guardA v97_122 true (fun K => K v91_118) fun v99_123 =>
 guardA v97_122 true (fun K => K y6_115) fun v100_124 =>
 guardA v97_122 true (pureA (binA .eql v99_123 v100_124)) fun v101_125 =>
 pickA v97_122 v101_125 (.bool false) fun v102_126 =>
 guardA v102_126 true (fun K => K v92_119) fun v104_127 =>
 guardA v102_126 true (pureA (binA .eql v104_127 (.int .i64 3))) fun v105_128 =>
 guardA v102_126 true (fun K => K y7_116) fun v106_129 =>
 guardA v102_126 true (pureA (binBoolA .eql v105_128 v106_129)) fun v107_130 =>
 pickA v102_126 v107_130 (.bool false) fun v108_131 =>
 guardA v108_131 true (fun K => K y7_116) fun v110_132 =>
 guardA v108_131 true (fun K => K v110_132) fun v111_133 =>
 guardA v111_133 false (fun K => K v92_119) fun v112_134 =>
 guardA v111_133 false (pureA (binA .eql v112_134 (.int .i64 0))) fun v113_135 =>
 guardA v108_131 true (pickA v111_133 (.bool true) v113_135) fun v114_136 =>
 pickA v108_131 v114_136 (.bool false) fun v115_137 =>
 retA [v115_137] R) (fun y4_138 y5_139 y6_140 y7_141 =>
 retA [y4_138] R) a0 (.bool false) v16_1 (.string .empty) (.bool false) a1 v24_7 (.int .i64 0))
theorem deduplaw02_CodecWrites_L1_eq (w0 : World) (k0 : Value → Value → Value → Value → Hp → Prop) (kr : Value → Value → Value → Value → Hp → Prop) : ∀ (m : Nat) (x0 x4 x5 x6 x7 x23 x24 x25 : Value) (h : Hp), loopA (stepL ⟨prog, w0, 116, ks_deduplaw02_CodecWrites⟩ (drw w0 116) (loopAt fn_deduplaw02_CodecWrites 0)) m (mkFr [(0, x0), (4, x4), (5, x5), (6, x6), (7, x7), (23, x23), (24, x24), (25, x25)]) [fun t => k0 (t 4) (t 5) (t 6) (t 7), fun t => kr (t 4) (t 5) (t 6) (t 7)] h = deduplaw02_CodecWrites_L1 prog w0 k0 kr m x0 x4 x5 x6 x7 x23 x24 x25 h := by
  intro m
  induction m with
  | zero => intros; kernel_rfl
  | succ m ih =>
    intro x0 x4 x5 x6 x7 x23 x24 x25 h
    have e : deduplaw02_CodecWrites_L1 prog w0 k0 kr m = fun x0 x4 x5 x6 x7 x23 x24 x25 h => loopA (stepL ⟨prog, w0, 116, ks_deduplaw02_CodecWrites⟩ (drw w0 116) (loopAt fn_deduplaw02_CodecWrites 0)) m (mkFr [(0, x0), (4, x4), (5, x5), (6, x6), (7, x7), (23, x23), (24, x24), (25, x25)]) [fun t => k0 (t 4) (t 5) (t 6) (t 7), fun t => kr (t 4) (t 5) (t 6) (t 7)] h := by funext x0 x4 x5 x6 x7 x23 x24 x25 h; exact (ih x0 x4 x5 x6 x7 x23 x24 x25 h).symm
    show _ = deduplaw02_CodecWrites_B1 prog w0 (deduplaw02_CodecWrites_L1 prog w0 k0 kr m) k0 kr x0 x4 x5 x6 x7 x23 x24 x25 h
    rw [e]
    kernel_rfl
theorem deduplaw02_CodecWrites_E1_eq (w0 : World) : deduplaw02_CodecWrites_E1 prog w0 = fun k0 kr x0 x4 x5 x6 x7 x23 x24 x25 h => ∃ m, loopA (stepL ⟨prog, w0, 116, ks_deduplaw02_CodecWrites⟩ (drw w0 116) (loopAt fn_deduplaw02_CodecWrites 0)) m (mkFr [(0, x0), (4, x4), (5, x5), (6, x6), (7, x7), (23, x23), (24, x24), (25, x25)]) [fun t => k0 (t 4) (t 5) (t 6) (t 7), fun t => kr (t 4) (t 5) (t 6) (t 7)] h := by
  funext k0 kr x0 x4 x5 x6 x7 x23 x24 x25 h
  exact congrArg Exists (funext fun m => (deduplaw02_CodecWrites_L1_eq w0 k0 kr m x0 x4 x5 x6 x7 x23 x24 x25 h).symm)
theorem c_deduplaw02_CodecWrites {w0 : World} {h : Hp} {R : Kont} {a0 a1 : Value} (hj : ∀ v, v ∈ [a0, a1] → v ≠ junk) (hv : s_deduplaw02_CodecWrites prog w0 a0 a1 R h) : ACalls prog w0 n_deduplaw02_CodecWrites [a0, a1] h R := by
  have e : vcFn ⟨prog, w0, 116, ks_deduplaw02_CodecWrites⟩ (drw w0 116) fn_deduplaw02_CodecWrites [a0, a1] R h = s_deduplaw02_CodecWrites prog w0 a0 a1 R h := by
    unfold s_deduplaw02_CodecWrites
    rw [deduplaw02_CodecWrites_E1_eq w0]
    kernel_rfl
  exact acalls_of_eq (fn := fn_deduplaw02_CodecWrites) (ks := ks_deduplaw02_CodecWrites) (n := 116) (by kernel_rfl) (by kernel_rfl) (draw_ok (by kernel_rfl)) (by simp) hj e hv

abbrev fn_deduplaw02_CodecOrder : Func := f6
def ks_deduplaw02_CodecOrder : List (Nat × List Nat × List Nat) := []
def s_deduplaw02_CodecOrder (P : Program) (w0 : World) (a0 a1 : Value) (R : Kont) : Hp → Prop :=
 boxA true 4 a0 fun v2_1 =>
 boxA true 4 a1 fun v3_2 =>
 callA P w0 n_deduplaw02_awake [] fun v9_3 =>
 pureA (unA .not v9_3) fun v10_4 =>
 condA v10_4 (
 retA [(.bool false)] R) (
 addA v2_1 0 fun v12_5 =>
 loadA w0 v12_5 fun v13_6 =>
 addA v2_1 1 fun v14_7 =>
 loadA w0 v14_7 fun v15_8 =>
 addA v2_1 2 fun v16_9 =>
 loadA w0 v16_9 fun v17_10 =>
 bslA [(0, 1, false, v15_8), (1, 1, false, v17_10)] (zerosL [(.int .u64 0)] 2) 2 1 fun v18_11 =>
 addA v2_1 3 fun v19_12 =>
 loadA w0 v19_12 fun v20_13 =>
 callA P w0 n_codec_Key [v13_6, v18_11, v20_13] fun v21_14 =>
 pureA (extA v21_14 0) fun v22_15 =>
 pureA (extA v21_14 1) fun v23_16 =>
 addA v3_2 0 fun v25_17 =>
 loadA w0 v25_17 fun v26_18 =>
 addA v3_2 1 fun v27_19 =>
 loadA w0 v27_19 fun v28_20 =>
 addA v3_2 2 fun v29_21 =>
 loadA w0 v29_21 fun v30_22 =>
 bslA [(0, 1, false, v28_20), (1, 1, false, v30_22)] (zerosL [(.int .u64 0)] 2) 2 1 fun v31_23 =>
 addA v3_2 3 fun v32_24 =>
 loadA w0 v32_24 fun v33_25 =>
 callA P w0 n_codec_Key [v26_18, v31_23, v33_25] fun v34_26 =>
 pureA (extA v34_26 0) fun v35_27 =>
 pureA (extA v34_26 1) fun v36_28 =>
 pureA (binA .eql v23_16 (.int .i64 0)) fun v38_29 =>
 guardA v38_29 true (fun K => K v36_28) fun v40_30 =>
 guardA v38_29 true (pureA (binA .eql v40_30 (.int .i64 0))) fun v41_31 =>
 pickA v38_29 v41_31 (.bool false) fun v42_32 =>
 guardA v42_32 true (fun K => K v22_15) fun v44_33 =>
 guardA v42_32 true (fun K => K v35_27) fun v45_34 =>
 guardA v42_32 true (pureA (binA .lss v44_33 v45_34)) fun v46_35 =>
 guardA v42_32 true (loadNA w0 v2_1 4) fun v47_36 =>
 guardA v42_32 true (loadNA w0 v3_2 4) fun v48_37 =>
 guardA v42_32 true (callA P w0 n_deduplaw02_below [v47_36, v48_37]) fun v49_38 =>
 guardA v42_32 true (pureA (binBoolA .eql v46_35 v49_38)) fun v50_39 =>
 pickA v42_32 v50_39 (.bool false) fun v51_40 =>
 guardA v51_40 true (fun K => K v22_15) fun v53_41 =>
 guardA v51_40 true (fun K => K v35_27) fun v54_42 =>
 guardA v51_40 true (pureA (binA .eql v53_41 v54_42)) fun v55_43 =>
 guardA v51_40 true (loadNA w0 v2_1 4) fun v56_44 =>
 guardA v51_40 true (loadNA w0 v3_2 4) fun v57_45 =>
 guardA v51_40 true (eqStA P .eql 48 v56_44 v57_45) fun v58_46 =>
 guardA v51_40 true (pureA (binBoolA .eql v55_43 v58_46)) fun v59_47 =>
 pickA v51_40 v59_47 (.bool false) fun v60_48 =>
 retA [v60_48] R)
theorem c_deduplaw02_CodecOrder {w0 : World} {h : Hp} {R : Kont} {a0 a1 : Value} (hj : ∀ v, v ∈ [a0, a1] → v ≠ junk) (hv : s_deduplaw02_CodecOrder prog w0 a0 a1 R h) : ACalls prog w0 n_deduplaw02_CodecOrder [a0, a1] h R := by
  have e : vcFn ⟨prog, w0, 61, ks_deduplaw02_CodecOrder⟩ (drw w0 61) fn_deduplaw02_CodecOrder [a0, a1] R h = s_deduplaw02_CodecOrder prog w0 a0 a1 R h := by
    kernel_rfl
  exact acalls_of_eq (fn := fn_deduplaw02_CodecOrder) (ks := ks_deduplaw02_CodecOrder) (n := 61) (by kernel_rfl) (by kernel_rfl) (draw_ok (by kernel_rfl)) (by simp) hj e hv

abbrev fn_deduplaw02_CodecSplits : Func := f7
def ks_deduplaw02_CodecSplits : List (Nat × List Nat × List Nat) := []
def s_deduplaw02_CodecSplits (P : Program) (w0 : World) (a0 a1 : Value) (R : Kont) : Hp → Prop :=
 callA P w0 n_codec_Split [a0, a1] fun v16_1 =>
 pureA (extA v16_1 0) fun v17_2 =>
 pureA (extA v16_1 1) fun v18_3 =>
 pureA (extA v16_1 2) fun v19_4 =>
 pureA (extA v16_1 3) fun v20_5 =>
 callA P w0 n_dedupref02_Split [a0, a1] fun v24_6 =>
 pureA (extA v24_6 0) fun v25_7 =>
 pureA (extA v24_6 1) fun v26_8 =>
 pureA (extA v24_6 2) fun v27_9 =>
 pureA (extA v24_6 3) fun v28_10 =>
 callA P w0 n_deduplaw02_awake [] fun v29_11 =>
 guardA v29_11 true (fun K => K v17_2) fun v31_12 =>
 guardA v29_11 true (fun K => K v25_7) fun v32_13 =>
 guardA v29_11 true (pureA (binA .eql v31_12 v32_13)) fun v33_14 =>
 pickA v29_11 v33_14 (.bool false) fun v34_15 =>
 guardA v34_15 true (fun K => K v18_3) fun v36_16 =>
 guardA v34_15 true (fun K => K v26_8) fun v37_17 =>
 guardA v34_15 true (callA P w0 n_deduplaw02_sameNumbers [v36_16, v37_17]) fun v38_18 =>
 pickA v34_15 v38_18 (.bool false) fun v39_19 =>
 guardA v39_19 true (fun K => K v19_4) fun v41_20 =>
 guardA v39_19 true (fun K => K v27_9) fun v42_21 =>
 guardA v39_19 true (pureA (binA .eql v41_20 v42_21)) fun v43_22 =>
 pickA v39_19 v43_22 (.bool false) fun v44_23 =>
 guardA v44_23 true (fun K => K v20_5) fun v46_24 =>
 guardA v44_23 true (fun K => K v28_10) fun v47_25 =>
 guardA v44_23 true (pureA (binA .eql v46_24 v47_25)) fun v48_26 =>
 pickA v44_23 v48_26 (.bool false) fun v49_27 =>
 retA [v49_27] R
theorem c_deduplaw02_CodecSplits {w0 : World} {h : Hp} {R : Kont} {a0 a1 : Value} (hj : ∀ v, v ∈ [a0, a1] → v ≠ junk) (hv : s_deduplaw02_CodecSplits prog w0 a0 a1 R h) : ACalls prog w0 n_deduplaw02_CodecSplits [a0, a1] h R := by
  have e : vcFn ⟨prog, w0, 50, ks_deduplaw02_CodecSplits⟩ (drw w0 50) fn_deduplaw02_CodecSplits [a0, a1] R h = s_deduplaw02_CodecSplits prog w0 a0 a1 R h := by
    kernel_rfl
  exact acalls_of_eq (fn := fn_deduplaw02_CodecSplits) (ks := ks_deduplaw02_CodecSplits) (n := 50) (by kernel_rfl) (by kernel_rfl) (draw_ok (by kernel_rfl)) (by simp) hj e hv

abbrev fn_deduplaw02_CodecBack : Func := f8
def ks_deduplaw02_CodecBack : List (Nat × List Nat × List Nat) := [(6, [0, 2, 3, 4, 20, 21, 22], [0, 2, 3]), (18, [2, 9, 51, 52, 53], [2, 9])]
def deduplaw02_CodecBack_B1 (P : Program) (w0 : World) (R : Value → Value → Value → Value → Value → Value → Value → Hp → Prop) (k0 : Value → Value → Value → Hp → Prop) (kr : Value → Value → Value → Hp → Prop) (x0 x2 x3 x4 x20 x21 x22 : Value) : Hp → Prop :=
 pureA (binA .lss x22 x21) fun v23_8 =>
 condA v23_8 (
 idxSlA 3 x20 x22 fun v24_9 =>
 loadNA w0 v24_9 3 fun v25_10 =>
 newA [(.int .i64 0), (.int .u64 0), (.string .empty)] 3 fun v6_11 =>
 storeNA w0 v6_11 v25_10 3 fun _ =>
 addA v6_11 2 fun v27_12 =>
 loadA w0 v27_12 fun v28_13 =>
 pureA (lenStr v28_13) fun v29_14 =>
 pureA (binA .add v29_14 (.int .i64 10)) fun v30_15 =>
 pureA (binA .add x4 v30_15) fun v31_16 =>
 pureA (binA .gtr v31_16 (.int .i64 1073741824)) fun v33_17 =>
 condA v33_17 (
 kr x0 (.bool true) x3) (
 loadNA w0 v6_11 3 fun v35_18 =>
 callA P w0 n_deduplaw02_write [x3, v35_18] fun v36_19 =>
 pureA (binA .add x22 (.int .i64 1)) fun v37_20 =>
 R x0 x2 x3 v31_16 x20 x21 v37_20)) (
 k0 x0 x2 x3)
def deduplaw02_CodecBack_L1 (P : Program) (w0 : World) (k0 : Value → Value → Value → Hp → Prop) (kr : Value → Value → Value → Hp → Prop) : Nat → Value → Value → Value → Value → Value → Value → Value → Hp → Prop
  | 0, _, _, _, _, _, _, _ => fun _ => False
  | m + 1, x0, x2, x3, x4, x20, x21, x22 => deduplaw02_CodecBack_B1 P w0 (deduplaw02_CodecBack_L1 P w0 k0 kr m) k0 kr x0 x2 x3 x4 x20 x21 x22
def deduplaw02_CodecBack_E1 (P : Program) (w0 : World) (k0 : Value → Value → Value → Hp → Prop) (kr : Value → Value → Value → Hp → Prop) (x0 x2 x3 x4 x20 x21 x22 : Value) : Hp → Prop := fun h => ∃ m, deduplaw02_CodecBack_L1 P w0 k0 kr m x0 x2 x3 x4 x20 x21 x22 h
def deduplaw02_CodecBack_B2 (P : Program) (w0 : World) (R : Value → Value → Value → Value → Value → Hp → Prop) (k2 : Value → Value → Hp → Prop) (kr : Value → Value → Hp → Prop) (x2 x9 x51 x52 x53 : Value) : Hp → Prop :=
 pureA (binA .lss x53 x52) fun v54_33 =>
 condA v54_33 (
 idxSlA 3 x51 x53 fun v55_34 =>
 loadNA w0 v55_34 3 fun v56_35 =>
 newA [(.int .i64 0), (.int .u64 0), (.string .empty)] 3 fun v11_36 =>
 storeNA w0 v11_36 v56_35 3 fun _ =>
 addA v11_36 0 fun v57_37 =>
 loadA w0 v57_37 fun v58_38 =>
 pureA (binA .eql v58_38 (.int .i64 0)) fun v60_39 =>
 condA v60_39 (
 pureQ (fun K => K x9) fun v61_40 =>
 pureQ (addA v11_36 1) fun v63_41 =>
 readQ (loadA w0 v63_41) fun v64_42 =>
 pureQ (pureA (convA .u8 v64_42)) fun v65_43 =>
 allA [
 (callA P w0 n_codec_Reader_U8 [v61_40] fun v62_44 =>
 stillA [(sameQ (loadA w0 v63_41) v64_42)] (
 pureQ (pureA (binA .eql v62_44 v65_43)) fun v66_45 =>
 pureQ (fun K => K v66_45) fun v12_46 =>
 endA (
 pureA (unA .not v12_46) fun v115_47 =>
 condA v115_47 (
 kr (.bool false) x9) (
 pureA (binA .add x53 (.int .i64 1)) fun v116_48 =>
 R x2 x9 x51 x52 v116_48))))]) (
 pureA (binA .eql v58_38 (.int .i64 1)) fun v68_49 =>
 condA v68_49 (
 pureQ (fun K => K x9) fun v69_50 =>
 pureQ (addA v11_36 1) fun v71_51 =>
 readQ (loadA w0 v71_51) fun v72_52 =>
 pureQ (pureA (convA .u16 v72_52)) fun v73_53 =>
 allA [
 (callA P w0 n_codec_Reader_U16 [v69_50] fun v70_54 =>
 stillA [(sameQ (loadA w0 v71_51) v72_52)] (
 pureQ (pureA (binA .eql v70_54 v73_53)) fun v74_55 =>
 pureQ (fun K => K v74_55) fun v12_56 =>
 endA (
 pureA (unA .not v12_56) fun v115_57 =>
 condA v115_57 (
 kr (.bool false) x9) (
 pureA (binA .add x53 (.int .i64 1)) fun v116_58 =>
 R x2 x9 x51 x52 v116_58))))]) (
 pureA (binA .eql v58_38 (.int .i64 2)) fun v76_59 =>
 condA v76_59 (
 pureQ (fun K => K x9) fun v77_60 =>
 pureQ (addA v11_36 1) fun v79_61 =>
 readQ (loadA w0 v79_61) fun v80_62 =>
 pureQ (pureA (convA .u32 v80_62)) fun v81_63 =>
 allA [
 (callA P w0 n_codec_Reader_U32 [v77_60] fun v78_64 =>
 stillA [(sameQ (loadA w0 v79_61) v80_62)] (
 pureQ (pureA (binA .eql v78_64 v81_63)) fun v82_65 =>
 pureQ (fun K => K v82_65) fun v12_66 =>
 endA (
 pureA (unA .not v12_66) fun v115_67 =>
 condA v115_67 (
 kr (.bool false) x9) (
 pureA (binA .add x53 (.int .i64 1)) fun v116_68 =>
 R x2 x9 x51 x52 v116_68))))]) (
 pureA (binA .eql v58_38 (.int .i64 3)) fun v84_69 =>
 condA v84_69 (
 pureQ (fun K => K x9) fun v85_70 =>
 pureQ (addA v11_36 1) fun v87_71 =>
 readQ (loadA w0 v87_71) fun v88_72 =>
 allA [
 (callA P w0 n_codec_Reader_U64 [v85_70] fun v86_73 =>
 stillA [(sameQ (loadA w0 v87_71) v88_72)] (
 pureQ (pureA (binA .eql v86_73 v88_72)) fun v89_74 =>
 pureQ (fun K => K v89_74) fun v12_75 =>
 endA (
 pureA (unA .not v12_75) fun v115_76 =>
 condA v115_76 (
 kr (.bool false) x9) (
 pureA (binA .add x53 (.int .i64 1)) fun v116_77 =>
 R x2 x9 x51 x52 v116_77))))]) (
 pureA (binA .eql v58_38 (.int .i64 4)) fun v91_78 =>
 condA v91_78 (
 pureQ (fun K => K x9) fun v92_79 =>
 pureQ (addA v11_36 1) fun v94_80 =>
 readQ (loadA w0 v94_80) fun v95_81 =>
 allA [
 (callA P w0 n_codec_Reader_Varint [v92_79] fun v93_82 =>
 stillA [(sameQ (loadA w0 v94_80) v95_81)] (
 pureQ (pureA (binA .eql v93_82 v95_81)) fun v96_83 =>
 pureQ (fun K => K v96_83) fun v12_84 =>
 endA (
 pureA (unA .not v12_84) fun v115_85 =>
 condA v115_85 (
 kr (.bool false) x9) (
 pureA (binA .add x53 (.int .i64 1)) fun v116_86 =>
 R x2 x9 x51 x52 v116_86))))]) (
 pureA (binA .eql v58_38 (.int .i64 5)) fun v98_87 =>
 condA v98_87 (
 pureQ (fun K => K x9) fun v99_88 =>
 pureQ (addA v11_36 2) fun v101_89 =>
 readQ (loadA w0 v101_89) fun v102_90 =>
 allA [
 (callA P w0 n_codec_Reader_Text [v99_88] fun v100_91 =>
 stillA [(sameQ (loadA w0 v101_89) v102_90)] (
 pureQ (pureA (binA .eql v100_91 v102_90)) fun v103_92 =>
 pureQ (fun K => K v103_92) fun v12_93 =>
 endA (
 pureA (unA .not v12_93) fun v115_94 =>
 condA v115_94 (
 kr (.bool false) x9) (
 pureA (binA .add x53 (.int .i64 1)) fun v116_95 =>
 R x2 x9 x51 x52 v116_95))))]) (
 pureA (binA .eql v58_38 (.int .i64 6)) fun v105_96 =>
 condA v105_96 (
 pureQ (fun K => K x9) fun v106_97 =>
 pureQ (addA v11_36 2) fun v107_98 =>
 readQ (loadA w0 v107_98) fun v108_99 =>
 pureQ (pureA (lenStr v108_99)) fun v109_100 =>
 pureQ (addA v11_36 2) fun v111_101 =>
 readQ (loadA w0 v111_101) fun v112_102 =>
 allA [
 (callA P w0 n_codec_Reader_Raw [v106_97, v109_100] fun v110_103 =>
 stillA [(sameQ (loadA w0 v111_101) v112_102)] (
 pureQ (pureA (binA .eql v110_103 v112_102)) fun v113_104 =>
 pureQ (fun K => K v113_104) fun v12_105 =>
 endA (
 pureA (unA .not v12_105) fun v115_106 =>
 condA v115_106 (
 kr (.bool false) x9) (
 pureA (binA .add x53 (.int .i64 1)) fun v116_107 =>
 R x2 x9 x51 x52 v116_107))))]) (
 pureA (unA .not (.bool true)) fun v115_108 =>
 condA v115_108 (
 kr (.bool false) x9) (
 pureA (binA .add x53 (.int .i64 1)) fun v116_109 =>
 R x2 x9 x51 x52 v116_109))))))))) (
 k2 x2 x9)
def deduplaw02_CodecBack_L2 (P : Program) (w0 : World) (k2 : Value → Value → Hp → Prop) (kr : Value → Value → Hp → Prop) : Nat → Value → Value → Value → Value → Value → Hp → Prop
  | 0, _, _, _, _, _ => fun _ => False
  | m + 1, x2, x9, x51, x52, x53 => deduplaw02_CodecBack_B2 P w0 (deduplaw02_CodecBack_L2 P w0 k2 kr m) k2 kr x2 x9 x51 x52 x53
def deduplaw02_CodecBack_E2 (P : Program) (w0 : World) (k2 : Value → Value → Hp → Prop) (kr : Value → Value → Hp → Prop) (x2 x9 x51 x52 x53 : Value) : Hp → Prop := fun h => ∃ m, deduplaw02_CodecBack_L2 P w0 k2 kr m x2 x9 x51 x52 x53 h
def s_deduplaw02_CodecBack (P : Program) (w0 : World) (a0 : Value) (R : Kont) : Hp → Prop :=
 callA P w0 n_codec_NewWriter [(.int .i64 1073741824)] fun v13_1 =>
 callA P w0 n_deduplaw02_awake [] fun v14_2 =>
 pureA (unA .not v14_2) fun v15_3 =>
 guardA v15_3 false (fun K => K v13_1) fun v17_4 =>
 guardA v15_3 false (pureA (binPtrA .eql v17_4 (.pointer none))) fun v18_5 =>
 pickA v15_3 (.bool true) v18_5 fun v19_6 =>
 condA v19_6 (
 retA [(.bool false)] R) (
 pureA (lenSl a0) fun v21_7 =>
 deduplaw02_CodecBack_E1 P w0 (fun y0_21 y2_22 y3_23 =>
 callA P w0 n_codec_Writer_Done [y3_23] fun v40_24 =>
 pureA (extA v40_24 0) fun v41_25 =>
 pureA (extA v40_24 1) fun v42_26 =>
 callA P w0 n_codec_NewReader [v41_25] fun v44_27 =>
 pureA (binA .neq v42_26 (.int .i64 0)) fun v46_28 =>
 guardA v46_28 false (fun K => K v44_27) fun v48_29 =>
 guardA v46_28 false (pureA (binPtrA .eql v48_29 (.pointer none))) fun v49_30 =>
 pickA v46_28 (.bool true) v49_30 fun v50_31 =>
 condA v50_31 (
 retA [(.bool false)] R) (
 pureA (lenSl y0_21) fun v52_32 =>
 deduplaw02_CodecBack_E2 P w0 (fun y2_110 y9_111 =>
 callA P w0 n_codec_Reader_Left [y9_111] fun v118_112 =>
 pureA (binA .eql v118_112 (.int .i64 0)) fun v119_113 =>
 guardA v119_113 true (fun K => K y9_111) fun v121_114 =>
 guardA v119_113 true (callA P w0 n_codec_Reader_Done [v121_114]) fun v122_115 =>
 guardA v119_113 true (pureA (binA .eql v122_115 (.int .i64 0))) fun v123_116 =>
 pickA v119_113 v123_116 (.bool false) fun v124_117 =>
 retA [v124_117] R) (fun y2_118 y9_119 =>
 retA [y2_118] R) y2_22 v44_27 y0_21 v52_32 (.int .i64 0))) (fun y0_120 y2_121 y3_122 =>
 retA [y2_121] R) a0 (.bool false) v13_1 (.int .i64 0) a0 v21_7 (.int .i64 0))
theorem deduplaw02_CodecBack_L2_eq (w0 : World) (k2 : Value → Value → Hp → Prop) (kr : Value → Value → Hp → Prop) : ∀ (m : Nat) (x2 x9 x51 x52 x53 : Value) (h : Hp), loopA (stepL ⟨prog, w0, 125, ks_deduplaw02_CodecBack⟩ (drw w0 125) (loopAt fn_deduplaw02_CodecBack 1)) m (mkFr [(2, x2), (9, x9), (51, x51), (52, x52), (53, x53)]) [fun t => k2 (t 2) (t 9), fun t => kr (t 2) (t 9)] h = deduplaw02_CodecBack_L2 prog w0 k2 kr m x2 x9 x51 x52 x53 h := by
  intro m
  induction m with
  | zero => intros; kernel_rfl
  | succ m ih =>
    intro x2 x9 x51 x52 x53 h
    have e : deduplaw02_CodecBack_L2 prog w0 k2 kr m = fun x2 x9 x51 x52 x53 h => loopA (stepL ⟨prog, w0, 125, ks_deduplaw02_CodecBack⟩ (drw w0 125) (loopAt fn_deduplaw02_CodecBack 1)) m (mkFr [(2, x2), (9, x9), (51, x51), (52, x52), (53, x53)]) [fun t => k2 (t 2) (t 9), fun t => kr (t 2) (t 9)] h := by funext x2 x9 x51 x52 x53 h; exact (ih x2 x9 x51 x52 x53 h).symm
    show _ = deduplaw02_CodecBack_B2 prog w0 (deduplaw02_CodecBack_L2 prog w0 k2 kr m) k2 kr x2 x9 x51 x52 x53 h
    rw [e]
    kernel_rfl
theorem deduplaw02_CodecBack_E2_eq (w0 : World) : deduplaw02_CodecBack_E2 prog w0 = fun k2 kr x2 x9 x51 x52 x53 h => ∃ m, loopA (stepL ⟨prog, w0, 125, ks_deduplaw02_CodecBack⟩ (drw w0 125) (loopAt fn_deduplaw02_CodecBack 1)) m (mkFr [(2, x2), (9, x9), (51, x51), (52, x52), (53, x53)]) [fun t => k2 (t 2) (t 9), fun t => kr (t 2) (t 9)] h := by
  funext k2 kr x2 x9 x51 x52 x53 h
  exact congrArg Exists (funext fun m => (deduplaw02_CodecBack_L2_eq w0 k2 kr m x2 x9 x51 x52 x53 h).symm)
theorem deduplaw02_CodecBack_L1_eq (w0 : World) (k0 : Value → Value → Value → Hp → Prop) (kr : Value → Value → Value → Hp → Prop) : ∀ (m : Nat) (x0 x2 x3 x4 x20 x21 x22 : Value) (h : Hp), loopA (stepL ⟨prog, w0, 125, ks_deduplaw02_CodecBack⟩ (drw w0 125) (loopAt fn_deduplaw02_CodecBack 0)) m (mkFr [(0, x0), (2, x2), (3, x3), (4, x4), (20, x20), (21, x21), (22, x22)]) [fun t => k0 (t 0) (t 2) (t 3), fun t => kr (t 0) (t 2) (t 3)] h = deduplaw02_CodecBack_L1 prog w0 k0 kr m x0 x2 x3 x4 x20 x21 x22 h := by
  intro m
  induction m with
  | zero => intros; kernel_rfl
  | succ m ih =>
    intro x0 x2 x3 x4 x20 x21 x22 h
    have e : deduplaw02_CodecBack_L1 prog w0 k0 kr m = fun x0 x2 x3 x4 x20 x21 x22 h => loopA (stepL ⟨prog, w0, 125, ks_deduplaw02_CodecBack⟩ (drw w0 125) (loopAt fn_deduplaw02_CodecBack 0)) m (mkFr [(0, x0), (2, x2), (3, x3), (4, x4), (20, x20), (21, x21), (22, x22)]) [fun t => k0 (t 0) (t 2) (t 3), fun t => kr (t 0) (t 2) (t 3)] h := by funext x0 x2 x3 x4 x20 x21 x22 h; exact (ih x0 x2 x3 x4 x20 x21 x22 h).symm
    show _ = deduplaw02_CodecBack_B1 prog w0 (deduplaw02_CodecBack_L1 prog w0 k0 kr m) k0 kr x0 x2 x3 x4 x20 x21 x22 h
    rw [e]
    kernel_rfl
theorem deduplaw02_CodecBack_E1_eq (w0 : World) : deduplaw02_CodecBack_E1 prog w0 = fun k0 kr x0 x2 x3 x4 x20 x21 x22 h => ∃ m, loopA (stepL ⟨prog, w0, 125, ks_deduplaw02_CodecBack⟩ (drw w0 125) (loopAt fn_deduplaw02_CodecBack 0)) m (mkFr [(0, x0), (2, x2), (3, x3), (4, x4), (20, x20), (21, x21), (22, x22)]) [fun t => k0 (t 0) (t 2) (t 3), fun t => kr (t 0) (t 2) (t 3)] h := by
  funext k0 kr x0 x2 x3 x4 x20 x21 x22 h
  exact congrArg Exists (funext fun m => (deduplaw02_CodecBack_L1_eq w0 k0 kr m x0 x2 x3 x4 x20 x21 x22 h).symm)
theorem c_deduplaw02_CodecBack {w0 : World} {h : Hp} {R : Kont} {a0 : Value} (hj : ∀ v, v ∈ [a0] → v ≠ junk) (hv : s_deduplaw02_CodecBack prog w0 a0 R h) : ACalls prog w0 n_deduplaw02_CodecBack [a0] h R := by
  have e : vcFn ⟨prog, w0, 125, ks_deduplaw02_CodecBack⟩ (drw w0 125) fn_deduplaw02_CodecBack [a0] R h = s_deduplaw02_CodecBack prog w0 a0 R h := by
    unfold s_deduplaw02_CodecBack
    rw [deduplaw02_CodecBack_E1_eq w0, deduplaw02_CodecBack_E2_eq w0]
    kernel_rfl
  exact acalls_of_eq (fn := fn_deduplaw02_CodecBack) (ks := ks_deduplaw02_CodecBack) (n := 125) (by kernel_rfl) (by kernel_rfl) (draw_ok (by kernel_rfl)) (by simp) hj e hv

abbrev fn_deduplaw02_CodecUnframes : Func := f9
def ks_deduplaw02_CodecUnframes : List (Nat × List Nat × List Nat) := []
def s_deduplaw02_CodecUnframes (P : Program) (w0 : World) (a0 : Value) (R : Kont) : Hp → Prop :=
 callA P w0 n_codec_Unframe [a0] fun v13_1 =>
 pureA (extA v13_1 0) fun v14_2 =>
 pureA (extA v13_1 1) fun v15_3 =>
 pureA (extA v13_1 2) fun v16_4 =>
 pureA (extA v13_1 3) fun v17_5 =>
 callA P w0 n_dedupref02_Unframe [a0] fun v20_6 =>
 pureA (extA v20_6 0) fun v21_7 =>
 pureA (extA v20_6 1) fun v22_8 =>
 pureA (extA v20_6 2) fun v23_9 =>
 pureA (extA v20_6 3) fun v24_10 =>
 callA P w0 n_deduplaw02_awake [] fun v25_11 =>
 guardA v25_11 true (fun K => K v14_2) fun v27_12 =>
 guardA v25_11 true (fun K => K v21_7) fun v28_13 =>
 guardA v25_11 true (pureA (binA .eql v27_12 v28_13)) fun v29_14 =>
 pickA v25_11 v29_14 (.bool false) fun v30_15 =>
 guardA v30_15 true (fun K => K v15_3) fun v32_16 =>
 guardA v30_15 true (fun K => K v22_8) fun v33_17 =>
 guardA v30_15 true (pureA (binA .eql v32_16 v33_17)) fun v34_18 =>
 pickA v30_15 v34_18 (.bool false) fun v35_19 =>
 guardA v35_19 true (fun K => K v16_4) fun v37_20 =>
 guardA v35_19 true (fun K => K v23_9) fun v38_21 =>
 guardA v35_19 true (pureA (binA .eql v37_20 v38_21)) fun v39_22 =>
 pickA v35_19 v39_22 (.bool false) fun v40_23 =>
 guardA v40_23 true (fun K => K v17_5) fun v42_24 =>
 guardA v40_23 true (fun K => K v24_10) fun v43_25 =>
 guardA v40_23 true (pureA (binA .eql v42_24 v43_25)) fun v44_26 =>
 pickA v40_23 v44_26 (.bool false) fun v45_27 =>
 guardA v45_27 true (fun K => K a0) fun v47_28 =>
 guardA v45_27 true (callA P w0 n_codec_Crc [v47_28]) fun v48_29 =>
 guardA v45_27 true (fun K => K a0) fun v49_30 =>
 guardA v45_27 true (callA P w0 n_dedupref02_Crc [v49_30]) fun v50_31 =>
 guardA v45_27 true (pureA (binA .eql v48_29 v50_31)) fun v51_32 =>
 pickA v45_27 v51_32 (.bool false) fun v52_33 =>
 retA [v52_33] R
theorem c_deduplaw02_CodecUnframes {w0 : World} {h : Hp} {R : Kont} {a0 : Value} (hj : ∀ v, v ∈ [a0] → v ≠ junk) (hv : s_deduplaw02_CodecUnframes prog w0 a0 R h) : ACalls prog w0 n_deduplaw02_CodecUnframes [a0] h R := by
  have e : vcFn ⟨prog, w0, 53, ks_deduplaw02_CodecUnframes⟩ (drw w0 53) fn_deduplaw02_CodecUnframes [a0] R h = s_deduplaw02_CodecUnframes prog w0 a0 R h := by
    kernel_rfl
  exact acalls_of_eq (fn := fn_deduplaw02_CodecUnframes) (ks := ks_deduplaw02_CodecUnframes) (n := 53) (by kernel_rfl) (by kernel_rfl) (draw_ok (by kernel_rfl)) (by simp) hj e hv

abbrev fn_deduplaw02_CodecNobody : Func := f10
def ks_deduplaw02_CodecNobody : List (Nat × List Nat × List Nat) := []
def s_deduplaw02_CodecNobody (P : Program) (w0 : World) (a0 : Value) (R : Kont) : Hp → Prop :=
 boxA true 3 a0 fun v1_1 =>
 loadNA w0 v1_1 3 fun v8_2 =>
 callA P w0 n_deduplaw02_write [(.pointer none), v8_2] fun v9_3 =>
 callA P w0 n_codec_Writer_Done [(.pointer none)] fun v12_4 =>
 pureA (extA v12_4 0) fun v13_5 =>
 pureA (extA v12_4 1) fun v14_6 =>
 callA P w0 n_deduplaw02_awake [] fun v15_7 =>
 pureA (unA .not v15_7) fun v16_8 =>
 guardA v16_8 false (fun K => K v13_5) fun v18_9 =>
 guardA v16_8 false (pureA (binA .neq v18_9 (.string .empty))) fun v19_10 =>
 pickA v16_8 (.bool true) v19_10 fun v20_11 =>
 guardA v20_11 false (fun K => K v14_6) fun v22_12 =>
 guardA v20_11 false (pureA (binA .neq v22_12 (.int .i64 6))) fun v23_13 =>
 pickA v20_11 (.bool true) v23_13 fun v24_14 =>
 guardA v24_14 false (fun K => K (.pointer none)) fun v26_15 =>
 guardA v24_14 false (callA P w0 n_codec_Writer_Len [v26_15]) fun v27_16 =>
 guardA v24_14 false (pureA (binA .neq v27_16 (.int .i64 0))) fun v28_17 =>
 pickA v24_14 (.bool true) v28_17 fun v29_18 =>
 guardA v29_18 false (fun K => K (.pointer none)) fun v31_19 =>
 guardA v29_18 false (callA P w0 n_codec_Reader_U8 [v31_19]) fun v32_20 =>
 guardA v29_18 false (pureA (binA .neq v32_20 (.int .u8 0))) fun v33_21 =>
 pickA v29_18 (.bool true) v33_21 fun v34_22 =>
 guardA v34_22 false (fun K => K (.pointer none)) fun v36_23 =>
 guardA v34_22 false (callA P w0 n_codec_Reader_U16 [v36_23]) fun v37_24 =>
 guardA v34_22 false (pureA (binA .neq v37_24 (.int .u16 0))) fun v38_25 =>
 pickA v34_22 (.bool true) v38_25 fun v39_26 =>
 guardA v39_26 false (fun K => K (.pointer none)) fun v41_27 =>
 guardA v39_26 false (callA P w0 n_codec_Reader_U32 [v41_27]) fun v42_28 =>
 guardA v39_26 false (pureA (binA .neq v42_28 (.int .u32 0))) fun v43_29 =>
 pickA v39_26 (.bool true) v43_29 fun v44_30 =>
 guardA v44_30 false (fun K => K (.pointer none)) fun v46_31 =>
 guardA v44_30 false (callA P w0 n_codec_Reader_U64 [v46_31]) fun v47_32 =>
 guardA v44_30 false (pureA (binA .neq v47_32 (.int .u64 0))) fun v48_33 =>
 pickA v44_30 (.bool true) v48_33 fun v49_34 =>
 guardA v49_34 false (fun K => K (.pointer none)) fun v51_35 =>
 guardA v49_34 false (callA P w0 n_codec_Reader_Varint [v51_35]) fun v52_36 =>
 guardA v49_34 false (pureA (binA .neq v52_36 (.int .u64 0))) fun v53_37 =>
 pickA v49_34 (.bool true) v53_37 fun v54_38 =>
 guardA v54_38 false (fun K => K (.pointer none)) fun v56_39 =>
 guardA v54_38 false (callA P w0 n_codec_Reader_Text [v56_39]) fun v57_40 =>
 guardA v54_38 false (pureA (binA .neq v57_40 (.string .empty))) fun v58_41 =>
 pickA v54_38 (.bool true) v58_41 fun v59_42 =>
 guardA v59_42 false (fun K => K (.pointer none)) fun v61_43 =>
 guardA v59_42 false (addA v1_1 1) fun v62_44 =>
 guardA v59_42 false (loadA w0 v62_44) fun v63_45 =>
 guardA v59_42 false (pureA (convA .i64 v63_45)) fun v64_46 =>
 guardA v59_42 false (callA P w0 n_codec_Reader_Raw [v61_43, v64_46]) fun v65_47 =>
 guardA v59_42 false (pureA (binA .neq v65_47 (.string .empty))) fun v66_48 =>
 pickA v59_42 (.bool true) v66_48 fun v67_49 =>
 condA v67_49 (
 retA [(.bool false)] R) (
 callA P w0 n_codec_Reader_Left [(.pointer none)] fun v69_50 =>
 pureA (binA .eql v69_50 (.int .i64 0)) fun v70_51 =>
 guardA v70_51 true (fun K => K (.pointer none)) fun v72_52 =>
 guardA v70_51 true (callA P w0 n_codec_Reader_Err [v72_52]) fun v73_53 =>
 guardA v70_51 true (pureA (binA .eql v73_53 (.int .i64 6))) fun v74_54 =>
 pickA v70_51 v74_54 (.bool false) fun v75_55 =>
 guardA v75_55 true (fun K => K (.pointer none)) fun v77_56 =>
 guardA v75_55 true (callA P w0 n_codec_Reader_Done [v77_56]) fun v78_57 =>
 guardA v75_55 true (pureA (binA .eql v78_57 (.int .i64 6))) fun v79_58 =>
 pickA v75_55 v79_58 (.bool false) fun v80_59 =>
 pickA v80_59 (.bool true) (.bool false) fun v82_60 =>
 pickA v82_60 (.bool true) (.bool false) fun v84_61 =>
 pickA v84_61 (.bool true) (.bool false) fun v86_62 =>
 pickA v86_62 (.bool true) (.bool false) fun v88_63 =>
 pickA v88_63 (.bool true) (.bool false) fun v90_64 =>
 pickA v90_64 (.bool true) (.bool false) fun v92_65 =>
 retA [v92_65] R)
theorem c_deduplaw02_CodecNobody {w0 : World} {h : Hp} {R : Kont} {a0 : Value} (hj : ∀ v, v ∈ [a0] → v ≠ junk) (hv : s_deduplaw02_CodecNobody prog w0 a0 R h) : ACalls prog w0 n_deduplaw02_CodecNobody [a0] h R := by
  have e : vcFn ⟨prog, w0, 93, ks_deduplaw02_CodecNobody⟩ (drw w0 93) fn_deduplaw02_CodecNobody [a0] R h = s_deduplaw02_CodecNobody prog w0 a0 R h := by
    kernel_rfl
  exact acalls_of_eq (fn := fn_deduplaw02_CodecNobody) (ks := ks_deduplaw02_CodecNobody) (n := 93) (by kernel_rfl) (by kernel_rfl) (draw_ok (by kernel_rfl)) (by simp) hj e hv

abbrev fn_deduplaw02_CodecKeys : Func := f11
def ks_deduplaw02_CodecKeys : List (Nat × List Nat × List Nat) := []
def s_deduplaw02_CodecKeys (P : Program) (w0 : World) (a0 a1 a2 : Value) (R : Kont) : Hp → Prop :=
 callA P w0 n_deduplaw02_awake [] fun v15_1 =>
 pureA (unA .not v15_1) fun v16_2 =>
 condA v16_2 (
 retA [(.bool false)] R) (
 bslA [] (zerosL [(.int .u64 0)] 0) 0 1 fun v17_3 =>
 appA w0 1 8 v17_3 a1 fun v19_4 =>
 callA P w0 n_codec_Key [a0, v19_4, a2] fun v24_5 =>
 pureA (extA v24_5 0) fun v25_6 =>
 pureA (extA v24_5 1) fun v26_7 =>
 callA P w0 n_dedupref02_Key [a0, a1, a2] fun v31_8 =>
 pureA (extA v31_8 0) fun v32_9 =>
 pureA (extA v31_8 1) fun v33_10 =>
 pureA (binA .neq v25_6 v32_9) fun v36_11 =>
 guardA v36_11 false (fun K => K v26_7) fun v38_12 =>
 guardA v36_11 false (fun K => K v33_10) fun v39_13 =>
 guardA v36_11 false (pureA (binA .neq v38_12 v39_13)) fun v40_14 =>
 pickA v36_11 (.bool true) v40_14 fun v41_15 =>
 guardA v41_15 false (fun K => K v19_4) fun v43_16 =>
 guardA v41_15 false (fun K => K a1) fun v44_17 =>
 guardA v41_15 false (callA P w0 n_deduplaw02_sameNumbers [v43_16, v44_17]) fun v45_18 =>
 guardA v41_15 false (pureA (unA .not v45_18)) fun v46_19 =>
 pickA v41_15 (.bool true) v46_19 fun v47_20 =>
 condA v47_20 (
 retA [(.bool false)] R) (
 pureA (binA .neq v33_10 (.int .i64 0)) fun v49_21 =>
 condA v49_21 (
 retA [(.bool true)] R) (
 pureA (lenSl a1) fun v53_22 =>
 callA P w0 n_codec_Split [v25_6, v53_22] fun v54_23 =>
 pureA (extA v54_23 0) fun v55_24 =>
 pureA (extA v54_23 1) fun v56_25 =>
 pureA (extA v54_23 2) fun v57_26 =>
 pureA (extA v54_23 3) fun v58_27 =>
 pureA (binA .eql v55_24 a0) fun v61_28 =>
 guardA v61_28 true (fun K => K v56_25) fun v63_29 =>
 guardA v61_28 true (fun K => K a1) fun v64_30 =>
 guardA v61_28 true (callA P w0 n_deduplaw02_sameNumbers [v63_29, v64_30]) fun v65_31 =>
 pickA v61_28 v65_31 (.bool false) fun v66_32 =>
 guardA v66_32 true (fun K => K v57_26) fun v68_33 =>
 guardA v66_32 true (fun K => K a2) fun v69_34 =>
 guardA v66_32 true (pureA (binA .eql v68_33 v69_34)) fun v70_35 =>
 pickA v66_32 v70_35 (.bool false) fun v71_36 =>
 guardA v71_36 true (fun K => K v58_27) fun v73_37 =>
 guardA v71_36 true (pureA (binA .eql v73_37 (.int .i64 0))) fun v74_38 =>
 pickA v71_36 v74_38 (.bool false) fun v75_39 =>
 retA [v75_39] R)))
theorem c_deduplaw02_CodecKeys {w0 : World} {h : Hp} {R : Kont} {a0 a1 a2 : Value} (hj : ∀ v, v ∈ [a0, a1, a2] → v ≠ junk) (hv : s_deduplaw02_CodecKeys prog w0 a0 a1 a2 R h) : ACalls prog w0 n_deduplaw02_CodecKeys [a0, a1, a2] h R := by
  have e : vcFn ⟨prog, w0, 76, ks_deduplaw02_CodecKeys⟩ (drw w0 76) fn_deduplaw02_CodecKeys [a0, a1, a2] R h = s_deduplaw02_CodecKeys prog w0 a0 a1 a2 R h := by
    kernel_rfl
  exact acalls_of_eq (fn := fn_deduplaw02_CodecKeys) (ks := ks_deduplaw02_CodecKeys) (n := 76) (by kernel_rfl) (by kernel_rfl) (draw_ok (by kernel_rfl)) (by simp) hj e hv

abbrev fn_deduplaw02_CodecFrames : Func := f12
def ks_deduplaw02_CodecFrames : List (Nat × List Nat × List Nat) := []
def s_deduplaw02_CodecFrames (P : Program) (w0 : World) (a0 a1 a2 : Value) (R : Kont) : Hp → Prop :=
 callA P w0 n_deduplaw02_awake [] fun v14_1 =>
 pureA (unA .not v14_1) fun v15_2 =>
 condA v15_2 (
 retA [(.bool false)] R) (
 callA P w0 n_codec_Frame [a0, a1] fun v19_3 =>
 pureA (extA v19_3 0) fun v20_4 =>
 pureA (extA v19_3 1) fun v21_5 =>
 callA P w0 n_dedupref02_Frame [a0, a1] fun v25_6 =>
 pureA (extA v25_6 0) fun v26_7 =>
 pureA (extA v25_6 1) fun v27_8 =>
 pureA (binA .neq v20_4 v26_7) fun v30_9 =>
 guardA v30_9 false (fun K => K v21_5) fun v32_10 =>
 guardA v30_9 false (fun K => K v27_8) fun v33_11 =>
 guardA v30_9 false (pureA (binA .neq v32_10 v33_11)) fun v34_12 =>
 pickA v30_9 (.bool true) v34_12 fun v35_13 =>
 condA v35_13 (
 retA [(.bool false)] R) (
 pureA (binA .neq v27_8 (.int .i64 0)) fun v37_14 =>
 condA v37_14 (
 retA [(.bool true)] R) (
 pureA (binA .add v20_4 a2) fun v41_15 =>
 callA P w0 n_codec_Unframe [v41_15] fun v42_16 =>
 pureA (extA v42_16 0) fun v43_17 =>
 pureA (extA v42_16 1) fun v44_18 =>
 pureA (extA v42_16 2) fun v45_19 =>
 pureA (extA v42_16 3) fun v46_20 =>
 pureA (binA .eql v43_17 a0) fun v49_21 =>
 guardA v49_21 true (fun K => K v44_18) fun v51_22 =>
 guardA v49_21 true (fun K => K a1) fun v52_23 =>
 guardA v49_21 true (pureA (binA .eql v51_22 v52_23)) fun v53_24 =>
 pickA v49_21 v53_24 (.bool false) fun v54_25 =>
 guardA v54_25 true (fun K => K v45_19) fun v56_26 =>
 guardA v54_25 true (fun K => K v20_4) fun v57_27 =>
 guardA v54_25 true (pureA (lenStr v57_27)) fun v58_28 =>
 guardA v54_25 true (pureA (binA .eql v56_26 v58_28)) fun v59_29 =>
 pickA v54_25 v59_29 (.bool false) fun v60_30 =>
 guardA v60_30 true (fun K => K v46_20) fun v62_31 =>
 guardA v60_30 true (pureA (binA .eql v62_31 (.int .i64 0))) fun v63_32 =>
 pickA v60_30 v63_32 (.bool false) fun v64_33 =>
 retA [v64_33] R)))
theorem c_deduplaw02_CodecFrames {w0 : World} {h : Hp} {R : Kont} {a0 a1 a2 : Value} (hj : ∀ v, v ∈ [a0, a1, a2] → v ≠ junk) (hv : s_deduplaw02_CodecFrames prog w0 a0 a1 a2 R h) : ACalls prog w0 n_deduplaw02_CodecFrames [a0, a1, a2] h R := by
  have e : vcFn ⟨prog, w0, 65, ks_deduplaw02_CodecFrames⟩ (drw w0 65) fn_deduplaw02_CodecFrames [a0, a1, a2] R h = s_deduplaw02_CodecFrames prog w0 a0 a1 a2 R h := by
    kernel_rfl
  exact acalls_of_eq (fn := fn_deduplaw02_CodecFrames) (ks := ks_deduplaw02_CodecFrames) (n := 65) (by kernel_rfl) (by kernel_rfl) (draw_ok (by kernel_rfl)) (by simp) hj e hv

abbrev fn_deduplaw02_CodecTurned : Func := f13
def ks_deduplaw02_CodecTurned : List (Nat × List Nat × List Nat) := [(13, [4, 6, 9, 10, 11, 12], [4, 10, 11])]
def deduplaw02_CodecTurned_B1 (P : Program) (w0 : World) (R : Value → Value → Value → Value → Value → Value → Hp → Prop) (k0 : Value → Value → Value → Hp → Prop) (x4 x6 x9 x10 x11 x12 : Value) : Hp → Prop :=
 pureA (binA .lss x12 (.int .i64 32)) fun v63_39 =>
 condA v63_39 (
 pureA (binA .add x9 x12) fun v68_40 =>
 pureA (binA .shr x6 x12) fun v71_41 =>
 pureA (binA .rem v71_41 (.int .u32 2)) fun v72_42 =>
 pureA (binA .eql v72_42 (.int .u32 1)) fun v73_43 =>
 guardA v73_43 true (fun K => K v68_40) fun v75_44 =>
 guardA v73_43 true (fun K => K x4) fun v76_45 =>
 guardA v73_43 true (pureA (lenStr v76_45)) fun v77_46 =>
 guardA v73_43 true (pureA (binA .mul (.int .i64 8) v77_46)) fun v78_47 =>
 guardA v73_43 true (pureA (binA .lss v75_44 v78_47)) fun v79_48 =>
 pickA v73_43 v79_48 (.bool false) fun v80_49 =>
 condA v80_49 (
 pureQ (fun K => K x10) fun v81_50 =>
 pureQ (fun K => K v68_40) fun v82_51 =>
 pureQ (pureA (binA .quo v82_51 (.int .i64 8))) fun v83_52 =>
 pureQ (pureA (binA .add (.int .i64 8) v83_52)) fun v84_53 =>
 pureQ (idxSlA 1 v81_50 v84_53) fun v85_54 =>
 readQ (loadA w0 v85_54) fun v86_55 =>
 pureQ (fun K => K v68_40) fun v87_56 =>
 pureQ (pureA (binA .rem v87_56 (.int .i64 8))) fun v88_57 =>
 pureQ (pureA (binA .shl (.int .u8 1) v88_57)) fun v89_58 =>
 pureQ (pureA (binA .xor v86_55 v89_58)) fun v90_59 =>
 pureQ (idxSlA 1 v81_50 v84_53) fun v91_60 =>
 allA [
 (storeA w0 v91_60 v90_59 fun _ =>
 stillA [] (
 endA (
 pureA (binA .add x12 (.int .i64 1)) fun v65_61 =>
 R x4 x6 x9 x10 (.bool true) v65_61)))]) (
 pureA (binA .add x12 (.int .i64 1)) fun v65_62 =>
 R x4 x6 x9 x10 x11 v65_62)) (
 k0 x4 x10 x11)
def deduplaw02_CodecTurned_L1 (P : Program) (w0 : World) (k0 : Value → Value → Value → Hp → Prop) : Nat → Value → Value → Value → Value → Value → Value → Hp → Prop
  | 0, _, _, _, _, _, _ => fun _ => False
  | m + 1, x4, x6, x9, x10, x11, x12 => deduplaw02_CodecTurned_B1 P w0 (deduplaw02_CodecTurned_L1 P w0 k0 m) k0 x4 x6 x9 x10 x11 x12
def deduplaw02_CodecTurned_E1 (P : Program) (w0 : World) (k0 : Value → Value → Value → Hp → Prop) (x4 x6 x9 x10 x11 x12 : Value) : Hp → Prop := fun h => ∃ m, deduplaw02_CodecTurned_L1 P w0 k0 m x4 x6 x9 x10 x11 x12 h
def s_deduplaw02_CodecTurned (P : Program) (w0 : World) (a0 : Value) (R : Kont) : Hp → Prop :=
 boxA true 4 a0 fun v1_1 =>
 pureQ (addA v1_1 0) fun v17_2 =>
 readQ (loadA w0 v17_2) fun v18_3 =>
 pureQ (addA v1_1 1) fun v19_4 =>
 readQ (loadA w0 v19_4) fun v20_5 =>
 pureQ (addA v1_1 2) fun v21_6 =>
 readQ (loadA w0 v21_6) fun v22_7 =>
 pureQ (addA v1_1 3) fun v23_8 =>
 readQ (loadA w0 v23_8) fun v24_9 =>
 pureQ (fun K => K v18_3) fun v3_10 =>
 pureQ (fun K => K v20_5) fun v4_11 =>
 pureQ (fun K => K v22_7) fun v5_12 =>
 pureQ (fun K => K v24_9) fun v6_13 =>
 endA (
 callA P w0 n_codec_Frame [v3_10, v4_11] fun v28_14 =>
 pureA (extA v28_14 0) fun v29_15 =>
 pureA (extA v28_14 1) fun v30_16 =>
 callA P w0 n_deduplaw02_awake [] fun v31_17 =>
 pureA (unA .not v31_17) fun v32_18 =>
 guardA v32_18 false (fun K => K v30_16) fun v34_19 =>
 guardA v32_18 false (pureA (binA .eql v34_19 (.int .i64 0))) fun v35_20 =>
 guardA v32_18 false (fun K => K v4_11) fun v36_21 =>
 guardA v32_18 false (pureA (lenStr v36_21)) fun v37_22 =>
 guardA v32_18 false (pureA (binA .leq v37_22 (.int .i64 1048576))) fun v38_23 =>
 guardA v32_18 false (pureA (binBoolA .neq v35_20 v38_23)) fun v39_24 =>
 pickA v32_18 (.bool true) v39_24 fun v40_25 =>
 condA v40_25 (
 retA [(.bool false)] R) (
 pureA (binA .neq v30_16 (.int .i64 0)) fun v42_26 =>
 guardA v42_26 false (fun K => K v4_11) fun v44_27 =>
 guardA v42_26 false (pureA (lenStr v44_27)) fun v45_28 =>
 guardA v42_26 false (pureA (binA .eql v45_28 (.int .i64 0))) fun v46_29 =>
 pickA v42_26 (.bool true) v46_29 fun v47_30 =>
 condA v47_30 (
 retA [(.bool true)] R) (
 pureA (lenStr v4_11) fun v50_31 =>
 pureA (binA .mul (.int .i64 8) v50_31) fun v51_32 =>
 pureA (binA .rem v5_12 v51_32) fun v52_33 =>
 pureA (binA .lss v52_33 (.int .i64 0)) fun v54_34 =>
 condA v54_34 (
 pureA (lenStr v4_11) fun v57_35 =>
 pureA (binA .mul (.int .i64 8) v57_35) fun v58_36 =>
 pureA (binA .add v52_33 v58_36) fun v59_37 =>
 s2bA v29_15 fun v61_38 =>
 deduplaw02_CodecTurned_E1 P w0 (fun y4_63 y10_64 y11_65 =>
 b2sA w0 y10_64 fun v94_66 =>
 callA P w0 n_codec_Unframe [v94_66] fun v95_67 =>
 pureA (extA v95_67 0) fun v96_68 =>
 pureA (extA v95_67 1) fun v97_69 =>
 pureA (extA v95_67 2) fun v98_70 =>
 pureA (extA v95_67 3) fun v99_71 =>
 condA y11_65 (
 pureA (binA .eql v99_71 (.int .i64 23)) fun v102_72 =>
 guardA v102_72 true (fun K => K v97_69) fun v104_73 =>
 guardA v102_72 true (pureA (binA .eql v104_73 (.string .empty))) fun v105_74 =>
 pickA v102_72 v105_74 (.bool false) fun v106_75 =>
 retA [v106_75] R) (
 pureA (binA .eql v99_71 (.int .i64 0)) fun v108_76 =>
 guardA v108_76 true (fun K => K v97_69) fun v110_77 =>
 guardA v108_76 true (fun K => K y4_63) fun v111_78 =>
 guardA v108_76 true (pureA (binA .eql v110_77 v111_78)) fun v112_79 =>
 pickA v108_76 v112_79 (.bool false) fun v113_80 =>
 retA [v113_80] R)) v4_11 v6_13 v59_37 v61_38 (.bool false) (.int .i64 0)) (
 s2bA v29_15 fun v61_81 =>
 deduplaw02_CodecTurned_E1 P w0 (fun y4_82 y10_83 y11_84 =>
 b2sA w0 y10_83 fun v94_85 =>
 callA P w0 n_codec_Unframe [v94_85] fun v95_86 =>
 pureA (extA v95_86 0) fun v96_87 =>
 pureA (extA v95_86 1) fun v97_88 =>
 pureA (extA v95_86 2) fun v98_89 =>
 pureA (extA v95_86 3) fun v99_90 =>
 condA y11_84 (
 pureA (binA .eql v99_90 (.int .i64 23)) fun v102_91 =>
 guardA v102_91 true (fun K => K v97_88) fun v104_92 =>
 guardA v102_91 true (pureA (binA .eql v104_92 (.string .empty))) fun v105_93 =>
 pickA v102_91 v105_93 (.bool false) fun v106_94 =>
 retA [v106_94] R) (
 pureA (binA .eql v99_90 (.int .i64 0)) fun v108_95 =>
 guardA v108_95 true (fun K => K v97_88) fun v110_96 =>
 guardA v108_95 true (fun K => K y4_82) fun v111_97 =>
 guardA v108_95 true (pureA (binA .eql v110_96 v111_97)) fun v112_98 =>
 pickA v108_95 v112_98 (.bool false) fun v113_99 =>
 retA [v113_99] R)) v4_11 v6_13 v52_33 v61_81 (.bool false) (.int .i64 0)))))
theorem deduplaw02_CodecTurned_L1_eq (w0 : World) (k0 : Value → Value → Value → Hp → Prop) : ∀ (m : Nat) (x4 x6 x9 x10 x11 x12 : Value) (h : Hp), loopA (stepL ⟨prog, w0, 114, ks_deduplaw02_CodecTurned⟩ (drw w0 114) (loopAt fn_deduplaw02_CodecTurned 0)) m (mkFr [(4, x4), (6, x6), (9, x9), (10, x10), (11, x11), (12, x12)]) [fun t => k0 (t 4) (t 10) (t 11)] h = deduplaw02_CodecTurned_L1 prog w0 k0 m x4 x6 x9 x10 x11 x12 h := by
  intro m
  induction m with
  | zero => intros; kernel_rfl
  | succ m ih =>
    intro x4 x6 x9 x10 x11 x12 h
    have e : deduplaw02_CodecTurned_L1 prog w0 k0 m = fun x4 x6 x9 x10 x11 x12 h => loopA (stepL ⟨prog, w0, 114, ks_deduplaw02_CodecTurned⟩ (drw w0 114) (loopAt fn_deduplaw02_CodecTurned 0)) m (mkFr [(4, x4), (6, x6), (9, x9), (10, x10), (11, x11), (12, x12)]) [fun t => k0 (t 4) (t 10) (t 11)] h := by funext x4 x6 x9 x10 x11 x12 h; exact (ih x4 x6 x9 x10 x11 x12 h).symm
    show _ = deduplaw02_CodecTurned_B1 prog w0 (deduplaw02_CodecTurned_L1 prog w0 k0 m) k0 x4 x6 x9 x10 x11 x12 h
    rw [e]
    kernel_rfl
theorem deduplaw02_CodecTurned_E1_eq (w0 : World) : deduplaw02_CodecTurned_E1 prog w0 = fun k0 x4 x6 x9 x10 x11 x12 h => ∃ m, loopA (stepL ⟨prog, w0, 114, ks_deduplaw02_CodecTurned⟩ (drw w0 114) (loopAt fn_deduplaw02_CodecTurned 0)) m (mkFr [(4, x4), (6, x6), (9, x9), (10, x10), (11, x11), (12, x12)]) [fun t => k0 (t 4) (t 10) (t 11)] h := by
  funext k0 x4 x6 x9 x10 x11 x12 h
  exact congrArg Exists (funext fun m => (deduplaw02_CodecTurned_L1_eq w0 k0 m x4 x6 x9 x10 x11 x12 h).symm)
theorem c_deduplaw02_CodecTurned {w0 : World} {h : Hp} {R : Kont} {a0 : Value} (hj : ∀ v, v ∈ [a0] → v ≠ junk) (hv : s_deduplaw02_CodecTurned prog w0 a0 R h) : ACalls prog w0 n_deduplaw02_CodecTurned [a0] h R := by
  have e : vcFn ⟨prog, w0, 114, ks_deduplaw02_CodecTurned⟩ (drw w0 114) fn_deduplaw02_CodecTurned [a0] R h = s_deduplaw02_CodecTurned prog w0 a0 R h := by
    unfold s_deduplaw02_CodecTurned
    rw [deduplaw02_CodecTurned_E1_eq w0]
    kernel_rfl
  exact acalls_of_eq (fn := fn_deduplaw02_CodecTurned) (ks := ks_deduplaw02_CodecTurned) (n := 114) (by kernel_rfl) (by kernel_rfl) (draw_ok (by kernel_rfl)) (by simp) hj e hv

abbrev fn_deduplaw02_awake : Func := f14
def ks_deduplaw02_awake : List (Nat × List Nat × List Nat) := []
def s_deduplaw02_awake (P : Program) (w0 : World) (R : Kont) : Hp → Prop :=
 callA P w0 n_codec_NewWriter [(.int .i64 100)] fun v5_1 =>
 pureA (binPtrA .eql v5_1 (.pointer none)) fun v7_2 =>
 guardA v7_2 false (callA P w0 n_codec_Crc [(.string ⟨#[49, 50, 51, 52, 53, 54, 55, 56, 57]⟩)]) fun v9_3 =>
 guardA v7_2 false (pureA (binA .neq v9_3 (.int .u32 3808858755))) fun v10_4 =>
 pickA v7_2 (.bool true) v10_4 fun v11_5 =>
 condA v11_5 (
 retA [(.bool false)] R) (
 callA P w0 n_codec_Writer_Varint [v5_1, (.int .u64 300)] fun v13_6 =>
 callA P w0 n_codec_Writer_Text [v5_1, (.string ⟨#[97, 98]⟩)] fun v15_7 =>
 callA P w0 n_codec_Writer_Done [v5_1] fun v18_8 =>
 pureA (extA v18_8 0) fun v19_9 =>
 pureA (extA v18_8 1) fun v20_10 =>
 callA P w0 n_codec_NewReader [v19_9] fun v22_11 =>
 pureA (binPtrA .eql v22_11 (.pointer none)) fun v24_12 =>
 guardA v24_12 false (fun K => K v19_9) fun v26_13 =>
 guardA v24_12 false (pureA (binA .neq v26_13 (.string ⟨#[172, 2, 2, 97, 98]⟩))) fun v27_14 =>
 pickA v24_12 (.bool true) v27_14 fun v28_15 =>
 guardA v28_15 false (fun K => K v20_10) fun v30_16 =>
 guardA v28_15 false (pureA (binA .neq v30_16 (.int .i64 0))) fun v31_17 =>
 pickA v28_15 (.bool true) v31_17 fun v32_18 =>
 condA v32_18 (
 retA [(.bool false)] R) (
 callA P w0 n_codec_Reader_Varint [v22_11] fun v34_19 =>
 pureA (binA .eql v34_19 (.int .u64 300)) fun v35_20 =>
 guardA v35_20 true (fun K => K v22_11) fun v37_21 =>
 guardA v35_20 true (callA P w0 n_codec_Reader_Text [v37_21]) fun v38_22 =>
 guardA v35_20 true (pureA (binA .eql v38_22 (.string ⟨#[97, 98]⟩))) fun v39_23 =>
 pickA v35_20 v39_23 (.bool false) fun v40_24 =>
 guardA v40_24 true (fun K => K v22_11) fun v42_25 =>
 guardA v40_24 true (callA P w0 n_codec_Reader_Done [v42_25]) fun v43_26 =>
 guardA v40_24 true (pureA (binA .eql v43_26 (.int .i64 0))) fun v44_27 =>
 pickA v40_24 v44_27 (.bool false) fun v45_28 =>
 retA [v45_28] R))
theorem c_deduplaw02_awake {w0 : World} {h : Hp} {R : Kont} (hj : ∀ v, v ∈ [] → v ≠ junk) (hv : s_deduplaw02_awake prog w0  R h) : ACalls prog w0 n_deduplaw02_awake [] h R := by
  have e : vcFn ⟨prog, w0, 46, ks_deduplaw02_awake⟩ (drw w0 46) fn_deduplaw02_awake [] R h = s_deduplaw02_awake prog w0  R h := by
    kernel_rfl
  exact acalls_of_eq (fn := fn_deduplaw02_awake) (ks := ks_deduplaw02_awake) (n := 46) (by kernel_rfl) (by kernel_rfl) (draw_ok (by kernel_rfl)) (by simp) hj e hv

abbrev fn_deduplaw02_step : Func := f22
def ks_deduplaw02_step : List (Nat × List Nat × List Nat) := []
def s_deduplaw02_step (P : Program) (w0 : World) (a0 a1 a2 : Value) (R : Kont) : Hp → Prop :=
 boxA true 3 a2 fun v5_1 =>
 addA v5_1 0 fun v8_2 =>
 loadA w0 v8_2 fun v9_3 =>
 pureA (binA .eql v9_3 (.int .i64 0)) fun v11_4 =>
 condA v11_4 (
 callA P w0 n_codec_Reader_U8 [a0] fun v13_5 =>
 pureA (convA .u64 v13_5) fun v14_6 =>
 callA P w0 n_deduplaw02_reading_raw [a1, (.int .i64 1)] fun v16_7 =>
 callA P w0 n_dedupref02_Read [v16_7] fun v17_8 =>
 pureA (binA .eql v14_6 v17_8) fun v18_9 =>
 retA [v18_9] R) (
 pureA (binA .eql v9_3 (.int .i64 1)) fun v20_10 =>
 condA v20_10 (
 callA P w0 n_codec_Reader_U16 [a0] fun v22_11 =>
 pureA (convA .u64 v22_11) fun v23_12 =>
 callA P w0 n_deduplaw02_reading_raw [a1, (.int .i64 2)] fun v25_13 =>
 callA P w0 n_dedupref02_Read [v25_13] fun v26_14 =>
 pureA (binA .eql v23_12 v26_14) fun v27_15 =>
 retA [v27_15] R) (
 pureA (binA .eql v9_3 (.int .i64 2)) fun v29_16 =>
 condA v29_16 (
 callA P w0 n_codec_Reader_U32 [a0] fun v31_17 =>
 pureA (convA .u64 v31_17) fun v32_18 =>
 callA P w0 n_deduplaw02_reading_raw [a1, (.int .i64 4)] fun v34_19 =>
 callA P w0 n_dedupref02_Read [v34_19] fun v35_20 =>
 pureA (binA .eql v32_18 v35_20) fun v36_21 =>
 retA [v36_21] R) (
 pureA (binA .eql v9_3 (.int .i64 3)) fun v38_22 =>
 condA v38_22 (
 callA P w0 n_codec_Reader_U64 [a0] fun v40_23 =>
 callA P w0 n_deduplaw02_reading_raw [a1, (.int .i64 8)] fun v42_24 =>
 callA P w0 n_dedupref02_Read [v42_24] fun v43_25 =>
 pureA (binA .eql v40_23 v43_25) fun v44_26 =>
 retA [v44_26] R) (
 pureA (binA .eql v9_3 (.int .i64 4)) fun v46_27 =>
 condA v46_27 (
 callA P w0 n_codec_Reader_Varint [a0] fun v48_28 =>
 callA P w0 n_deduplaw02_reading_varint [a1] fun v50_29 =>
 pureA (binA .eql v48_28 v50_29) fun v51_30 =>
 retA [v51_30] R) (
 pureA (binA .eql v9_3 (.int .i64 5)) fun v53_31 =>
 condA v53_31 (
 callA P w0 n_codec_Reader_Text [a0] fun v55_32 =>
 callA P w0 n_deduplaw02_reading_text [a1] fun v57_33 =>
 pureA (binA .eql v55_32 v57_33) fun v58_34 =>
 retA [v58_34] R) (
 pureA (binA .eql v9_3 (.int .i64 6)) fun v60_35 =>
 condA v60_35 (
 pureQ (fun K => K a0) fun v61_36 =>
 pureQ (addA v5_1 1) fun v62_37 =>
 readQ (loadA w0 v62_37) fun v63_38 =>
 pureQ (pureA (convA .i64 v63_38)) fun v64_39 =>
 pureQ (fun K => K a1) fun v66_40 =>
 pureQ (addA v5_1 1) fun v67_41 =>
 readQ (loadA w0 v67_41) fun v68_42 =>
 pureQ (pureA (convA .i64 v68_42)) fun v69_43 =>
 allA [
 (callA P w0 n_codec_Reader_Raw [v61_36, v64_39] fun v65_44 =>
 stillA [(sameQ (loadA w0 v67_41) v68_42)] (
 allA [
 (callA P w0 n_deduplaw02_reading_raw [v66_40, v69_43] fun v70_45 =>
 stillA [] (
 pureQ (pureA (binA .eql v65_44 v70_45)) fun v71_46 =>
 pureQ (fun K => K v71_46) fun v6_47 =>
 endA (
 retA [v6_47] R)))]))]) (
 nilA a1 fun v73_48 =>
 addA v73_48 1 fun v74_49 =>
 loadA w0 v74_49 fun v75_50 =>
 pureA (binA .eql v75_50 (.int .i64 0)) fun v77_51 =>
 guardA v77_51 true (fun K => K a1) fun v79_52 =>
 guardA v77_51 true (nilA v79_52) fun v80_53 =>
 guardA v77_51 true (addA v80_53 0) fun v81_54 =>
 guardA v77_51 true (loadA w0 v81_54) fun v82_55 =>
 guardA v77_51 true (pureA (binA .neq v82_55 (.string .empty))) fun v83_56 =>
 pickA v77_51 v83_56 (.bool false) fun v84_57 =>
 condA v84_57 (
 pureQ (fun K => K a0) fun v85_58 =>
 pureQ (fun K => K a1) fun v87_59 =>
 pureQ (nilA v87_59) fun v88_60 =>
 pureQ (addA v88_60 0) fun v89_61 =>
 readQ (loadA w0 v89_61) fun v90_62 =>
 pureQ (pureA (lenStr v90_62)) fun v91_63 =>
 allA [
 (callA P w0 n_codec_Reader_Left [v85_58] fun v86_64 =>
 stillA [(sameQ (loadA w0 v89_61) v90_62)] (
 pureQ (pureA (binA .eql v86_64 v91_63)) fun v92_65 =>
 pureQ (fun K => K v92_65) fun v93_66 =>
 pureQ (guardA v93_66 true (fun K => K a0)) fun v94_67 =>
 pureQ (guardA v93_66 true (fun K => K a1)) fun v96_68 =>
 pureQ (guardA v93_66 true (nilA v96_68)) fun v97_69 =>
 pureQ (guardA v93_66 true (addA v97_69 1)) fun v98_70 =>
 readQ (guardA v93_66 true (loadA w0 v98_70)) fun v99_71 =>
 allA [
 (guardA v93_66 true (callA P w0 n_codec_Reader_Err [v94_67]) fun v95_72 =>
 stillA [(sameQ (guardA v93_66 true (loadA w0 v98_70)) v99_71)] (
 pureQ (guardA v93_66 true (pureA (binA .eql v95_72 v99_71))) fun v100_73 =>
 pureQ (pickA v93_66 v100_73 (.bool false)) fun v101_74 =>
 pureQ (fun K => K v101_74) fun v102_75 =>
 pureQ (guardA v102_75 true (fun K => K a0)) fun v103_76 =>
 pureQ (guardA v102_75 true (fun K => K (.int .i64 22))) fun v105_77 =>
 allA [
 (guardA v102_75 true (callA P w0 n_codec_Reader_Done [v103_76]) fun v104_78 =>
 stillA [] (
 pureQ (guardA v102_75 true (pureA (binA .eql v104_78 v105_77))) fun v106_79 =>
 pureQ (pickA v102_75 v106_79 (.bool false)) fun v107_80 =>
 pureQ (fun K => K v107_80) fun v6_81 =>
 endA (
 retA [v6_81] R)))]))]))]) (
 pureQ (fun K => K a0) fun v85_82 =>
 pureQ (fun K => K a1) fun v87_83 =>
 pureQ (nilA v87_83) fun v88_84 =>
 pureQ (addA v88_84 0) fun v89_85 =>
 readQ (loadA w0 v89_85) fun v90_86 =>
 pureQ (pureA (lenStr v90_86)) fun v91_87 =>
 allA [
 (callA P w0 n_codec_Reader_Left [v85_82] fun v86_88 =>
 stillA [(sameQ (loadA w0 v89_85) v90_86)] (
 pureQ (pureA (binA .eql v86_88 v91_87)) fun v92_89 =>
 pureQ (fun K => K v92_89) fun v93_90 =>
 pureQ (guardA v93_90 true (fun K => K a0)) fun v94_91 =>
 pureQ (guardA v93_90 true (fun K => K a1)) fun v96_92 =>
 pureQ (guardA v93_90 true (nilA v96_92)) fun v97_93 =>
 pureQ (guardA v93_90 true (addA v97_93 1)) fun v98_94 =>
 readQ (guardA v93_90 true (loadA w0 v98_94)) fun v99_95 =>
 allA [
 (guardA v93_90 true (callA P w0 n_codec_Reader_Err [v94_91]) fun v95_96 =>
 stillA [(sameQ (guardA v93_90 true (loadA w0 v98_94)) v99_95)] (
 pureQ (guardA v93_90 true (pureA (binA .eql v95_96 v99_95))) fun v100_97 =>
 pureQ (pickA v93_90 v100_97 (.bool false)) fun v101_98 =>
 pureQ (fun K => K v101_98) fun v102_99 =>
 pureQ (guardA v102_99 true (fun K => K a0)) fun v103_100 =>
 pureQ (guardA v102_99 true (fun K => K v75_50)) fun v105_101 =>
 allA [
 (guardA v102_99 true (callA P w0 n_codec_Reader_Done [v103_100]) fun v104_102 =>
 stillA [] (
 pureQ (guardA v102_99 true (pureA (binA .eql v104_102 v105_101))) fun v106_103 =>
 pureQ (pickA v102_99 v106_103 (.bool false)) fun v107_104 =>
 pureQ (fun K => K v107_104) fun v6_105 =>
 endA (
 retA [v6_105] R)))]))]))]))))))))
theorem c_deduplaw02_step {w0 : World} {h : Hp} {R : Kont} {a0 a1 a2 : Value} (hj : ∀ v, v ∈ [a0, a1, a2] → v ≠ junk) (hv : s_deduplaw02_step prog w0 a0 a1 a2 R h) : ACalls prog w0 n_deduplaw02_step [a0, a1, a2] h R := by
  have e : vcFn ⟨prog, w0, 108, ks_deduplaw02_step⟩ (drw w0 108) fn_deduplaw02_step [a0, a1, a2] R h = s_deduplaw02_step prog w0 a0 a1 a2 R h := by
    kernel_rfl
  exact acalls_of_eq (fn := fn_deduplaw02_step) (ks := ks_deduplaw02_step) (n := 108) (by kernel_rfl) (by kernel_rfl) (draw_ok (by kernel_rfl)) (by simp) hj e hv

abbrev fn_deduplaw02_write : Func := f23
def ks_deduplaw02_write : List (Nat × List Nat × List Nat) := []
def s_deduplaw02_write (P : Program) (w0 : World) (a0 a1 : Value) (R : Kont) : Hp → Prop :=
 boxA true 3 a1 fun v3_1 =>
 addA v3_1 0 fun v4_2 =>
 loadA w0 v4_2 fun v5_3 =>
 pureA (binA .eql v5_3 (.int .i64 0)) fun v7_4 =>
 condA v7_4 (
 addA v3_1 1 fun v9_5 =>
 loadA w0 v9_5 fun v10_6 =>
 pureA (convA .u8 v10_6) fun v11_7 =>
 callA P w0 n_codec_Writer_U8 [a0, v11_7] fun v12_8 =>
 retA [] R) (
 pureA (binA .eql v5_3 (.int .i64 1)) fun v14_9 =>
 condA v14_9 (
 addA v3_1 1 fun v16_10 =>
 loadA w0 v16_10 fun v17_11 =>
 pureA (convA .u16 v17_11) fun v18_12 =>
 callA P w0 n_codec_Writer_U16 [a0, v18_12] fun v19_13 =>
 retA [] R) (
 pureA (binA .eql v5_3 (.int .i64 2)) fun v21_14 =>
 condA v21_14 (
 addA v3_1 1 fun v23_15 =>
 loadA w0 v23_15 fun v24_16 =>
 pureA (convA .u32 v24_16) fun v25_17 =>
 callA P w0 n_codec_Writer_U32 [a0, v25_17] fun v26_18 =>
 retA [] R) (
 pureA (binA .eql v5_3 (.int .i64 3)) fun v28_19 =>
 condA v28_19 (
 addA v3_1 1 fun v30_20 =>
 loadA w0 v30_20 fun v31_21 =>
 callA P w0 n_codec_Writer_U64 [a0, v31_21] fun v32_22 =>
 retA [] R) (
 pureA (binA .eql v5_3 (.int .i64 4)) fun v34_23 =>
 condA v34_23 (
 addA v3_1 1 fun v36_24 =>
 loadA w0 v36_24 fun v37_25 =>
 callA P w0 n_codec_Writer_Varint [a0, v37_25] fun v38_26 =>
 retA [] R) (
 pureA (binA .eql v5_3 (.int .i64 5)) fun v40_27 =>
 condA v40_27 (
 addA v3_1 2 fun v42_28 =>
 loadA w0 v42_28 fun v43_29 =>
 callA P w0 n_codec_Writer_Text [a0, v43_29] fun v44_30 =>
 retA [] R) (
 pureA (binA .eql v5_3 (.int .i64 6)) fun v46_31 =>
 condA v46_31 (
 addA v3_1 2 fun v48_32 =>
 loadA w0 v48_32 fun v49_33 =>
 callA P w0 n_codec_Writer_Raw [a0, v49_33] fun v50_34 =>
 retA [] R) (
 retA [] R)))))))
theorem c_deduplaw02_write {w0 : World} {h : Hp} {R : Kont} {a0 a1 : Value} (hj : ∀ v, v ∈ [a0, a1] → v ≠ junk) (hv : s_deduplaw02_write prog w0 a0 a1 R h) : ACalls prog w0 n_deduplaw02_write [a0, a1] h R := by
  have e : vcFn ⟨prog, w0, 51, ks_deduplaw02_write⟩ (drw w0 51) fn_deduplaw02_write [a0, a1] R h = s_deduplaw02_write prog w0 a0 a1 R h := by
    kernel_rfl
  exact acalls_of_eq (fn := fn_deduplaw02_write) (ks := ks_deduplaw02_write) (n := 51) (by kernel_rfl) (by kernel_rfl) (draw_ok (by kernel_rfl)) (by simp) hj e hv

abbrev fn_deduplaw02_bytes : Func := f24
def ks_deduplaw02_bytes : List (Nat × List Nat × List Nat) := []
def s_deduplaw02_bytes (P : Program) (w0 : World) (a0 : Value) (R : Kont) : Hp → Prop :=
 boxA true 3 a0 fun v1_1 =>
 addA v1_1 0 fun v3_2 =>
 loadA w0 v3_2 fun v4_3 =>
 pureA (binA .eql v4_3 (.int .i64 0)) fun v6_4 =>
 condA v6_4 (
 addA v1_1 1 fun v7_5 =>
 loadA w0 v7_5 fun v8_6 =>
 callA P w0 n_dedupref02_Number [v8_6, (.int .i64 1)] fun v9_7 =>
 retA [v9_7] R) (
 pureA (binA .eql v4_3 (.int .i64 1)) fun v11_8 =>
 condA v11_8 (
 addA v1_1 1 fun v12_9 =>
 loadA w0 v12_9 fun v13_10 =>
 callA P w0 n_dedupref02_Number [v13_10, (.int .i64 2)] fun v14_11 =>
 retA [v14_11] R) (
 pureA (binA .eql v4_3 (.int .i64 2)) fun v16_12 =>
 condA v16_12 (
 addA v1_1 1 fun v17_13 =>
 loadA w0 v17_13 fun v18_14 =>
 callA P w0 n_dedupref02_Number [v18_14, (.int .i64 4)] fun v19_15 =>
 retA [v19_15] R) (
 pureA (binA .eql v4_3 (.int .i64 3)) fun v21_16 =>
 condA v21_16 (
 addA v1_1 1 fun v22_17 =>
 loadA w0 v22_17 fun v23_18 =>
 callA P w0 n_dedupref02_Number [v23_18, (.int .i64 8)] fun v24_19 =>
 retA [v24_19] R) (
 pureA (binA .eql v4_3 (.int .i64 4)) fun v26_20 =>
 condA v26_20 (
 addA v1_1 1 fun v27_21 =>
 loadA w0 v27_21 fun v28_22 =>
 callA P w0 n_dedupref02_Varint [v28_22] fun v29_23 =>
 retA [v29_23] R) (
 pureA (binA .eql v4_3 (.int .i64 5)) fun v31_24 =>
 condA v31_24 (
 addA v1_1 2 fun v32_25 =>
 loadA w0 v32_25 fun v33_26 =>
 callA P w0 n_dedupref02_Text [v33_26] fun v34_27 =>
 retA [v34_27] R) (
 pureA (binA .eql v4_3 (.int .i64 6)) fun v36_28 =>
 condA v36_28 (
 addA v1_1 2 fun v37_29 =>
 loadA w0 v37_29 fun v38_30 =>
 retA [v38_30] R) (
 retA [(.string .empty)] R)))))))
theorem c_deduplaw02_bytes {w0 : World} {h : Hp} {R : Kont} {a0 : Value} (hj : ∀ v, v ∈ [a0] → v ≠ junk) (hv : s_deduplaw02_bytes prog w0 a0 R h) : ACalls prog w0 n_deduplaw02_bytes [a0] h R := by
  have e : vcFn ⟨prog, w0, 39, ks_deduplaw02_bytes⟩ (drw w0 39) fn_deduplaw02_bytes [a0] R h = s_deduplaw02_bytes prog w0 a0 R h := by
    kernel_rfl
  exact acalls_of_eq (fn := fn_deduplaw02_bytes) (ks := ks_deduplaw02_bytes) (n := 39) (by kernel_rfl) (by kernel_rfl) (draw_ok (by kernel_rfl)) (by simp) hj e hv

abbrev fn_deduplaw02_below : Func := f27
def ks_deduplaw02_below : List (Nat × List Nat × List Nat) := []
def s_deduplaw02_below (P : Program) (w0 : World) (a0 a1 : Value) (R : Kont) : Hp → Prop :=
 boxA true 4 a0 fun v2_1 =>
 boxA true 4 a1 fun v3_2 =>
 addA v2_1 0 fun v6_3 =>
 loadA w0 v6_3 fun v7_4 =>
 addA v3_2 0 fun v8_5 =>
 loadA w0 v8_5 fun v9_6 =>
 pureA (binA .neq v7_4 v9_6) fun v10_7 =>
 condA v10_7 (
 addA v2_1 0 fun v11_8 =>
 loadA w0 v11_8 fun v12_9 =>
 addA v3_2 0 fun v13_10 =>
 loadA w0 v13_10 fun v14_11 =>
 pureA (binA .lss v12_9 v14_11) fun v15_12 =>
 retA [v15_12] R) (
 addA v2_1 1 fun v17_13 =>
 loadA w0 v17_13 fun v18_14 =>
 addA v3_2 1 fun v19_15 =>
 loadA w0 v19_15 fun v20_16 =>
 pureA (binA .neq v18_14 v20_16) fun v21_17 =>
 condA v21_17 (
 addA v2_1 1 fun v22_18 =>
 loadA w0 v22_18 fun v23_19 =>
 addA v3_2 1 fun v24_20 =>
 loadA w0 v24_20 fun v25_21 =>
 pureA (binA .lss v23_19 v25_21) fun v26_22 =>
 retA [v26_22] R) (
 addA v2_1 2 fun v28_23 =>
 loadA w0 v28_23 fun v29_24 =>
 addA v3_2 2 fun v30_25 =>
 loadA w0 v30_25 fun v31_26 =>
 pureA (binA .neq v29_24 v31_26) fun v32_27 =>
 condA v32_27 (
 addA v2_1 2 fun v33_28 =>
 loadA w0 v33_28 fun v34_29 =>
 addA v3_2 2 fun v35_30 =>
 loadA w0 v35_30 fun v36_31 =>
 pureA (binA .lss v34_29 v36_31) fun v37_32 =>
 retA [v37_32] R) (
 addA v2_1 3 fun v38_33 =>
 loadA w0 v38_33 fun v39_34 =>
 addA v3_2 3 fun v40_35 =>
 loadA w0 v40_35 fun v41_36 =>
 pureA (binA .lss v39_34 v41_36) fun v42_37 =>
 retA [v42_37] R)))
theorem c_deduplaw02_below {w0 : World} {h : Hp} {R : Kont} {a0 a1 : Value} (hj : ∀ v, v ∈ [a0, a1] → v ≠ junk) (hv : s_deduplaw02_below prog w0 a0 a1 R h) : ACalls prog w0 n_deduplaw02_below [a0, a1] h R := by
  have e : vcFn ⟨prog, w0, 43, ks_deduplaw02_below⟩ (drw w0 43) fn_deduplaw02_below [a0, a1] R h = s_deduplaw02_below prog w0 a0 a1 R h := by
    kernel_rfl
  exact acalls_of_eq (fn := fn_deduplaw02_below) (ks := ks_deduplaw02_below) (n := 43) (by kernel_rfl) (by kernel_rfl) (draw_ok (by kernel_rfl)) (by simp) hj e hv

abbrev fn_deduplaw02_sameNumbers : Func := f30
def ks_deduplaw02_sameNumbers : List (Nat × List Nat × List Nat) := [(4, [0, 1, 4, 12, 13], [4])]
def deduplaw02_sameNumbers_B1 (P : Program) (w0 : World) (R : Value → Value → Value → Value → Value → Hp → Prop) (k0 : Value → Hp → Prop) (kr : Value → Hp → Prop) (x0 x1 x4 x12 x13 : Value) : Hp → Prop :=
 pureA (binA .lss x13 x12) fun v14_5 =>
 condA v14_5 (
 pureQ (fun K => K x0) fun v16_6 =>
 pureQ (fun K => K x13) fun v17_7 =>
 pureQ (idxSlA 1 v16_6 v17_7) fun v18_8 =>
 readQ (loadA w0 v18_8) fun v19_9 =>
 pureQ (fun K => K x1) fun v20_10 =>
 pureQ (fun K => K x13) fun v21_11 =>
 pureQ (idxSlA 1 v20_10 v21_11) fun v22_12 =>
 readQ (loadA w0 v22_12) fun v23_13 =>
 pureQ (pureA (binA .neq v19_9 v23_13)) fun v24_14 =>
 endA (
 condA v24_14 (
 kr (.bool false)) (
 pureA (binA .add x13 (.int .i64 1)) fun v25_15 =>
 R x0 x1 x4 x12 v25_15))) (
 k0 x4)
def deduplaw02_sameNumbers_L1 (P : Program) (w0 : World) (k0 : Value → Hp → Prop) (kr : Value → Hp → Prop) : Nat → Value → Value → Value → Value → Value → Hp → Prop
  | 0, _, _, _, _, _ => fun _ => False
  | m + 1, x0, x1, x4, x12, x13 => deduplaw02_sameNumbers_B1 P w0 (deduplaw02_sameNumbers_L1 P w0 k0 kr m) k0 kr x0 x1 x4 x12 x13
def deduplaw02_sameNumbers_E1 (P : Program) (w0 : World) (k0 : Value → Hp → Prop) (kr : Value → Hp → Prop) (x0 x1 x4 x12 x13 : Value) : Hp → Prop := fun h => ∃ m, deduplaw02_sameNumbers_L1 P w0 k0 kr m x0 x1 x4 x12 x13 h
def s_deduplaw02_sameNumbers (P : Program) (w0 : World) (a0 a1 : Value) (R : Kont) : Hp → Prop :=
 pureA (lenSl a0) fun v7_1 =>
 pureA (lenSl a1) fun v9_2 =>
 pureA (binA .neq v7_1 v9_2) fun v10_3 =>
 condA v10_3 (
 retA [(.bool false)] R) (
 pureA (lenSl a0) fun v12_4 =>
 deduplaw02_sameNumbers_E1 P w0 (fun y4_16 =>
 retA [(.bool true)] R) (fun y4_17 =>
 retA [y4_17] R) a0 a1 (.bool false) v12_4 (.int .i64 0))
theorem deduplaw02_sameNumbers_L1_eq (w0 : World) (k0 : Value → Hp → Prop) (kr : Value → Hp → Prop) : ∀ (m : Nat) (x0 x1 x4 x12 x13 : Value) (h : Hp), loopA (stepL ⟨prog, w0, 26, ks_deduplaw02_sameNumbers⟩ (drw w0 26) (loopAt fn_deduplaw02_sameNumbers 0)) m (mkFr [(0, x0), (1, x1), (4, x4), (12, x12), (13, x13)]) [fun t => k0 (t 4), fun t => kr (t 4)] h = deduplaw02_sameNumbers_L1 prog w0 k0 kr m x0 x1 x4 x12 x13 h := by
  intro m
  induction m with
  | zero => intros; kernel_rfl
  | succ m ih =>
    intro x0 x1 x4 x12 x13 h
    have e : deduplaw02_sameNumbers_L1 prog w0 k0 kr m = fun x0 x1 x4 x12 x13 h => loopA (stepL ⟨prog, w0, 26, ks_deduplaw02_sameNumbers⟩ (drw w0 26) (loopAt fn_deduplaw02_sameNumbers 0)) m (mkFr [(0, x0), (1, x1), (4, x4), (12, x12), (13, x13)]) [fun t => k0 (t 4), fun t => kr (t 4)] h := by funext x0 x1 x4 x12 x13 h; exact (ih x0 x1 x4 x12 x13 h).symm
    show _ = deduplaw02_sameNumbers_B1 prog w0 (deduplaw02_sameNumbers_L1 prog w0 k0 kr m) k0 kr x0 x1 x4 x12 x13 h
    rw [e]
    kernel_rfl
theorem deduplaw02_sameNumbers_E1_eq (w0 : World) : deduplaw02_sameNumbers_E1 prog w0 = fun k0 kr x0 x1 x4 x12 x13 h => ∃ m, loopA (stepL ⟨prog, w0, 26, ks_deduplaw02_sameNumbers⟩ (drw w0 26) (loopAt fn_deduplaw02_sameNumbers 0)) m (mkFr [(0, x0), (1, x1), (4, x4), (12, x12), (13, x13)]) [fun t => k0 (t 4), fun t => kr (t 4)] h := by
  funext k0 kr x0 x1 x4 x12 x13 h
  exact congrArg Exists (funext fun m => (deduplaw02_sameNumbers_L1_eq w0 k0 kr m x0 x1 x4 x12 x13 h).symm)
theorem c_deduplaw02_sameNumbers {w0 : World} {h : Hp} {R : Kont} {a0 a1 : Value} (hj : ∀ v, v ∈ [a0, a1] → v ≠ junk) (hv : s_deduplaw02_sameNumbers prog w0 a0 a1 R h) : ACalls prog w0 n_deduplaw02_sameNumbers [a0, a1] h R := by
  have e : vcFn ⟨prog, w0, 26, ks_deduplaw02_sameNumbers⟩ (drw w0 26) fn_deduplaw02_sameNumbers [a0, a1] R h = s_deduplaw02_sameNumbers prog w0 a0 a1 R h := by
    unfold s_deduplaw02_sameNumbers
    rw [deduplaw02_sameNumbers_E1_eq w0]
    kernel_rfl
  exact acalls_of_eq (fn := fn_deduplaw02_sameNumbers) (ks := ks_deduplaw02_sameNumbers) (n := 26) (by kernel_rfl) (by kernel_rfl) (draw_ok (by kernel_rfl)) (by simp) hj e hv

abbrev fn_deduplaw02_reading_raw : Func := f51
def ks_deduplaw02_reading_raw : List (Nat × List Nat × List Nat) := []
def s_deduplaw02_reading_raw (P : Program) (w0 : World) (a0 a1 : Value) (R : Kont) : Hp → Prop :=
 nilA a0 fun v7_1 =>
 addA v7_1 1 fun v8_2 =>
 loadA w0 v8_2 fun v9_3 =>
 pureA (binA .neq v9_3 (.int .i64 0)) fun v10_4 =>
 condA v10_4 (
 retA [(.string .empty)] R) (
 pureA (binA .lss a1 (.int .i64 0)) fun v12_5 =>
 condA v12_5 (
 callA P w0 n_deduplaw02_reading_fails [a0, (.int .i64 1)] fun v14_6 =>
 retA [(.string .empty)] R) (
 nilA a0 fun v17_7 =>
 addA v17_7 0 fun v18_8 =>
 loadA w0 v18_8 fun v19_9 =>
 pureA (lenStr v19_9) fun v20_10 =>
 pureA (binA .gtr a1 v20_10) fun v21_11 =>
 condA v21_11 (
 callA P w0 n_deduplaw02_reading_fails [a0, (.int .i64 20)] fun v23_12 =>
 retA [(.string .empty)] R) (
 nilA a0 fun v25_13 =>
 addA v25_13 0 fun v26_14 =>
 loadA w0 v26_14 fun v27_15 =>
 pureA (strSlA v27_15 none (some a1)) fun v29_16 =>
 nilA a0 fun v32_17 =>
 addA v32_17 0 fun v33_18 =>
 loadA w0 v33_18 fun v34_19 =>
 pureA (strSlA v34_19 (some a1) none) fun v36_20 =>
 nilA a0 fun v37_21 =>
 addA v37_21 0 fun v38_22 =>
 storeA w0 v38_22 v36_20 fun _ =>
 retA [v29_16] R)))
theorem c_deduplaw02_reading_raw {w0 : World} {h : Hp} {R : Kont} {a0 a1 : Value} (hj : ∀ v, v ∈ [a0, a1] → v ≠ junk) (hv : s_deduplaw02_reading_raw prog w0 a0 a1 R h) : ACalls prog w0 n_deduplaw02_reading_raw [a0, a1] h R := by
  have e : vcFn ⟨prog, w0, 40, ks_deduplaw02_reading_raw⟩ (drw w0 40) fn_deduplaw02_reading_raw [a0, a1] R h = s_deduplaw02_reading_raw prog w0 a0 a1 R h := by
    kernel_rfl
  exact acalls_of_eq (fn := fn_deduplaw02_reading_raw) (ks := ks_deduplaw02_reading_raw) (n := 40) (by kernel_rfl) (by kernel_rfl) (draw_ok (by kernel_rfl)) (by simp) hj e hv

abbrev fn_deduplaw02_reading_varint : Func := f52
def ks_deduplaw02_reading_varint : List (Nat × List Nat × List Nat) := []
def s_deduplaw02_reading_varint (P : Program) (w0 : World) (a0 : Value) (R : Kont) : Hp → Prop :=
 nilA a0 fun v7_1 =>
 addA v7_1 1 fun v8_2 =>
 loadA w0 v8_2 fun v9_3 =>
 pureA (binA .neq v9_3 (.int .i64 0)) fun v10_4 =>
 condA v10_4 (
 retA [(.int .u64 0)] R) (
 nilA a0 fun v13_5 =>
 addA v13_5 0 fun v14_6 =>
 loadA w0 v14_6 fun v15_7 =>
 callA P w0 n_dedupref02_ReadVarint [v15_7] fun v16_8 =>
 pureA (extA v16_8 0) fun v17_9 =>
 pureA (extA v16_8 1) fun v18_10 =>
 pureA (extA v16_8 2) fun v19_11 =>
 pureA (binA .neq v19_11 (.int .i64 0)) fun v21_12 =>
 condA v21_12 (
 callA P w0 n_deduplaw02_reading_fails [a0, v19_11] fun v24_13 =>
 retA [(.int .u64 0)] R) (
 nilA a0 fun v27_14 =>
 addA v27_14 0 fun v28_15 =>
 loadA w0 v28_15 fun v29_16 =>
 pureA (strSlA v29_16 (some v18_10) none) fun v31_17 =>
 nilA a0 fun v32_18 =>
 addA v32_18 0 fun v33_19 =>
 storeA w0 v33_19 v31_17 fun _ =>
 retA [v17_9] R))
theorem c_deduplaw02_reading_varint {w0 : World} {h : Hp} {R : Kont} {a0 : Value} (hj : ∀ v, v ∈ [a0] → v ≠ junk) (hv : s_deduplaw02_reading_varint prog w0 a0 R h) : ACalls prog w0 n_deduplaw02_reading_varint [a0] h R := by
  have e : vcFn ⟨prog, w0, 35, ks_deduplaw02_reading_varint⟩ (drw w0 35) fn_deduplaw02_reading_varint [a0] R h = s_deduplaw02_reading_varint prog w0 a0 R h := by
    kernel_rfl
  exact acalls_of_eq (fn := fn_deduplaw02_reading_varint) (ks := ks_deduplaw02_reading_varint) (n := 35) (by kernel_rfl) (by kernel_rfl) (draw_ok (by kernel_rfl)) (by simp) hj e hv

abbrev fn_deduplaw02_reading_text : Func := f53
def ks_deduplaw02_reading_text : List (Nat × List Nat × List Nat) := []
def s_deduplaw02_reading_text (P : Program) (w0 : World) (a0 : Value) (R : Kont) : Hp → Prop :=
 callA P w0 n_deduplaw02_reading_varint [a0] fun v5_1 =>
 nilA a0 fun v7_2 =>
 addA v7_2 1 fun v8_3 =>
 loadA w0 v8_3 fun v9_4 =>
 pureA (binA .eql v9_4 (.int .i64 0)) fun v10_5 =>
 guardA v10_5 true (fun K => K v5_1) fun v12_6 =>
 guardA v10_5 true (fun K => K a0) fun v13_7 =>
 guardA v10_5 true (nilA v13_7) fun v14_8 =>
 guardA v10_5 true (addA v14_8 0) fun v15_9 =>
 guardA v10_5 true (loadA w0 v15_9) fun v16_10 =>
 guardA v10_5 true (pureA (lenStr v16_10)) fun v17_11 =>
 guardA v10_5 true (pureA (convA .u64 v17_11)) fun v18_12 =>
 guardA v10_5 true (pureA (binA .gtr v12_6 v18_12)) fun v19_13 =>
 pickA v10_5 v19_13 (.bool false) fun v20_14 =>
 condA v20_14 (
 callA P w0 n_deduplaw02_reading_fails [a0, (.int .i64 20)] fun v22_15 =>
 retA [(.string .empty)] R) (
 pureA (convA .i64 v5_1) fun v25_16 =>
 callA P w0 n_deduplaw02_reading_raw [a0, v25_16] fun v26_17 =>
 retA [v26_17] R)
theorem c_deduplaw02_reading_text {w0 : World} {h : Hp} {R : Kont} {a0 : Value} (hj : ∀ v, v ∈ [a0] → v ≠ junk) (hv : s_deduplaw02_reading_text prog w0 a0 R h) : ACalls prog w0 n_deduplaw02_reading_text [a0] h R := by
  have e : vcFn ⟨prog, w0, 27, ks_deduplaw02_reading_text⟩ (drw w0 27) fn_deduplaw02_reading_text [a0] R h = s_deduplaw02_reading_text prog w0 a0 R h := by
    kernel_rfl
  exact acalls_of_eq (fn := fn_deduplaw02_reading_text) (ks := ks_deduplaw02_reading_text) (n := 27) (by kernel_rfl) (by kernel_rfl) (draw_ok (by kernel_rfl)) (by simp) hj e hv

abbrev fn_deduplaw02_reading_fails : Func := f63
def ks_deduplaw02_reading_fails : List (Nat × List Nat × List Nat) := []
def s_deduplaw02_reading_fails (P : Program) (w0 : World) (a0 a1 : Value) (R : Kont) : Hp → Prop :=
 nilA a0 fun v7_1 =>
 addA v7_1 0 fun v8_2 =>
 storeA w0 v8_2 (.string .empty) fun _ =>
 nilA a0 fun v9_3 =>
 addA v9_3 1 fun v10_4 =>
 storeA w0 v10_4 a1 fun _ =>
 retA [] R
theorem c_deduplaw02_reading_fails {w0 : World} {h : Hp} {R : Kont} {a0 a1 : Value} (hj : ∀ v, v ∈ [a0, a1] → v ≠ junk) (hv : s_deduplaw02_reading_fails prog w0 a0 a1 R h) : ACalls prog w0 n_deduplaw02_reading_fails [a0, a1] h R := by
  have e : vcFn ⟨prog, w0, 11, ks_deduplaw02_reading_fails⟩ (drw w0 11) fn_deduplaw02_reading_fails [a0, a1] R h = s_deduplaw02_reading_fails prog w0 a0 a1 R h := by
    kernel_rfl
  exact acalls_of_eq (fn := fn_deduplaw02_reading_fails) (ks := ks_deduplaw02_reading_fails) (n := 11) (by kernel_rfl) (by kernel_rfl) (draw_ok (by kernel_rfl)) (by simp) hj e hv

end
end Go.Proofs.Ytilofpnhpeammaa.Ah
