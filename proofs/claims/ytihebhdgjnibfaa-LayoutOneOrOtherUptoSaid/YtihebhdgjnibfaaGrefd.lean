/- PRINTED by wip/tools/shallow.py: functions of the program as readable words, and that each is what its text says. -/
import Derived.Test.YtihebhdgjnibfaaGn
set_option linter.unusedVariables false
set_option linter.unusedSimpArgs false
namespace Go.Proofs.Ytihebhdgjnibfaa.Ah
open Go Go.Proofs.Try
noncomputable section

abbrev fn_dedupref04_DecodeSuper : Func := f19
def ks_dedupref04_DecodeSuper : List (Nat × List Nat × List Nat) := [(6, [0, 2, 5, 8, 34, 35], [0, 2, 5, 8])]
def dedupref04_DecodeSuper_B1 (P : Program) (w0 : World) (R : Value → Value → Value → Value → Value → Value → Hp → Prop) (k0 : Value → Value → Value → Value → Hp → Prop) (x0 x2 x5 x8 x34 x35 : Value) : Hp → Prop :=
 pureA (binA .lss x35 x34) fun v36_20 =>
 condA v36_20 (
 pureA (binA .mul (.int .i64 4) x35) fun v42_21 =>
 pureA (binA .add (.int .i64 8) v42_21) fun v43_22 =>
 pureA (binA .mul (.int .i64 4) x35) fun v45_23 =>
 pureA (binA .add (.int .i64 12) v45_23) fun v46_24 =>
 pureA (strSlA x5 (some v43_22) (some v46_24)) fun v47_25 =>
 callA P w0 n_dedupref02_Read [v47_25] fun v48_26 =>
 pureA (convA .i64 v48_26) fun v49_27 =>
 idxSlA 1 x8 x35 fun v50_28 =>
 storeA w0 v50_28 v49_27 fun _ =>
 pureA (binA .add x35 (.int .i64 1)) fun v51_29 =>
 R x0 x2 x5 x8 x34 v51_29) (
 k0 x0 x2 x5 x8)
def dedupref04_DecodeSuper_L1 (P : Program) (w0 : World) (k0 : Value → Value → Value → Value → Hp → Prop) : Nat → Value → Value → Value → Value → Value → Value → Hp → Prop
  | 0, _, _, _, _, _, _ => fun _ => False
  | m + 1, x0, x2, x5, x8, x34, x35 => dedupref04_DecodeSuper_B1 P w0 (dedupref04_DecodeSuper_L1 P w0 k0 m) k0 x0 x2 x5 x8 x34 x35
def dedupref04_DecodeSuper_E1 (P : Program) (w0 : World) (k0 : Value → Value → Value → Value → Hp → Prop) (x0 x2 x5 x8 x34 x35 : Value) : Hp → Prop := fun h => ∃ m, dedupref04_DecodeSuper_L1 P w0 k0 m x0 x2 x5 x8 x34 x35 h
def s_dedupref04_DecodeSuper (P : Program) (w0 : World) (a0 : Value) (R : Kont) : Hp → Prop :=
 newA [(.int .u64 0), (.int .i64 0), (.int .i64 0), (.int .i64 0), (.int .i64 0), (.int .i64 0), (.int .i64 0), (.int .i64 0), (.int .i64 0), (.int .u64 0), (.int .i64 0), (.bool false)] 12 fun v2_1 =>
 b2sA w0 a0 fun v14_2 =>
 callA P w0 n_dedupref02_Unframe [v14_2] fun v15_3 =>
 pureA (extA v15_3 0) fun v16_4 =>
 pureA (extA v15_3 1) fun v17_5 =>
 pureA (extA v15_3 2) fun v18_6 =>
 pureA (extA v15_3 3) fun v19_7 =>
 pureA (binA .neq v19_7 (.int .i64 0)) fun v21_8 =>
 guardA v21_8 false (fun K => K v16_4) fun v23_9 =>
 guardA v21_8 false (pureA (binA .neq v23_9 (.int .u8 83))) fun v24_10 =>
 pickA v21_8 (.bool true) v24_10 fun v25_11 =>
 guardA v25_11 false (fun K => K v17_5) fun v27_12 =>
 guardA v25_11 false (pureA (lenStr v27_12)) fun v28_13 =>
 guardA v25_11 false (pureA (binA .neq v28_13 (.int .i64 51))) fun v29_14 =>
 pickA v25_11 (.bool true) v29_14 fun v30_15 =>
 condA v30_15 (
 buildA [] [(.int .u64 0), (.int .i64 0), (.int .i64 0), (.int .i64 0), (.int .i64 0), (.int .i64 0), (.int .i64 0), (.int .i64 0), (.int .i64 0), (.int .u64 0), (.int .i64 0), (.bool false)] fun v31_16 =>
 storeNA w0 v2_1 v31_16 12 fun _ =>
 loadNA w0 v2_1 12 fun v2_17 =>
 retA [v2_17, (.int .i64 40)] R) (
 mkA 1 8 [(.int .i64 0)] (.int .i64 8) (.int .i64 8) fun v32_18 =>
 pureA (lenSl v32_18) fun v34_19 =>
 dedupref04_DecodeSuper_E1 P w0 (fun y0_30 y2_31 y5_32 y8_33 =>
 pureQ (fun K => K y5_32) fun v52_34 =>
 pureQ (pureA (strSlA v52_34 none (some (.int .i64 8)))) fun v53_35 =>
 pureQ (fun K => K y8_33) fun v55_36 =>
 pureQ (idxSlA 1 v55_36 (.int .i64 0)) fun v56_37 =>
 readQ (loadA w0 v56_37) fun v57_38 =>
 allA [
 (callA P w0 n_dedupref02_Read [v53_35] fun v54_39 =>
 stillA [(sameQ (loadA w0 v56_37) v57_38)] (
 allA [
 (buildA [(0, 1, false, v54_39), (1, 1, false, v57_38)] [(.int .u64 0), (.int .i64 0), (.int .i64 0), (.int .i64 0), (.int .i64 0), (.int .i64 0), (.int .i64 0), (.int .i64 0), (.int .i64 0), (.int .u64 0), (.int .i64 0), (.bool false)] fun v58_40 =>
 stillA [] (
 allA [
 (newA [(.int .u64 0), (.int .i64 0), (.int .i64 0), (.int .i64 0), (.int .i64 0), (.int .i64 0), (.int .i64 0), (.int .i64 0), (.int .i64 0), (.int .u64 0), (.int .i64 0), (.bool false)] 12 fun v10_41 =>
 stillA [(sameQ (loadA w0 v56_37) v57_38)] (
 allA [
 (storeNA w0 v10_41 v58_40 12 fun _ =>
 stillA [] (
 endA (
 pureQ (fun K => K y8_33) fun v59_42 =>
 pureQ (idxSlA 1 v59_42 (.int .i64 1)) fun v60_43 =>
 readQ (loadA w0 v60_43) fun v61_44 =>
 pureQ (fun K => K y8_33) fun v62_45 =>
 pureQ (idxSlA 1 v62_45 (.int .i64 2)) fun v63_46 =>
 readQ (loadA w0 v63_46) fun v64_47 =>
 pureQ (fun K => K y8_33) fun v65_48 =>
 pureQ (idxSlA 1 v65_48 (.int .i64 3)) fun v66_49 =>
 readQ (loadA w0 v66_49) fun v67_50 =>
 pureQ (fun K => K y8_33) fun v68_51 =>
 pureQ (idxSlA 1 v68_51 (.int .i64 4)) fun v69_52 =>
 readQ (loadA w0 v69_52) fun v70_53 =>
 pureQ (fun K => K y8_33) fun v71_54 =>
 pureQ (idxSlA 1 v71_54 (.int .i64 5)) fun v72_55 =>
 readQ (loadA w0 v72_55) fun v73_56 =>
 pureQ (fun K => K y8_33) fun v74_57 =>
 pureQ (idxSlA 1 v74_57 (.int .i64 6)) fun v75_58 =>
 readQ (loadA w0 v75_58) fun v76_59 =>
 pureQ (fun K => K y8_33) fun v77_60 =>
 pureQ (idxSlA 1 v77_60 (.int .i64 7)) fun v78_61 =>
 readQ (loadA w0 v78_61) fun v79_62 =>
 pureQ (fun K => K y5_32) fun v80_63 =>
 pureQ (pureA (strSlA v80_63 (some (.int .i64 40)) (some (.int .i64 48)))) fun v81_64 =>
 allA [
 (callA P w0 n_dedupref02_Read [v81_64] fun v82_65 =>
 stillA [(sameQ (loadA w0 v78_61) v79_62), (sameQ (loadA w0 v75_58) v76_59), (sameQ (loadA w0 v72_55) v73_56), (sameQ (loadA w0 v69_52) v70_53), (sameQ (loadA w0 v66_49) v67_50), (sameQ (loadA w0 v63_46) v64_47), (sameQ (loadA w0 v60_43) v61_44)] (
 allA [
 (buildA [(0, 1, false, v73_56), (1, 1, false, v76_59), (2, 1, false, v79_62), (3, 1, false, v82_65)] [(.int .i64 0), (.int .i64 0), (.int .i64 0), (.int .u64 0)] fun v83_66 =>
 stillA [(sameQ (loadA w0 v69_52) v70_53), (sameQ (loadA w0 v66_49) v67_50), (sameQ (loadA w0 v63_46) v64_47), (sameQ (loadA w0 v60_43) v61_44)] (
 allA [
 (buildA [(0, 1, false, v61_44), (1, 1, false, v64_47), (2, 1, false, v67_50), (3, 1, false, v70_53), (4, 4, true, v83_66)] [(.int .i64 0), (.int .i64 0), (.int .i64 0), (.int .i64 0), (.int .i64 0), (.int .i64 0), (.int .i64 0), (.int .u64 0), (.int .i64 0), (.bool false)] fun v84_67 =>
 stillA [] (
 pureQ (addA v10_41 2) fun v85_68 =>
 allA [
 (storeNA w0 v85_68 v84_67 10 fun _ =>
 stillA [] (
 endA (
 pureQ (fun K => K y5_32) fun v86_69 =>
 pureQ (pureA (strSlA v86_69 (some (.int .i64 48)) (some (.int .i64 50)))) fun v87_70 =>
 pureQ (fun K => K y5_32) fun v90_71 =>
 pureQ (pureA (strIdxA v90_71 (.int .i64 50))) fun v91_72 =>
 pureQ (pureA (binA .eql v91_72 (.int .u8 1))) fun v92_73 =>
 allA [
 (callA P w0 n_dedupref02_Read [v87_70] fun v88_74 =>
 stillA [] (
 pureQ (pureA (convA .i64 v88_74)) fun v89_75 =>
 pureQ (addA v10_41 2) fun v93_76 =>
 pureQ (addA v93_76 8) fun v94_77 =>
 allA [
 (storeA w0 v94_77 v89_75 fun _ =>
 stillA [] (
 pureQ (addA v10_41 2) fun v95_78 =>
 pureQ (addA v95_78 9) fun v96_79 =>
 allA [
 (storeA w0 v96_79 v92_73 fun _ =>
 stillA [] (
 endA (
 loadNA w0 v10_41 12 fun v98_80 =>
 callA P w0 n_dedupref04_EncodeSuper [v98_80] fun v99_81 =>
 pureA (extA v99_81 0) fun v100_82 =>
 pureA (extA v99_81 1) fun v101_83 =>
 pureA (binA .neq v101_83 (.int .i64 0)) fun v103_84 =>
 guardA v103_84 false (fun K => K v100_82) fun v105_85 =>
 guardA v103_84 false (b2sA w0 v105_85) fun v106_86 =>
 guardA v103_84 false (fun K => K y0_30) fun v107_87 =>
 guardA v103_84 false (b2sA w0 v107_87) fun v108_88 =>
 guardA v103_84 false (pureA (binA .neq v106_86 v108_88)) fun v109_89 =>
 pickA v103_84 (.bool true) v109_89 fun v110_90 =>
 condA v110_90 (
 buildA [] [(.int .u64 0), (.int .i64 0), (.int .i64 0), (.int .i64 0), (.int .i64 0), (.int .i64 0), (.int .i64 0), (.int .i64 0), (.int .i64 0), (.int .u64 0), (.int .i64 0), (.bool false)] fun v111_91 =>
 storeNA w0 y2_31 v111_91 12 fun _ =>
 loadNA w0 y2_31 12 fun v2_92 =>
 retA [v2_92, (.int .i64 40)] R) (
 loadNA w0 v10_41 12 fun v112_93 =>
 storeNA w0 y2_31 v112_93 12 fun _ =>
 loadNA w0 y2_31 12 fun v2_94 =>
 retA [v2_94, (.int .i64 0)] R))))]))]))])))]))]))]))])))]))])),
 (newA [(.int .u64 0), (.int .i64 0), (.int .i64 0), (.int .i64 0), (.int .i64 0), (.int .i64 0), (.int .i64 0), (.int .i64 0), (.int .i64 0), (.int .u64 0), (.int .i64 0), (.bool false)] 12 fun v10_95 =>
 stillA [(sameQ (loadA w0 v56_37) v57_38)] (
 allA [
 (buildA [(0, 1, false, v54_39), (1, 1, false, v57_38)] [(.int .u64 0), (.int .i64 0), (.int .i64 0), (.int .i64 0), (.int .i64 0), (.int .i64 0), (.int .i64 0), (.int .i64 0), (.int .i64 0), (.int .u64 0), (.int .i64 0), (.bool false)] fun v58_96 =>
 stillA [] (
 allA [
 (storeNA w0 v10_95 v58_96 12 fun _ =>
 stillA [] (
 endA (
 pureQ (fun K => K y8_33) fun v59_97 =>
 pureQ (idxSlA 1 v59_97 (.int .i64 1)) fun v60_98 =>
 readQ (loadA w0 v60_98) fun v61_99 =>
 pureQ (fun K => K y8_33) fun v62_100 =>
 pureQ (idxSlA 1 v62_100 (.int .i64 2)) fun v63_101 =>
 readQ (loadA w0 v63_101) fun v64_102 =>
 pureQ (fun K => K y8_33) fun v65_103 =>
 pureQ (idxSlA 1 v65_103 (.int .i64 3)) fun v66_104 =>
 readQ (loadA w0 v66_104) fun v67_105 =>
 pureQ (fun K => K y8_33) fun v68_106 =>
 pureQ (idxSlA 1 v68_106 (.int .i64 4)) fun v69_107 =>
 readQ (loadA w0 v69_107) fun v70_108 =>
 pureQ (fun K => K y8_33) fun v71_109 =>
 pureQ (idxSlA 1 v71_109 (.int .i64 5)) fun v72_110 =>
 readQ (loadA w0 v72_110) fun v73_111 =>
 pureQ (fun K => K y8_33) fun v74_112 =>
 pureQ (idxSlA 1 v74_112 (.int .i64 6)) fun v75_113 =>
 readQ (loadA w0 v75_113) fun v76_114 =>
 pureQ (fun K => K y8_33) fun v77_115 =>
 pureQ (idxSlA 1 v77_115 (.int .i64 7)) fun v78_116 =>
 readQ (loadA w0 v78_116) fun v79_117 =>
 pureQ (fun K => K y5_32) fun v80_118 =>
 pureQ (pureA (strSlA v80_118 (some (.int .i64 40)) (some (.int .i64 48)))) fun v81_119 =>
 allA [
 (callA P w0 n_dedupref02_Read [v81_119] fun v82_120 =>
 stillA [(sameQ (loadA w0 v78_116) v79_117), (sameQ (loadA w0 v75_113) v76_114), (sameQ (loadA w0 v72_110) v73_111), (sameQ (loadA w0 v69_107) v70_108), (sameQ (loadA w0 v66_104) v67_105), (sameQ (loadA w0 v63_101) v64_102), (sameQ (loadA w0 v60_98) v61_99)] (
 allA [
 (buildA [(0, 1, false, v73_111), (1, 1, false, v76_114), (2, 1, false, v79_117), (3, 1, false, v82_120)] [(.int .i64 0), (.int .i64 0), (.int .i64 0), (.int .u64 0)] fun v83_121 =>
 stillA [(sameQ (loadA w0 v69_107) v70_108), (sameQ (loadA w0 v66_104) v67_105), (sameQ (loadA w0 v63_101) v64_102), (sameQ (loadA w0 v60_98) v61_99)] (
 allA [
 (buildA [(0, 1, false, v61_99), (1, 1, false, v64_102), (2, 1, false, v67_105), (3, 1, false, v70_108), (4, 4, true, v83_121)] [(.int .i64 0), (.int .i64 0), (.int .i64 0), (.int .i64 0), (.int .i64 0), (.int .i64 0), (.int .i64 0), (.int .u64 0), (.int .i64 0), (.bool false)] fun v84_122 =>
 stillA [] (
 pureQ (addA v10_95 2) fun v85_123 =>
 allA [
 (storeNA w0 v85_123 v84_122 10 fun _ =>
 stillA [] (
 endA (
 pureQ (fun K => K y5_32) fun v86_124 =>
 pureQ (pureA (strSlA v86_124 (some (.int .i64 48)) (some (.int .i64 50)))) fun v87_125 =>
 pureQ (fun K => K y5_32) fun v90_126 =>
 pureQ (pureA (strIdxA v90_126 (.int .i64 50))) fun v91_127 =>
 pureQ (pureA (binA .eql v91_127 (.int .u8 1))) fun v92_128 =>
 allA [
 (callA P w0 n_dedupref02_Read [v87_125] fun v88_129 =>
 stillA [] (
 pureQ (pureA (convA .i64 v88_129)) fun v89_130 =>
 pureQ (addA v10_95 2) fun v93_131 =>
 pureQ (addA v93_131 8) fun v94_132 =>
 allA [
 (storeA w0 v94_132 v89_130 fun _ =>
 stillA [] (
 pureQ (addA v10_95 2) fun v95_133 =>
 pureQ (addA v95_133 9) fun v96_134 =>
 allA [
 (storeA w0 v96_134 v92_128 fun _ =>
 stillA [] (
 endA (
 loadNA w0 v10_95 12 fun v98_135 =>
 callA P w0 n_dedupref04_EncodeSuper [v98_135] fun v99_136 =>
 pureA (extA v99_136 0) fun v100_137 =>
 pureA (extA v99_136 1) fun v101_138 =>
 pureA (binA .neq v101_138 (.int .i64 0)) fun v103_139 =>
 guardA v103_139 false (fun K => K v100_137) fun v105_140 =>
 guardA v103_139 false (b2sA w0 v105_140) fun v106_141 =>
 guardA v103_139 false (fun K => K y0_30) fun v107_142 =>
 guardA v103_139 false (b2sA w0 v107_142) fun v108_143 =>
 guardA v103_139 false (pureA (binA .neq v106_141 v108_143)) fun v109_144 =>
 pickA v103_139 (.bool true) v109_144 fun v110_145 =>
 condA v110_145 (
 buildA [] [(.int .u64 0), (.int .i64 0), (.int .i64 0), (.int .i64 0), (.int .i64 0), (.int .i64 0), (.int .i64 0), (.int .i64 0), (.int .i64 0), (.int .u64 0), (.int .i64 0), (.bool false)] fun v111_146 =>
 storeNA w0 y2_31 v111_146 12 fun _ =>
 loadNA w0 y2_31 12 fun v2_147 =>
 retA [v2_147, (.int .i64 40)] R) (
 loadNA w0 v10_95 12 fun v112_148 =>
 storeNA w0 y2_31 v112_148 12 fun _ =>
 loadNA w0 y2_31 12 fun v2_149 =>
 retA [v2_149, (.int .i64 0)] R))))]))]))])))]))]))]))])))]))]))])),
 (newA [(.int .u64 0), (.int .i64 0), (.int .i64 0), (.int .i64 0), (.int .i64 0), (.int .i64 0), (.int .i64 0), (.int .i64 0), (.int .i64 0), (.int .u64 0), (.int .i64 0), (.bool false)] 12 fun v10_150 =>
 stillA [(sameQ (loadA w0 v56_37) v57_38)] (
 allA [
 (callA P w0 n_dedupref02_Read [v53_35] fun v54_151 =>
 stillA [(sameQ (loadA w0 v56_37) v57_38)] (
 allA [
 (buildA [(0, 1, false, v54_151), (1, 1, false, v57_38)] [(.int .u64 0), (.int .i64 0), (.int .i64 0), (.int .i64 0), (.int .i64 0), (.int .i64 0), (.int .i64 0), (.int .i64 0), (.int .i64 0), (.int .u64 0), (.int .i64 0), (.bool false)] fun v58_152 =>
 stillA [] (
 allA [
 (storeNA w0 v10_150 v58_152 12 fun _ =>
 stillA [] (
 endA (
 pureQ (fun K => K y8_33) fun v59_153 =>
 pureQ (idxSlA 1 v59_153 (.int .i64 1)) fun v60_154 =>
 readQ (loadA w0 v60_154) fun v61_155 =>
 pureQ (fun K => K y8_33) fun v62_156 =>
 pureQ (idxSlA 1 v62_156 (.int .i64 2)) fun v63_157 =>
 readQ (loadA w0 v63_157) fun v64_158 =>
 pureQ (fun K => K y8_33) fun v65_159 =>
 pureQ (idxSlA 1 v65_159 (.int .i64 3)) fun v66_160 =>
 readQ (loadA w0 v66_160) fun v67_161 =>
 pureQ (fun K => K y8_33) fun v68_162 =>
 pureQ (idxSlA 1 v68_162 (.int .i64 4)) fun v69_163 =>
 readQ (loadA w0 v69_163) fun v70_164 =>
 pureQ (fun K => K y8_33) fun v71_165 =>
 pureQ (idxSlA 1 v71_165 (.int .i64 5)) fun v72_166 =>
 readQ (loadA w0 v72_166) fun v73_167 =>
 pureQ (fun K => K y8_33) fun v74_168 =>
 pureQ (idxSlA 1 v74_168 (.int .i64 6)) fun v75_169 =>
 readQ (loadA w0 v75_169) fun v76_170 =>
 pureQ (fun K => K y8_33) fun v77_171 =>
 pureQ (idxSlA 1 v77_171 (.int .i64 7)) fun v78_172 =>
 readQ (loadA w0 v78_172) fun v79_173 =>
 pureQ (fun K => K y5_32) fun v80_174 =>
 pureQ (pureA (strSlA v80_174 (some (.int .i64 40)) (some (.int .i64 48)))) fun v81_175 =>
 allA [
 (callA P w0 n_dedupref02_Read [v81_175] fun v82_176 =>
 stillA [(sameQ (loadA w0 v78_172) v79_173), (sameQ (loadA w0 v75_169) v76_170), (sameQ (loadA w0 v72_166) v73_167), (sameQ (loadA w0 v69_163) v70_164), (sameQ (loadA w0 v66_160) v67_161), (sameQ (loadA w0 v63_157) v64_158), (sameQ (loadA w0 v60_154) v61_155)] (
 allA [
 (buildA [(0, 1, false, v73_167), (1, 1, false, v76_170), (2, 1, false, v79_173), (3, 1, false, v82_176)] [(.int .i64 0), (.int .i64 0), (.int .i64 0), (.int .u64 0)] fun v83_177 =>
 stillA [(sameQ (loadA w0 v69_163) v70_164), (sameQ (loadA w0 v66_160) v67_161), (sameQ (loadA w0 v63_157) v64_158), (sameQ (loadA w0 v60_154) v61_155)] (
 allA [
 (buildA [(0, 1, false, v61_155), (1, 1, false, v64_158), (2, 1, false, v67_161), (3, 1, false, v70_164), (4, 4, true, v83_177)] [(.int .i64 0), (.int .i64 0), (.int .i64 0), (.int .i64 0), (.int .i64 0), (.int .i64 0), (.int .i64 0), (.int .u64 0), (.int .i64 0), (.bool false)] fun v84_178 =>
 stillA [] (
 pureQ (addA v10_150 2) fun v85_179 =>
 allA [
 (storeNA w0 v85_179 v84_178 10 fun _ =>
 stillA [] (
 endA (
 pureQ (fun K => K y5_32) fun v86_180 =>
 pureQ (pureA (strSlA v86_180 (some (.int .i64 48)) (some (.int .i64 50)))) fun v87_181 =>
 pureQ (fun K => K y5_32) fun v90_182 =>
 pureQ (pureA (strIdxA v90_182 (.int .i64 50))) fun v91_183 =>
 pureQ (pureA (binA .eql v91_183 (.int .u8 1))) fun v92_184 =>
 allA [
 (callA P w0 n_dedupref02_Read [v87_181] fun v88_185 =>
 stillA [] (
 pureQ (pureA (convA .i64 v88_185)) fun v89_186 =>
 pureQ (addA v10_150 2) fun v93_187 =>
 pureQ (addA v93_187 8) fun v94_188 =>
 allA [
 (storeA w0 v94_188 v89_186 fun _ =>
 stillA [] (
 pureQ (addA v10_150 2) fun v95_189 =>
 pureQ (addA v95_189 9) fun v96_190 =>
 allA [
 (storeA w0 v96_190 v92_184 fun _ =>
 stillA [] (
 endA (
 loadNA w0 v10_150 12 fun v98_191 =>
 callA P w0 n_dedupref04_EncodeSuper [v98_191] fun v99_192 =>
 pureA (extA v99_192 0) fun v100_193 =>
 pureA (extA v99_192 1) fun v101_194 =>
 pureA (binA .neq v101_194 (.int .i64 0)) fun v103_195 =>
 guardA v103_195 false (fun K => K v100_193) fun v105_196 =>
 guardA v103_195 false (b2sA w0 v105_196) fun v106_197 =>
 guardA v103_195 false (fun K => K y0_30) fun v107_198 =>
 guardA v103_195 false (b2sA w0 v107_198) fun v108_199 =>
 guardA v103_195 false (pureA (binA .neq v106_197 v108_199)) fun v109_200 =>
 pickA v103_195 (.bool true) v109_200 fun v110_201 =>
 condA v110_201 (
 buildA [] [(.int .u64 0), (.int .i64 0), (.int .i64 0), (.int .i64 0), (.int .i64 0), (.int .i64 0), (.int .i64 0), (.int .i64 0), (.int .i64 0), (.int .u64 0), (.int .i64 0), (.bool false)] fun v111_202 =>
 storeNA w0 y2_31 v111_202 12 fun _ =>
 loadNA w0 y2_31 12 fun v2_203 =>
 retA [v2_203, (.int .i64 40)] R) (
 loadNA w0 v10_150 12 fun v112_204 =>
 storeNA w0 y2_31 v112_204 12 fun _ =>
 loadNA w0 y2_31 12 fun v2_205 =>
 retA [v2_205, (.int .i64 0)] R))))]))]))])))]))]))]))])))]))]))]))]) a0 v2_1 v17_5 v32_18 v34_19 (.int .i64 0))
theorem dedupref04_DecodeSuper_L1_eq (w0 : World) (k0 : Value → Value → Value → Value → Hp → Prop) : ∀ (m : Nat) (x0 x2 x5 x8 x34 x35 : Value) (h : Hp), loopA (stepL ⟨prog, w0, 113, ks_dedupref04_DecodeSuper⟩ (drw w0 113) (loopAt fn_dedupref04_DecodeSuper 0)) m (mkFr [(0, x0), (2, x2), (5, x5), (8, x8), (34, x34), (35, x35)]) [fun t => k0 (t 0) (t 2) (t 5) (t 8)] h = dedupref04_DecodeSuper_L1 prog w0 k0 m x0 x2 x5 x8 x34 x35 h := by
  intro m
  induction m with
  | zero => intros; kernel_rfl
  | succ m ih =>
    intro x0 x2 x5 x8 x34 x35 h
    have e : dedupref04_DecodeSuper_L1 prog w0 k0 m = fun x0 x2 x5 x8 x34 x35 h => loopA (stepL ⟨prog, w0, 113, ks_dedupref04_DecodeSuper⟩ (drw w0 113) (loopAt fn_dedupref04_DecodeSuper 0)) m (mkFr [(0, x0), (2, x2), (5, x5), (8, x8), (34, x34), (35, x35)]) [fun t => k0 (t 0) (t 2) (t 5) (t 8)] h := by funext x0 x2 x5 x8 x34 x35 h; exact (ih x0 x2 x5 x8 x34 x35 h).symm
    show _ = dedupref04_DecodeSuper_B1 prog w0 (dedupref04_DecodeSuper_L1 prog w0 k0 m) k0 x0 x2 x5 x8 x34 x35 h
    rw [e]
    kernel_rfl
theorem dedupref04_DecodeSuper_E1_eq (w0 : World) : dedupref04_DecodeSuper_E1 prog w0 = fun k0 x0 x2 x5 x8 x34 x35 h => ∃ m, loopA (stepL ⟨prog, w0, 113, ks_dedupref04_DecodeSuper⟩ (drw w0 113) (loopAt fn_dedupref04_DecodeSuper 0)) m (mkFr [(0, x0), (2, x2), (5, x5), (8, x8), (34, x34), (35, x35)]) [fun t => k0 (t 0) (t 2) (t 5) (t 8)] h := by
  funext k0 x0 x2 x5 x8 x34 x35 h
  exact congrArg Exists (funext fun m => (dedupref04_DecodeSuper_L1_eq w0 k0 m x0 x2 x5 x8 x34 x35 h).symm)
set_option maxHeartbeats 0 in
theorem c_dedupref04_DecodeSuper {w0 : World} {h : Hp} {R : Kont} {a0 : Value} (hj : ∀ v, v ∈ [a0] → v ≠ junk) (hv : s_dedupref04_DecodeSuper prog w0 a0 R h) : ACalls prog w0 n_dedupref04_DecodeSuper [a0] h R := by
  have e : vcFn ⟨prog, w0, 113, ks_dedupref04_DecodeSuper⟩ (drw w0 113) fn_dedupref04_DecodeSuper [a0] R h = s_dedupref04_DecodeSuper prog w0 a0 R h := by
    unfold s_dedupref04_DecodeSuper
    rw [dedupref04_DecodeSuper_E1_eq w0]
    kernel_rfl
  exact acalls_of_eq (fn := fn_dedupref04_DecodeSuper) (ks := ks_dedupref04_DecodeSuper) (n := 113) (by kernel_rfl) (by kernel_rfl) (draw_ok (by kernel_rfl)) (by simp) hj e hv

end
end Go.Proofs.Ytihebhdgjnibfaa.Ah
