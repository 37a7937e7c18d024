/- PRINTED by wip/tools/shallow.py: functions of the program as readable words, and that each is what its text says. -/
import Derived.Test.YtiakadkooclelaaGn
set_option linter.unusedVariables false
set_option linter.unusedSimpArgs false
namespace Go.Proofs.Ytiakadkooclelaa.Ah
open Go Go.Proofs.Try
noncomputable section

abbrev fn_deduplaw07_JournalFirst : Func := f6
def ks_deduplaw07_JournalFirst : List (Nat × List Nat × List Nat) := [(10, [0, 1, 2, 3, 4, 5, 6, 14, 15, 17, 19, 20], [0, 2, 3, 4, 5, 14, 15, 17, 19]), (17, [0, 2, 3, 4, 5, 14, 15, 17, 19, 21, 22, 23, 24], [0, 2, 5, 14, 15, 19, 21, 22, 23]), (31, [0, 2, 14, 19, 21, 22, 23, 25, 26], [0, 2, 14, 19, 21, 22, 23, 25]), (37, [0, 2, 19, 21, 22, 23, 25, 27], [0, 2, 19, 21, 23, 25, 27])]
def deduplaw07_JournalFirst_B1 (P : Program) (w0 : World) (R : Value → Value → Value → Value → Value → Value → Value → Value → Value → Value → Value → Value → Hp → Prop) (k0 : Value → Value → Value → Value → Value → Value → Value → Value → Value → Hp → Prop) (x0 x1 x2 x3 x4 x5 x6 x14 x15 x17 x19 x20 : Value) : Hp → Prop :=
 pureA (binA .lss x20 x1) fun v58_14 =>
 condA v58_14 (
 pureQ (fun K => K x19) fun v61_15 =>
 pureQ (fun K => K x20) fun v62_16 =>
 pureQ (fun K => K x0) fun v63_17 =>
 pureQ (pureA (binA .mul v62_16 v63_17)) fun v64_18 =>
 readQ (slSlA 1 v61_15 (some v64_18) none none) fun v65_19 =>
 pureQ (fun K => K x0) fun v66_20 =>
 pureQ (fun K => K x6) fun v67_21 =>
 pureQ (fun K => K x20) fun v68_22 =>
 allA [
 (bslA [(0, 1, false, (.int .u8 0)), (1, 1, false, (.int .u8 0)), (2, 1, false, (.int .u8 0)), (3, 1, false, (.int .u8 1)), (4, 1, false, (.int .u8 120))] (zerosL [(.int .u8 0)] 5) 5 1 fun v69_23 =>
 stillA [(sameQ (slSlA 1 v61_15 (some v64_18) none none) v65_19)] (
 allA [
 (callA P w0 n_dedupref07_Bytes [v66_20, v67_21, v68_22, v69_23] fun v70_24 =>
 stillA [(sameQ (slSlA 1 v61_15 (some v64_18) none none) v65_19)] (
 allA [
 (copyA w0 1 v65_19 v70_24 fun v71_25 =>
 stillA [] (
 endA (
 pureA (binA .add x20 (.int .i64 1)) fun v60_26 =>
 R x0 x1 x2 x3 x4 x5 x6 x14 x15 x17 x19 v60_26)))]))]))]) (
 k0 x0 x2 x3 x4 x5 x14 x15 x17 x19)
def deduplaw07_JournalFirst_L1 (P : Program) (w0 : World) (k0 : Value → Value → Value → Value → Value → Value → Value → Value → Value → Hp → Prop) : Nat → Value → Value → Value → Value → Value → Value → Value → Value → Value → Value → Value → Value → Hp → Prop
  | 0, _, _, _, _, _, _, _, _, _, _, _, _ => fun _ => False
  | m + 1, x0, x1, x2, x3, x4, x5, x6, x14, x15, x17, x19, x20 => deduplaw07_JournalFirst_B1 P w0 (deduplaw07_JournalFirst_L1 P w0 k0 m) k0 x0 x1 x2 x3 x4 x5 x6 x14 x15 x17 x19 x20
def deduplaw07_JournalFirst_E1 (P : Program) (w0 : World) (k0 : Value → Value → Value → Value → Value → Value → Value → Value → Value → Hp → Prop) (x0 x1 x2 x3 x4 x5 x6 x14 x15 x17 x19 x20 : Value) : Hp → Prop := fun h => ∃ m, deduplaw07_JournalFirst_L1 P w0 k0 m x0 x1 x2 x3 x4 x5 x6 x14 x15 x17 x19 x20 h
def deduplaw07_JournalFirst_B2 (P : Program) (w0 : World) (R : Value → Value → Value → Value → Value → Value → Value → Value → Value → Value → Value → Value → Value → Hp → Prop) (k2 : Value → Value → Value → Value → Value → Value → Value → Value → Value → Hp → Prop) (x0 x2 x3 x4 x5 x14 x15 x17 x19 x21 x22 x23 x24 : Value) : Hp → Prop :=
 pureA (lenSl x3) fun v74_36 =>
 pureA (binA .lss x24 v74_36) fun v75_37 =>
 condA v75_37 (
 idxSlA 1 x3 x24 fun v81_38 =>
 loadA w0 v81_38 fun v82_39 =>
 callA P w0 n_journal_Writer_Append [x15, v82_39] fun v83_40 =>
 pureA (binA .eql v83_40 (.int .i64 0)) fun v84_41 =>
 condA v84_41 (
 idxSlA 1 x3 x24 fun v88_42 =>
 loadA w0 v88_42 fun v89_43 =>
 callA P w0 n_dedupref07_Writer_Append [x17, v89_43] fun v90_44 =>
 idxSlA 1 x3 x24 fun v94_45 =>
 loadA w0 v94_45 fun v95_46 =>
 bslA [(0, 1, false, v95_46)] (zerosL [(.string .empty)] 1) 1 1 fun v96_47 =>
 appA w0 1 16 x21 v96_47 fun v97_48 =>
 nilA x17 fun v100_49 =>
 addA v100_49 3 fun v101_50 =>
 loadA w0 v101_50 fun v102_51 =>
 pureA (lenSl v102_51) fun v103_52 =>
 bslA [(0, 1, false, v103_52)] (zerosL [(.int .i64 0)] 1) 1 1 fun v104_53 =>
 appA w0 1 8 x22 v104_53 fun v105_54 =>
 pureA (lenSl x4) fun v107_55 =>
 pureA (binA .gtr v107_55 (.int .i64 0)) fun v108_56 =>
 guardA v108_56 true (fun K => K x4) fun v110_57 =>
 guardA v108_56 true (fun K => K x24) fun v111_58 =>
 guardA v108_56 true (fun K => K x4) fun v112_59 =>
 guardA v108_56 true (pureA (lenSl v112_59)) fun v113_60 =>
 guardA v108_56 true (pureA (binA .rem v111_58 v113_60)) fun v114_61 =>
 guardA v108_56 true (idxSlA 1 v110_57 v114_61) fun v115_62 =>
 guardA v108_56 true (loadA w0 v115_62) fun v116_63 =>
 guardA v108_56 true (pureA (binA .eql v116_63 (.int .i64 0))) fun v117_64 =>
 pickA v108_56 v117_64 (.bool false) fun v118_65 =>
 condA v118_65 (
 callA P w0 n_journal_Writer_Take [x15] fun v121_66 =>
 appA w0 2 32 x23 v121_66 fun v122_67 =>
 callA P w0 n_dedupref07_Writer_Take [x17] fun v124_68 =>
 pureA (binA .add x24 (.int .i64 1)) fun v77_69 =>
 R x0 x2 x3 x4 x5 x14 x15 x17 x19 v97_48 v105_54 v122_67 v77_69) (
 pureA (binA .add x24 (.int .i64 1)) fun v77_70 =>
 R x0 x2 x3 x4 x5 x14 x15 x17 x19 v97_48 v105_54 x23 v77_70)) (
 pureA (lenSl x4) fun v107_71 =>
 pureA (binA .gtr v107_71 (.int .i64 0)) fun v108_72 =>
 guardA v108_72 true (fun K => K x4) fun v110_73 =>
 guardA v108_72 true (fun K => K x24) fun v111_74 =>
 guardA v108_72 true (fun K => K x4) fun v112_75 =>
 guardA v108_72 true (pureA (lenSl v112_75)) fun v113_76 =>
 guardA v108_72 true (pureA (binA .rem v111_74 v113_76)) fun v114_77 =>
 guardA v108_72 true (idxSlA 1 v110_73 v114_77) fun v115_78 =>
 guardA v108_72 true (loadA w0 v115_78) fun v116_79 =>
 guardA v108_72 true (pureA (binA .eql v116_79 (.int .i64 0))) fun v117_80 =>
 pickA v108_72 v117_80 (.bool false) fun v118_81 =>
 condA v118_81 (
 callA P w0 n_journal_Writer_Take [x15] fun v121_82 =>
 appA w0 2 32 x23 v121_82 fun v122_83 =>
 callA P w0 n_dedupref07_Writer_Take [x17] fun v124_84 =>
 pureA (binA .add x24 (.int .i64 1)) fun v77_85 =>
 R x0 x2 x3 x4 x5 x14 x15 x17 x19 x21 x22 v122_83 v77_85) (
 pureA (binA .add x24 (.int .i64 1)) fun v77_86 =>
 R x0 x2 x3 x4 x5 x14 x15 x17 x19 x21 x22 x23 v77_86))) (
 k2 x0 x2 x5 x14 x15 x19 x21 x22 x23)
def deduplaw07_JournalFirst_L2 (P : Program) (w0 : World) (k2 : Value → Value → Value → Value → Value → Value → Value → Value → Value → Hp → Prop) : Nat → Value → Value → Value → Value → Value → Value → Value → Value → Value → Value → Value → Value → Value → Hp → Prop
  | 0, _, _, _, _, _, _, _, _, _, _, _, _, _ => fun _ => False
  | m + 1, x0, x2, x3, x4, x5, x14, x15, x17, x19, x21, x22, x23, x24 => deduplaw07_JournalFirst_B2 P w0 (deduplaw07_JournalFirst_L2 P w0 k2 m) k2 x0 x2 x3 x4 x5 x14 x15 x17 x19 x21 x22 x23 x24
def deduplaw07_JournalFirst_E2 (P : Program) (w0 : World) (k2 : Value → Value → Value → Value → Value → Value → Value → Value → Value → Hp → Prop) (x0 x2 x3 x4 x5 x14 x15 x17 x19 x21 x22 x23 x24 : Value) : Hp → Prop := fun h => ∃ m, deduplaw07_JournalFirst_L2 P w0 k2 m x0 x2 x3 x4 x5 x14 x15 x17 x19 x21 x22 x23 x24 h
def deduplaw07_JournalFirst_B3 (P : Program) (w0 : World) (R : Value → Value → Value → Value → Value → Value → Value → Value → Value → Hp → Prop) (k4 : Value → Value → Value → Value → Value → Value → Value → Value → Hp → Prop) (kr : Value → Value → Value → Value → Value → Value → Value → Value → Hp → Prop) (x0 x2 x14 x19 x21 x22 x23 x25 x26 : Value) : Hp → Prop :=
 pureA (binA .lss x26 x25) fun v142_105 =>
 condA v142_105 (
 idxSlA 2 x23 x26 fun v147_106 =>
 addA v147_106 0 fun v148_107 =>
 loadA w0 v148_107 fun v149_108 =>
 pureA (binA .neq v149_108 x26) fun v151_109 =>
 guardA v151_109 false (fun K => K x23) fun v153_110 =>
 guardA v151_109 false (fun K => K x26) fun v154_111 =>
 guardA v151_109 false (idxSlA 2 v153_110 v154_111) fun v155_112 =>
 guardA v151_109 false (addA v155_112 1) fun v156_113 =>
 guardA v151_109 false (loadA w0 v156_113) fun v157_114 =>
 guardA v151_109 false (pureA (lenSl v157_114)) fun v158_115 =>
 guardA v151_109 false (fun K => K x0) fun v159_116 =>
 guardA v151_109 false (pureA (binA .neq v158_115 v159_116)) fun v160_117 =>
 pickA v151_109 (.bool true) v160_117 fun v161_118 =>
 condA v161_118 (
 kr x0 x2 (.bool false) x19 x21 x22 x23 x25) (
 pureQ (fun K => K x19) fun v162_119 =>
 pureQ (fun K => K x26) fun v163_120 =>
 pureQ (fun K => K x0) fun v164_121 =>
 pureQ (pureA (binA .mul v163_120 v164_121)) fun v165_122 =>
 readQ (slSlA 1 v162_119 (some v165_122) none none) fun v166_123 =>
 pureQ (fun K => K x23) fun v167_124 =>
 pureQ (fun K => K x26) fun v168_125 =>
 pureQ (idxSlA 2 v167_124 v168_125) fun v169_126 =>
 pureQ (addA v169_126 1) fun v170_127 =>
 readQ (loadA w0 v170_127) fun v171_128 =>
 allA [
 (copyA w0 1 v166_123 v171_128 fun v172_129 =>
 stillA [] (
 endA (
 pureA (binA .add x26 (.int .i64 1)) fun v144_130 =>
 R x0 x2 x14 x19 x21 x22 x23 x25 v144_130)))])) (
 k4 x0 x2 x14 x19 x21 x22 x23 x25)
def deduplaw07_JournalFirst_L3 (P : Program) (w0 : World) (k4 : Value → Value → Value → Value → Value → Value → Value → Value → Hp → Prop) (kr : Value → Value → Value → Value → Value → Value → Value → Value → Hp → Prop) : Nat → Value → Value → Value → Value → Value → Value → Value → Value → Value → Hp → Prop
  | 0, _, _, _, _, _, _, _, _, _ => fun _ => False
  | m + 1, x0, x2, x14, x19, x21, x22, x23, x25, x26 => deduplaw07_JournalFirst_B3 P w0 (deduplaw07_JournalFirst_L3 P w0 k4 kr m) k4 kr x0 x2 x14 x19 x21 x22 x23 x25 x26
def deduplaw07_JournalFirst_E3 (P : Program) (w0 : World) (k4 : Value → Value → Value → Value → Value → Value → Value → Value → Hp → Prop) (kr : Value → Value → Value → Value → Value → Value → Value → Value → Hp → Prop) (x0 x2 x14 x19 x21 x22 x23 x25 x26 : Value) : Hp → Prop := fun h => ∃ m, deduplaw07_JournalFirst_L3 P w0 k4 kr m x0 x2 x14 x19 x21 x22 x23 x25 x26 h
def deduplaw07_JournalFirst_B4 (P : Program) (w0 : World) (R : Value → Value → Value → Value → Value → Value → Value → Value → Hp → Prop) (k6 : Value → Value → Value → Value → Value → Value → Value → Hp → Prop) (x0 x2 x19 x21 x22 x23 x25 x27 : Value) : Hp → Prop :=
 pureA (lenSl x22) fun v175_139 =>
 pureA (binA .lss x27 v175_139) fun v176_140 =>
 guardA v176_140 true (fun K => K x22) fun v178_141 =>
 guardA v176_140 true (fun K => K x27) fun v179_142 =>
 guardA v176_140 true (idxSlA 1 v178_141 v179_142) fun v180_143 =>
 guardA v176_140 true (loadA w0 v180_143) fun v181_144 =>
 guardA v176_140 true (fun K => K x25) fun v182_145 =>
 guardA v176_140 true (pureA (binA .leq v181_144 v182_145)) fun v183_146 =>
 pickA v176_140 v183_146 (.bool false) fun v184_147 =>
 condA v184_147 (
 pureA (binA .add x27 (.int .i64 1)) fun v186_148 =>
 R x0 x2 x19 x21 x22 x23 x25 v186_148) (
 k6 x0 x2 x19 x21 x23 x25 x27)
def deduplaw07_JournalFirst_L4 (P : Program) (w0 : World) (k6 : Value → Value → Value → Value → Value → Value → Value → Hp → Prop) : Nat → Value → Value → Value → Value → Value → Value → Value → Value → Hp → Prop
  | 0, _, _, _, _, _, _, _, _ => fun _ => False
  | m + 1, x0, x2, x19, x21, x22, x23, x25, x27 => deduplaw07_JournalFirst_B4 P w0 (deduplaw07_JournalFirst_L4 P w0 k6 m) k6 x0 x2 x19 x21 x22 x23 x25 x27
def deduplaw07_JournalFirst_E4 (P : Program) (w0 : World) (k6 : Value → Value → Value → Value → Value → Value → Value → Hp → Prop) (x0 x2 x19 x21 x22 x23 x25 x27 : Value) : Hp → Prop := fun h => ∃ m, deduplaw07_JournalFirst_L4 P w0 k6 m x0 x2 x19 x21 x22 x23 x25 x27 h
def s_deduplaw07_JournalFirst (P : Program) (w0 : World) (a0 a1 a2 a3 a4 a5 a6 : Value) (R : Kont) : Hp → Prop :=
 callA P w0 n_deduplaw07_lives [] fun v29_1 =>
 pureA (unA .not v29_1) fun v30_2 =>
 condA v30_2 (
 retA [(.bool false)] R) (
 callA P w0 n_journal_New [a0, a1, a2] fun v35_3 =>
 pureA (extA v35_3 0) fun v36_4 =>
 pureA (extA v35_3 1) fun v37_5 =>
 pureA (binA .neq v37_5 (.int .i64 0)) fun v39_6 =>
 condA v39_6 (
 pureA (binPtrA .eql v36_4 (.pointer none)) fun v41_7 =>
 retA [v41_7] R) (
 callA P w0 n_dedupref07_New [a0, a1, a2] fun v46_8 =>
 pureA (extA v46_8 0) fun v47_9 =>
 pureA (extA v46_8 1) fun v48_10 =>
 pureA (binA .mul a0 a1) fun v51_11 =>
 mkA 1 1 [(.int .u8 0)] v51_11 v51_11 fun v52_12 =>
 pureA (binA .neq a6 a2) fun v55_13 =>
 condA v55_13 (
 deduplaw07_JournalFirst_E1 P w0 (fun y0_27 y2_28 y3_29 y4_30 y5_31 y14_32 y15_33 y17_34 y19_35 =>
 deduplaw07_JournalFirst_E2 P w0 (fun y0_87 y2_88 y5_89 y14_90 y15_91 y19_92 y21_93 y22_94 y23_95 =>
 callA P w0 n_journal_Writer_Take [y15_91] fun v127_96 =>
 appA w0 2 32 y23_95 v127_96 fun v128_97 =>
 pureA (binA .lss y5_89 (.int .i64 0)) fun v131_98 =>
 guardA v131_98 false (fun K => K y5_89) fun v133_99 =>
 guardA v131_98 false (fun K => K v128_97) fun v134_100 =>
 guardA v131_98 false (pureA (lenSl v134_100)) fun v135_101 =>
 guardA v131_98 false (pureA (binA .gtr v133_99 v135_101)) fun v136_102 =>
 pickA v131_98 (.bool true) v136_102 fun v137_103 =>
 condA v137_103 (
 pureA (lenSl v128_97) fun v139_104 =>
 deduplaw07_JournalFirst_E3 P w0 (fun y0_131 y2_132 y14_133 y19_134 y21_135 y22_136 y23_137 y25_138 =>
 deduplaw07_JournalFirst_E4 P w0 (fun y0_149 y2_150 y19_151 y21_152 y23_153 y25_154 y27_155 =>
 callA P w0 n_journal_Scan [y0_149, y2_150, y19_151] fun v191_156 =>
 pureA (extA v191_156 0) fun v192_157 =>
 pureA (extA v191_156 1) fun v193_158 =>
 pureA (binA .eql v193_158 (.int .i64 0)) fun v195_159 =>
 guardA v195_159 true (fun K => K v192_157) fun v197_160 =>
 guardA v195_159 true (fun K => K y21_152) fun v198_161 =>
 guardA v195_159 true (fun K => K y27_155) fun v199_162 =>
 guardA v195_159 true (slSlA 1 v198_161 none (some v199_162) none) fun v200_163 =>
 guardA v195_159 true (callA P w0 n_deduplaw07_sameTexts [v197_160, v200_163]) fun v201_164 =>
 pickA v195_159 v201_164 (.bool false) fun v202_165 =>
 guardA v202_165 true (fun K => K y25_154) fun v204_166 =>
 guardA v202_165 true (fun K => K y23_153) fun v205_167 =>
 guardA v202_165 true (pureA (lenSl v205_167)) fun v206_168 =>
 guardA v202_165 true (pureA (binA .lss v204_166 v206_168)) fun v207_169 =>
 guardA v202_165 true (fun K => K v207_169) fun v208_170 =>
 guardA v208_170 false (fun K => K y27_155) fun v209_171 =>
 guardA v208_170 false (fun K => K y21_152) fun v210_172 =>
 guardA v208_170 false (pureA (lenSl v210_172)) fun v211_173 =>
 guardA v208_170 false (pureA (binA .eql v209_171 v211_173)) fun v212_174 =>
 guardA v202_165 true (pickA v208_170 (.bool true) v212_174) fun v213_175 =>
 pickA v202_165 v213_175 (.bool false) fun v214_176 =>
 retA [v214_176] R) y0_131 y2_132 y19_134 y21_135 y22_136 y23_137 y25_138 (.int .i64 0)) (fun y0_177 y2_178 y14_179 y19_180 y21_181 y22_182 y23_183 y25_184 =>
 retA [y14_179] R) y0_87 y2_88 y14_90 y19_92 y21_93 y22_94 v128_97 v139_104 (.int .i64 0)) (
 deduplaw07_JournalFirst_E3 P w0 (fun y0_185 y2_186 y14_187 y19_188 y21_189 y22_190 y23_191 y25_192 =>
 deduplaw07_JournalFirst_E4 P w0 (fun y0_193 y2_194 y19_195 y21_196 y23_197 y25_198 y27_199 =>
 callA P w0 n_journal_Scan [y0_193, y2_194, y19_195] fun v191_200 =>
 pureA (extA v191_200 0) fun v192_201 =>
 pureA (extA v191_200 1) fun v193_202 =>
 pureA (binA .eql v193_202 (.int .i64 0)) fun v195_203 =>
 guardA v195_203 true (fun K => K v192_201) fun v197_204 =>
 guardA v195_203 true (fun K => K y21_196) fun v198_205 =>
 guardA v195_203 true (fun K => K y27_199) fun v199_206 =>
 guardA v195_203 true (slSlA 1 v198_205 none (some v199_206) none) fun v200_207 =>
 guardA v195_203 true (callA P w0 n_deduplaw07_sameTexts [v197_204, v200_207]) fun v201_208 =>
 pickA v195_203 v201_208 (.bool false) fun v202_209 =>
 guardA v202_209 true (fun K => K y25_198) fun v204_210 =>
 guardA v202_209 true (fun K => K y23_197) fun v205_211 =>
 guardA v202_209 true (pureA (lenSl v205_211)) fun v206_212 =>
 guardA v202_209 true (pureA (binA .lss v204_210 v206_212)) fun v207_213 =>
 guardA v202_209 true (fun K => K v207_213) fun v208_214 =>
 guardA v208_214 false (fun K => K y27_199) fun v209_215 =>
 guardA v208_214 false (fun K => K y21_196) fun v210_216 =>
 guardA v208_214 false (pureA (lenSl v210_216)) fun v211_217 =>
 guardA v208_214 false (pureA (binA .eql v209_215 v211_217)) fun v212_218 =>
 guardA v202_209 true (pickA v208_214 (.bool true) v212_218) fun v213_219 =>
 pickA v202_209 v213_219 (.bool false) fun v214_220 =>
 retA [v214_220] R) y0_185 y2_186 y19_188 y21_189 y22_190 y23_191 y25_192 (.int .i64 0)) (fun y0_221 y2_222 y14_223 y19_224 y21_225 y22_226 y23_227 y25_228 =>
 retA [y14_223] R) y0_87 y2_88 y14_90 y19_92 y21_93 y22_94 v128_97 y5_89 (.int .i64 0))) y0_27 y2_28 y3_29 y4_30 y5_31 y14_32 y15_33 y17_34 y19_35 (.slice none 0 0) (.slice none 0 0) (.slice none 0 0) (.int .i64 0)) a0 a1 a2 a3 a4 a5 a6 (.bool false) v36_4 v47_9 v52_12 (.int .i64 0)) (
 deduplaw07_JournalFirst_E2 P w0 (fun y0_229 y2_230 y5_231 y14_232 y15_233 y19_234 y21_235 y22_236 y23_237 =>
 callA P w0 n_journal_Writer_Take [y15_233] fun v127_238 =>
 appA w0 2 32 y23_237 v127_238 fun v128_239 =>
 pureA (binA .lss y5_231 (.int .i64 0)) fun v131_240 =>
 guardA v131_240 false (fun K => K y5_231) fun v133_241 =>
 guardA v131_240 false (fun K => K v128_239) fun v134_242 =>
 guardA v131_240 false (pureA (lenSl v134_242)) fun v135_243 =>
 guardA v131_240 false (pureA (binA .gtr v133_241 v135_243)) fun v136_244 =>
 pickA v131_240 (.bool true) v136_244 fun v137_245 =>
 condA v137_245 (
 pureA (lenSl v128_239) fun v139_246 =>
 deduplaw07_JournalFirst_E3 P w0 (fun y0_247 y2_248 y14_249 y19_250 y21_251 y22_252 y23_253 y25_254 =>
 deduplaw07_JournalFirst_E4 P w0 (fun y0_255 y2_256 y19_257 y21_258 y23_259 y25_260 y27_261 =>
 callA P w0 n_journal_Scan [y0_255, y2_256, y19_257] fun v191_262 =>
 pureA (extA v191_262 0) fun v192_263 =>
 pureA (extA v191_262 1) fun v193_264 =>
 pureA (binA .eql v193_264 (.int .i64 0)) fun v195_265 =>
 guardA v195_265 true (fun K => K v192_263) fun v197_266 =>
 guardA v195_265 true (fun K => K y21_258) fun v198_267 =>
 guardA v195_265 true (fun K => K y27_261) fun v199_268 =>
 guardA v195_265 true (slSlA 1 v198_267 none (some v199_268) none) fun v200_269 =>
 guardA v195_265 true (callA P w0 n_deduplaw07_sameTexts [v197_266, v200_269]) fun v201_270 =>
 pickA v195_265 v201_270 (.bool false) fun v202_271 =>
 guardA v202_271 true (fun K => K y25_260) fun v204_272 =>
 guardA v202_271 true (fun K => K y23_259) fun v205_273 =>
 guardA v202_271 true (pureA (lenSl v205_273)) fun v206_274 =>
 guardA v202_271 true (pureA (binA .lss v204_272 v206_274)) fun v207_275 =>
 guardA v202_271 true (fun K => K v207_275) fun v208_276 =>
 guardA v208_276 false (fun K => K y27_261) fun v209_277 =>
 guardA v208_276 false (fun K => K y21_258) fun v210_278 =>
 guardA v208_276 false (pureA (lenSl v210_278)) fun v211_279 =>
 guardA v208_276 false (pureA (binA .eql v209_277 v211_279)) fun v212_280 =>
 guardA v202_271 true (pickA v208_276 (.bool true) v212_280) fun v213_281 =>
 pickA v202_271 v213_281 (.bool false) fun v214_282 =>
 retA [v214_282] R) y0_247 y2_248 y19_250 y21_251 y22_252 y23_253 y25_254 (.int .i64 0)) (fun y0_283 y2_284 y14_285 y19_286 y21_287 y22_288 y23_289 y25_290 =>
 retA [y14_285] R) y0_229 y2_230 y14_232 y19_234 y21_235 y22_236 v128_239 v139_246 (.int .i64 0)) (
 deduplaw07_JournalFirst_E3 P w0 (fun y0_291 y2_292 y14_293 y19_294 y21_295 y22_296 y23_297 y25_298 =>
 deduplaw07_JournalFirst_E4 P w0 (fun y0_299 y2_300 y19_301 y21_302 y23_303 y25_304 y27_305 =>
 callA P w0 n_journal_Scan [y0_299, y2_300, y19_301] fun v191_306 =>
 pureA (extA v191_306 0) fun v192_307 =>
 pureA (extA v191_306 1) fun v193_308 =>
 pureA (binA .eql v193_308 (.int .i64 0)) fun v195_309 =>
 guardA v195_309 true (fun K => K v192_307) fun v197_310 =>
 guardA v195_309 true (fun K => K y21_302) fun v198_311 =>
 guardA v195_309 true (fun K => K y27_305) fun v199_312 =>
 guardA v195_309 true (slSlA 1 v198_311 none (some v199_312) none) fun v200_313 =>
 guardA v195_309 true (callA P w0 n_deduplaw07_sameTexts [v197_310, v200_313]) fun v201_314 =>
 pickA v195_309 v201_314 (.bool false) fun v202_315 =>
 guardA v202_315 true (fun K => K y25_304) fun v204_316 =>
 guardA v202_315 true (fun K => K y23_303) fun v205_317 =>
 guardA v202_315 true (pureA (lenSl v205_317)) fun v206_318 =>
 guardA v202_315 true (pureA (binA .lss v204_316 v206_318)) fun v207_319 =>
 guardA v202_315 true (fun K => K v207_319) fun v208_320 =>
 guardA v208_320 false (fun K => K y27_305) fun v209_321 =>
 guardA v208_320 false (fun K => K y21_302) fun v210_322 =>
 guardA v208_320 false (pureA (lenSl v210_322)) fun v211_323 =>
 guardA v208_320 false (pureA (binA .eql v209_321 v211_323)) fun v212_324 =>
 guardA v202_315 true (pickA v208_320 (.bool true) v212_324) fun v213_325 =>
 pickA v202_315 v213_325 (.bool false) fun v214_326 =>
 retA [v214_326] R) y0_291 y2_292 y19_294 y21_295 y22_296 y23_297 y25_298 (.int .i64 0)) (fun y0_327 y2_328 y14_329 y19_330 y21_331 y22_332 y23_333 y25_334 =>
 retA [y14_329] R) y0_229 y2_230 y14_232 y19_234 y21_235 y22_236 v128_239 y5_231 (.int .i64 0))) a0 a2 a3 a4 a5 (.bool false) v36_4 v47_9 v52_12 (.slice none 0 0) (.slice none 0 0) (.slice none 0 0) (.int .i64 0))))
def deduplaw07_JournalFirst_F4 (w0 : World) (k6 : Value → Value → Value → Value → Value → Value → Value → Hp → Prop) (m : Nat) (x0 x2 x19 x21 x22 x23 x25 x27 : Value) : Hp → Prop := loopA (stepL ⟨prog, w0, 215, ks_deduplaw07_JournalFirst⟩ (drw w0 215) (loopAt fn_deduplaw07_JournalFirst 3)) m (mkFr [(0, x0), (2, x2), (19, x19), (21, x21), (22, x22), (23, x23), (25, x25), (27, x27)]) [fun t => k6 (t 0) (t 2) (t 19) (t 21) (t 23) (t 25) (t 27)]
theorem deduplaw07_JournalFirst_L4_eq (w0 : World) (k6 : Value → Value → Value → Value → Value → Value → Value → Hp → Prop) : ∀ m, deduplaw07_JournalFirst_F4 w0 k6 m = deduplaw07_JournalFirst_L4 prog w0 k6 m := by
  intro m
  induction m with
  | zero => kernel_rfl
  | succ m ih =>
    show _ = fun x0 x2 x19 x21 x22 x23 x25 x27 => deduplaw07_JournalFirst_B4 prog w0 (deduplaw07_JournalFirst_L4 prog w0 k6 m) k6 x0 x2 x19 x21 x22 x23 x25 x27
    rw [← ih]
    kernel_rfl
theorem deduplaw07_JournalFirst_E4_eq (w0 : World) : deduplaw07_JournalFirst_E4 prog w0 = fun k6 x0 x2 x19 x21 x22 x23 x25 x27 h => ∃ m, deduplaw07_JournalFirst_F4 w0 k6 m x0 x2 x19 x21 x22 x23 x25 x27 h := by
  funext k6 x0 x2 x19 x21 x22 x23 x25 x27 h
  simp only [deduplaw07_JournalFirst_L4_eq]
  rfl
def deduplaw07_JournalFirst_F3 (w0 : World) (k4 : Value → Value → Value → Value → Value → Value → Value → Value → Hp → Prop) (kr : Value → Value → Value → Value → Value → Value → Value → Value → Hp → Prop) (m : Nat) (x0 x2 x14 x19 x21 x22 x23 x25 x26 : Value) : Hp → Prop := loopA (stepL ⟨prog, w0, 215, ks_deduplaw07_JournalFirst⟩ (drw w0 215) (loopAt fn_deduplaw07_JournalFirst 2)) m (mkFr [(0, x0), (2, x2), (14, x14), (19, x19), (21, x21), (22, x22), (23, x23), (25, x25), (26, x26)]) [fun t => k4 (t 0) (t 2) (t 14) (t 19) (t 21) (t 22) (t 23) (t 25), fun t => kr (t 0) (t 2) (t 14) (t 19) (t 21) (t 22) (t 23) (t 25)]
theorem deduplaw07_JournalFirst_L3_eq (w0 : World) (k4 : Value → Value → Value → Value → Value → Value → Value → Value → Hp → Prop) (kr : Value → Value → Value → Value → Value → Value → Value → Value → Hp → Prop) : ∀ m, deduplaw07_JournalFirst_F3 w0 k4 kr m = deduplaw07_JournalFirst_L3 prog w0 k4 kr m := by
  intro m
  induction m with
  | zero => kernel_rfl
  | succ m ih =>
    show _ = fun x0 x2 x14 x19 x21 x22 x23 x25 x26 => deduplaw07_JournalFirst_B3 prog w0 (deduplaw07_JournalFirst_L3 prog w0 k4 kr m) k4 kr x0 x2 x14 x19 x21 x22 x23 x25 x26
    rw [← ih]
    kernel_rfl
theorem deduplaw07_JournalFirst_E3_eq (w0 : World) : deduplaw07_JournalFirst_E3 prog w0 = fun k4 kr x0 x2 x14 x19 x21 x22 x23 x25 x26 h => ∃ m, deduplaw07_JournalFirst_F3 w0 k4 kr m x0 x2 x14 x19 x21 x22 x23 x25 x26 h := by
  funext k4 kr x0 x2 x14 x19 x21 x22 x23 x25 x26 h
  simp only [deduplaw07_JournalFirst_L3_eq]
  rfl
def deduplaw07_JournalFirst_F2 (w0 : World) (k2 : Value → Value → Value → Value → Value → Value → Value → Value → Value → Hp → Prop) (m : Nat) (x0 x2 x3 x4 x5 x14 x15 x17 x19 x21 x22 x23 x24 : Value) : Hp → Prop := loopA (stepL ⟨prog, w0, 215, ks_deduplaw07_JournalFirst⟩ (drw w0 215) (loopAt fn_deduplaw07_JournalFirst 1)) m (mkFr [(0, x0), (2, x2), (3, x3), (4, x4), (5, x5), (14, x14), (15, x15), (17, x17), (19, x19), (21, x21), (22, x22), (23, x23), (24, x24)]) [fun t => k2 (t 0) (t 2) (t 5) (t 14) (t 15) (t 19) (t 21) (t 22) (t 23)]
theorem deduplaw07_JournalFirst_L2_eq (w0 : World) (k2 : Value → Value → Value → Value → Value → Value → Value → Value → Value → Hp → Prop) : ∀ m, deduplaw07_JournalFirst_F2 w0 k2 m = deduplaw07_JournalFirst_L2 prog w0 k2 m := by
  intro m
  induction m with
  | zero => kernel_rfl
  | succ m ih =>
    show _ = fun x0 x2 x3 x4 x5 x14 x15 x17 x19 x21 x22 x23 x24 => deduplaw07_JournalFirst_B2 prog w0 (deduplaw07_JournalFirst_L2 prog w0 k2 m) k2 x0 x2 x3 x4 x5 x14 x15 x17 x19 x21 x22 x23 x24
    rw [← ih]
    kernel_rfl
theorem deduplaw07_JournalFirst_E2_eq (w0 : World) : deduplaw07_JournalFirst_E2 prog w0 = fun k2 x0 x2 x3 x4 x5 x14 x15 x17 x19 x21 x22 x23 x24 h => ∃ m, deduplaw07_JournalFirst_F2 w0 k2 m x0 x2 x3 x4 x5 x14 x15 x17 x19 x21 x22 x23 x24 h := by
  funext k2 x0 x2 x3 x4 x5 x14 x15 x17 x19 x21 x22 x23 x24 h
  simp only [deduplaw07_JournalFirst_L2_eq]
  rfl
def deduplaw07_JournalFirst_F1 (w0 : World) (k0 : Value → Value → Value → Value → Value → Value → Value → Value → Value → Hp → Prop) (m : Nat) (x0 x1 x2 x3 x4 x5 x6 x14 x15 x17 x19 x20 : Value) : Hp → Prop := loopA (stepL ⟨prog, w0, 215, ks_deduplaw07_JournalFirst⟩ (drw w0 215) (loopAt fn_deduplaw07_JournalFirst 0)) m (mkFr [(0, x0), (1, x1), (2, x2), (3, x3), (4, x4), (5, x5), (6, x6), (14, x14), (15, x15), (17, x17), (19, x19), (20, x20)]) [fun t => k0 (t 0) (t 2) (t 3) (t 4) (t 5) (t 14) (t 15) (t 17) (t 19)]
theorem deduplaw07_JournalFirst_L1_eq (w0 : World) (k0 : Value → Value → Value → Value → Value → Value → Value → Value → Value → Hp → Prop) : ∀ m, deduplaw07_JournalFirst_F1 w0 k0 m = deduplaw07_JournalFirst_L1 prog w0 k0 m := by
  intro m
  induction m with
  | zero => kernel_rfl
  | succ m ih =>
    show _ = fun x0 x1 x2 x3 x4 x5 x6 x14 x15 x17 x19 x20 => deduplaw07_JournalFirst_B1 prog w0 (deduplaw07_JournalFirst_L1 prog w0 k0 m) k0 x0 x1 x2 x3 x4 x5 x6 x14 x15 x17 x19 x20
    rw [← ih]
    kernel_rfl
theorem deduplaw07_JournalFirst_E1_eq (w0 : World) : deduplaw07_JournalFirst_E1 prog w0 = fun k0 x0 x1 x2 x3 x4 x5 x6 x14 x15 x17 x19 x20 h => ∃ m, deduplaw07_JournalFirst_F1 w0 k0 m x0 x1 x2 x3 x4 x5 x6 x14 x15 x17 x19 x20 h := by
  funext k0 x0 x1 x2 x3 x4 x5 x6 x14 x15 x17 x19 x20 h
  simp only [deduplaw07_JournalFirst_L1_eq]
  rfl
theorem c_deduplaw07_JournalFirst {w0 : World} {h : Hp} {R : Kont} {a0 a1 a2 a3 a4 a5 a6 : Value} (hj : ∀ v, v ∈ [a0, a1, a2, a3, a4, a5, a6] → v ≠ junk) (hv : s_deduplaw07_JournalFirst prog w0 a0 a1 a2 a3 a4 a5 a6 R h) : ACalls prog w0 n_deduplaw07_JournalFirst [a0, a1, a2, a3, a4, a5, a6] h R :=
  c_of fn_deduplaw07_JournalFirst ks_deduplaw07_JournalFirst 215 (by kernel_rfl) (by kernel_rfl) (by simp) hj (by
    unfold s_deduplaw07_JournalFirst
    rw [deduplaw07_JournalFirst_E1_eq w0, deduplaw07_JournalFirst_E2_eq w0, deduplaw07_JournalFirst_E3_eq w0, deduplaw07_JournalFirst_E4_eq w0]
    kernel_rfl) hv

abbrev fn_deduplaw07_lives : Func := f8
def ks_deduplaw07_lives : List (Nat × List Nat × List Nat) := []
def s_deduplaw07_lives (P : Program) (w0 : World) (R : Kont) : Hp → Prop :=
 callA P w0 n_journal_New [(.int .i64 512), (.int .i64 2), (.int .u64 7)] fun v5_1 =>
 pureA (extA v5_1 0) fun v6_2 =>
 pureA (extA v5_1 1) fun v7_3 =>
 pureA (binA .neq v7_3 (.int .i64 0)) fun v9_4 =>
 guardA v9_4 false (fun K => K v6_2) fun v11_5 =>
 guardA v9_4 false (pureA (binPtrA .eql v11_5 (.pointer none))) fun v12_6 =>
 pickA v9_4 (.bool true) v12_6 fun v13_7 =>
 guardA v13_7 false (fun K => K v6_2) fun v15_8 =>
 guardA v13_7 false (callA P w0 n_journal_Writer_Left [v15_8]) fun v16_9 =>
 guardA v13_7 false (pureA (binA .neq v16_9 (.int .i64 972))) fun v17_10 =>
 pickA v13_7 (.bool true) v17_10 fun v18_11 =>
 guardA v18_11 false (fun K => K v6_2) fun v20_12 =>
 guardA v18_11 false (callA P w0 n_journal_Writer_Append [v20_12, (.string ⟨#[97, 98, 99]⟩)]) fun v21_13 =>
 guardA v18_11 false (pureA (binA .neq v21_13 (.int .i64 0))) fun v22_14 =>
 pickA v18_11 (.bool true) v22_14 fun v23_15 =>
 condA v23_15 (
 retA [(.bool false)] R) (
 callA P w0 n_journal_Writer_Take [v6_2] fun v25_16 =>
 pureA (lenSl v25_16) fun v27_17 =>
 pureA (binA .eql v27_17 (.int .i64 1)) fun v28_18 =>
 guardA v28_18 true (fun K => K v25_16) fun v30_19 =>
 guardA v28_18 true (idxSlA 2 v30_19 (.int .i64 0)) fun v31_20 =>
 guardA v28_18 true (addA v31_20 1) fun v32_21 =>
 guardA v28_18 true (loadA w0 v32_21) fun v33_22 =>
 guardA v28_18 true (pureA (lenSl v33_22)) fun v34_23 =>
 guardA v28_18 true (pureA (binA .eql v34_23 (.int .i64 512))) fun v35_24 =>
 pickA v28_18 v35_24 (.bool false) fun v36_25 =>
 guardA v36_25 true (fun K => K v25_16) fun v38_26 =>
 guardA v36_25 true (idxSlA 2 v38_26 (.int .i64 0)) fun v39_27 =>
 guardA v36_25 true (addA v39_27 1) fun v40_28 =>
 guardA v36_25 true (loadA w0 v40_28) fun v41_29 =>
 guardA v36_25 true (idxSlA 1 v41_29 (.int .i64 0)) fun v42_30 =>
 guardA v36_25 true (loadA w0 v42_30) fun v43_31 =>
 guardA v36_25 true (pureA (binA .eql v43_31 (.int .u8 68))) fun v44_32 =>
 pickA v36_25 v44_32 (.bool false) fun v45_33 =>
 guardA v45_33 true (fun K => K v6_2) fun v47_34 =>
 guardA v45_33 true (callA P w0 n_journal_Writer_Left [v47_34]) fun v48_35 =>
 guardA v45_33 true (pureA (binA .eql v48_35 (.int .i64 484))) fun v49_36 =>
 pickA v45_33 v49_36 (.bool false) fun v50_37 =>
 retA [v50_37] R)
theorem c_deduplaw07_lives {w0 : World} {h : Hp} {R : Kont} (hj : ∀ v, v ∈ [] → v ≠ junk) (hv : s_deduplaw07_lives prog w0  R h) : ACalls prog w0 n_deduplaw07_lives [] h R :=
  c_of fn_deduplaw07_lives ks_deduplaw07_lives 51 (by kernel_rfl) (by kernel_rfl) (by simp) hj (by
    kernel_rfl) hv

abbrev fn_deduplaw07_sameTexts : Func := f23
def ks_deduplaw07_sameTexts : List (Nat × List Nat × List Nat) := [(4, [0, 1, 4, 5], [4])]
def deduplaw07_sameTexts_B1 (P : Program) (w0 : World) (R : Value → Value → Value → Value → Hp → Prop) (k0 : Value → Hp → Prop) (kr : Value → Hp → Prop) (x0 x1 x4 x5 : Value) : Hp → Prop :=
 pureA (lenSl x0) fun v13_4 =>
 pureA (binA .lss x5 v13_4) fun v14_5 =>
 condA v14_5 (
 pureQ (fun K => K x0) fun v17_6 =>
 pureQ (fun K => K x5) fun v18_7 =>
 pureQ (idxSlA 1 v17_6 v18_7) fun v19_8 =>
 readQ (loadA w0 v19_8) fun v20_9 =>
 pureQ (fun K => K x1) fun v21_10 =>
 pureQ (fun K => K x5) fun v22_11 =>
 pureQ (idxSlA 1 v21_10 v22_11) fun v23_12 =>
 readQ (loadA w0 v23_12) fun v24_13 =>
 pureQ (pureA (binA .neq v20_9 v24_13)) fun v25_14 =>
 endA (
 condA v25_14 (
 kr (.bool false)) (
 pureA (binA .add x5 (.int .i64 1)) fun v16_15 =>
 R x0 x1 x4 v16_15))) (
 k0 x4)
def deduplaw07_sameTexts_L1 (P : Program) (w0 : World) (k0 : Value → Hp → Prop) (kr : Value → Hp → Prop) : Nat → Value → Value → Value → Value → Hp → Prop
  | 0, _, _, _, _ => fun _ => False
  | m + 1, x0, x1, x4, x5 => deduplaw07_sameTexts_B1 P w0 (deduplaw07_sameTexts_L1 P w0 k0 kr m) k0 kr x0 x1 x4 x5
def deduplaw07_sameTexts_E1 (P : Program) (w0 : World) (k0 : Value → Hp → Prop) (kr : Value → Hp → Prop) (x0 x1 x4 x5 : Value) : Hp → Prop := fun h => ∃ m, deduplaw07_sameTexts_L1 P w0 k0 kr m x0 x1 x4 x5 h
def s_deduplaw07_sameTexts (P : Program) (w0 : World) (a0 a1 : Value) (R : Kont) : Hp → Prop :=
 pureA (lenSl a0) fun v7_1 =>
 pureA (lenSl a1) fun v9_2 =>
 pureA (binA .neq v7_1 v9_2) fun v10_3 =>
 condA v10_3 (
 retA [(.bool false)] R) (
 deduplaw07_sameTexts_E1 P w0 (fun y4_16 =>
 retA [(.bool true)] R) (fun y4_17 =>
 retA [y4_17] R) a0 a1 (.bool false) (.int .i64 0))
def deduplaw07_sameTexts_F1 (w0 : World) (k0 : Value → Hp → Prop) (kr : Value → Hp → Prop) (m : Nat) (x0 x1 x4 x5 : Value) : Hp → Prop := loopA (stepL ⟨prog, w0, 26, ks_deduplaw07_sameTexts⟩ (drw w0 26) (loopAt fn_deduplaw07_sameTexts 0)) m (mkFr [(0, x0), (1, x1), (4, x4), (5, x5)]) [fun t => k0 (t 4), fun t => kr (t 4)]
theorem deduplaw07_sameTexts_L1_eq (w0 : World) (k0 : Value → Hp → Prop) (kr : Value → Hp → Prop) : ∀ m, deduplaw07_sameTexts_F1 w0 k0 kr m = deduplaw07_sameTexts_L1 prog w0 k0 kr m := by
  intro m
  induction m with
  | zero => kernel_rfl
  | succ m ih =>
    show _ = fun x0 x1 x4 x5 => deduplaw07_sameTexts_B1 prog w0 (deduplaw07_sameTexts_L1 prog w0 k0 kr m) k0 kr x0 x1 x4 x5
    rw [← ih]
    kernel_rfl
theorem deduplaw07_sameTexts_E1_eq (w0 : World) : deduplaw07_sameTexts_E1 prog w0 = fun k0 kr x0 x1 x4 x5 h => ∃ m, deduplaw07_sameTexts_F1 w0 k0 kr m x0 x1 x4 x5 h := by
  funext k0 kr x0 x1 x4 x5 h
  simp only [deduplaw07_sameTexts_L1_eq]
  rfl
theorem c_deduplaw07_sameTexts {w0 : World} {h : Hp} {R : Kont} {a0 a1 : Value} (hj : ∀ v, v ∈ [a0, a1] → v ≠ junk) (hv : s_deduplaw07_sameTexts prog w0 a0 a1 R h) : ACalls prog w0 n_deduplaw07_sameTexts [a0, a1] h R :=
  c_of fn_deduplaw07_sameTexts ks_deduplaw07_sameTexts 26 (by kernel_rfl) (by kernel_rfl) (by simp) hj (by
    unfold s_deduplaw07_sameTexts
    rw [deduplaw07_sameTexts_E1_eq w0]
    kernel_rfl) hv

end
end Go.Proofs.Ytiakadkooclelaa.Ah
