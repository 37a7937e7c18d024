/- PRINTED by wip/tools/shallow.py: functions of the program as readable words, and that each is what its text says. -/
import Derived.Test.YtfmoemconapmhaaGreatGn
set_option linter.unusedVariables false
set_option linter.unusedSimpArgs false
namespace Go.Proofs.YtfmoemconapmhaaGreat.Ah
open Go Go.Proofs.Tryz
noncomputable section

abbrev fn_deduplaw14_LevelMaps : Func := f5
def ks_deduplaw14_LevelMaps : List (Nat × List Nat × List Nat) := [(6, [2, 3, 6, 27, 28, 29], [2])]
def deduplaw14_LevelMaps_B1 (P : Program) (w0 : World) (R : Value → Value → Value → Value → Value → Value → Hp → Prop) (k0 : Value → Hp → Prop) (kr : Value → Hp → Prop) (x2 x3 x6 x27 x28 x29 : Value) : Hp → Prop :=
 pureA (binA .lss x29 x28) fun v30_14 =>
 condA v30_14 (
 idxSlA 5 x27 x29 fun v31_15 =>
 loadNA w0 v31_15 5 fun v32_16 =>
 newA [(.int .i64 0), (.string .empty), (.string .empty), (.string .empty), (.int .i64 0)] 5 fun v8_17 =>
 storeNA w0 v8_17 v32_16 5 fun _ =>
 addA v8_17 0 fun v33_18 =>
 loadA w0 v33_18 fun v34_19 =>
 pureA (binA .eql v34_19 (.int .i64 0)) fun v36_20 =>
 condA v36_20 (
 addA v8_17 1 fun v38_21 =>
 loadA w0 v38_21 fun v39_22 =>
 addA v8_17 3 fun v40_23 =>
 loadA w0 v40_23 fun v41_24 =>
 callA P w0 n_level_Levels_Put [x3, v39_22, v41_24] fun v42_25 =>
 pureA (binA .eql v42_25 (.int .i64 0)) fun v43_26 =>
 condA v43_26 (
 addA v8_17 1 fun v45_27 =>
 loadA w0 v45_27 fun v46_28 =>
 addA v8_17 3 fun v47_29 =>
 loadA w0 v47_29 fun v48_30 =>
 buildA [(0, 1, false, v46_28), (1, 1, false, v48_30)] [(.string .empty), (.string .empty), (.bool false)] fun v49_31 =>
 callA P w0 n_dedupref12_With [x6, v49_31] fun v50_32 =>
 addA v8_17 1 fun v73_33 =>
 loadA w0 v73_33 fun v74_34 =>
 callA P w0 n_level_Levels_Get [x3, v74_34] fun v75_35 =>
 pureA (extA v75_35 0) fun v76_36 =>
 pureA (extA v75_35 1) fun v77_37 =>
 addA v8_17 1 fun v80_38 =>
 loadA w0 v80_38 fun v81_39 =>
 callA P w0 n_dedupref12_Find [v50_32, v81_39] fun v82_40 =>
 pureA (extA v82_40 0) fun v83_41 =>
 pureA (extA v82_40 1) fun v84_42 =>
 guardA v84_42 true (fun K => K v50_32) fun v88_43 =>
 guardA v84_42 true (fun K => K v83_41) fun v89_44 =>
 guardA v84_42 true (idxSlA 3 v88_43 v89_44) fun v90_45 =>
 guardA v84_42 true (addA v90_45 2) fun v91_46 =>
 guardA v84_42 true (loadA w0 v91_46) fun v92_47 =>
 guardA v84_42 true (pureA (unA .not v92_47)) fun v93_48 =>
 pickA v84_42 v93_48 (.bool false) fun v94_49 =>
 pureA (binBoolA .neq v77_37 v94_49) fun v95_50 =>
 guardA v95_50 false (fun K => K v77_37) fun v97_51 =>
 guardA v95_50 false (fun K => K v97_51) fun v98_52 =>
 guardA v98_52 true (fun K => K v76_36) fun v99_53 =>
 guardA v98_52 true (fun K => K v50_32) fun v100_54 =>
 guardA v98_52 true (fun K => K v83_41) fun v101_55 =>
 guardA v98_52 true (idxSlA 3 v100_54 v101_55) fun v102_56 =>
 guardA v98_52 true (addA v102_56 1) fun v103_57 =>
 guardA v98_52 true (loadA w0 v103_57) fun v104_58 =>
 guardA v98_52 true (pureA (binA .neq v99_53 v104_58)) fun v105_59 =>
 guardA v95_50 false (pickA v98_52 v105_59 (.bool false)) fun v106_60 =>
 pickA v95_50 (.bool true) v106_60 fun v107_61 =>
 condA v107_61 (
 kr (.bool false)) (
 pureA (binA .add x29 (.int .i64 1)) fun v108_62 =>
 R x2 x3 v50_32 x27 x28 v108_62)) (
 addA v8_17 1 fun v73_63 =>
 loadA w0 v73_63 fun v74_64 =>
 callA P w0 n_level_Levels_Get [x3, v74_64] fun v75_65 =>
 pureA (extA v75_65 0) fun v76_66 =>
 pureA (extA v75_65 1) fun v77_67 =>
 addA v8_17 1 fun v80_68 =>
 loadA w0 v80_68 fun v81_69 =>
 callA P w0 n_dedupref12_Find [x6, v81_69] fun v82_70 =>
 pureA (extA v82_70 0) fun v83_71 =>
 pureA (extA v82_70 1) fun v84_72 =>
 guardA v84_72 true (fun K => K x6) fun v88_73 =>
 guardA v84_72 true (fun K => K v83_71) fun v89_74 =>
 guardA v84_72 true (idxSlA 3 v88_73 v89_74) fun v90_75 =>
 guardA v84_72 true (addA v90_75 2) fun v91_76 =>
 guardA v84_72 true (loadA w0 v91_76) fun v92_77 =>
 guardA v84_72 true (pureA (unA .not v92_77)) fun v93_78 =>
 pickA v84_72 v93_78 (.bool false) fun v94_79 =>
 pureA (binBoolA .neq v77_67 v94_79) fun v95_80 =>
 guardA v95_80 false (fun K => K v77_67) fun v97_81 =>
 guardA v95_80 false (fun K => K v97_81) fun v98_82 =>
 guardA v98_82 true (fun K => K v76_66) fun v99_83 =>
 guardA v98_82 true (fun K => K x6) fun v100_84 =>
 guardA v98_82 true (fun K => K v83_71) fun v101_85 =>
 guardA v98_82 true (idxSlA 3 v100_84 v101_85) fun v102_86 =>
 guardA v98_82 true (addA v102_86 1) fun v103_87 =>
 guardA v98_82 true (loadA w0 v103_87) fun v104_88 =>
 guardA v98_82 true (pureA (binA .neq v99_83 v104_88)) fun v105_89 =>
 guardA v95_80 false (pickA v98_82 v105_89 (.bool false)) fun v106_90 =>
 pickA v95_80 (.bool true) v106_90 fun v107_91 =>
 condA v107_91 (
 kr (.bool false)) (
 pureA (binA .add x29 (.int .i64 1)) fun v108_92 =>
 R x2 x3 x6 x27 x28 v108_92))) (
 pureA (binA .eql v34_19 (.int .i64 1)) fun v52_93 =>
 condA v52_93 (
 addA v8_17 1 fun v54_94 =>
 loadA w0 v54_94 fun v55_95 =>
 callA P w0 n_level_Levels_Delete [x3, v55_95] fun v56_96 =>
 pureA (binA .eql v56_96 (.int .i64 0)) fun v57_97 =>
 condA v57_97 (
 addA v8_17 1 fun v59_98 =>
 loadA w0 v59_98 fun v60_99 =>
 buildA [(0, 1, false, v60_99), (2, 1, false, (.bool true))] [(.string .empty), (.string .empty), (.bool false)] fun v61_100 =>
 callA P w0 n_dedupref12_With [x6, v61_100] fun v62_101 =>
 addA v8_17 1 fun v73_102 =>
 loadA w0 v73_102 fun v74_103 =>
 callA P w0 n_level_Levels_Get [x3, v74_103] fun v75_104 =>
 pureA (extA v75_104 0) fun v76_105 =>
 pureA (extA v75_104 1) fun v77_106 =>
 addA v8_17 1 fun v80_107 =>
 loadA w0 v80_107 fun v81_108 =>
 callA P w0 n_dedupref12_Find [v62_101, v81_108] fun v82_109 =>
 pureA (extA v82_109 0) fun v83_110 =>
 pureA (extA v82_109 1) fun v84_111 =>
 guardA v84_111 true (fun K => K v62_101) fun v88_112 =>
 guardA v84_111 true (fun K => K v83_110) fun v89_113 =>
 guardA v84_111 true (idxSlA 3 v88_112 v89_113) fun v90_114 =>
 guardA v84_111 true (addA v90_114 2) fun v91_115 =>
 guardA v84_111 true (loadA w0 v91_115) fun v92_116 =>
 guardA v84_111 true (pureA (unA .not v92_116)) fun v93_117 =>
 pickA v84_111 v93_117 (.bool false) fun v94_118 =>
 pureA (binBoolA .neq v77_106 v94_118) fun v95_119 =>
 guardA v95_119 false (fun K => K v77_106) fun v97_120 =>
 guardA v95_119 false (fun K => K v97_120) fun v98_121 =>
 guardA v98_121 true (fun K => K v76_105) fun v99_122 =>
 guardA v98_121 true (fun K => K v62_101) fun v100_123 =>
 guardA v98_121 true (fun K => K v83_110) fun v101_124 =>
 guardA v98_121 true (idxSlA 3 v100_123 v101_124) fun v102_125 =>
 guardA v98_121 true (addA v102_125 1) fun v103_126 =>
 guardA v98_121 true (loadA w0 v103_126) fun v104_127 =>
 guardA v98_121 true (pureA (binA .neq v99_122 v104_127)) fun v105_128 =>
 guardA v95_119 false (pickA v98_121 v105_128 (.bool false)) fun v106_129 =>
 pickA v95_119 (.bool true) v106_129 fun v107_130 =>
 condA v107_130 (
 kr (.bool false)) (
 pureA (binA .add x29 (.int .i64 1)) fun v108_131 =>
 R x2 x3 v62_101 x27 x28 v108_131)) (
 addA v8_17 1 fun v73_132 =>
 loadA w0 v73_132 fun v74_133 =>
 callA P w0 n_level_Levels_Get [x3, v74_133] fun v75_134 =>
 pureA (extA v75_134 0) fun v76_135 =>
 pureA (extA v75_134 1) fun v77_136 =>
 addA v8_17 1 fun v80_137 =>
 loadA w0 v80_137 fun v81_138 =>
 callA P w0 n_dedupref12_Find [x6, v81_138] fun v82_139 =>
 pureA (extA v82_139 0) fun v83_140 =>
 pureA (extA v82_139 1) fun v84_141 =>
 guardA v84_141 true (fun K => K x6) fun v88_142 =>
 guardA v84_141 true (fun K => K v83_140) fun v89_143 =>
 guardA v84_141 true (idxSlA 3 v88_142 v89_143) fun v90_144 =>
 guardA v84_141 true (addA v90_144 2) fun v91_145 =>
 guardA v84_141 true (loadA w0 v91_145) fun v92_146 =>
 guardA v84_141 true (pureA (unA .not v92_146)) fun v93_147 =>
 pickA v84_141 v93_147 (.bool false) fun v94_148 =>
 pureA (binBoolA .neq v77_136 v94_148) fun v95_149 =>
 guardA v95_149 false (fun K => K v77_136) fun v97_150 =>
 guardA v95_149 false (fun K => K v97_150) fun v98_151 =>
 guardA v98_151 true (fun K => K v76_135) fun v99_152 =>
 guardA v98_151 true (fun K => K x6) fun v100_153 =>
 guardA v98_151 true (fun K => K v83_140) fun v101_154 =>
 guardA v98_151 true (idxSlA 3 v100_153 v101_154) fun v102_155 =>
 guardA v98_151 true (addA v102_155 1) fun v103_156 =>
 guardA v98_151 true (loadA w0 v103_156) fun v104_157 =>
 guardA v98_151 true (pureA (binA .neq v99_152 v104_157)) fun v105_158 =>
 guardA v95_149 false (pickA v98_151 v105_158 (.bool false)) fun v106_159 =>
 pickA v95_149 (.bool true) v106_159 fun v107_160 =>
 condA v107_160 (
 kr (.bool false)) (
 pureA (binA .add x29 (.int .i64 1)) fun v108_161 =>
 R x2 x3 x6 x27 x28 v108_161))) (
 pureA (binA .eql v34_19 (.int .i64 4)) fun v64_162 =>
 condA v64_162 (
 callA P w0 n_level_Levels_Flush [x3] fun v66_163 =>
 addA v8_17 1 fun v73_164 =>
 loadA w0 v73_164 fun v74_165 =>
 callA P w0 n_level_Levels_Get [x3, v74_165] fun v75_166 =>
 pureA (extA v75_166 0) fun v76_167 =>
 pureA (extA v75_166 1) fun v77_168 =>
 addA v8_17 1 fun v80_169 =>
 loadA w0 v80_169 fun v81_170 =>
 callA P w0 n_dedupref12_Find [x6, v81_170] fun v82_171 =>
 pureA (extA v82_171 0) fun v83_172 =>
 pureA (extA v82_171 1) fun v84_173 =>
 guardA v84_173 true (fun K => K x6) fun v88_174 =>
 guardA v84_173 true (fun K => K v83_172) fun v89_175 =>
 guardA v84_173 true (idxSlA 3 v88_174 v89_175) fun v90_176 =>
 guardA v84_173 true (addA v90_176 2) fun v91_177 =>
 guardA v84_173 true (loadA w0 v91_177) fun v92_178 =>
 guardA v84_173 true (pureA (unA .not v92_178)) fun v93_179 =>
 pickA v84_173 v93_179 (.bool false) fun v94_180 =>
 pureA (binBoolA .neq v77_168 v94_180) fun v95_181 =>
 guardA v95_181 false (fun K => K v77_168) fun v97_182 =>
 guardA v95_181 false (fun K => K v97_182) fun v98_183 =>
 guardA v98_183 true (fun K => K v76_167) fun v99_184 =>
 guardA v98_183 true (fun K => K x6) fun v100_185 =>
 guardA v98_183 true (fun K => K v83_172) fun v101_186 =>
 guardA v98_183 true (idxSlA 3 v100_185 v101_186) fun v102_187 =>
 guardA v98_183 true (addA v102_187 1) fun v103_188 =>
 guardA v98_183 true (loadA w0 v103_188) fun v104_189 =>
 guardA v98_183 true (pureA (binA .neq v99_184 v104_189)) fun v105_190 =>
 guardA v95_181 false (pickA v98_183 v105_190 (.bool false)) fun v106_191 =>
 pickA v95_181 (.bool true) v106_191 fun v107_192 =>
 condA v107_192 (
 kr (.bool false)) (
 pureA (binA .add x29 (.int .i64 1)) fun v108_193 =>
 R x2 x3 x6 x27 x28 v108_193)) (
 pureA (binA .eql v34_19 (.int .i64 5)) fun v68_194 =>
 condA v68_194 (
 callA P w0 n_level_Levels_Step [x3] fun v70_195 =>
 addA v8_17 1 fun v73_196 =>
 loadA w0 v73_196 fun v74_197 =>
 callA P w0 n_level_Levels_Get [x3, v74_197] fun v75_198 =>
 pureA (extA v75_198 0) fun v76_199 =>
 pureA (extA v75_198 1) fun v77_200 =>
 addA v8_17 1 fun v80_201 =>
 loadA w0 v80_201 fun v81_202 =>
 callA P w0 n_dedupref12_Find [x6, v81_202] fun v82_203 =>
 pureA (extA v82_203 0) fun v83_204 =>
 pureA (extA v82_203 1) fun v84_205 =>
 guardA v84_205 true (fun K => K x6) fun v88_206 =>
 guardA v84_205 true (fun K => K v83_204) fun v89_207 =>
 guardA v84_205 true (idxSlA 3 v88_206 v89_207) fun v90_208 =>
 guardA v84_205 true (addA v90_208 2) fun v91_209 =>
 guardA v84_205 true (loadA w0 v91_209) fun v92_210 =>
 guardA v84_205 true (pureA (unA .not v92_210)) fun v93_211 =>
 pickA v84_205 v93_211 (.bool false) fun v94_212 =>
 pureA (binBoolA .neq v77_200 v94_212) fun v95_213 =>
 guardA v95_213 false (fun K => K v77_200) fun v97_214 =>
 guardA v95_213 false (fun K => K v97_214) fun v98_215 =>
 guardA v98_215 true (fun K => K v76_199) fun v99_216 =>
 guardA v98_215 true (fun K => K x6) fun v100_217 =>
 guardA v98_215 true (fun K => K v83_204) fun v101_218 =>
 guardA v98_215 true (idxSlA 3 v100_217 v101_218) fun v102_219 =>
 guardA v98_215 true (addA v102_219 1) fun v103_220 =>
 guardA v98_215 true (loadA w0 v103_220) fun v104_221 =>
 guardA v98_215 true (pureA (binA .neq v99_216 v104_221)) fun v105_222 =>
 guardA v95_213 false (pickA v98_215 v105_222 (.bool false)) fun v106_223 =>
 pickA v95_213 (.bool true) v106_223 fun v107_224 =>
 condA v107_224 (
 kr (.bool false)) (
 pureA (binA .add x29 (.int .i64 1)) fun v108_225 =>
 R x2 x3 x6 x27 x28 v108_225)) (
 addA v8_17 1 fun v73_226 =>
 loadA w0 v73_226 fun v74_227 =>
 callA P w0 n_level_Levels_Get [x3, v74_227] fun v75_228 =>
 pureA (extA v75_228 0) fun v76_229 =>
 pureA (extA v75_228 1) fun v77_230 =>
 addA v8_17 1 fun v80_231 =>
 loadA w0 v80_231 fun v81_232 =>
 callA P w0 n_dedupref12_Find [x6, v81_232] fun v82_233 =>
 pureA (extA v82_233 0) fun v83_234 =>
 pureA (extA v82_233 1) fun v84_235 =>
 guardA v84_235 true (fun K => K x6) fun v88_236 =>
 guardA v84_235 true (fun K => K v83_234) fun v89_237 =>
 guardA v84_235 true (idxSlA 3 v88_236 v89_237) fun v90_238 =>
 guardA v84_235 true (addA v90_238 2) fun v91_239 =>
 guardA v84_235 true (loadA w0 v91_239) fun v92_240 =>
 guardA v84_235 true (pureA (unA .not v92_240)) fun v93_241 =>
 pickA v84_235 v93_241 (.bool false) fun v94_242 =>
 pureA (binBoolA .neq v77_230 v94_242) fun v95_243 =>
 guardA v95_243 false (fun K => K v77_230) fun v97_244 =>
 guardA v95_243 false (fun K => K v97_244) fun v98_245 =>
 guardA v98_245 true (fun K => K v76_229) fun v99_246 =>
 guardA v98_245 true (fun K => K x6) fun v100_247 =>
 guardA v98_245 true (fun K => K v83_234) fun v101_248 =>
 guardA v98_245 true (idxSlA 3 v100_247 v101_248) fun v102_249 =>
 guardA v98_245 true (addA v102_249 1) fun v103_250 =>
 guardA v98_245 true (loadA w0 v103_250) fun v104_251 =>
 guardA v98_245 true (pureA (binA .neq v99_246 v104_251)) fun v105_252 =>
 guardA v95_243 false (pickA v98_245 v105_252 (.bool false)) fun v106_253 =>
 pickA v95_243 (.bool true) v106_253 fun v107_254 =>
 condA v107_254 (
 kr (.bool false)) (
 pureA (binA .add x29 (.int .i64 1)) fun v108_255 =>
 R x2 x3 x6 x27 x28 v108_255)))))) (
 k0 x2)
def deduplaw14_LevelMaps_L1 (P : Program) (w0 : World) (k0 : Value → Hp → Prop) (kr : Value → Hp → Prop) : Nat → Value → Value → Value → Value → Value → Value → Hp → Prop
  | 0, _, _, _, _, _, _ => fun _ => False
  | m + 1, x2, x3, x6, x27, x28, x29 => deduplaw14_LevelMaps_B1 P w0 (deduplaw14_LevelMaps_L1 P w0 k0 kr m) k0 kr x2 x3 x6 x27 x28 x29
def deduplaw14_LevelMaps_E1 (P : Program) (w0 : World) (k0 : Value → Hp → Prop) (kr : Value → Hp → Prop) (x2 x3 x6 x27 x28 x29 : Value) : Hp → Prop := fun h => ∃ m, deduplaw14_LevelMaps_L1 P w0 k0 kr m x2 x3 x6 x27 x28 x29 h
def s_deduplaw14_LevelMaps (P : Program) (w0 : World) (a0 : Value) (R : Kont) : Hp → Prop :=
 boxA true 4 a0 fun v1_1 =>
 loadNA w0 v1_1 4 fun v14_2 =>
 callA P w0 n_deduplaw14_begin [v14_2] fun v15_3 =>
 pureA (extA v15_3 0) fun v16_4 =>
 pureA (extA v15_3 1) fun v17_5 =>
 pureA (extA v15_3 2) fun v18_6 =>
 pureA (unA .not v18_6) fun v20_7 =>
 guardA v20_7 false (fun K => K v17_5) fun v22_8 =>
 guardA v20_7 false (pureA (binPtrA .eql v22_8 (.pointer none))) fun v23_9 =>
 pickA v20_7 (.bool true) v23_9 fun v24_10 =>
 condA v24_10 (
 retA [v18_6] R) (
 addA v1_1 3 fun v26_11 =>
 loadA w0 v26_11 fun v27_12 =>
 pureA (lenSl v27_12) fun v28_13 =>
 deduplaw14_LevelMaps_E1 P w0 (fun y2_256 =>
 retA [(.bool true)] R) (fun y2_257 =>
 retA [y2_257] R) (.bool false) v16_4 (.slice none 0 0) v27_12 v28_13 (.int .i64 0))
theorem deduplaw14_LevelMaps_L1_eq (w0 : World) (k0 : Value → Hp → Prop) (kr : Value → Hp → Prop) : ∀ (m : Nat) (x2 x3 x6 x27 x28 x29 : Value) (h : Hp), loopA (stepL ⟨prog, w0, 109, ks_deduplaw14_LevelMaps⟩ (drw w0 109) (loopAt fn_deduplaw14_LevelMaps 0)) m (mkFr [(2, x2), (3, x3), (6, x6), (27, x27), (28, x28), (29, x29)]) [fun t => k0 (t 2), fun t => kr (t 2)] h = deduplaw14_LevelMaps_L1 prog w0 k0 kr m x2 x3 x6 x27 x28 x29 h := by
  intro m
  induction m with
  | zero => intros; kernel_rfl
  | succ m ih =>
    intro x2 x3 x6 x27 x28 x29 h
    have e : deduplaw14_LevelMaps_L1 prog w0 k0 kr m = fun x2 x3 x6 x27 x28 x29 h => loopA (stepL ⟨prog, w0, 109, ks_deduplaw14_LevelMaps⟩ (drw w0 109) (loopAt fn_deduplaw14_LevelMaps 0)) m (mkFr [(2, x2), (3, x3), (6, x6), (27, x27), (28, x28), (29, x29)]) [fun t => k0 (t 2), fun t => kr (t 2)] h := by funext x2 x3 x6 x27 x28 x29 h; exact (ih x2 x3 x6 x27 x28 x29 h).symm
    show _ = deduplaw14_LevelMaps_B1 prog w0 (deduplaw14_LevelMaps_L1 prog w0 k0 kr m) k0 kr x2 x3 x6 x27 x28 x29 h
    rw [e]
    kernel_rfl
theorem deduplaw14_LevelMaps_E1_eq (w0 : World) : deduplaw14_LevelMaps_E1 prog w0 = fun k0 kr x2 x3 x6 x27 x28 x29 h => ∃ m, loopA (stepL ⟨prog, w0, 109, ks_deduplaw14_LevelMaps⟩ (drw w0 109) (loopAt fn_deduplaw14_LevelMaps 0)) m (mkFr [(2, x2), (3, x3), (6, x6), (27, x27), (28, x28), (29, x29)]) [fun t => k0 (t 2), fun t => kr (t 2)] h := by
  funext k0 kr x2 x3 x6 x27 x28 x29 h
  exact congrArg Exists (funext fun m => (deduplaw14_LevelMaps_L1_eq w0 k0 kr m x2 x3 x6 x27 x28 x29 h).symm)
theorem c_deduplaw14_LevelMaps {w0 : World} {h : Hp} {R : Kont} {a0 : Value} (hj : ∀ v, v ∈ [a0] → v ≠ junk) (hv : s_deduplaw14_LevelMaps prog w0 a0 R h) : ACalls prog w0 n_deduplaw14_LevelMaps [a0] h R := by
  have e : vcFn ⟨prog, w0, 109, ks_deduplaw14_LevelMaps⟩ (drw w0 109) fn_deduplaw14_LevelMaps [a0] R h = s_deduplaw14_LevelMaps prog w0 a0 R h := by
    unfold s_deduplaw14_LevelMaps
    rw [deduplaw14_LevelMaps_E1_eq w0]
    kernel_rfl
  exact acalls_of_eq (fn := fn_deduplaw14_LevelMaps) (ks := ks_deduplaw14_LevelMaps) (n := 109) (by kernel_rfl) (by kernel_rfl) (draw_ok (by kernel_rfl)) (by simp) hj e hv

abbrev fn_deduplaw14_LevelNobody : Func := f6
def ks_deduplaw14_LevelNobody : List (Nat × List Nat × List Nat) := [(4, [1, 2, 11, 12, 13], [2])]
def deduplaw14_LevelNobody_R1 (P : Program) (w0 : World) (b : Nat) (g : Lp) (K : Kont) (x2 y78 y79 : Value) : Hp → Prop :=
 beginA b g (
 storeA w0 x2 (.bool false) fun _ =>
 endR b g (some none) K)
def deduplaw14_LevelNobody_B1 (P : Program) (w0 : World) (R : Value → Value → Value → Value → Value → Hp → Prop) (k0 : Value → Hp → Prop) (kr : Value → Hp → Prop) (x1 x2 x11 x12 x13 : Value) : Hp → Prop :=
 pureA (binA .lss x13 x12) fun v14_10 =>
 condA v14_10 (
 idxSlA 1 x11 x13 fun v15_11 =>
 loadA w0 v15_11 fun v16_12 =>
 addA x1 1 fun v19_13 =>
 loadA w0 v19_13 fun v20_14 =>
 callA P w0 n_level_Levels_Get [v16_12, v20_14] fun v21_15 =>
 pureA (extA v21_15 0) fun v22_16 =>
 pureA (extA v21_15 1) fun v23_17 =>
 addA x1 1 fun v25_18 =>
 loadA w0 v25_18 fun v26_19 =>
 addA x1 3 fun v27_20 =>
 loadA w0 v27_20 fun v28_21 =>
 callA P w0 n_level_Levels_Put [v16_12, v26_19, v28_21] fun v29_22 =>
 pureA (binA .neq v29_22 (.int .i64 6)) fun v30_23 =>
 guardA v30_23 false (fun K => K v16_12) fun v32_24 =>
 guardA v30_23 false (addA x1 1) fun v33_25 =>
 guardA v30_23 false (loadA w0 v33_25) fun v34_26 =>
 guardA v30_23 false (callA P w0 n_level_Levels_Delete [v32_24, v34_26]) fun v35_27 =>
 guardA v30_23 false (pureA (binA .neq v35_27 (.int .i64 6))) fun v36_28 =>
 pickA v30_23 (.bool true) v36_28 fun v37_29 =>
 guardA v37_29 false (fun K => K v22_16) fun v39_30 =>
 guardA v37_29 false (pureA (binA .neq v39_30 (.string .empty))) fun v40_31 =>
 pickA v37_29 (.bool true) v40_31 fun v41_32 =>
 guardA v41_32 false (fun K => K v23_17) fun v43_33 =>
 pickA v41_32 (.bool true) v43_33 fun v44_34 =>
 guardA v44_34 false (fun K => K v16_12) fun v46_35 =>
 guardA v44_34 false (callA P w0 n_level_Levels_Flush [v46_35]) fun v47_36 =>
 pickA v44_34 (.bool true) v47_36 fun v48_37 =>
 guardA v48_37 false (fun K => K v16_12) fun v50_38 =>
 guardA v48_37 false (callA P w0 n_level_Levels_Step [v50_38]) fun v51_39 =>
 pickA v48_37 (.bool true) v51_39 fun v52_40 =>
 guardA v52_40 false (fun K => K v16_12) fun v54_41 =>
 guardA v52_40 false (callA P w0 n_level_Levels_Runs [v54_41]) fun v55_42 =>
 guardA v52_40 false (pureA (lenSl v55_42)) fun v56_43 =>
 guardA v52_40 false (pureA (binA .neq v56_43 (.int .i64 0))) fun v57_44 =>
 pickA v52_40 (.bool true) v57_44 fun v58_45 =>
 guardA v58_45 false (fun K => K v16_12) fun v60_46 =>
 guardA v58_45 false (callA P w0 n_level_Levels_Manifest [v60_46]) fun v61_47 =>
 guardA v58_45 false (pureA (lenSl v61_47)) fun v62_48 =>
 guardA v58_45 false (pureA (binA .neq v62_48 (.int .i64 0))) fun v63_49 =>
 pickA v58_45 (.bool true) v63_49 fun v64_50 =>
 guardA v64_50 false (fun K => K v16_12) fun v66_51 =>
 guardA v64_50 false (callA P w0 n_level_Levels_Files [v66_51]) fun v67_52 =>
 guardA v64_50 false (pureA (lenSl v67_52)) fun v68_53 =>
 guardA v64_50 false (pureA (binA .neq v68_53 (.int .i64 0))) fun v69_54 =>
 pickA v64_50 (.bool true) v69_54 fun v70_55 =>
 guardA v70_55 false (fun K => K v16_12) fun v72_56 =>
 guardA v70_55 false (callA P w0 n_level_Levels_Fork [v72_56]) fun v73_57 =>
 guardA v70_55 false (pureA (binPtrA .neq v73_57 (.pointer none))) fun v74_58 =>
 pickA v70_55 (.bool true) v74_58 fun v75_59 =>
 condA v75_59 (
 storeA w0 x2 (.bool false) fun _ =>
 kr x2) (
 callA P w0 n_level_Levels_Scan [v16_12, (.string .empty), (.string .empty)] fun v77_60 =>
 rangeA P w0 v77_60 2 (fun b g args K => deduplaw14_LevelNobody_R1 P w0 b g K x2 (args.getD 0 undef) (args.tail.getD 0 undef)) (
 pureA (binA .add x13 (.int .i64 1)) fun v80_61 =>
 R x1 x2 x11 x12 v80_61) [(none, (
 kr x2))])) (
 k0 x2)
def deduplaw14_LevelNobody_L1 (P : Program) (w0 : World) (k0 : Value → Hp → Prop) (kr : Value → Hp → Prop) : Nat → Value → Value → Value → Value → Value → Hp → Prop
  | 0, _, _, _, _, _ => fun _ => False
  | m + 1, x1, x2, x11, x12, x13 => deduplaw14_LevelNobody_B1 P w0 (deduplaw14_LevelNobody_L1 P w0 k0 kr m) k0 kr x1 x2 x11 x12 x13
def deduplaw14_LevelNobody_E1 (P : Program) (w0 : World) (k0 : Value → Hp → Prop) (kr : Value → Hp → Prop) (x1 x2 x11 x12 x13 : Value) : Hp → Prop := fun h => ∃ m, deduplaw14_LevelNobody_L1 P w0 k0 kr m x1 x2 x11 x12 x13 h
def s_deduplaw14_LevelNobody (P : Program) (w0 : World) (a0 : Value) (R : Kont) : Hp → Prop :=
 fun h0 => (boxA true 5 a0 fun v1_1 =>
 newA [(.bool false)] 1 fun v2_2 =>
 callA P w0 n_deduplaw14_awake [] fun v7_3 =>
 pureA (unA .not v7_3) fun v8_4 =>
 condA v8_4 (
 storeA w0 v2_2 (.bool false) fun _ =>
 cutA h0 (
 loadA w0 v2_2 fun v2_5 =>
 retA [v2_5] R)) (
 buildA [] [(.int .i64 0), (.int .i64 0), (.int .i64 0), (.pointer none), (.slice none 0 0), (.slice none 0 0), (.slice none 0 0), (.slice none 0 0), (.slice none 0 0), (.slice none 0 0), (.slice none 0 0), (.slice none 0 0), (.slice none 0 0), (.slice none 0 0), (.slice none 0 0), (.slice none 0 0), (.slice none 0 0), (.slice none 0 0), (.slice none 0 0), (.slice none 0 0)] fun v9_6 =>
 boxA true 20 v9_6 fun v10_7 =>
 bslA [(0, 1, false, (.pointer none)), (1, 1, false, v10_7)] (zerosL [(.pointer none)] 2) 2 1 fun v11_8 =>
 pureA (lenSl v11_8) fun v12_9 =>
 deduplaw14_LevelNobody_E1 P w0 (fun y2_62 =>
 storeA w0 y2_62 (.bool true) fun _ =>
 cutA h0 (
 loadA w0 y2_62 fun v2_63 =>
 retA [v2_63] R)) (fun y2_64 =>
 cutA h0 (
 loadA w0 y2_64 fun v2_65 =>
 retA [v2_65] R)) v1_1 v2_2 v11_8 v12_9 (.int .i64 0))) h0
theorem deduplaw14_LevelNobody_L1_eq (w0 : World) (k0 : Value → Hp → Prop) (kr : Value → Hp → Prop) : ∀ (m : Nat) (x1 x2 x11 x12 x13 : Value) (h : Hp), loopA (stepLM ⟨prog, w0, 81, ks_deduplaw14_LevelNobody⟩ (drw w0 81) (loopAt fn_deduplaw14_LevelNobody 0)) m (mkFr [(1, x1), (2, x2), (11, x11), (12, x12), (13, x13)]) [fun t => k0 (t 2), fun t => kr (t 2)] h = deduplaw14_LevelNobody_L1 prog w0 k0 kr m x1 x2 x11 x12 x13 h := by
  intro m
  induction m with
  | zero => intros; kernel_rfl
  | succ m ih =>
    intro x1 x2 x11 x12 x13 h
    have e : deduplaw14_LevelNobody_L1 prog w0 k0 kr m = fun x1 x2 x11 x12 x13 h => loopA (stepLM ⟨prog, w0, 81, ks_deduplaw14_LevelNobody⟩ (drw w0 81) (loopAt fn_deduplaw14_LevelNobody 0)) m (mkFr [(1, x1), (2, x2), (11, x11), (12, x12), (13, x13)]) [fun t => k0 (t 2), fun t => kr (t 2)] h := by funext x1 x2 x11 x12 x13 h; exact (ih x1 x2 x11 x12 x13 h).symm
    show _ = deduplaw14_LevelNobody_B1 prog w0 (deduplaw14_LevelNobody_L1 prog w0 k0 kr m) k0 kr x1 x2 x11 x12 x13 h
    rw [e]
    kernel_rfl
theorem deduplaw14_LevelNobody_E1_eq (w0 : World) : deduplaw14_LevelNobody_E1 prog w0 = fun k0 kr x1 x2 x11 x12 x13 h => ∃ m, loopA (stepLM ⟨prog, w0, 81, ks_deduplaw14_LevelNobody⟩ (drw w0 81) (loopAt fn_deduplaw14_LevelNobody 0)) m (mkFr [(1, x1), (2, x2), (11, x11), (12, x12), (13, x13)]) [fun t => k0 (t 2), fun t => kr (t 2)] h := by
  funext k0 kr x1 x2 x11 x12 x13 h
  exact congrArg Exists (funext fun m => (deduplaw14_LevelNobody_L1_eq w0 k0 kr m x1 x2 x11 x12 x13 h).symm)
theorem c_deduplaw14_LevelNobody {w0 : World} {h : Hp} {R : Kont} {a0 : Value} (hj : ∀ v, v ∈ [a0] → v ≠ junk) (hv : s_deduplaw14_LevelNobody prog w0 a0 R h) : ACalls prog w0 n_deduplaw14_LevelNobody [a0] h R := by
  have e : vcFnM ⟨prog, w0, 81, ks_deduplaw14_LevelNobody⟩ (drw w0 81) fn_deduplaw14_LevelNobody [a0] R h = s_deduplaw14_LevelNobody prog w0 a0 R h := by
    unfold s_deduplaw14_LevelNobody
    rw [deduplaw14_LevelNobody_E1_eq w0]
    kernel_rfl
  exact acalls_of_eqM (fn := fn_deduplaw14_LevelNobody) (ks := ks_deduplaw14_LevelNobody) (n := 81) (by kernel_rfl) (by kernel_rfl) (draw_ok (by kernel_rfl)) (by simp) hj e hv

abbrev fn_deduplaw14_begin : Func := f9
def ks_deduplaw14_begin : List (Nat × List Nat × List Nat) := []
def s_deduplaw14_begin (P : Program) (w0 : World) (a0 : Value) (R : Kont) : Hp → Prop :=
 boxA true 4 a0 fun v1_1 =>
 addA v1_1 0 fun v8_2 =>
 loadNA w0 v8_2 3 fun v9_3 =>
 callA P w0 n_level_New [v9_3] fun v10_4 =>
 pureA (extA v10_4 0) fun v11_5 =>
 pureA (extA v10_4 1) fun v12_6 =>
 addA v1_1 0 fun v14_7 =>
 loadNA w0 v14_7 3 fun v15_8 =>
 callA P w0 n_dedupref14_New [v15_8] fun v16_9 =>
 pureA (extA v16_9 0) fun v17_10 =>
 pureA (extA v16_9 1) fun v18_11 =>
 callA P w0 n_deduplaw14_awake [] fun v21_12 =>
 guardA v21_12 true (fun K => K v12_6) fun v23_13 =>
 guardA v21_12 true (fun K => K v18_11) fun v24_14 =>
 guardA v21_12 true (pureA (binA .eql v23_13 v24_14)) fun v25_15 =>
 pickA v21_12 v25_15 (.bool false) fun v26_16 =>
 guardA v26_16 true (fun K => K v11_5) fun v28_17 =>
 guardA v26_16 true (pureA (binPtrA .neq v28_17 (.pointer none))) fun v29_18 =>
 guardA v26_16 true (fun K => K v17_10) fun v30_19 =>
 guardA v26_16 true (pureA (binPtrA .neq v30_19 (.pointer none))) fun v31_20 =>
 guardA v26_16 true (pureA (binBoolA .eql v29_18 v31_20)) fun v32_21 =>
 pickA v26_16 v32_21 (.bool false) fun v33_22 =>
 retA [v11_5, v17_10, v33_22] R
theorem c_deduplaw14_begin {w0 : World} {h : Hp} {R : Kont} {a0 : Value} (hj : ∀ v, v ∈ [a0] → v ≠ junk) (hv : s_deduplaw14_begin prog w0 a0 R h) : ACalls prog w0 n_deduplaw14_begin [a0] h R := by
  have e : vcFn ⟨prog, w0, 34, ks_deduplaw14_begin⟩ (drw w0 34) fn_deduplaw14_begin [a0] R h = s_deduplaw14_begin prog w0 a0 R h := by
    kernel_rfl
  exact acalls_of_eq (fn := fn_deduplaw14_begin) (ks := ks_deduplaw14_begin) (n := 34) (by kernel_rfl) (by kernel_rfl) (draw_ok (by kernel_rfl)) (by simp) hj e hv

abbrev fn_deduplaw14_awake : Func := f30
def ks_deduplaw14_awake : List (Nat × List Nat × List Nat) := []
def s_deduplaw14_awake (P : Program) (w0 : World) (R : Kont) : Hp → Prop :=
 buildA [(0, 1, false, (.int .i64 256)), (1, 1, false, (.int .i64 2)), (2, 1, false, (.int .i64 2))] [(.int .i64 0), (.int .i64 0), (.int .i64 0)] fun v9_1 =>
 callA P w0 n_level_New [v9_1] fun v10_2 =>
 pureA (extA v10_2 0) fun v11_3 =>
 pureA (extA v10_2 1) fun v12_4 =>
 pureA (binA .neq v12_4 (.int .i64 0)) fun v14_5 =>
 guardA v14_5 false (fun K => K v11_3) fun v16_6 =>
 guardA v14_5 false (pureA (binPtrA .eql v16_6 (.pointer none))) fun v17_7 =>
 pickA v14_5 (.bool true) v17_7 fun v18_8 =>
 guardA v18_8 false (fun K => K v11_3) fun v20_9 =>
 guardA v18_8 false (callA P w0 n_level_Levels_Scan [v20_9, (.string .empty), (.string .empty)]) fun v21_10 =>
 guardA v18_8 false (pureA (binFnA .eql v21_10 .nilFunc)) fun v22_11 =>
 pickA v18_8 (.bool true) v22_11 fun v23_12 =>
 condA v23_12 (
 retA [(.bool false)] R) (
 callA P w0 n_level_Levels_Put [v11_3, (.string ⟨#[97]⟩), (.string ⟨#[49]⟩)] fun v25_13 =>
 callA P w0 n_level_Levels_Put [v11_3, (.string ⟨#[98]⟩), (.string ⟨#[50]⟩)] fun v27_14 =>
 callA P w0 n_level_Levels_Put [v11_3, (.string ⟨#[97]⟩), (.string ⟨#[51]⟩)] fun v29_15 =>
 callA P w0 n_level_Levels_Delete [v11_3, (.string ⟨#[98]⟩)] fun v31_16 =>
 callA P w0 n_level_Levels_Runs [v11_3] fun v33_17 =>
 bslA [(0, 1, false, (.int .i64 2))] (zerosL [(.int .i64 0)] 1) 1 1 fun v34_18 =>
 callA P w0 n_deduplaw14_sameInts [v33_17, v34_18] fun v35_19 =>
 callA P w0 n_level_Levels_Get [v11_3, (.string ⟨#[97]⟩)] fun v38_20 =>
 pureA (extA v38_20 0) fun v39_21 =>
 pureA (extA v38_20 1) fun v40_22 =>
 callA P w0 n_level_Levels_Get [v11_3, (.string ⟨#[98]⟩)] fun v43_23 =>
 pureA (extA v43_23 0) fun v44_24 =>
 pureA (extA v43_23 1) fun v45_25 =>
 guardA v35_19 true (fun K => K v11_3) fun v48_26 =>
 guardA v35_19 true (callA P w0 n_level_Levels_Step [v48_26]) fun v49_27 =>
 pickA v35_19 v49_27 (.bool false) fun v50_28 =>
 guardA v50_28 true (fun K => K v11_3) fun v52_29 =>
 guardA v50_28 true (callA P w0 n_level_Levels_Runs [v52_29]) fun v53_30 =>
 guardA v50_28 true (bslA [(0, 1, false, (.int .i64 0)), (1, 1, false, (.int .i64 1))] (zerosL [(.int .i64 0)] 2) 2 1) fun v54_31 =>
 guardA v50_28 true (callA P w0 n_deduplaw14_sameInts [v53_30, v54_31]) fun v55_32 =>
 pickA v50_28 v55_32 (.bool false) fun v56_33 =>
 guardA v56_33 true (fun K => K v39_21) fun v58_34 =>
 guardA v56_33 true (pureA (binA .eql v58_34 (.string ⟨#[51]⟩))) fun v59_35 =>
 pickA v56_33 v59_35 (.bool false) fun v60_36 =>
 guardA v60_36 true (fun K => K v40_22) fun v62_37 =>
 pickA v60_36 v62_37 (.bool false) fun v63_38 =>
 guardA v63_38 true (fun K => K v45_25) fun v65_39 =>
 guardA v63_38 true (pureA (unA .not v65_39)) fun v66_40 =>
 pickA v63_38 v66_40 (.bool false) fun v67_41 =>
 retA [v67_41] R)
theorem c_deduplaw14_awake {w0 : World} {h : Hp} {R : Kont} (hj : ∀ v, v ∈ [] → v ≠ junk) (hv : s_deduplaw14_awake prog w0  R h) : ACalls prog w0 n_deduplaw14_awake [] h R := by
  have e : vcFn ⟨prog, w0, 68, ks_deduplaw14_awake⟩ (drw w0 68) fn_deduplaw14_awake [] R h = s_deduplaw14_awake prog w0  R h := by
    kernel_rfl
  exact acalls_of_eq (fn := fn_deduplaw14_awake) (ks := ks_deduplaw14_awake) (n := 68) (by kernel_rfl) (by kernel_rfl) (draw_ok (by kernel_rfl)) (by simp) hj e hv

abbrev fn_deduplaw14_sameInts : Func := f79
def ks_deduplaw14_sameInts : List (Nat × List Nat × List Nat) := [(4, [0, 1, 4, 12, 13], [4])]
def deduplaw14_sameInts_B1 (P : Program) (w0 : World) (R : Value → Value → Value → Value → Value → Hp → Prop) (k0 : Value → Hp → Prop) (kr : Value → Hp → Prop) (x0 x1 x4 x12 x13 : Value) : Hp → Prop :=
 pureA (binA .lss x13 x12) fun v14_5 =>
 condA v14_5 (
 pureQ (fun K => K x0) fun v16_6 =>
 pureQ (fun K => K x13) fun v17_7 =>
 pureQ (idxSlA 1 v16_6 v17_7) fun v18_8 =>
 readQ (loadA w0 v18_8) fun v19_9 =>
 pureQ (fun K => K x1) fun v20_10 =>
 pureQ (fun K => K x13) fun v21_11 =>
 pureQ (idxSlA 1 v20_10 v21_11) fun v22_12 =>
 readQ (loadA w0 v22_12) fun v23_13 =>
 pureQ (pureA (binA .neq v19_9 v23_13)) fun v24_14 =>
 endA (
 condA v24_14 (
 kr (.bool false)) (
 pureA (binA .add x13 (.int .i64 1)) fun v25_15 =>
 R x0 x1 x4 x12 v25_15))) (
 k0 x4)
def deduplaw14_sameInts_L1 (P : Program) (w0 : World) (k0 : Value → Hp → Prop) (kr : Value → Hp → Prop) : Nat → Value → Value → Value → Value → Value → Hp → Prop
  | 0, _, _, _, _, _ => fun _ => False
  | m + 1, x0, x1, x4, x12, x13 => deduplaw14_sameInts_B1 P w0 (deduplaw14_sameInts_L1 P w0 k0 kr m) k0 kr x0 x1 x4 x12 x13
def deduplaw14_sameInts_E1 (P : Program) (w0 : World) (k0 : Value → Hp → Prop) (kr : Value → Hp → Prop) (x0 x1 x4 x12 x13 : Value) : Hp → Prop := fun h => ∃ m, deduplaw14_sameInts_L1 P w0 k0 kr m x0 x1 x4 x12 x13 h
def s_deduplaw14_sameInts (P : Program) (w0 : World) (a0 a1 : Value) (R : Kont) : Hp → Prop :=
 pureA (lenSl a0) fun v7_1 =>
 pureA (lenSl a1) fun v9_2 =>
 pureA (binA .neq v7_1 v9_2) fun v10_3 =>
 condA v10_3 (
 retA [(.bool false)] R) (
 pureA (lenSl a0) fun v12_4 =>
 deduplaw14_sameInts_E1 P w0 (fun y4_16 =>
 retA [(.bool true)] R) (fun y4_17 =>
 retA [y4_17] R) a0 a1 (.bool false) v12_4 (.int .i64 0))
theorem deduplaw14_sameInts_L1_eq (w0 : World) (k0 : Value → Hp → Prop) (kr : Value → Hp → Prop) : ∀ (m : Nat) (x0 x1 x4 x12 x13 : Value) (h : Hp), loopA (stepL ⟨prog, w0, 26, ks_deduplaw14_sameInts⟩ (drw w0 26) (loopAt fn_deduplaw14_sameInts 0)) m (mkFr [(0, x0), (1, x1), (4, x4), (12, x12), (13, x13)]) [fun t => k0 (t 4), fun t => kr (t 4)] h = deduplaw14_sameInts_L1 prog w0 k0 kr m x0 x1 x4 x12 x13 h := by
  intro m
  induction m with
  | zero => intros; kernel_rfl
  | succ m ih =>
    intro x0 x1 x4 x12 x13 h
    have e : deduplaw14_sameInts_L1 prog w0 k0 kr m = fun x0 x1 x4 x12 x13 h => loopA (stepL ⟨prog, w0, 26, ks_deduplaw14_sameInts⟩ (drw w0 26) (loopAt fn_deduplaw14_sameInts 0)) m (mkFr [(0, x0), (1, x1), (4, x4), (12, x12), (13, x13)]) [fun t => k0 (t 4), fun t => kr (t 4)] h := by funext x0 x1 x4 x12 x13 h; exact (ih x0 x1 x4 x12 x13 h).symm
    show _ = deduplaw14_sameInts_B1 prog w0 (deduplaw14_sameInts_L1 prog w0 k0 kr m) k0 kr x0 x1 x4 x12 x13 h
    rw [e]
    kernel_rfl
theorem deduplaw14_sameInts_E1_eq (w0 : World) : deduplaw14_sameInts_E1 prog w0 = fun k0 kr x0 x1 x4 x12 x13 h => ∃ m, loopA (stepL ⟨prog, w0, 26, ks_deduplaw14_sameInts⟩ (drw w0 26) (loopAt fn_deduplaw14_sameInts 0)) m (mkFr [(0, x0), (1, x1), (4, x4), (12, x12), (13, x13)]) [fun t => k0 (t 4), fun t => kr (t 4)] h := by
  funext k0 kr x0 x1 x4 x12 x13 h
  exact congrArg Exists (funext fun m => (deduplaw14_sameInts_L1_eq w0 k0 kr m x0 x1 x4 x12 x13 h).symm)
theorem c_deduplaw14_sameInts {w0 : World} {h : Hp} {R : Kont} {a0 a1 : Value} (hj : ∀ v, v ∈ [a0, a1] → v ≠ junk) (hv : s_deduplaw14_sameInts prog w0 a0 a1 R h) : ACalls prog w0 n_deduplaw14_sameInts [a0, a1] h R := by
  have e : vcFn ⟨prog, w0, 26, ks_deduplaw14_sameInts⟩ (drw w0 26) fn_deduplaw14_sameInts [a0, a1] R h = s_deduplaw14_sameInts prog w0 a0 a1 R h := by
    unfold s_deduplaw14_sameInts
    rw [deduplaw14_sameInts_E1_eq w0]
    kernel_rfl
  exact acalls_of_eq (fn := fn_deduplaw14_sameInts) (ks := ks_deduplaw14_sameInts) (n := 26) (by kernel_rfl) (by kernel_rfl) (draw_ok (by kernel_rfl)) (by simp) hj e hv

end
end Go.Proofs.YtfmoemconapmhaaGreat.Ah
