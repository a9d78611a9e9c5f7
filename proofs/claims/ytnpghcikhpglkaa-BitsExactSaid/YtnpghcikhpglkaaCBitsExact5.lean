/- What the row of BitsExact rests on, part 6 of 7: functions, contracts, plain laws. -/
import Derived.Test.YtnpghcikhpglkaaCBitsExact4
namespace Go.Proofs.Ytnpghcikhpglkaa.Q
open Go.RowKit Go.Proofs.YtnpghcikhpglkaaW.PrintWords Go.Proofs.YtnpghcikhpglkaaW.PrintLast Go.Proofs.YtnpghcikhpglkaaW.PrintMore
attribute [local go_sem] max2_int min2_int max_two min_two max_three min_three max_four min_four   -- for this text's walks alone
set_option linter.unusedVariables false
set_option linter.unusedSimpArgs false
attribute [local go_sem high] eqA27
set_option maxHeartbeats 8000000 in
set_option maxRecDepth 100000 in
noncomputable def herbariumlaw1_BitsExact.p11 : PSigma fun P_ : Prop => Later P_ → herbariumlaw1_BitsExact.p10.1 := by
  refine' ⟨_, fun hP_ => ?_⟩
  rotate_left
  focus
   intro k c0_0 l0_0 A0_1 c0_1 l0_1 w hu25 hu27 HC0_0 HR0_1 HC0_1 A2 y663 Ny663 LMc7 y666 Ny666 z1_1 gb661 w9 GW661 GE661 w11 z1_2 v664 w12 w15 Ao16 co16 HO668 z3_1 u40 u41 u42 x3_7 kj7 HJ7 z2_1 z2_2 z4_1 z4_2 u5 u6 z3_2 u8 z4_3 z4_4 z4_5 z4_6 z4_7 z4_8 z4_9 z4_10 z4_11 z4_12 z4_13 z4_14 z4_15 z4_16 z4_17 z4_18 z4_19 z4_20 u27 u28 u29 u30 u31 z3_3 z3_4 z3_5 z3_6 z3_7 z3_8 z3_9 z3_10 u51 u52 u53 u54 u55 u56 u57 u58 u59 u60 u61 u62 u63 u64 u65 u66 z3_11 z3_12 z3_13 z4_21 z4_22 z4_23 z4_24 z4_25 z4_26 z4_27 z4_28 z4_29 z4_30 z4_31 z4_32 z4_33 z4_34 z4_35 z4_36 z4_37 z4_38 z4_39 z4_40 z4_41 z4_42 z4_43 z4_44 z4_45 z4_46 z4_47 z4_48 z4_49 z4_50 z4_51 z4_52 z4_53 z4_54 z4_55 z4_56 z4_57 z4_58 z4_59 z4_60 z4_61 z4_62 z4_63 z4_64 z4_65 z4_66 z4_67 z4_68 z4_69 z4_70 z4_71 z4_72 z4_73 z4_74 z4_75 z4_76 z4_77 z4_78 z4_79 z4_80 z4_81 z4_82 z4_83 z4_84 z4_85 z4_86 z4_87 z4_88 z4_89 z4_90 z4_91 z4_92 z4_93 z4_94 z4_95 z4_96 z4_97 z4_98 z4_99 z4_100 z4_101 z4_102 z4_103 z4_104 z4_105 z4_106 z4_107 z4_108 z4_109 z4_110 z4_111 z4_112 z4_113 z4_114 z4_115 z4_116 z4_117 z4_118 z4_119 z4_120 z4_121 z4_122 z4_123 z4_124
   intro z4_125 z4_126 z4_127 z4_128 z4_129 z4_130 z4_131 z4_132 z4_133 z4_134 z4_135 z4_136 z4_137 z4_138 z4_139 z4_140 z4_141 z4_142 z4_143 z4_144 z4_145 z4_146 z4_147 z4_148 z4_149 z4_150 z4_151 z4_152 z4_153 z4_154 z4_155 z4_156 z4_157 z4_158 z4_159 z4_160 z4_161 z4_162 z4_163 z4_164 z4_165 z4_166 z4_167 z4_168 z4_169 z4_170 z4_171 z4_172 z4_173 z4_174 z4_175 z4_176 z4_177 z4_178 z4_179 z4_180 z4_181 z4_182 z4_183 z4_184 z4_185 z4_186 z4_187 z4_188 z4_189 z4_190 z4_191 z4_192 z4_193 z4_194 z4_195 z4_196 z4_197 z4_198 z4_199 z4_200 z4_201 z4_202 z4_203 z4_204 z4_205 z4_206 z4_207 z4_208 z4_209 z4_210 z4_211 z4_212 z4_213 z4_214 z4_215 z4_216 z4_217 z4_218 z4_219 z4_220 z4_221 z4_222 z4_223 z4_224 z4_225 z4_226 z4_227 z4_228 z4_229 z4_230 z4_231 z4_232 z4_233 z4_234 z4_235 z4_236 z4_237 z4_238 z4_239 z4_240 z4_241 z4_242 z4_243 z4_244 z4_245 z4_246 z4_247 z4_248 z4_249 z4_250 z4_251 z4_252 z4_253 z4_254 z4_255 z4_256 z4_257 z4_258 z4_259 z4_260 z4_261 z4_262 z4_263 z4_264 z4_265 z4_266 u316 u317 u318 u319 u320 u321 u322 u323 u324 u325 u326 u327 u328 u329 u330 u331 u332 u333 u334 u335 u336 u337 u338 u339 u340 u341 u342 u343 u344 u345 u346 u347 u348 u349 u350 u351 u352 u353 u354 u355 u356 u357 u358 u359 u360 u361 u362 u363 u364 u365 u366 u367 u368 u369 u370 u371 u372 u373
   intro u374 u375 u376 z2_3 z2_4 x4_2 k2 z2_6 HK2 z3_14 u43 u44 u45 u46 u47 u48 u49 u50 kj19 HJ19 t675 A27 t676 A28 t677 A29 ad673 HR0_0 z3_15 z3_16 gb674 w33 GW674 GE674 NB661_674 NB674_661 hnb34 hnc34 w36 w38 nd z5_1 u7 u67 u68 u69 x7_30 kj30 HJ30 z4_267 z4_268 z7_1 z7_2 u9 u10 u11 u12 z6_1 u14 z7_3 z7_4 z7_5 z7_6 z7_7 z7_8 z7_9 z7_10 z7_11 z7_12 z7_13 z7_14 u70 u71 u72 u73 u74 u75 u76 u77 u78 u79 u80 u81 u82 u83 u84 z5_2 z5_3 z5_4 z5_5 z5_6 z5_7 z5_8 z5_9 z5_10 z6_2 z6_3 z6_4 z6_5 z6_6 z6_7 z6_8 z6_9 z6_10 z6_11 z6_12 z6_13 z6_14 z6_15 z6_16 z6_17 z6_18 z6_19 u112 z7_15 z7_16 z7_17 z7_18 z7_19 z7_20 z7_21 z7_22 z7_23 z7_24 z7_25 z7_26 z7_27 z7_28 z7_29 z7_30 z7_31 z7_32 z7_33 z7_34 z7_35 z7_36 z7_37 z7_38 z7_39 z7_40 z7_41 z7_42 z7_43 z7_44 z7_45 z7_46 z7_47 z7_48 z7_49 z7_50 z7_51 z7_52 z7_53 z7_54 z7_55 z7_56 z7_57 z7_58 z7_59 z7_60 z7_61 z7_62 z7_63 z7_64 z7_65 z7_66 z7_67 z7_68 z7_69 z7_70 z7_71 z7_72 z7_73 z7_74 z7_75 z7_76 z7_77 z7_78 z7_79 z7_80 z7_81 z7_82 z7_83 z7_84 z7_85 z7_86 z7_87 z7_88 z7_89 z7_90 z7_91 z7_92 z7_93 z7_94 z7_95 z7_96 z7_97 z7_98 z7_99 z7_100
   intro z7_101 z7_102 z7_103 z7_104 z7_105 z7_106 z7_107 z7_108 z7_109 z7_110 z7_111 z7_112 z7_113 z7_114 z7_115 z7_116 z7_117 z7_118 z7_119 z7_120 z7_121 z7_122 z7_123 z7_124 z7_125 z7_126 z7_127 z7_128 z7_129 z7_130 z7_131 z7_132 z7_133 z7_134 z7_135 z7_136 z7_137 z7_138 z7_139 z7_140 z7_141 z7_142 z7_143 z7_144 z7_145 z7_146 z7_147 z7_148 z7_149 z7_150 z7_151 z7_152 z7_153 z7_154 z7_155 z7_156 z7_157 z7_158 z7_159 z7_160 z7_161 z7_162 z7_163 z7_164 z7_165 z7_166 z7_167 z7_168 z7_169 z7_170 z7_171 z7_172 z7_173 z7_174 z7_175 z7_176 z7_177 z7_178 z7_179 z7_180 z7_181 z7_182 z7_183 z7_184 z7_185 z7_186 z7_187 z7_188 z7_189 z7_190 z7_191 z7_192 z7_193 z7_194 z7_195 z7_196 z7_197 z7_198 z7_199 z7_200 z7_201 z7_202 z7_203 z7_204 z7_205 z7_206 z7_207 z7_208 z7_209 z7_210 z7_211 z7_212 z7_213 z7_214 z7_215 z7_216 z7_217 z4_269 z4_270 x8_5 k5 z4_272 HK5 t682 t683 A46 co48 z5_11 z5_12 ad681 z2_5 z4_271 z8_1 z8_2 w49 z5_13 w50 z10_1 z8_3 z6_20 u85 u86 u87 u88 u89 u90 u91 u92 u93 x94_46 kj46 HJ46 z6_21 u13 u94 u95 u96 u97 u98 u99 u100 u101 u102 u103 x11_54 x12_54 kj54 HJ54 z8_4 u104 u105 u106 u107 u108 u109 u110 u111 kj62 HJ62 wr u2 u15 u16 u17 u18 u19 u20 u21 u22 u23 u24 u25 u26 u113 u114 u115 u116 u117 u118 u119
   intro u120 u121 u122 u123 u124 u125 u126 u127 u128 u129 u130 u131 u132 z8_5 z8_6 z8_7 z8_8 z8_9 z8_10 z8_11 z8_12 z8_13 z8_14 z8_15 z8_16 z8_17 z8_18 z8_19 z8_20 z8_21 z8_22 z8_23 z8_24 z9_1 z9_2 z9_3 z9_4 z9_5 z9_6 z9_7 z9_8 z9_9 z9_10 z9_11 z9_12 z9_13 z9_14 z9_15 z9_16 z9_17 z9_18 z9_19 z9_20 z9_21 z9_22 z10_2 z10_3 z10_4 z10_5 z10_6 z10_7 z10_8 z10_9 u183 u184 u185 u186 u187 u188 u189 u190 u191 u192 u193 u194 u195 u196 z10_10 z10_11 z10_12 z10_13 z10_14 z10_15 z10_16 z10_17 z10_18 z10_19 z10_20 z10_21 z10_22 z10_23 u211 u212 u213 u214 u215 u216 u217 u218 u219 u220 u221 u222 u223 u224 u225 u226 u227 u228 u229 u230 u231 u232 u233 u234 u235 u236 u237 u238 u239 u240 u241 u242 u243 u244 u245 u246 u247 u248 u249 u250 u251 u252 u253 u254 u255 u256 u257 u258 u259 u260 u261 u262 u263 u264 u265 u266 u267 u268 u269 u270 u271 u272 u273 u274 u275 u276 u277 u278 u279 u280 u281 u282 u283 u284 u285 u286 u287 u288 u289 u290 u291 u292 u293 u294 u295 u296 u297 u298 u299 u300 u301 u302 u303 u304 u305 u306 u307 u308 u309 u310 u311 u312 u313 u314 u315 z7_218 z7_219 z7_220 x14_9
   intro k9 z7_221 HK9 c67b0 c68b0 c69b0 c70b0 t691 t692 t693 A71 z8_25 z8_26 p689 q689 p690 q690 z10_24 z10_25 w73 hx689_0 hx690_0 z8_27 gb694 w76 hS_ GW694 GE694 NB661_694 NB694_661 NB674_694 NB694_674 z8_28 hs77 hfs77 hns77_0 hns77_1 hms77_0 hms77_1 hs78 hfs78 hns78_0 hns78_1 hms78_0 hms78_1 z10_26 gb695 w79 GW695 GE695 NB661_695 NB695_661 NB674_695 NB695_674 NB694_695 NB695_694 hnb80 hnc80 hnb81 hnc81 hnb82 hnc82 hcz83_0 hcz83_1 hfz83_0 hfz83_1 z9_23 u133 u134 u135 u136 u137 u138 u139 u140 u141 u142 u143 u144 u145 u146 u147 u148 u149 u150 u151 u152 x153_71 kj71 HJ71 z10_27 u153 u154 u155 u156 u157 u158 u159 u160 u161 u162 u163 u164 u165 u166 u167 u168 u169 u170 u171 u172 u173 u174 x17_95 x696000_95 x696001_95 kj95 HJ95 z10_28 u175 u176 u177 u178 u179 u180 u181 u182 kj118 HJ118 t718 t719 A134 e689 e690 e716 e717 HT_ HW_ w136 z10_29 w137 HS2_ HS3_ hHeld z10_30 z10_31 z10_32 z10_33 wc u197 u198 u199 u200 u201 u202 u203 u204 u205 u206 u207 u208 u209 u210 kq x211_134 HA HJ134 HO_3 HO_7 BK661 BK674 BK694 BK695 HB
   cases kq with
   | zero => exact absurd HA.out (by simp [herbariumlaw1_BitsExact.j12])
   | succ kj134 => ?_
   have H := HA.out
   clear HA
   simp only [herbariumlaw1_BitsExact.j12] at H
   have HC141 := ak H
   clear H
   go_upto_if 211 with (fail)
   go_cut [21, 22] from 211 to 211 (fun v21 v22 wc => ∃ (kq : Nat) (x21_140 : Int) (x22_140 : Int), v21 = .int .i64 x21_140 ∧ v22 = .int .i64 x22_140 ∧ Aside0 (herbariumlaw1_BitsExact.j13 kq x3_7 x4_2 t675 x7_30 x8_5 x14_9 t718 t719 x21_140 x22_140 l0_0 l0_1 ((rd_T27 l0_0 x4_2).f0) ((rd_T27 l0_0 x4_2).f1) = some true) ∧ Aside0 (kq ≤ kj134) ∧ Aside0 (Kd.R (Kd.int .i64) 3 wc w.heap.size (fun _ => True) (.slice (some ad681) x3_7.length co48) x3_7) ∧ Aside0 (Kd.R (Kd.int .u8) 5 wc w.heap.size (fun _ => True) u7 x7_30) ∧ Aside0 (wc.heap[gb661]? = some (.cells #[(.slice (some ad673) l0_0.length c0_0), (.slice A0_1 l0_1.length c0_1)] 25 (0, 0))) ∧ Aside0 (wc.heap[gb674]? = some (.cells #[.string ((rd_T27 l0_0 x4_2).f0), .int .i64 ((rd_T27 l0_0 x4_2).f1)] 27 (0, 0))) ∧ Aside0 (wc.heap[gb694]? = some (.cells #[.string t691, .int .i64 t692] 27 (0, 0))) ∧ Aside0 (wc.heap[gb695]? = some (.cells #[.string x696000_95, .int .i64 x696001_95] 27 (0, 0))) ∧ Aside0 (Below w.heap.size w wc))
   case first =>
     have H := HC141.out
     clear HC141
     by_cases c142 : x211_134 = true
     rotate_left
     · replace c142 := Bool.eq_false_iff.mpr c142
       subst c142
       have H1 : (herbariumlaw1_BitsExact.j13 kj134 x3_7 x4_2 t675 x7_30 x8_5 x14_9 t718 t719 1 0 l0_0 l0_1 ((rd_T27 l0_0 x4_2).f0) ((rd_T27 l0_0 x4_2).f1)) = some true := by rw [if_neg (show ¬ (false = true) by decide)] at H; exact H
       clear H
       have H := H1
       clear H1
       have H' := ak H
       clear H
       go_wp2
       go_meet
       case rel => exact ⟨_, (1), (0), (by first | rfl | (simp; done) | (simp [*]; done)), (by first | rfl | (simp; done) | (simp [*]; done)), H', ⟨by have := HJ7.out; have := HK2.out; have := HJ19.out; have := HJ30.out; have := HK5.out; have := HJ46.out; have := HJ54.out; have := HJ62.out; have := HK9.out; have := HJ71.out; have := HJ95.out; have := HJ118.out; have := HJ134.out; first | omega | exact Nat.le_refl _⟩, ⟨ur <| HO_3.out⟩, ⟨ur <| HO_7.out⟩, ⟨ub BK661.out⟩, ⟨ub BK674.out⟩, ⟨ub BK694.out⟩, ⟨ub BK695.out⟩, ⟨by repeat with_reducible first | exact HB.out | apply b1 | apply b2 | apply b3 | refine b4 ?_ GE661.out | refine b4 ?_ GE674.out | refine b4 ?_ GE694.out | refine b4 ?_ GE695.out⟩⟩
     subst c142
     have H1 : (if 0 ≤ x8_5 then (if x8_5 < (x3_7.length : Int) then (if (rd x3_7 x8_5) ≤ ((rd_T27 l0_0 x4_2).f1) then (if 0 ≤ x14_9 then (if x14_9 < (x3_7.length : Int) then (if (rd x3_7 x14_9) ≤ (wrap64 (((rd_T27 l0_0 x4_2).f1) - (rd x3_7 x8_5))) then ((herbariumref1_List_Get.f kj134 x7_30 (rd x3_7 x8_5) (rd x3_7 x14_9)).bind fun t728 => (herbariumlaw1_BitsExact.j13 kj134 x3_7 x4_2 t675 x7_30 x8_5 x14_9 t718 t719 0 t728 l0_0 l0_1 ((rd_T27 l0_0 x4_2).f0) ((rd_T27 l0_0 x4_2).f1))) else (herbariumlaw1_BitsExact.j13 kj134 x3_7 x4_2 t675 x7_30 x8_5 x14_9 t718 t719 9 0 l0_0 l0_1 ((rd_T27 l0_0 x4_2).f0) ((rd_T27 l0_0 x4_2).f1))) else (none)) else (none)) else (herbariumlaw1_BitsExact.j13 kj134 x3_7 x4_2 t675 x7_30 x8_5 x14_9 t718 t719 9 0 l0_0 l0_1 ((rd_T27 l0_0 x4_2).f0) ((rd_T27 l0_0 x4_2).f1))) else (none)) else (none)) = some true := by rw [if_pos rfl] at H; exact H
     clear H
     have H := H1
     clear H1
     by_cases c143 : 0 ≤ x8_5
     rotate_left
     · rw [if_neg c143] at H
       exact absurd H (by simp)
     rw [if_pos c143] at H
     have c143b0 : decide (0 ≤ x8_5) = true := decide_eq_true c143
     clear c143
     (first | rw [c143b0] | (simp only [i64_w, i32_w]; rw [c143b0]) | skip)
     by_cases c144 : x8_5 < (x3_7.length : Int)
     rotate_left
     · rw [if_neg c144] at H
       exact absurd H (by simp)
     rw [if_pos c144] at H
     have c144b0 : decide (x8_5 < (x3_7.length : Int)) = true := decide_eq_true c144
     clear c144
     by_cases c145 : (rd x3_7 x8_5) ≤ ((rd_T27 l0_0 x4_2).f1)
     rotate_left
     · rw [if_neg c145] at H
       have c145b0 : decide ((rd x3_7 x8_5) ≤ ((rd_T27 l0_0 x4_2).f1)) = false := decide_eq_false c145
       clear c145
       have H' := ak H
       clear H
       try go_wp2
       have n0_ := ak (Kd.R_drew HO_3.out)
       have n1_ := ak (Kd.R_drew HO_7.out)
       have n2_ := ak (blk_drew BK661.out)
       have n3_ := ak (blk_drew BK674.out)
       have n4_ := ak (blk_drew BK694.out)
       have n5_ := ak (blk_drew BK695.out)
       have n6_ := ak (below_drew1 HB.out)
       clear HO_3
       clear HO_7
       clear BK661
       clear BK674
       clear BK694
       clear BK695
       clear HB
       have HO_3 := n0_
       have HO_7 := n1_
       have BK661 := n2_
       have BK674 := n3_
       have BK694 := n4_
       have BK695 := n5_
       have HB := n6_
       clear n0_ n1_ n2_ n3_ n4_ n5_ n6_
       have p723 : 0 ≤ (x8_5 : Int) := of_decide_eq_true (by first | (with_reducible assumption) | assumption)
       have q723 : x8_5 < (x3_7.length : Int) := of_decide_eq_true (by first | (with_reducible assumption) | assumption)
       obtain ⟨ad723, e723, hx723_0⟩ := Kd.at_int (Kd.R_reads' HO_3.out).2.2 x8_5 p723 q723
       obtain rfl : ad681 = ad723 := (by injection e723)
       replace p723 := eq_true p723
       replace q723 := eq_true q723
       refine start_ (n := 21) (S := fun w' => w'.cell? ⟨gb674, 0, none⟩ = some (.string ((rd_T27 l0_0 x4_2).f0)) ∧ w'.cell? ⟨gb674, 1, none⟩ = some (.int .i64 ((rd_T27 l0_0 x4_2).f1)) ∧ w'.cell? (ad681.add (x8_5).toNat) = some (.int .i64 (rd x3_7 x8_5))) (ds := []) #[false, false, false, false, false, false, false, false, false, false, false, false, false, false, false, false, false, false, false, false, false] (by kernel_rfl) rfl rfl ⟨(blk_cell BK674.out 0).trans rfl, (blk_cell BK674.out 1).trans rfl, hx723_0⟩ (fun hHeld => ?_); refine with_tabW herbariumlaw1_BitsExact.tab43 herbariumlaw1_BitsExact.bits43 (fun HT_ HW_ => ?_)
       generalize wc.drew = w154 at HO_3 HO_7 BK661 BK674 BK694 BK695 HB hx723_0 hHeld ⊢
       refine pure_ (i := 0) (N := some 212) (v := ?_) (a' := ?_) #[true, false, false, false, false, false, false, false, false, false, false, false, false, false, false, false, false, false, false, false, false] rfl rfl (any_of HT_.out (by kernel_rfl)) (fun _ _ _ h => h) (Or.inl ⟨by rfl, ?_⟩) ?_ ?_
       rotate_left
       · intro w'
         go_simp
         with_reducible rfl
       rotate_left
       · simp only [Act.put, s1, s2, s3, i64_w, i32_w]
         rfl
       refine pure_ (i := 1) (N := some 213) (v := ?_) (a' := ?_) #[true, true, false, false, false, false, false, false, false, false, false, false, false, false, false, false, false, false, false, false, false] rfl rfl (any_of HT_.out (by kernel_rfl)) (fun _ _ _ h => h) (Or.inl ⟨by rfl, ?_⟩) ?_ ?_
       rotate_left
       · intro w'
         go_simp
         with_reducible rfl
       rotate_left
       · simp only [Act.put, s1, s2, s3, i64_w, i32_w]
         rfl
       refine pure_ (i := 2) (N := some 214) (v := ?_) (a' := ?_) #[true, true, true, false, false, false, false, false, false, false, false, false, false, false, false, false, false, false, false, false, false] rfl rfl (any_of HT_.out (by kernel_rfl)) (fun _ _ _ h => h) (Or.inl ⟨by rfl, ?_⟩) ?_ ?_
       rotate_left
       · intro w'
         go_simp
         with_reducible rfl
       rotate_left
       · simp only [Act.put, s1, s2, s3, i64_w, i32_w]
         rfl
       refine pure_ (i := 4) (N := some 216) (v := ?_) (a' := ?_) #[true, true, true, false, true, false, false, false, false, false, false, false, false, false, false, false, false, false, false, false, false] rfl rfl (any_of HT_.out (by kernel_rfl)) (fun _ _ _ h => h) (Or.inl ⟨by rfl, ?_⟩) ?_ ?_
       rotate_left
       · intro w'
         go_simp
         with_reducible rfl
       rotate_left
       · simp only [Act.put, s1, s2, s3, i64_w, i32_w]
         rfl
       refine take_ (i := 3) (N := some 215) (v := ?_) (a' := ?_) #[true, true, true, true, true, false, false, false, false, false, false, false, false, false, false, false, false, false, false, false, false] rfl rfl (take_ofW HT_.out HW_.out (by kernel_rfl)) (fun _ _ _ h => h) (Or.inl ⟨by rfl, ?_⟩) hHeld ?_ ?_
       rotate_left
       · rintro w' ⟨s0, s1, s2⟩
         go_simp
         with_reducible rfl
       rotate_left
       · simp only [Act.put, s1, s2, s3, i64_w, i32_w]
         rfl
       refine take_ (i := 5) (N := some 217) (v := ?_) (a' := ?_) #[true, true, true, true, true, true, false, false, false, false, false, false, false, false, false, false, false, false, false, false, false] rfl rfl (take_ofW HT_.out HW_.out (by kernel_rfl)) (fun _ _ _ h => h) (Or.inl ⟨by rfl, ?_⟩) hHeld ?_ ?_
       rotate_left
       · rintro w' ⟨s0, s1, s2⟩
         go_simp
         with_reducible rfl
       rotate_left
       · simp only [Act.put, s1, s2, s3, i64_w, i32_w]
         rfl
       refine pure_ (i := 6) (N := some 218) (v := ?_) (a' := ?_) #[true, true, true, true, true, true, true, false, false, false, false, false, false, false, false, false, false, false, false, false, false] rfl rfl (any_of HT_.out (by kernel_rfl)) (fun _ _ _ h => h) (Or.inl ⟨by rfl, ?_⟩) ?_ ?_
       rotate_left
       · intro w'
         go_simp
         with_reducible rfl
       rotate_left
       · simp only [Act.put, s1, s2, s3, i64_w, i32_w]
         rfl
       refine pure_ (i := 7) (N := some 219) (v := ?_) (a' := ?_) #[true, true, true, true, true, true, true, true, false, false, false, false, false, false, false, false, false, false, false, false, false] rfl rfl (any_of HT_.out (by kernel_rfl)) (fun _ _ _ h => h) (Or.inl ⟨by rfl, ?_⟩) ?_ ?_
       rotate_left
       · intro w'
         go_simp
         with_reducible rfl
       rotate_left
       · simp only [Act.put, s1, s2, s3, i64_w, i32_w]
         rfl
       refine pure_ (i := 8) (N := some 220) (v := undef) (a' := ?_) #[true, true, true, true, true, true, true, true, true, false, false, false, false, false, false, false, false, false, false, false, false] rfl rfl (any_of HT_.out (by kernel_rfl)) (fun _ _ _ h => h) (Or.inr ⟨by rfl, rfl⟩) ?_ ?_
       rotate_left
       · simp only [Act.put, s1, s2, s3, i64_w, i32_w]
         rfl
       refine pure_ (i := 9) (N := some 221) (v := undef) (a' := ?_) #[true, true, true, true, true, true, true, true, true, true, false, false, false, false, false, false, false, false, false, false, false] rfl rfl (any_of HT_.out (by kernel_rfl)) (fun _ _ _ h => h) (Or.inr ⟨by rfl, rfl⟩) ?_ ?_
       rotate_left
       · simp only [Act.put, s1, s2, s3, i64_w, i32_w]
         rfl
       refine pure_ (i := 10) (N := some 222) (v := undef) (a' := ?_) #[true, true, true, true, true, true, true, true, true, true, true, false, false, false, false, false, false, false, false, false, false] rfl rfl (any_of HT_.out (by kernel_rfl)) (fun _ _ _ h => h) (Or.inr ⟨by rfl, rfl⟩) ?_ ?_
       rotate_left
       · simp only [Act.put, s1, s2, s3, i64_w, i32_w]
         rfl
       refine pure_ (i := 11) (N := some 223) (v := undef) (a' := ?_) #[true, true, true, true, true, true, true, true, true, true, true, true, false, false, false, false, false, false, false, false, false] rfl rfl (any_of HT_.out (by kernel_rfl)) (fun _ _ _ h => h) (Or.inr ⟨by rfl, rfl⟩) ?_ ?_
       rotate_left
       · simp only [Act.put, s1, s2, s3, i64_w, i32_w]
         rfl
       refine pure_ (i := 12) (N := some 224) (v := undef) (a' := ?_) #[true, true, true, true, true, true, true, true, true, true, true, true, true, false, false, false, false, false, false, false, false] rfl rfl (any_of HT_.out (by kernel_rfl)) (fun _ _ _ h => h) (Or.inr ⟨by rfl, rfl⟩) ?_ ?_
       rotate_left
       · simp only [Act.put, s1, s2, s3, i64_w, i32_w]
         rfl
       refine pure_ (i := 13) (N := some 225) (v := undef) (a' := ?_) #[true, true, true, true, true, true, true, true, true, true, true, true, true, true, false, false, false, false, false, false, false] rfl rfl (any_of HT_.out (by kernel_rfl)) (fun _ _ _ h => h) (Or.inr ⟨by rfl, rfl⟩) ?_ ?_
       rotate_left
       · simp only [Act.put, s1, s2, s3, i64_w, i32_w]
         rfl
       refine pure_ (i := 14) (N := some 226) (v := undef) (a' := ?_) #[true, true, true, true, true, true, true, true, true, true, true, true, true, true, true, false, false, false, false, false, false] rfl rfl (any_of HT_.out (by kernel_rfl)) (fun _ _ _ h => h) (Or.inr ⟨by rfl, rfl⟩) ?_ ?_
       rotate_left
       · simp only [Act.put, s1, s2, s3, i64_w, i32_w]
         rfl
       refine pure_ (i := 15) (N := some 227) (v := undef) (a' := ?_) #[true, true, true, true, true, true, true, true, true, true, true, true, true, true, true, true, false, false, false, false, false] rfl rfl (any_of HT_.out (by kernel_rfl)) (fun _ _ _ h => h) (Or.inr ⟨by rfl, rfl⟩) ?_ ?_
       rotate_left
       · simp only [Act.put, s1, s2, s3, i64_w, i32_w]
         rfl
       refine pure_ (i := 16) (N := some 228) (v := undef) (a' := ?_) #[true, true, true, true, true, true, true, true, true, true, true, true, true, true, true, true, true, false, false, false, false] rfl rfl (any_of HT_.out (by kernel_rfl)) (fun _ _ _ h => h) (Or.inr ⟨by rfl, rfl⟩) ?_ ?_
       rotate_left
       · simp only [Act.put, s1, s2, s3, i64_w, i32_w]
         rfl
       refine pure_ (i := 17) (N := some 229) (v := undef) (a' := ?_) #[true, true, true, true, true, true, true, true, true, true, true, true, true, true, true, true, true, true, false, false, false] rfl rfl (any_of HT_.out (by kernel_rfl)) (fun _ _ _ h => h) (Or.inr ⟨by rfl, rfl⟩) ?_ ?_
       rotate_left
       · simp only [Act.put, s1, s2, s3, i64_w, i32_w]
         rfl
       refine pure_ (i := 18) (N := some 230) (v := undef) (a' := ?_) #[true, true, true, true, true, true, true, true, true, true, true, true, true, true, true, true, true, true, true, false, false] rfl rfl (any_of HT_.out (by kernel_rfl)) (fun _ _ _ h => h) (Or.inr ⟨by rfl, rfl⟩) ?_ ?_
       rotate_left
       · simp only [Act.put, s1, s2, s3, i64_w, i32_w]
         rfl
       refine pure_ (i := 19) (N := some 231) (v := undef) (a' := ?_) #[true, true, true, true, true, true, true, true, true, true, true, true, true, true, true, true, true, true, true, true, false] rfl rfl (any_of HT_.out (by kernel_rfl)) (fun _ _ _ h => h) (Or.inr ⟨by rfl, rfl⟩) ?_ ?_
       rotate_left
       · simp only [Act.put, s1, s2, s3, i64_w, i32_w]
         rfl
       refine pure_ (i := 20) (N := some 232) (v := ?_) (a' := ?_) #[true, true, true, true, true, true, true, true, true, true, true, true, true, true, true, true, true, true, true, true, true] rfl rfl (any_of HT_.out (by kernel_rfl)) (fun _ _ _ h => h) (Or.inl ⟨by rfl, ?_⟩) ?_ ?_
       rotate_left
       · intro w'
         go_simp
         with_reducible rfl
       rotate_left
       · simp only [Act.put, s1, s2, s3, i64_w, i32_w]
         rfl
       refine done_ (done_of HT_.out (by kernel_rfl)) ?_
       try go_wp2
       go_meet
       case rel => exact ⟨_, (9), (0), (by first | rfl | (simp; done) | (simp [*]; done)), (by first | rfl | (simp; done) | (simp [*]; done)), H', ⟨by have := HJ7.out; have := HK2.out; have := HJ19.out; have := HJ30.out; have := HK5.out; have := HJ46.out; have := HJ54.out; have := HJ62.out; have := HK9.out; have := HJ71.out; have := HJ95.out; have := HJ118.out; have := HJ134.out; first | omega | exact Nat.le_refl _⟩, ⟨ur <| HO_3.out⟩, ⟨ur <| HO_7.out⟩, ⟨ub BK661.out⟩, ⟨ub BK674.out⟩, ⟨ub BK694.out⟩, ⟨ub BK695.out⟩, ⟨by repeat with_reducible first | exact HB.out | apply b1 | apply b2 | apply b3 | refine b4 ?_ GE661.out | refine b4 ?_ GE674.out | refine b4 ?_ GE694.out | refine b4 ?_ GE695.out⟩⟩
     rw [if_pos c145] at H
     have c145b0 : decide ((rd x3_7 x8_5) ≤ ((rd_T27 l0_0 x4_2).f1)) = true := decide_eq_true c145
     clear c145
     by_cases c146 : 0 ≤ x14_9
     rotate_left
     · rw [if_neg c146] at H
       exact absurd H (by simp)
     rw [if_pos c146] at H
     have c146b0 : decide (0 ≤ x14_9) = true := decide_eq_true c146
     clear c146
     by_cases c147 : x14_9 < (x3_7.length : Int)
     rotate_left
     · rw [if_neg c147] at H
       exact absurd H (by simp)
     rw [if_pos c147] at H
     have c147b0 : decide (x14_9 < (x3_7.length : Int)) = true := decide_eq_true c147
     clear c147
     by_cases c148 : (rd x3_7 x14_9) ≤ (wrap64 (((rd_T27 l0_0 x4_2).f1) - (rd x3_7 x8_5)))
     rotate_left
     · rw [if_neg c148] at H
       have c148b0 : decide ((rd x3_7 x14_9) ≤ (wrap64 (((rd_T27 l0_0 x4_2).f1) - (rd x3_7 x8_5)))) = false := decide_eq_false c148
       clear c148
       have H' := ak H
       clear H
       try go_wp2
       have n0_ := ak (Kd.R_drew HO_3.out)
       have n1_ := ak (Kd.R_drew HO_7.out)
       have n2_ := ak (blk_drew BK661.out)
       have n3_ := ak (blk_drew BK674.out)
       have n4_ := ak (blk_drew BK694.out)
       have n5_ := ak (blk_drew BK695.out)
       have n6_ := ak (below_drew1 HB.out)
       clear HO_3
       clear HO_7
       clear BK661
       clear BK674
       clear BK694
       clear BK695
       clear HB
       have HO_3 := n0_
       have HO_7 := n1_
       have BK661 := n2_
       have BK674 := n3_
       have BK694 := n4_
       have BK695 := n5_
       have HB := n6_
       clear n0_ n1_ n2_ n3_ n4_ n5_ n6_
       have p723 : 0 ≤ (x8_5 : Int) := of_decide_eq_true (by first | (with_reducible assumption) | assumption)
       have q723 : x8_5 < (x3_7.length : Int) := of_decide_eq_true (by first | (with_reducible assumption) | assumption)
       obtain ⟨ad723, e723, hx723_0⟩ := Kd.at_int (Kd.R_reads' HO_3.out).2.2 x8_5 p723 q723
       obtain rfl : ad681 = ad723 := (by injection e723)
       replace p723 := eq_true p723
       replace q723 := eq_true q723
       have p724 : 0 ≤ (x14_9 : Int) := of_decide_eq_true (by first | (with_reducible assumption) | assumption)
       have q724 : x14_9 < (x3_7.length : Int) := of_decide_eq_true (by first | (with_reducible assumption) | assumption)
       obtain ⟨ad724, e724, hx724_0⟩ := Kd.at_int (Kd.R_reads' HO_3.out).2.2 x14_9 p724 q724
       obtain rfl : ad681 = ad724 := (by injection e724)
       replace p724 := eq_true p724
       replace q724 := eq_true q724
       have p725 : 0 ≤ (x8_5 : Int) := of_decide_eq_true (by first | (with_reducible assumption) | assumption)
       have q725 : x8_5 < (x3_7.length : Int) := of_decide_eq_true (by first | (with_reducible assumption) | assumption)
       obtain ⟨ad725, e725, hx725_0⟩ := Kd.at_int (Kd.R_reads' HO_3.out).2.2 x8_5 p725 q725
       obtain rfl : ad681 = ad725 := (by injection e725)
       replace p725 := eq_true p725
       replace q725 := eq_true q725
       refine start_ (n := 21) (S := fun w' => w'.cell? ⟨gb674, 0, none⟩ = some (.string ((rd_T27 l0_0 x4_2).f0)) ∧ w'.cell? ⟨gb674, 1, none⟩ = some (.int .i64 ((rd_T27 l0_0 x4_2).f1)) ∧ w'.cell? (ad681.add (x8_5).toNat) = some (.int .i64 (rd x3_7 x8_5)) ∧ w'.cell? (ad681.add (x14_9).toNat) = some (.int .i64 (rd x3_7 x14_9)) ∧ w'.cell? (ad681.add (x8_5).toNat) = some (.int .i64 (rd x3_7 x8_5))) (ds := []) #[false, false, false, false, false, false, false, false, false, false, false, false, false, false, false, false, false, false, false, false, false] (by kernel_rfl) rfl rfl ⟨(blk_cell BK674.out 0).trans rfl, (blk_cell BK674.out 1).trans rfl, hx723_0, hx724_0, hx725_0⟩ (fun hHeld => ?_); refine with_tabW herbariumlaw1_BitsExact.tab43 herbariumlaw1_BitsExact.bits43 (fun HT_ HW_ => ?_)
       generalize wc.drew = w153 at HO_3 HO_7 BK661 BK674 BK694 BK695 HB hx723_0 hx724_0 hx725_0 hHeld ⊢
       refine pure_ (i := 0) (N := some 212) (v := ?_) (a' := ?_) #[true, false, false, false, false, false, false, false, false, false, false, false, false, false, false, false, false, false, false, false, false] rfl rfl (any_of HT_.out (by kernel_rfl)) (fun _ _ _ h => h) (Or.inl ⟨by rfl, ?_⟩) ?_ ?_
       rotate_left
       · intro w'
         go_simp
         with_reducible rfl
       rotate_left
       · simp only [Act.put, s1, s2, s3, i64_w, i32_w]
         rfl
       refine pure_ (i := 1) (N := some 213) (v := ?_) (a' := ?_) #[true, true, false, false, false, false, false, false, false, false, false, false, false, false, false, false, false, false, false, false, false] rfl rfl (any_of HT_.out (by kernel_rfl)) (fun _ _ _ h => h) (Or.inl ⟨by rfl, ?_⟩) ?_ ?_
       rotate_left
       · intro w'
         go_simp
         with_reducible rfl
       rotate_left
       · simp only [Act.put, s1, s2, s3, i64_w, i32_w]
         rfl
       refine pure_ (i := 2) (N := some 214) (v := ?_) (a' := ?_) #[true, true, true, false, false, false, false, false, false, false, false, false, false, false, false, false, false, false, false, false, false] rfl rfl (any_of HT_.out (by kernel_rfl)) (fun _ _ _ h => h) (Or.inl ⟨by rfl, ?_⟩) ?_ ?_
       rotate_left
       · intro w'
         go_simp
         with_reducible rfl
       rotate_left
       · simp only [Act.put, s1, s2, s3, i64_w, i32_w]
         rfl
       refine pure_ (i := 4) (N := some 216) (v := ?_) (a' := ?_) #[true, true, true, false, true, false, false, false, false, false, false, false, false, false, false, false, false, false, false, false, false] rfl rfl (any_of HT_.out (by kernel_rfl)) (fun _ _ _ h => h) (Or.inl ⟨by rfl, ?_⟩) ?_ ?_
       rotate_left
       · intro w'
         go_simp
         with_reducible rfl
       rotate_left
       · simp only [Act.put, s1, s2, s3, i64_w, i32_w]
         rfl
       refine take_ (i := 3) (N := some 215) (v := ?_) (a' := ?_) #[true, true, true, true, true, false, false, false, false, false, false, false, false, false, false, false, false, false, false, false, false] rfl rfl (take_ofW HT_.out HW_.out (by kernel_rfl)) (fun _ _ _ h => h) (Or.inl ⟨by rfl, ?_⟩) hHeld ?_ ?_
       rotate_left
       · rintro w' ⟨s0, s1, s2, s3, s4⟩
         go_simp
         with_reducible rfl
       rotate_left
       · simp only [Act.put, s1, s2, s3, i64_w, i32_w]
         rfl
       refine take_ (i := 5) (N := some 217) (v := ?_) (a' := ?_) #[true, true, true, true, true, true, false, false, false, false, false, false, false, false, false, false, false, false, false, false, false] rfl rfl (take_ofW HT_.out HW_.out (by kernel_rfl)) (fun _ _ _ h => h) (Or.inl ⟨by rfl, ?_⟩) hHeld ?_ ?_
       rotate_left
       · rintro w' ⟨s0, s1, s2, s3, s4⟩
         go_simp
         with_reducible rfl
       rotate_left
       · simp only [Act.put, s1, s2, s3, i64_w, i32_w]
         rfl
       refine pure_ (i := 6) (N := some 218) (v := ?_) (a' := ?_) #[true, true, true, true, true, true, true, false, false, false, false, false, false, false, false, false, false, false, false, false, false] rfl rfl (any_of HT_.out (by kernel_rfl)) (fun _ _ _ h => h) (Or.inl ⟨by rfl, ?_⟩) ?_ ?_
       rotate_left
       · intro w'
         go_simp
         with_reducible rfl
       rotate_left
       · simp only [Act.put, s1, s2, s3, i64_w, i32_w]
         rfl
       refine pure_ (i := 7) (N := some 219) (v := ?_) (a' := ?_) #[true, true, true, true, true, true, true, true, false, false, false, false, false, false, false, false, false, false, false, false, false] rfl rfl (any_of HT_.out (by kernel_rfl)) (fun _ _ _ h => h) (Or.inl ⟨by rfl, ?_⟩) ?_ ?_
       rotate_left
       · intro w'
         go_simp
         with_reducible rfl
       rotate_left
       · simp only [Act.put, s1, s2, s3, i64_w, i32_w]
         rfl
       refine pure_ (i := 8) (N := some 220) (v := ?_) (a' := ?_) #[true, true, true, true, true, true, true, true, true, false, false, false, false, false, false, false, false, false, false, false, false] rfl rfl (any_of HT_.out (by kernel_rfl)) (fun _ _ _ h => h) (Or.inl ⟨by rfl, ?_⟩) ?_ ?_
       rotate_left
       · intro w'
         go_simp
         with_reducible rfl
       rotate_left
       · simp only [Act.put, s1, s2, s3, i64_w, i32_w]
         rfl
       refine pure_ (i := 9) (N := some 221) (v := ?_) (a' := ?_) #[true, true, true, true, true, true, true, true, true, true, false, false, false, false, false, false, false, false, false, false, false] rfl rfl (any_of HT_.out (by kernel_rfl)) (fun _ _ _ h => h) (Or.inl ⟨by rfl, ?_⟩) ?_ ?_
       rotate_left
       · intro w'
         go_simp
         with_reducible rfl
       rotate_left
       · simp only [Act.put, s1, s2, s3, i64_w, i32_w]
         rfl
       refine pure_ (i := 10) (N := some 222) (v := ?_) (a' := ?_) #[true, true, true, true, true, true, true, true, true, true, true, false, false, false, false, false, false, false, false, false, false] rfl rfl (any_of HT_.out (by kernel_rfl)) (fun _ _ _ h => h) (Or.inl ⟨by rfl, ?_⟩) ?_ ?_
       rotate_left
       · intro w'
         go_simp
         with_reducible rfl
       rotate_left
       · simp only [Act.put, s1, s2, s3, i64_w, i32_w]
         rfl
       refine pure_ (i := 12) (N := some 224) (v := ?_) (a' := ?_) #[true, true, true, true, true, true, true, true, true, true, true, false, true, false, false, false, false, false, false, false, false] rfl rfl (any_of HT_.out (by kernel_rfl)) (fun _ _ _ h => h) (Or.inl ⟨by rfl, ?_⟩) ?_ ?_
       rotate_left
       · intro w'
         go_simp
         with_reducible rfl
       rotate_left
       · simp only [Act.put, s1, s2, s3, i64_w, i32_w]
         rfl
       refine pure_ (i := 14) (N := some 226) (v := ?_) (a' := ?_) #[true, true, true, true, true, true, true, true, true, true, true, false, true, false, true, false, false, false, false, false, false] rfl rfl (any_of HT_.out (by kernel_rfl)) (fun _ _ _ h => h) (Or.inl ⟨by rfl, ?_⟩) ?_ ?_
       rotate_left
       · intro w'
         go_simp
         with_reducible rfl
       rotate_left
       · simp only [Act.put, s1, s2, s3, i64_w, i32_w]
         rfl
       refine pure_ (i := 15) (N := some 227) (v := ?_) (a' := ?_) #[true, true, true, true, true, true, true, true, true, true, true, false, true, false, true, true, false, false, false, false, false] rfl rfl (any_of HT_.out (by kernel_rfl)) (fun _ _ _ h => h) (Or.inl ⟨by rfl, ?_⟩) ?_ ?_
       rotate_left
       · intro w'
         go_simp
         with_reducible rfl
       rotate_left
       · simp only [Act.put, s1, s2, s3, i64_w, i32_w]
         rfl
       refine pure_ (i := 16) (N := some 228) (v := ?_) (a' := ?_) #[true, true, true, true, true, true, true, true, true, true, true, false, true, false, true, true, true, false, false, false, false] rfl rfl (any_of HT_.out (by kernel_rfl)) (fun _ _ _ h => h) (Or.inl ⟨by rfl, ?_⟩) ?_ ?_
       rotate_left
       · intro w'
         go_simp
         with_reducible rfl
       rotate_left
       · simp only [Act.put, s1, s2, s3, i64_w, i32_w]
         rfl
       refine take_ (i := 11) (N := some 223) (v := ?_) (a' := ?_) #[true, true, true, true, true, true, true, true, true, true, true, true, true, false, true, true, true, false, false, false, false] rfl rfl (take_ofW HT_.out HW_.out (by kernel_rfl)) (fun _ _ _ h => h) (Or.inl ⟨by rfl, ?_⟩) hHeld ?_ ?_
       rotate_left
       · rintro w' ⟨s0, s1, s2, s3, s4⟩
         go_simp
         with_reducible rfl
       rotate_left
       · simp only [Act.put, s1, s2, s3, i64_w, i32_w]
         rfl
       refine take_ (i := 13) (N := some 225) (v := ?_) (a' := ?_) #[true, true, true, true, true, true, true, true, true, true, true, true, true, true, true, true, true, false, false, false, false] rfl rfl (take_ofW HT_.out HW_.out (by kernel_rfl)) (fun _ _ _ h => h) (Or.inl ⟨by rfl, ?_⟩) hHeld ?_ ?_
       rotate_left
       · rintro w' ⟨s0, s1, s2, s3, s4⟩
         go_simp
         with_reducible rfl
       rotate_left
       · simp only [Act.put, s1, s2, s3, i64_w, i32_w]
         rfl
       refine take_ (i := 17) (N := some 229) (v := ?_) (a' := ?_) #[true, true, true, true, true, true, true, true, true, true, true, true, true, true, true, true, true, true, false, false, false] rfl rfl (take_ofW HT_.out HW_.out (by kernel_rfl)) (fun _ _ _ h => h) (Or.inl ⟨by rfl, ?_⟩) hHeld ?_ ?_
       rotate_left
       · rintro w' ⟨s0, s1, s2, s3, s4⟩
         go_simp
         with_reducible rfl
       rotate_left
       · simp only [Act.put, s1, s2, s3, i64_w, i32_w]
         rfl
       refine pure_ (i := 18) (N := some 230) (v := ?_) (a' := ?_) #[true, true, true, true, true, true, true, true, true, true, true, true, true, true, true, true, true, true, true, false, false] rfl rfl (any_of HT_.out (by kernel_rfl)) (fun _ _ _ h => h) (Or.inl ⟨by rfl, ?_⟩) ?_ ?_
       rotate_left
       · intro w'
         go_simp
         with_reducible rfl
       rotate_left
       · simp only [Act.put, s1, s2, s3, i64_w, i32_w]
         rfl
       refine pure_ (i := 19) (N := some 231) (v := ?_) (a' := ?_) #[true, true, true, true, true, true, true, true, true, true, true, true, true, true, true, true, true, true, true, true, false] rfl rfl (any_of HT_.out (by kernel_rfl)) (fun _ _ _ h => h) (Or.inl ⟨by rfl, ?_⟩) ?_ ?_
       rotate_left
       · intro w'
         go_simp
         with_reducible rfl
       rotate_left
       · simp only [Act.put, s1, s2, s3, i64_w, i32_w]
         rfl
       refine pure_ (i := 20) (N := some 232) (v := ?_) (a' := ?_) #[true, true, true, true, true, true, true, true, true, true, true, true, true, true, true, true, true, true, true, true, true] rfl rfl (any_of HT_.out (by kernel_rfl)) (fun _ _ _ h => h) (Or.inl ⟨by rfl, ?_⟩) ?_ ?_
       rotate_left
       · intro w'
         go_simp
         with_reducible rfl
       rotate_left
       · simp only [Act.put, s1, s2, s3, i64_w, i32_w]
         rfl
       refine done_ (done_of HT_.out (by kernel_rfl)) ?_
       try go_wp2
       go_meet
       case rel => exact ⟨_, (9), (0), (by first | rfl | (simp; done) | (simp [*]; done)), (by first | rfl | (simp; done) | (simp [*]; done)), H', ⟨by have := HJ7.out; have := HK2.out; have := HJ19.out; have := HJ30.out; have := HK5.out; have := HJ46.out; have := HJ54.out; have := HJ62.out; have := HK9.out; have := HJ71.out; have := HJ95.out; have := HJ118.out; have := HJ134.out; first | omega | exact Nat.le_refl _⟩, ⟨ur <| HO_3.out⟩, ⟨ur <| HO_7.out⟩, ⟨ub BK661.out⟩, ⟨ub BK674.out⟩, ⟨ub BK694.out⟩, ⟨ub BK695.out⟩, ⟨by repeat with_reducible first | exact HB.out | apply b1 | apply b2 | apply b3 | refine b4 ?_ GE661.out | refine b4 ?_ GE674.out | refine b4 ?_ GE694.out | refine b4 ?_ GE695.out⟩⟩
     rw [if_pos c148] at H
     have c148b0 : decide ((rd x3_7 x14_9) ≤ (wrap64 (((rd_T27 l0_0 x4_2).f1) - (rd x3_7 x8_5)))) = true := decide_eq_true c148
     clear c148
     replace H := Option.bind_eq_some_iff.mp H
     obtain ⟨t728, A1490, H⟩ := H
     try dsimp only at H
     have A149 := ak A1490
     clear A1490
     have H' := ak H
     clear H
     try go_wp2
     have n0_ := ak (Kd.R_drew HO_3.out)
     have n1_ := ak (Kd.R_drew HO_7.out)
     have n2_ := ak (blk_drew BK661.out)
     have n3_ := ak (blk_drew BK674.out)
     have n4_ := ak (blk_drew BK694.out)
     have n5_ := ak (blk_drew BK695.out)
     have n6_ := ak (below_drew1 HB.out)
     clear HO_3
     clear HO_7
     clear BK661
     clear BK674
     clear BK694
     clear BK695
     clear HB
     have HO_3 := n0_
     have HO_7 := n1_
     have BK661 := n2_
     have BK674 := n3_
     have BK694 := n4_
     have BK695 := n5_
     have HB := n6_
     clear n0_ n1_ n2_ n3_ n4_ n5_ n6_
     have p723 : 0 ≤ (x8_5 : Int) := of_decide_eq_true (by first | (with_reducible assumption) | assumption)
     have q723 : x8_5 < (x3_7.length : Int) := of_decide_eq_true (by first | (with_reducible assumption) | assumption)
     obtain ⟨ad723, e723, hx723_0⟩ := Kd.at_int (Kd.R_reads' HO_3.out).2.2 x8_5 p723 q723
     obtain rfl : ad681 = ad723 := (by injection e723)
     replace p723 := eq_true p723
     replace q723 := eq_true q723
     have p724 : 0 ≤ (x14_9 : Int) := of_decide_eq_true (by first | (with_reducible assumption) | assumption)
     have q724 : x14_9 < (x3_7.length : Int) := of_decide_eq_true (by first | (with_reducible assumption) | assumption)
     obtain ⟨ad724, e724, hx724_0⟩ := Kd.at_int (Kd.R_reads' HO_3.out).2.2 x14_9 p724 q724
     obtain rfl : ad681 = ad724 := (by injection e724)
     replace p724 := eq_true p724
     replace q724 := eq_true q724
     have p725 : 0 ≤ (x8_5 : Int) := of_decide_eq_true (by first | (with_reducible assumption) | assumption)
     have q725 : x8_5 < (x3_7.length : Int) := of_decide_eq_true (by first | (with_reducible assumption) | assumption)
     obtain ⟨ad725, e725, hx725_0⟩ := Kd.at_int (Kd.R_reads' HO_3.out).2.2 x8_5 p725 q725
     obtain rfl : ad681 = ad725 := (by injection e725)
     replace p725 := eq_true p725
     replace q725 := eq_true q725
     refine start_ (n := 21) (S := fun w' => w'.cell? ⟨gb674, 0, none⟩ = some (.string ((rd_T27 l0_0 x4_2).f0)) ∧ w'.cell? ⟨gb674, 1, none⟩ = some (.int .i64 ((rd_T27 l0_0 x4_2).f1)) ∧ w'.cell? (ad681.add (x8_5).toNat) = some (.int .i64 (rd x3_7 x8_5)) ∧ w'.cell? (ad681.add (x14_9).toNat) = some (.int .i64 (rd x3_7 x14_9)) ∧ w'.cell? (ad681.add (x8_5).toNat) = some (.int .i64 (rd x3_7 x8_5))) (ds := []) #[false, false, false, false, false, false, false, false, false, false, false, false, false, false, false, false, false, false, false, false, false] (by kernel_rfl) rfl rfl ⟨(blk_cell BK674.out 0).trans rfl, (blk_cell BK674.out 1).trans rfl, hx723_0, hx724_0, hx725_0⟩ (fun hHeld => ?_); refine with_tabW herbariumlaw1_BitsExact.tab43 herbariumlaw1_BitsExact.bits43 (fun HT_ HW_ => ?_)
     generalize wc.drew = w150 at HO_3 HO_7 BK661 BK674 BK694 BK695 HB hx723_0 hx724_0 hx725_0 hHeld ⊢
     refine pure_ (i := 0) (N := some 212) (v := ?_) (a' := ?_) #[true, false, false, false, false, false, false, false, false, false, false, false, false, false, false, false, false, false, false, false, false] rfl rfl (any_of HT_.out (by kernel_rfl)) (fun _ _ _ h => h) (Or.inl ⟨by rfl, ?_⟩) ?_ ?_
     rotate_left
     · intro w'
       go_simp
       with_reducible rfl
     rotate_left
     · simp only [Act.put, s1, s2, s3, i64_w, i32_w]
       rfl
     refine pure_ (i := 1) (N := some 213) (v := ?_) (a' := ?_) #[true, true, false, false, false, false, false, false, false, false, false, false, false, false, false, false, false, false, false, false, false] rfl rfl (any_of HT_.out (by kernel_rfl)) (fun _ _ _ h => h) (Or.inl ⟨by rfl, ?_⟩) ?_ ?_
     rotate_left
     · intro w'
       go_simp
       with_reducible rfl
     rotate_left
     · simp only [Act.put, s1, s2, s3, i64_w, i32_w]
       rfl
     refine pure_ (i := 2) (N := some 214) (v := ?_) (a' := ?_) #[true, true, true, false, false, false, false, false, false, false, false, false, false, false, false, false, false, false, false, false, false] rfl rfl (any_of HT_.out (by kernel_rfl)) (fun _ _ _ h => h) (Or.inl ⟨by rfl, ?_⟩) ?_ ?_
     rotate_left
     · intro w'
       go_simp
       with_reducible rfl
     rotate_left
     · simp only [Act.put, s1, s2, s3, i64_w, i32_w]
       rfl
     refine pure_ (i := 4) (N := some 216) (v := ?_) (a' := ?_) #[true, true, true, false, true, false, false, false, false, false, false, false, false, false, false, false, false, false, false, false, false] rfl rfl (any_of HT_.out (by kernel_rfl)) (fun _ _ _ h => h) (Or.inl ⟨by rfl, ?_⟩) ?_ ?_
     rotate_left
     · intro w'
       go_simp
       with_reducible rfl
     rotate_left
     · simp only [Act.put, s1, s2, s3, i64_w, i32_w]
       rfl
     refine take_ (i := 3) (N := some 215) (v := ?_) (a' := ?_) #[true, true, true, true, true, false, false, false, false, false, false, false, false, false, false, false, false, false, false, false, false] rfl rfl (take_ofW HT_.out HW_.out (by kernel_rfl)) (fun _ _ _ h => h) (Or.inl ⟨by rfl, ?_⟩) hHeld ?_ ?_
     rotate_left
     · rintro w' ⟨s0, s1, s2, s3, s4⟩
       go_simp
       with_reducible rfl
     rotate_left
     · simp only [Act.put, s1, s2, s3, i64_w, i32_w]
       rfl
     refine take_ (i := 5) (N := some 217) (v := ?_) (a' := ?_) #[true, true, true, true, true, true, false, false, false, false, false, false, false, false, false, false, false, false, false, false, false] rfl rfl (take_ofW HT_.out HW_.out (by kernel_rfl)) (fun _ _ _ h => h) (Or.inl ⟨by rfl, ?_⟩) hHeld ?_ ?_
     rotate_left
     · rintro w' ⟨s0, s1, s2, s3, s4⟩
       go_simp
       with_reducible rfl
     rotate_left
     · simp only [Act.put, s1, s2, s3, i64_w, i32_w]
       rfl
     refine pure_ (i := 6) (N := some 218) (v := ?_) (a' := ?_) #[true, true, true, true, true, true, true, false, false, false, false, false, false, false, false, false, false, false, false, false, false] rfl rfl (any_of HT_.out (by kernel_rfl)) (fun _ _ _ h => h) (Or.inl ⟨by rfl, ?_⟩) ?_ ?_
     rotate_left
     · intro w'
       go_simp
       with_reducible rfl
     rotate_left
     · simp only [Act.put, s1, s2, s3, i64_w, i32_w]
       rfl
     refine pure_ (i := 7) (N := some 219) (v := ?_) (a' := ?_) #[true, true, true, true, true, true, true, true, false, false, false, false, false, false, false, false, false, false, false, false, false] rfl rfl (any_of HT_.out (by kernel_rfl)) (fun _ _ _ h => h) (Or.inl ⟨by rfl, ?_⟩) ?_ ?_
     rotate_left
     · intro w'
       go_simp
       with_reducible rfl
     rotate_left
     · simp only [Act.put, s1, s2, s3, i64_w, i32_w]
       rfl
     refine pure_ (i := 8) (N := some 220) (v := ?_) (a' := ?_) #[true, true, true, true, true, true, true, true, true, false, false, false, false, false, false, false, false, false, false, false, false] rfl rfl (any_of HT_.out (by kernel_rfl)) (fun _ _ _ h => h) (Or.inl ⟨by rfl, ?_⟩) ?_ ?_
     rotate_left
     · intro w'
       go_simp
       with_reducible rfl
     rotate_left
     · simp only [Act.put, s1, s2, s3, i64_w, i32_w]
       rfl
     refine pure_ (i := 9) (N := some 221) (v := ?_) (a' := ?_) #[true, true, true, true, true, true, true, true, true, true, false, false, false, false, false, false, false, false, false, false, false] rfl rfl (any_of HT_.out (by kernel_rfl)) (fun _ _ _ h => h) (Or.inl ⟨by rfl, ?_⟩) ?_ ?_
     rotate_left
     · intro w'
       go_simp
       with_reducible rfl
     rotate_left
     · simp only [Act.put, s1, s2, s3, i64_w, i32_w]
       rfl
     refine pure_ (i := 10) (N := some 222) (v := ?_) (a' := ?_) #[true, true, true, true, true, true, true, true, true, true, true, false, false, false, false, false, false, false, false, false, false] rfl rfl (any_of HT_.out (by kernel_rfl)) (fun _ _ _ h => h) (Or.inl ⟨by rfl, ?_⟩) ?_ ?_
     rotate_left
     · intro w'
       go_simp
       with_reducible rfl
     rotate_left
     · simp only [Act.put, s1, s2, s3, i64_w, i32_w]
       rfl
     refine pure_ (i := 12) (N := some 224) (v := ?_) (a' := ?_) #[true, true, true, true, true, true, true, true, true, true, true, false, true, false, false, false, false, false, false, false, false] rfl rfl (any_of HT_.out (by kernel_rfl)) (fun _ _ _ h => h) (Or.inl ⟨by rfl, ?_⟩) ?_ ?_
     rotate_left
     · intro w'
       go_simp
       with_reducible rfl
     rotate_left
     · simp only [Act.put, s1, s2, s3, i64_w, i32_w]
       rfl
     refine pure_ (i := 14) (N := some 226) (v := ?_) (a' := ?_) #[true, true, true, true, true, true, true, true, true, true, true, false, true, false, true, false, false, false, false, false, false] rfl rfl (any_of HT_.out (by kernel_rfl)) (fun _ _ _ h => h) (Or.inl ⟨by rfl, ?_⟩) ?_ ?_
     rotate_left
     · intro w'
       go_simp
       with_reducible rfl
     rotate_left
     · simp only [Act.put, s1, s2, s3, i64_w, i32_w]
       rfl
     refine pure_ (i := 15) (N := some 227) (v := ?_) (a' := ?_) #[true, true, true, true, true, true, true, true, true, true, true, false, true, false, true, true, false, false, false, false, false] rfl rfl (any_of HT_.out (by kernel_rfl)) (fun _ _ _ h => h) (Or.inl ⟨by rfl, ?_⟩) ?_ ?_
     rotate_left
     · intro w'
       go_simp
       with_reducible rfl
     rotate_left
     · simp only [Act.put, s1, s2, s3, i64_w, i32_w]
       rfl
     refine pure_ (i := 16) (N := some 228) (v := ?_) (a' := ?_) #[true, true, true, true, true, true, true, true, true, true, true, false, true, false, true, true, true, false, false, false, false] rfl rfl (any_of HT_.out (by kernel_rfl)) (fun _ _ _ h => h) (Or.inl ⟨by rfl, ?_⟩) ?_ ?_
     rotate_left
     · intro w'
       go_simp
       with_reducible rfl
     rotate_left
     · simp only [Act.put, s1, s2, s3, i64_w, i32_w]
       rfl
     refine take_ (i := 11) (N := some 223) (v := ?_) (a' := ?_) #[true, true, true, true, true, true, true, true, true, true, true, true, true, false, true, true, true, false, false, false, false] rfl rfl (take_ofW HT_.out HW_.out (by kernel_rfl)) (fun _ _ _ h => h) (Or.inl ⟨by rfl, ?_⟩) hHeld ?_ ?_
     rotate_left
     · rintro w' ⟨s0, s1, s2, s3, s4⟩
       go_simp
       with_reducible rfl
     rotate_left
     · simp only [Act.put, s1, s2, s3, i64_w, i32_w]
       rfl
     refine take_ (i := 13) (N := some 225) (v := ?_) (a' := ?_) #[true, true, true, true, true, true, true, true, true, true, true, true, true, true, true, true, true, false, false, false, false] rfl rfl (take_ofW HT_.out HW_.out (by kernel_rfl)) (fun _ _ _ h => h) (Or.inl ⟨by rfl, ?_⟩) hHeld ?_ ?_
     rotate_left
     · rintro w' ⟨s0, s1, s2, s3, s4⟩
       go_simp
       with_reducible rfl
     rotate_left
     · simp only [Act.put, s1, s2, s3, i64_w, i32_w]
       rfl
     refine take_ (i := 17) (N := some 229) (v := ?_) (a' := ?_) #[true, true, true, true, true, true, true, true, true, true, true, true, true, true, true, true, true, true, false, false, false] rfl rfl (take_ofW HT_.out HW_.out (by kernel_rfl)) (fun _ _ _ h => h) (Or.inl ⟨by rfl, ?_⟩) hHeld ?_ ?_
     rotate_left
     · rintro w' ⟨s0, s1, s2, s3, s4⟩
       go_simp
       with_reducible rfl
     rotate_left
     · simp only [Act.put, s1, s2, s3, i64_w, i32_w]
       rfl
     refine pure_ (i := 18) (N := some 230) (v := ?_) (a' := ?_) #[true, true, true, true, true, true, true, true, true, true, true, true, true, true, true, true, true, true, true, false, false] rfl rfl (any_of HT_.out (by kernel_rfl)) (fun _ _ _ h => h) (Or.inl ⟨by rfl, ?_⟩) ?_ ?_
     rotate_left
     · intro w'
       go_simp
       with_reducible rfl
     rotate_left
     · simp only [Act.put, s1, s2, s3, i64_w, i32_w]
       rfl
     refine pure_ (i := 19) (N := some 231) (v := ?_) (a' := ?_) #[true, true, true, true, true, true, true, true, true, true, true, true, true, true, true, true, true, true, true, true, false] rfl rfl (any_of HT_.out (by kernel_rfl)) (fun _ _ _ h => h) (Or.inl ⟨by rfl, ?_⟩) ?_ ?_
     rotate_left
     · intro w'
       go_simp
       with_reducible rfl
     rotate_left
     · simp only [Act.put, s1, s2, s3, i64_w, i32_w]
       rfl
     refine pure_ (i := 20) (N := some 232) (v := ?_) (a' := ?_) #[true, true, true, true, true, true, true, true, true, true, true, true, true, true, true, true, true, true, true, true, true] rfl rfl (any_of HT_.out (by kernel_rfl)) (fun _ _ _ h => h) (Or.inl ⟨by rfl, ?_⟩) ?_ ?_
     rotate_left
     · intro w'
       go_simp
       with_reducible rfl
     rotate_left
     · simp only [Act.put, s1, s2, s3, i64_w, i32_w]
       rfl
     refine done_ (done_of HT_.out (by kernel_rfl)) ?_
     try go_wp2
     have n0_ := ak (Kd.R_drew HO_3.out)
     have n1_ := ak (Kd.R_drew HO_7.out)
     have n2_ := ak (blk_drew BK661.out)
     have n3_ := ak (blk_drew BK674.out)
     have n4_ := ak (blk_drew BK694.out)
     have n5_ := ak (blk_drew BK695.out)
     have n6_ := ak (below_drew1 HB.out)
     clear HO_3
     clear HO_7
     clear BK661
     clear BK674
     clear BK694
     clear BK695
     clear HB
     have HO_3 := n0_
     have HO_7 := n1_
     have BK661 := n2_
     have BK674 := n3_
     have BK694 := n4_
     have BK695 := n5_
     have HB := n6_
     clear n0_ n1_ n2_ n3_ n4_ n5_ n6_
     have p726 : 0 ≤ (x8_5 : Int) := of_decide_eq_true (by first | (with_reducible assumption) | assumption)
     have q726 : x8_5 < (x3_7.length : Int) := of_decide_eq_true (by first | (with_reducible assumption) | assumption)
     obtain ⟨ad726, e726, hx726_0⟩ := Kd.at_int (Kd.R_reads' HO_3.out).2.2 x8_5 p726 q726
     obtain rfl : ad681 = ad726 := (by injection e726)
     replace p726 := eq_true p726
     replace q726 := eq_true q726
     have p727 : 0 ≤ (x14_9 : Int) := of_decide_eq_true (by first | (with_reducible assumption) | assumption)
     have q727 : x14_9 < (x3_7.length : Int) := of_decide_eq_true (by first | (with_reducible assumption) | assumption)
     obtain ⟨ad727, e727, hx727_0⟩ := Kd.at_int (Kd.R_reads' HO_3.out).2.2 x14_9 p727 q727
     obtain rfl : ad681 = ad727 := (by injection e727)
     replace p727 := eq_true p727
     replace q727 := eq_true q727
     obtain ⟨Ao152, co152, eo152⟩ := Kd.R_slice HO_7.out
     (first | subst eo152 | (injection eo152 with f1_ f2_ f3_; have f4_ := f1_.symm; have f5_ := f3_.symm; clear f1_ f2_ f3_; subst f4_; subst f5_))
     refine start_ (n := 12) (S := fun w' => w'.cell? (ad681.add (x8_5).toNat) = some (.int .i64 (rd x3_7 x8_5)) ∧ w'.cell? (ad681.add (x14_9).toNat) = some (.int .i64 (rd x3_7 x14_9))) (ds := []) #[false, false, false, false, false, false, false, false, false, false, false, false] (by kernel_rfl) rfl rfl ⟨hx726_0, hx727_0⟩ (fun hHeld => ?_); refine with_tabW herbariumlaw1_BitsExact.tab44 herbariumlaw1_BitsExact.bits44 (fun HT_ HW_ => ?_)
     generalize w150.drew = w151 at HO_3 HO_7 BK661 BK674 BK694 BK695 HB hx726_0 hx727_0 hHeld ⊢
     refine pure_ (i := 0) (N := some 233) (v := ?_) (a' := ?_) #[true, false, false, false, false, false, false, false, false, false, false, false] rfl rfl (any_of HT_.out (by kernel_rfl)) (fun _ _ _ h => h) (Or.inl ⟨by rfl, ?_⟩) ?_ ?_
     rotate_left
     · intro w'
       go_simp
       with_reducible rfl
     rotate_left
     · simp only [Act.put, s1, s2, s3, i64_w, i32_w]
       rfl
     refine pure_ (i := 1) (N := some 234) (v := ?_) (a' := ?_) #[true, true, false, false, false, false, false, false, false, false, false, false] rfl rfl (any_of HT_.out (by kernel_rfl)) (fun _ _ _ h => h) (Or.inl ⟨by rfl, ?_⟩) ?_ ?_
     rotate_left
     · intro w'
       go_simp
       with_reducible rfl
     rotate_left
     · simp only [Act.put, s1, s2, s3, i64_w, i32_w]
       rfl
     refine pure_ (i := 2) (N := some 235) (v := ?_) (a' := ?_) #[true, true, true, false, false, false, false, false, false, false, false, false] rfl rfl (any_of HT_.out (by kernel_rfl)) (fun _ _ _ h => h) (Or.inl ⟨by rfl, ?_⟩) ?_ ?_
     rotate_left
     · intro w'
       go_simp
       with_reducible rfl
     rotate_left
     · simp only [Act.put, s1, s2, s3, i64_w, i32_w]
       rfl
     refine pure_ (i := 3) (N := some 236) (v := ?_) (a' := ?_) #[true, true, true, true, false, false, false, false, false, false, false, false] rfl rfl (any_of HT_.out (by kernel_rfl)) (fun _ _ _ h => h) (Or.inl ⟨by rfl, ?_⟩) ?_ ?_
     rotate_left
     · intro w'
       go_simp
       with_reducible rfl
     rotate_left
     · simp only [Act.put, s1, s2, s3, i64_w, i32_w]
       rfl
     refine pure_ (i := 5) (N := some 238) (v := ?_) (a' := ?_) #[true, true, true, true, false, true, false, false, false, false, false, false] rfl rfl (any_of HT_.out (by kernel_rfl)) (fun _ _ _ h => h) (Or.inl ⟨by rfl, ?_⟩) ?_ ?_
     rotate_left
     · intro w'
       go_simp
       with_reducible rfl
     rotate_left
     · simp only [Act.put, s1, s2, s3, i64_w, i32_w]
       rfl
     refine pure_ (i := 6) (N := some 239) (v := ?_) (a' := ?_) #[true, true, true, true, false, true, true, false, false, false, false, false] rfl rfl (any_of HT_.out (by kernel_rfl)) (fun _ _ _ h => h) (Or.inl ⟨by rfl, ?_⟩) ?_ ?_
     rotate_left
     · intro w'
       go_simp
       with_reducible rfl
     rotate_left
     · simp only [Act.put, s1, s2, s3, i64_w, i32_w]
       rfl
     refine pure_ (i := 7) (N := some 240) (v := ?_) (a' := ?_) #[true, true, true, true, false, true, true, true, false, false, false, false] rfl rfl (any_of HT_.out (by kernel_rfl)) (fun _ _ _ h => h) (Or.inl ⟨by rfl, ?_⟩) ?_ ?_
     rotate_left
     · intro w'
       go_simp
       with_reducible rfl
     rotate_left
     · simp only [Act.put, s1, s2, s3, i64_w, i32_w]
       rfl
     refine take_ (i := 4) (N := some 237) (v := ?_) (a' := ?_) #[true, true, true, true, true, true, true, true, false, false, false, false] rfl rfl (take_ofW HT_.out HW_.out (by kernel_rfl)) (fun _ _ _ h => h) (Or.inl ⟨by rfl, ?_⟩) hHeld ?_ ?_
     rotate_left
     · rintro w' ⟨s0, s1⟩
       go_simp
       with_reducible rfl
     rotate_left
     · simp only [Act.put, s1, s2, s3, i64_w, i32_w]
       rfl
     refine take_ (i := 8) (N := some 241) (v := ?_) (a' := ?_) #[true, true, true, true, true, true, true, true, true, false, false, false] rfl rfl (take_ofW HT_.out HW_.out (by kernel_rfl)) (fun _ _ _ h => h) (Or.inl ⟨by rfl, ?_⟩) hHeld ?_ ?_
     rotate_left
     · rintro w' ⟨s0, s1⟩
       go_simp
       with_reducible rfl
     rotate_left
     · simp only [Act.put, s1, s2, s3, i64_w, i32_w]
       rfl
     refine one_ (i := 9) (N := some 242) #[true, true, true, true, true, true, true, true, true, true, false, false] rfl rfl (one_of HT_.out (by kernel_rfl)) (by decide) (fun K hK => ?_)
     refine goes_ Try.func57 (by kernel_rfl) rfl #[.slice Ao152 x7_30.length co152, .int .i64 (rd x3_7 x8_5), .int .i64 (rd x3_7 x14_9)] (by rfl) rfl rfl (by (try simp only [List.map_toArray, List.map_cons, List.map_nil]); first | done | rfl | (simp only [List.length_drop, List.length_take]; rfl)) ?_
     with_reducible refine (herbariumref1_List_Get.calls kj134 _ _ x7_30 (rd x3_7 x8_5) (rd x3_7 x14_9) t728 _ ?side1 ?side2 A149.out).mono ?_
     (case side1 => exact uc (Kd.R_reads' HO_7.out).2.2)
     (case side2 => exact (Kd.R_reads' HO_7.out).2.1)
     rintro e w' ⟨rfl, ⟨nd, rfl⟩⟩
     refine ⟨_, rfl, ?_⟩
     refine hK.out _ _ ⟨hHeld.1, hHeld.2⟩ (fun hHeld => ?_)
     clear hK K
     refine norm_ (a' := ?_) ?_ ?_
     rotate_left
     · show Act.put _ (some 242) _ = _
       simp only [Act.put, s1, s2, s3, i64_w, i32_w]
       rfl
     refine pure_ (i := 10) (N := some 21) (v := ?_) (a' := ?_) #[true, true, true, true, true, true, true, true, true, true, true, false] rfl rfl (any_of HT_.out (by kernel_rfl)) (fun _ _ _ h => h) (Or.inl ⟨by rfl, ?_⟩) ?_ ?_
     rotate_left
     · intro w'
       go_simp
       with_reducible rfl
     rotate_left
     · simp only [Act.put, s1, s2, s3, i64_w, i32_w]
       rfl
     refine pure_ (i := 11) (N := some 22) (v := ?_) (a' := ?_) #[true, true, true, true, true, true, true, true, true, true, true, true] rfl rfl (any_of HT_.out (by kernel_rfl)) (fun _ _ _ h => h) (Or.inl ⟨by rfl, ?_⟩) ?_ ?_
     rotate_left
     · intro w'
       go_simp
       with_reducible rfl
     rotate_left
     · simp only [Act.put, s1, s2, s3, i64_w, i32_w]
       rfl
     refine done_ (done_of HT_.out (by kernel_rfl)) ?_
     try go_wp2
     go_meet
     case rel => exact ⟨_, (0), (t728), (by first | rfl | (simp; done) | (simp [*]; done)), (by first | rfl | (simp; done) | (simp [*]; done)), H', ⟨by have := HJ7.out; have := HK2.out; have := HJ19.out; have := HJ30.out; have := HK5.out; have := HJ46.out; have := HJ54.out; have := HJ62.out; have := HK9.out; have := HJ71.out; have := HJ95.out; have := HJ118.out; have := HJ134.out; first | omega | exact Nat.le_refl _⟩, ⟨ur <| HO_3.out⟩, ⟨ur <| HO_7.out⟩, ⟨ub BK661.out⟩, ⟨ub BK674.out⟩, ⟨ub BK694.out⟩, ⟨ub BK695.out⟩, ⟨by repeat with_reducible first | exact HB.out | apply b1 | apply b2 | apply b3 | refine b4 ?_ GE661.out | refine b4 ?_ GE674.out | refine b4 ?_ GE694.out | refine b4 ?_ GE695.out⟩⟩
   clear HC141
   try clear HA
   try clear HJ140
   try clear HO_3
   try clear HO_7
   try clear BK661
   try clear BK674
   try clear BK694
   try clear BK695
   try clear HB
   obtain ⟨kq, x21_140, x22_140, rfl, rfl, HA, HJ140, HO_3, HO_7, BK661, BK674, BK694, BK695, HB⟩ := hcut
   rename_i z11_1 z11_2 z11_3 z11_4 z11_5 z11_6 z11_7 z11_8 z11_9 z11_10 z11_11 z11_12 z11_13 z11_14 z11_15 z11_16 z11_17 z11_18 z11_19 z11_20 z11_21 z11_22 z11_23 z11_24 z11_25 z11_26 z11_27 z11_28 z11_29 z11_30 z11_31 z11_32 z11_33
   revert k c0_0 l0_0 A0_1 c0_1 l0_1 w hu25 hu27 HC0_0 HR0_1 HC0_1 A2 y663 Ny663 LMc7 y666 Ny666 z1_1 gb661 w9 GW661 GE661 w11 z1_2 v664 w12 w15 Ao16 co16 HO668 z3_1 u40 u41 u42 x3_7 kj7 HJ7 z2_1 z2_2 z4_1 z4_2 u5 u6 z3_2 u8 z4_3 z4_4 z4_5 z4_6 z4_7 z4_8 z4_9 z4_10 z4_11 z4_12 z4_13 z4_14 z4_15 z4_16 z4_17 z4_18 z4_19 z4_20 u27 u28 u29 u30 u31 z3_3 z3_4 z3_5 z3_6 z3_7 z3_8 z3_9 z3_10 u51 u52 u53 u54 u55 u56 u57 u58 u59 u60 u61 u62 u63 u64 u65 u66 z3_11 z3_12 z3_13 z4_21 z4_22 z4_23 z4_24 z4_25 z4_26 z4_27 z4_28 z4_29 z4_30 z4_31 z4_32 z4_33 z4_34 z4_35 z4_36 z4_37 z4_38 z4_39 z4_40 z4_41 z4_42 z4_43 z4_44 z4_45 z4_46 z4_47 z4_48 z4_49 z4_50 z4_51 z4_52 z4_53 z4_54 z4_55 z4_56 z4_57 z4_58 z4_59 z4_60 z4_61 z4_62 z4_63 z4_64 z4_65 z4_66 z4_67 z4_68 z4_69 z4_70 z4_71 z4_72 z4_73 z4_74 z4_75 z4_76 z4_77 z4_78 z4_79 z4_80 z4_81 z4_82 z4_83 z4_84 z4_85 z4_86 z4_87 z4_88 z4_89 z4_90 z4_91 z4_92 z4_93 z4_94 z4_95 z4_96 z4_97 z4_98 z4_99 z4_100 z4_101 z4_102 z4_103 z4_104 z4_105 z4_106 z4_107 z4_108 z4_109 z4_110 z4_111 z4_112 z4_113 z4_114 z4_115 z4_116 z4_117 z4_118 z4_119 z4_120 z4_121 z4_122 z4_123 z4_124 z4_125 z4_126 z4_127 z4_128 z4_129 z4_130 z4_131 z4_132 z4_133 z4_134 z4_135 z4_136 z4_137 z4_138 z4_139 z4_140 z4_141 z4_142 z4_143 z4_144 z4_145 z4_146 z4_147 z4_148 z4_149 z4_150 z4_151 z4_152 z4_153 z4_154 z4_155 z4_156 z4_157 z4_158 z4_159 z4_160 z4_161 z4_162 z4_163 z4_164 z4_165 z4_166 z4_167 z4_168 z4_169 z4_170 z4_171 z4_172 z4_173 z4_174 z4_175 z4_176 z4_177 z4_178 z4_179 z4_180 z4_181 z4_182 z4_183 z4_184 z4_185 z4_186 z4_187 z4_188 z4_189 z4_190 z4_191 z4_192 z4_193 z4_194 z4_195 z4_196 z4_197 z4_198 z4_199 z4_200 z4_201 z4_202 z4_203 z4_204 z4_205 z4_206 z4_207 z4_208 z4_209 z4_210 z4_211 z4_212 z4_213 z4_214 z4_215 z4_216 z4_217 z4_218 z4_219 z4_220 z4_221 z4_222 z4_223 z4_224 z4_225 z4_226 z4_227 z4_228 z4_229 z4_230 z4_231 z4_232 z4_233 z4_234 z4_235 z4_236 z4_237 z4_238 z4_239 z4_240 z4_241 z4_242 z4_243 z4_244 z4_245 z4_246 z4_247 z4_248 z4_249 z4_250 z4_251 z4_252 z4_253 z4_254 z4_255 z4_256 z4_257 z4_258 z4_259 z4_260 z4_261 z4_262 z4_263 z4_264 z4_265 z4_266 u316 u317 u318 u319 u320 u321 u322 u323 u324 u325 u326 u327 u328 u329 u330 u331 u332 u333 u334 u335 u336 u337 u338 u339 u340 u341 u342 u343 u344 u345 u346 u347 u348 u349 u350 u351 u352 u353 u354 u355 u356 u357 u358 u359 u360 u361 u362 u363 u364 u365 u366 u367 u368 u369 u370 u371 u372 u373 u374 u375 u376 z2_3 z2_4 x4_2 k2 z2_6 HK2 z3_14 u43 u44 u45 u46 u47 u48 u49 u50 kj19 HJ19 t675 A27 t676 A28 t677 A29 ad673 HR0_0 z3_15 z3_16 gb674 w33 GW674 GE674 NB661_674 NB674_661 hnb34 hnc34 w36 w38 nd z5_1 u7 u67 u68 u69 x7_30 kj30 HJ30 z4_267 z4_268 z7_1 z7_2 u9 u10 u11 u12 z6_1 u14 z7_3 z7_4 z7_5 z7_6 z7_7 z7_8 z7_9 z7_10 z7_11 z7_12 z7_13 z7_14 u70 u71 u72 u73 u74 u75 u76 u77 u78 u79 u80 u81 u82 u83 u84 z5_2 z5_3 z5_4 z5_5 z5_6 z5_7 z5_8 z5_9 z5_10 z6_2 z6_3 z6_4 z6_5 z6_6 z6_7 z6_8 z6_9 z6_10 z6_11 z6_12 z6_13 z6_14 z6_15 z6_16 z6_17 z6_18 z6_19 u112 z7_15 z7_16 z7_17 z7_18 z7_19 z7_20 z7_21 z7_22 z7_23 z7_24 z7_25 z7_26 z7_27 z7_28 z7_29 z7_30 z7_31 z7_32 z7_33 z7_34 z7_35 z7_36 z7_37 z7_38 z7_39 z7_40 z7_41 z7_42 z7_43 z7_44 z7_45 z7_46 z7_47 z7_48 z7_49 z7_50 z7_51 z7_52 z7_53 z7_54 z7_55 z7_56 z7_57 z7_58 z7_59 z7_60 z7_61 z7_62 z7_63 z7_64 z7_65 z7_66 z7_67 z7_68 z7_69 z7_70 z7_71 z7_72 z7_73 z7_74 z7_75 z7_76 z7_77 z7_78 z7_79 z7_80 z7_81 z7_82 z7_83 z7_84 z7_85 z7_86 z7_87 z7_88 z7_89 z7_90 z7_91 z7_92 z7_93 z7_94 z7_95 z7_96 z7_97 z7_98 z7_99 z7_100 z7_101 z7_102 z7_103 z7_104 z7_105 z7_106 z7_107 z7_108 z7_109 z7_110 z7_111 z7_112 z7_113 z7_114 z7_115 z7_116 z7_117 z7_118 z7_119 z7_120 z7_121 z7_122 z7_123 z7_124 z7_125 z7_126 z7_127 z7_128 z7_129 z7_130 z7_131 z7_132 z7_133 z7_134 z7_135 z7_136 z7_137 z7_138 z7_139 z7_140 z7_141 z7_142 z7_143 z7_144 z7_145 z7_146 z7_147 z7_148 z7_149 z7_150 z7_151 z7_152 z7_153 z7_154 z7_155 z7_156 z7_157 z7_158 z7_159 z7_160 z7_161 z7_162 z7_163 z7_164 z7_165 z7_166 z7_167 z7_168 z7_169 z7_170 z7_171 z7_172 z7_173 z7_174 z7_175 z7_176 z7_177 z7_178 z7_179 z7_180 z7_181 z7_182 z7_183 z7_184 z7_185 z7_186 z7_187 z7_188 z7_189 z7_190 z7_191 z7_192 z7_193 z7_194 z7_195 z7_196 z7_197 z7_198 z7_199 z7_200 z7_201 z7_202 z7_203 z7_204 z7_205 z7_206 z7_207 z7_208 z7_209 z7_210 z7_211 z7_212 z7_213 z7_214 z7_215 z7_216 z7_217 z4_269 z4_270 x8_5 k5 z4_272 HK5 t682 t683 A46 co48 z5_11 z5_12 ad681 z2_5 z4_271 z8_1 z8_2 w49 z5_13 w50 z10_1 z8_3 z6_20 u85 u86 u87 u88 u89 u90 u91 u92 u93 x94_46 kj46 HJ46 z6_21 u13 u94 u95 u96 u97 u98 u99 u100 u101 u102 u103 x11_54 x12_54 kj54 HJ54 z8_4 u104 u105 u106 u107 u108 u109 u110 u111 kj62 HJ62 wr u2 u15 u16 u17 u18 u19 u20 u21 u22 u23 u24 u25 u26 u113 u114 u115 u116 u117 u118 u119 u120 u121 u122 u123 u124 u125 u126 u127 u128 u129 u130 u131 u132 z8_5 z8_6 z8_7 z8_8 z8_9 z8_10 z8_11 z8_12 z8_13 z8_14 z8_15 z8_16 z8_17 z8_18 z8_19 z8_20 z8_21 z8_22 z8_23 z8_24 z9_1 z9_2 z9_3 z9_4 z9_5 z9_6 z9_7 z9_8 z9_9 z9_10 z9_11 z9_12 z9_13 z9_14 z9_15 z9_16 z9_17 z9_18 z9_19 z9_20 z9_21 z9_22 z10_2 z10_3 z10_4 z10_5 z10_6 z10_7 z10_8 z10_9 u183 u184 u185 u186 u187 u188 u189 u190 u191 u192 u193 u194 u195 u196 z10_10 z10_11 z10_12 z10_13 z10_14 z10_15 z10_16 z10_17 z10_18 z10_19 z10_20 z10_21 z10_22 z10_23 z11_1 z11_2 z11_3 z11_4 z11_5 z11_6 z11_7 z11_8 z11_9 z11_10 z11_11 z11_12 z11_13 z11_14 z11_15 z11_16 z11_17 z11_18 z11_19 z11_20 z11_21 z11_22 z11_23 z11_24 z11_25 z11_26 z11_27 z11_28 z11_29 z11_30 z11_31 z11_32 u243 u244 u245 u246 u247 u248 u249 u250 u251 u252 u253 u254 u255 u256 u257 u258 u259 u260 u261 u262 u263 u264 u265 u266 u267 u268 u269 u270 u271 u272 u273 u274 u275 u276 u277 u278 u279 u280 u281 u282 u283 u284 u285 u286 u287 u288 u289 u290 u291 u292 u293 u294 u295 u296 u297 u298 u299 u300 u301 u302 u303 u304 u305 u306 u307 u308 u309 u310 u311 u312 u313 u314 u315 z7_218 z7_219 z7_220 x14_9 k9 z7_221 HK9 c67b0 c68b0 c69b0 c70b0 t691 t692 t693 A71 z8_25 z8_26 p689 q689 p690 q690 z10_24 z10_25 w73 hx689_0 hx690_0 z8_27 gb694 w76 hS_ GW694 GE694 NB661_694 NB694_661 NB674_694 NB694_674 z8_28 hs77 hfs77 hns77_0 hns77_1 hms77_0 hms77_1 hs78 hfs78 hns78_0 hns78_1 hms78_0 hms78_1 z10_26 gb695 w79 GW695 GE695 NB661_695 NB695_661 NB674_695 NB695_674 NB694_695 NB695_694 hnb80 hnc80 hnb81 hnc81 hnb82 hnc82 hcz83_0 hcz83_1 hfz83_0 hfz83_1 z9_23 u133 u134 u135 u136 u137 u138 u139 u140 u141 u142 u143 u144 u145 u146 u147 u148 u149 u150 u151 u152 x153_71 kj71 HJ71 z10_27 u153 u154 u155 u156 u157 u158 u159 u160 u161 u162 u163 u164 u165 u166 u167 u168 u169 u170 u171 u172 u173 u174 x17_95 x696000_95 x696001_95 kj95 HJ95 z10_28 u175 u176 u177 u178 u179 u180 u181 u182 kj118 HJ118 t718 t719 A134 e689 e690 e716 e717 HT_ HW_ w136 z10_29 w137 HS2_ HS3_ hHeld z10_30 z10_31 z11_33 u197 u198 u199 u200 u201 u202 u203 u204 u205 u206 u207 u208 u209 u210 x211_134 kj134 HJ134 wc u211 u212 u213 u214 u215 u216 u217 u218 u219 u220 u221 u222 u223 u224 u225 u226 u227 u228 u229 u230 u231 u232 u233 u234 u235 u236 u237 u238 u239 u240 u241 u242 kq x21_140 x22_140 HA HJ140 HO_3 HO_7 BK661 BK674 BK694 BK695 HB
   exact hP_.out
end Go.Proofs.Ytnpghcikhpglkaa.Q
namespace Go.Proofs.Ytnpghcikhpglkaa.Q
open Go.RowKit Go.Proofs.YtnpghcikhpglkaaW.PrintWords Go.Proofs.YtnpghcikhpglkaaW.PrintLast Go.Proofs.YtnpghcikhpglkaaW.PrintMore
attribute [local go_sem] max2_int min2_int max_two min_two max_three min_three max_four min_four   -- for this text's walks alone
set_option linter.unusedVariables false
set_option linter.unusedSimpArgs false
attribute [local go_sem high] eqA27
set_option maxHeartbeats 8000000 in
set_option maxRecDepth 100000 in
noncomputable def herbariumlaw1_BitsExact.p12 : PSigma fun P_ : Prop => Later P_ → herbariumlaw1_BitsExact.p11.1 := by
  refine' ⟨_, fun hP_ => ?_⟩
  rotate_left
  focus
   intro k c0_0 l0_0 A0_1 c0_1 l0_1 w hu25 hu27 HC0_0 HR0_1 HC0_1 A2 y663 Ny663 LMc7 y666 Ny666 z1_1 gb661 w9 GW661 GE661 w11 z1_2 v664 w12 w15 Ao16 co16 HO668 z3_1 u40 u41 u42 x3_7 kj7 HJ7 z2_1 z2_2 z4_1 z4_2 u5 u6 z3_2 u8 z4_3 z4_4 z4_5 z4_6 z4_7 z4_8 z4_9 z4_10 z4_11 z4_12 z4_13 z4_14 z4_15 z4_16 z4_17 z4_18 z4_19 z4_20 u27 u28 u29 u30 u31 z3_3 z3_4 z3_5 z3_6 z3_7 z3_8 z3_9 z3_10 u51 u52 u53 u54 u55 u56 u57 u58 u59 u60 u61 u62 u63 u64 u65 u66 z3_11 z3_12 z3_13 z4_21 z4_22 z4_23 z4_24 z4_25 z4_26 z4_27 z4_28 z4_29 z4_30 z4_31 z4_32 z4_33 z4_34 z4_35 z4_36 z4_37 z4_38 z4_39 z4_40 z4_41 z4_42 z4_43 z4_44 z4_45 z4_46 z4_47 z4_48 z4_49 z4_50 z4_51 z4_52 z4_53 z4_54 z4_55 z4_56 z4_57 z4_58 z4_59 z4_60 z4_61 z4_62 z4_63 z4_64 z4_65 z4_66 z4_67 z4_68 z4_69 z4_70 z4_71 z4_72 z4_73 z4_74 z4_75 z4_76 z4_77 z4_78 z4_79 z4_80 z4_81 z4_82 z4_83 z4_84 z4_85 z4_86 z4_87 z4_88 z4_89 z4_90 z4_91 z4_92 z4_93 z4_94 z4_95 z4_96 z4_97 z4_98 z4_99 z4_100 z4_101 z4_102 z4_103 z4_104 z4_105 z4_106 z4_107 z4_108 z4_109 z4_110 z4_111 z4_112 z4_113 z4_114 z4_115 z4_116 z4_117 z4_118 z4_119 z4_120 z4_121 z4_122 z4_123 z4_124
   intro z4_125 z4_126 z4_127 z4_128 z4_129 z4_130 z4_131 z4_132 z4_133 z4_134 z4_135 z4_136 z4_137 z4_138 z4_139 z4_140 z4_141 z4_142 z4_143 z4_144 z4_145 z4_146 z4_147 z4_148 z4_149 z4_150 z4_151 z4_152 z4_153 z4_154 z4_155 z4_156 z4_157 z4_158 z4_159 z4_160 z4_161 z4_162 z4_163 z4_164 z4_165 z4_166 z4_167 z4_168 z4_169 z4_170 z4_171 z4_172 z4_173 z4_174 z4_175 z4_176 z4_177 z4_178 z4_179 z4_180 z4_181 z4_182 z4_183 z4_184 z4_185 z4_186 z4_187 z4_188 z4_189 z4_190 z4_191 z4_192 z4_193 z4_194 z4_195 z4_196 z4_197 z4_198 z4_199 z4_200 z4_201 z4_202 z4_203 z4_204 z4_205 z4_206 z4_207 z4_208 z4_209 z4_210 z4_211 z4_212 z4_213 z4_214 z4_215 z4_216 z4_217 z4_218 z4_219 z4_220 z4_221 z4_222 z4_223 z4_224 z4_225 z4_226 z4_227 z4_228 z4_229 z4_230 z4_231 z4_232 z4_233 z4_234 z4_235 z4_236 z4_237 z4_238 z4_239 z4_240 z4_241 z4_242 z4_243 z4_244 z4_245 z4_246 z4_247 z4_248 z4_249 z4_250 z4_251 z4_252 z4_253 z4_254 z4_255 z4_256 z4_257 z4_258 z4_259 z4_260 z4_261 z4_262 z4_263 z4_264 z4_265 z4_266 u316 u317 u318 u319 u320 u321 u322 u323 u324 u325 u326 u327 u328 u329 u330 u331 u332 u333 u334 u335 u336 u337 u338 u339 u340 u341 u342 u343 u344 u345 u346 u347 u348 u349 u350 u351 u352 u353 u354 u355 u356 u357 u358 u359 u360 u361 u362 u363 u364 u365 u366 u367 u368 u369 u370 u371 u372 u373
   intro u374 u375 u376 z2_3 z2_4 x4_2 k2 z2_6 HK2 z3_14 u43 u44 u45 u46 u47 u48 u49 u50 kj19 HJ19 t675 A27 t676 A28 t677 A29 ad673 HR0_0 z3_15 z3_16 gb674 w33 GW674 GE674 NB661_674 NB674_661 hnb34 hnc34 w36 w38 nd z5_1 u7 u67 u68 u69 x7_30 kj30 HJ30 z4_267 z4_268 z7_1 z7_2 u9 u10 u11 u12 z6_1 u14 z7_3 z7_4 z7_5 z7_6 z7_7 z7_8 z7_9 z7_10 z7_11 z7_12 z7_13 z7_14 u70 u71 u72 u73 u74 u75 u76 u77 u78 u79 u80 u81 u82 u83 u84 z5_2 z5_3 z5_4 z5_5 z5_6 z5_7 z5_8 z5_9 z5_10 z6_2 z6_3 z6_4 z6_5 z6_6 z6_7 z6_8 z6_9 z6_10 z6_11 z6_12 z6_13 z6_14 z6_15 z6_16 z6_17 z6_18 z6_19 u112 z7_15 z7_16 z7_17 z7_18 z7_19 z7_20 z7_21 z7_22 z7_23 z7_24 z7_25 z7_26 z7_27 z7_28 z7_29 z7_30 z7_31 z7_32 z7_33 z7_34 z7_35 z7_36 z7_37 z7_38 z7_39 z7_40 z7_41 z7_42 z7_43 z7_44 z7_45 z7_46 z7_47 z7_48 z7_49 z7_50 z7_51 z7_52 z7_53 z7_54 z7_55 z7_56 z7_57 z7_58 z7_59 z7_60 z7_61 z7_62 z7_63 z7_64 z7_65 z7_66 z7_67 z7_68 z7_69 z7_70 z7_71 z7_72 z7_73 z7_74 z7_75 z7_76 z7_77 z7_78 z7_79 z7_80 z7_81 z7_82 z7_83 z7_84 z7_85 z7_86 z7_87 z7_88 z7_89 z7_90 z7_91 z7_92 z7_93 z7_94 z7_95 z7_96 z7_97 z7_98 z7_99 z7_100
   intro z7_101 z7_102 z7_103 z7_104 z7_105 z7_106 z7_107 z7_108 z7_109 z7_110 z7_111 z7_112 z7_113 z7_114 z7_115 z7_116 z7_117 z7_118 z7_119 z7_120 z7_121 z7_122 z7_123 z7_124 z7_125 z7_126 z7_127 z7_128 z7_129 z7_130 z7_131 z7_132 z7_133 z7_134 z7_135 z7_136 z7_137 z7_138 z7_139 z7_140 z7_141 z7_142 z7_143 z7_144 z7_145 z7_146 z7_147 z7_148 z7_149 z7_150 z7_151 z7_152 z7_153 z7_154 z7_155 z7_156 z7_157 z7_158 z7_159 z7_160 z7_161 z7_162 z7_163 z7_164 z7_165 z7_166 z7_167 z7_168 z7_169 z7_170 z7_171 z7_172 z7_173 z7_174 z7_175 z7_176 z7_177 z7_178 z7_179 z7_180 z7_181 z7_182 z7_183 z7_184 z7_185 z7_186 z7_187 z7_188 z7_189 z7_190 z7_191 z7_192 z7_193 z7_194 z7_195 z7_196 z7_197 z7_198 z7_199 z7_200 z7_201 z7_202 z7_203 z7_204 z7_205 z7_206 z7_207 z7_208 z7_209 z7_210 z7_211 z7_212 z7_213 z7_214 z7_215 z7_216 z7_217 z4_269 z4_270 x8_5 k5 z4_272 HK5 t682 t683 A46 co48 z5_11 z5_12 ad681 z2_5 z4_271 z8_1 z8_2 w49 z5_13 w50 z10_1 z8_3 z6_20 u85 u86 u87 u88 u89 u90 u91 u92 u93 x94_46 kj46 HJ46 z6_21 u13 u94 u95 u96 u97 u98 u99 u100 u101 u102 u103 x11_54 x12_54 kj54 HJ54 z8_4 u104 u105 u106 u107 u108 u109 u110 u111 kj62 HJ62 wr u2 u15 u16 u17 u18 u19 u20 u21 u22 u23 u24 u25 u26 u113 u114 u115 u116 u117 u118 u119
   intro u120 u121 u122 u123 u124 u125 u126 u127 u128 u129 u130 u131 u132 z8_5 z8_6 z8_7 z8_8 z8_9 z8_10 z8_11 z8_12 z8_13 z8_14 z8_15 z8_16 z8_17 z8_18 z8_19 z8_20 z8_21 z8_22 z8_23 z8_24 z9_1 z9_2 z9_3 z9_4 z9_5 z9_6 z9_7 z9_8 z9_9 z9_10 z9_11 z9_12 z9_13 z9_14 z9_15 z9_16 z9_17 z9_18 z9_19 z9_20 z9_21 z9_22 z10_2 z10_3 z10_4 z10_5 z10_6 z10_7 z10_8 z10_9 u183 u184 u185 u186 u187 u188 u189 u190 u191 u192 u193 u194 u195 u196 z10_10 z10_11 z10_12 z10_13 z10_14 z10_15 z10_16 z10_17 z10_18 z10_19 z10_20 z10_21 z10_22 z10_23 z11_1 z11_2 z11_3 z11_4 z11_5 z11_6 z11_7 z11_8 z11_9 z11_10 z11_11 z11_12 z11_13 z11_14 z11_15 z11_16 z11_17 z11_18 z11_19 z11_20 z11_21 z11_22 z11_23 z11_24 z11_25 z11_26 z11_27 z11_28 z11_29 z11_30 z11_31 z11_32 u243 u244 u245 u246 u247 u248 u249 u250 u251 u252 u253 u254 u255 u256 u257 u258 u259 u260 u261 u262 u263 u264 u265 u266 u267 u268 u269 u270 u271 u272 u273 u274 u275 u276 u277 u278 u279 u280 u281 u282 u283 u284 u285 u286 u287 u288 u289 u290 u291 u292 u293 u294 u295 u296 u297 u298 u299 u300 u301 u302 u303 u304 u305 u306 u307 u308 u309 u310 u311 u312 u313 u314 u315 z7_218 z7_219 z7_220 x14_9
   intro k9 z7_221 HK9 c67b0 c68b0 c69b0 c70b0 t691 t692 t693 A71 z8_25 z8_26 p689 q689 p690 q690 z10_24 z10_25 w73 hx689_0 hx690_0 z8_27 gb694 w76 hS_ GW694 GE694 NB661_694 NB694_661 NB674_694 NB694_674 z8_28 hs77 hfs77 hns77_0 hns77_1 hms77_0 hms77_1 hs78 hfs78 hns78_0 hns78_1 hms78_0 hms78_1 z10_26 gb695 w79 GW695 GE695 NB661_695 NB695_661 NB674_695 NB695_674 NB694_695 NB695_694 hnb80 hnc80 hnb81 hnc81 hnb82 hnc82 hcz83_0 hcz83_1 hfz83_0 hfz83_1 z9_23 u133 u134 u135 u136 u137 u138 u139 u140 u141 u142 u143 u144 u145 u146 u147 u148 u149 u150 u151 u152 x153_71 kj71 HJ71 z10_27 u153 u154 u155 u156 u157 u158 u159 u160 u161 u162 u163 u164 u165 u166 u167 u168 u169 u170 u171 u172 u173 u174 x17_95 x696000_95 x696001_95 kj95 HJ95 z10_28 u175 u176 u177 u178 u179 u180 u181 u182 kj118 HJ118 t718 t719 A134 e689 e690 e716 e717 HT_ HW_ w136 z10_29 w137 HS2_ HS3_ hHeld z10_30 z10_31 z11_33 u197 u198 u199 u200 u201 u202 u203 u204 u205 u206 u207 u208 u209 u210 x211_134 kj134 HJ134 wc u211 u212 u213 u214 u215 u216 u217 u218 u219 u220 u221 u222 u223 u224 u225 u226 u227 u228 u229 u230 u231 u232 u233 u234 u235 u236 u237 u238 u239 u240 u241 u242 kq x21_140 x22_140
   intro HA HJ140 HO_3 HO_7 BK661 BK674 BK694 BK695 HB
   cases kq with
   | zero => exact absurd HA.out (by simp [herbariumlaw1_BitsExact.j13])
   | succ kj140 => ?_
   have H := HA.out
   clear HA
   simp only [herbariumlaw1_BitsExact.j13] at H
   by_cases c155 : 0 ≤ x8_5
   rotate_left
   · rw [if_neg c155] at H
     exact absurd H (by simp)
   rw [if_pos c155] at H
   have c155b0 : decide (0 ≤ x8_5) = true := decide_eq_true c155
   clear c155
   by_cases c156 : x8_5 < (x3_7.length : Int)
   rotate_left
   · rw [if_neg c156] at H
     exact absurd H (by simp)
   rw [if_pos c156] at H
   have c156b0 : decide (x8_5 < (x3_7.length : Int)) = true := decide_eq_true c156
   clear c156
   by_cases c157 : 0 ≤ x14_9
   rotate_left
   · rw [if_neg c157] at H
     exact absurd H (by simp)
   rw [if_pos c157] at H
   have c157b0 : decide (0 ≤ x14_9) = true := decide_eq_true c157
   clear c157
   by_cases c158 : x14_9 < (x3_7.length : Int)
   rotate_left
   · rw [if_neg c158] at H
     exact absurd H (by simp)
   rw [if_pos c158] at H
   have c158b0 : decide (x14_9 < (x3_7.length : Int)) = true := decide_eq_true c158
   clear c158
   replace H := Option.bind_eq_some_iff.mp H
   obtain ⟨⟨t731, t732, t733⟩, A1590, H⟩ := H
   try dsimp only at H
   have A159 := ak A1590
   clear A1590
   have HC160 := ak H
   clear H
   try go_wp2
   have n0_ := ak (Kd.R_drew HO_3.out)
   have n1_ := ak (Kd.R_drew HO_7.out)
   have n2_ := ak (blk_drew BK661.out)
   have n3_ := ak (blk_drew BK674.out)
   have n4_ := ak (blk_drew BK694.out)
   have n5_ := ak (blk_drew BK695.out)
   have n6_ := ak (below_drew1 HB.out)
   clear HO_3
   clear HO_7
   clear BK661
   clear BK674
   clear BK694
   clear BK695
   clear HB
   have HO_3 := n0_
   have HO_7 := n1_
   have BK661 := n2_
   have BK674 := n3_
   have BK694 := n4_
   have BK695 := n5_
   have HB := n6_
   clear n0_ n1_ n2_ n3_ n4_ n5_ n6_
   have p729 : 0 ≤ (x8_5 : Int) := of_decide_eq_true (by first | (with_reducible assumption) | assumption)
   have q729 : x8_5 < (x3_7.length : Int) := of_decide_eq_true (by first | (with_reducible assumption) | assumption)
   obtain ⟨ad729, e729, hx729_0⟩ := Kd.at_int (Kd.R_reads' HO_3.out).2.2 x8_5 p729 q729
   obtain rfl : ad681 = ad729 := (by injection e729)
   replace p729 := eq_true p729
   replace q729 := eq_true q729
   have p730 : 0 ≤ (x14_9 : Int) := of_decide_eq_true (by first | (with_reducible assumption) | assumption)
   have q730 : x14_9 < (x3_7.length : Int) := of_decide_eq_true (by first | (with_reducible assumption) | assumption)
   obtain ⟨ad730, e730, hx730_0⟩ := Kd.at_int (Kd.R_reads' HO_3.out).2.2 x14_9 p730 q730
   obtain rfl : ad681 = ad730 := (by injection e730)
   replace p730 := eq_true p730
   replace q730 := eq_true q730
   refine start_ (n := 16) (S := fun w' => w'.cell? ⟨gb674, 0, none⟩ = some (.string ((rd_T27 l0_0 x4_2).f0)) ∧ w'.cell? ⟨gb674, 1, none⟩ = some (.int .i64 ((rd_T27 l0_0 x4_2).f1)) ∧ w'.cell? (ad681.add (x8_5).toNat) = some (.int .i64 (rd x3_7 x8_5)) ∧ w'.cell? (ad681.add (x14_9).toNat) = some (.int .i64 (rd x3_7 x14_9))) (ds := []) #[false, false, false, false, false, false, false, false, false, false, false, false, false, false, false, false] (by kernel_rfl) rfl rfl ⟨(blk_cell BK674.out 0).trans rfl, (blk_cell BK674.out 1).trans rfl, hx729_0, hx730_0⟩ (fun hHeld => ?_); refine with_tabW herbariumlaw1_BitsExact.tab45 herbariumlaw1_BitsExact.bits45 (fun HT_ HW_ => ?_)
   generalize wc.drew = w161 at HO_3 HO_7 BK661 BK674 BK694 BK695 HB hx729_0 hx730_0 hHeld ⊢
   refine pure_ (i := 1) (N := some 245) (v := ?_) (a' := ?_) #[false, true, false, false, false, false, false, false, false, false, false, false, false, false, false, false] rfl rfl (any_of HT_.out (by kernel_rfl)) (fun _ _ _ h => h) (Or.inl ⟨by rfl, ?_⟩) ?_ ?_
   rotate_left
   · intro w'
     go_simp
     with_reducible rfl
   rotate_left
   · simp only [Act.put, s1, s2, s3, i64_w, i32_w]
     rfl
   refine pure_ (i := 2) (N := some 246) (v := ?_) (a' := ?_) #[false, true, true, false, false, false, false, false, false, false, false, false, false, false, false, false] rfl rfl (any_of HT_.out (by kernel_rfl)) (fun _ _ _ h => h) (Or.inl ⟨by rfl, ?_⟩) ?_ ?_
   rotate_left
   · intro w'
     go_simp
     with_reducible rfl
   rotate_left
   · simp only [Act.put, s1, s2, s3, i64_w, i32_w]
     rfl
   refine pure_ (i := 3) (N := some 247) (v := ?_) (a' := ?_) #[false, true, true, true, false, false, false, false, false, false, false, false, false, false, false, false] rfl rfl (any_of HT_.out (by kernel_rfl)) (fun _ _ _ h => h) (Or.inl ⟨by rfl, ?_⟩) ?_ ?_
   rotate_left
   · intro w'
     go_simp
     with_reducible rfl
   rotate_left
   · simp only [Act.put, s1, s2, s3, i64_w, i32_w]
     rfl
   refine pure_ (i := 5) (N := some 249) (v := ?_) (a' := ?_) #[false, true, true, true, false, true, false, false, false, false, false, false, false, false, false, false] rfl rfl (any_of HT_.out (by kernel_rfl)) (fun _ _ _ h => h) (Or.inl ⟨by rfl, ?_⟩) ?_ ?_
   rotate_left
   · intro w'
     go_simp
     with_reducible rfl
   rotate_left
   · simp only [Act.put, s1, s2, s3, i64_w, i32_w]
     rfl
   refine pure_ (i := 6) (N := some 250) (v := ?_) (a' := ?_) #[false, true, true, true, false, true, true, false, false, false, false, false, false, false, false, false] rfl rfl (any_of HT_.out (by kernel_rfl)) (fun _ _ _ h => h) (Or.inl ⟨by rfl, ?_⟩) ?_ ?_
   rotate_left
   · intro w'
     go_simp
     with_reducible rfl
   rotate_left
   · simp only [Act.put, s1, s2, s3, i64_w, i32_w]
     rfl
   refine pure_ (i := 7) (N := some 251) (v := ?_) (a' := ?_) #[false, true, true, true, false, true, true, true, false, false, false, false, false, false, false, false] rfl rfl (any_of HT_.out (by kernel_rfl)) (fun _ _ _ h => h) (Or.inl ⟨by rfl, ?_⟩) ?_ ?_
   rotate_left
   · intro w'
     go_simp
     with_reducible rfl
   rotate_left
   · simp only [Act.put, s1, s2, s3, i64_w, i32_w]
     rfl
   refine take_ (i := 0) (N := some 244) (v := ?_) (a' := ?_) #[true, true, true, true, false, true, true, true, false, false, false, false, false, false, false, false] rfl rfl (take_ofW HT_.out HW_.out (by kernel_rfl)) (fun _ _ _ h => h) (Or.inl ⟨by rfl, ?_⟩) hHeld ?_ ?_
   rotate_left
   · rintro w' ⟨s0, s1, s2, s3⟩
     go_simp
     with_reducible rfl
   rotate_left
   · simp only [Act.put, s1, s2, s3, i64_w, i32_w]
     rfl
   refine take_ (i := 4) (N := some 248) (v := ?_) (a' := ?_) #[true, true, true, true, true, true, true, true, false, false, false, false, false, false, false, false] rfl rfl (take_ofW HT_.out HW_.out (by kernel_rfl)) (fun _ _ _ h => h) (Or.inl ⟨by rfl, ?_⟩) hHeld ?_ ?_
   rotate_left
   · rintro w' ⟨s0, s1, s2, s3⟩
     go_simp
     with_reducible rfl
   rotate_left
   · simp only [Act.put, s1, s2, s3, i64_w, i32_w]
     rfl
   refine take_ (i := 8) (N := some 252) (v := ?_) (a' := ?_) #[true, true, true, true, true, true, true, true, true, false, false, false, false, false, false, false] rfl rfl (take_ofW HT_.out HW_.out (by kernel_rfl)) (fun _ _ _ h => h) (Or.inl ⟨by rfl, ?_⟩) hHeld ?_ ?_
   rotate_left
   · rintro w' ⟨s0, s1, s2, s3⟩
     go_simp
     with_reducible rfl
   rotate_left
   · simp only [Act.put, s1, s2, s3, i64_w, i32_w]
     rfl
   refine join_ (σ := Nat) 2 #[true, true, true, true, true, true, true, true, true, true, true, true, true, true, false, false] (fun s_ => [(253, .tuple #[.agg #[.string t731, .int .i64 t732], .int .i64 t733]), (23, .pointer (some ⟨s_, 0, none⟩)), (243, .tuple #[.agg #[.string t731, .int .i64 t732], .int .i64 t733]), (254, .agg #[.string t731, .int .i64 t732]), (255, .int .i64 t733)]) (fun s_ w' => (w'.cell? ⟨gb674, 0, none⟩ = some (.string ((rd_T27 l0_0 x4_2).f0)) ∧ w'.cell? ⟨gb674, 1, none⟩ = some (.int .i64 ((rd_T27 l0_0 x4_2).f1)) ∧ w'.cell? (ad681.add (x8_5).toNat) = some (.int .i64 (rd x3_7 x8_5)) ∧ w'.cell? (ad681.add (x14_9).toNat) = some (.int .i64 (rd x3_7 x14_9))) ∧ (Kd.R (Kd.int .i64) 3 w' w.heap.size (fun _ => True) (.slice (some ad681) x3_7.length co48) x3_7) ∧ (Kd.R (Kd.int .u8) 5 w' w.heap.size (fun _ => True) u7 x7_30) ∧ (w'.heap[gb661]? = some (.cells #[.slice (some ad673) l0_0.length c0_0, .slice A0_1 l0_1.length c0_1] 25 (0, 0))) ∧ (w'.heap[gb674]? = some (.cells #[.string ((rd_T27 l0_0 x4_2).f0), .int .i64 ((rd_T27 l0_0 x4_2).f1)] 27 (0, 0))) ∧ (w'.heap[gb694]? = some (.cells #[.string t691, .int .i64 t692] 27 (0, 0))) ∧ (w'.heap[gb695]? = some (.cells #[.string x696000_95, .int .i64 x696001_95] 27 (0, 0))) ∧ (w'.heap[s_]? = some (.cells #[.string (⟨#[]⟩ : ByteArray), .int .i64 0] 27 (0, 0))) ∧ (w.heap.size ≤ s_) ∧ (w.heap.size ≤ s_) ∧ (gb661 ≠ s_) ∧ (s_ ≠ gb661) ∧ (gb674 ≠ s_) ∧ (s_ ≠ gb674) ∧ (gb694 ≠ s_) ∧ (s_ ≠ gb694) ∧ (gb695 ≠ s_) ∧ (s_ ≠ gb695) ∧ (Below w.heap.size w w')) ?_ ?_
   rotate_left
   · intro hCont
     refine two_ (i := 9) (j := 13) (Ni := some 253) (Nj := some 23) #[true, true, true, true, true, true, true, true, true, true, false, false, false, false, false, false] #[true, true, true, true, true, true, true, true, true, false, false, false, false, true, false, false] rfl rfl rfl rfl (two_of HT_.out (by kernel_rfl)) (by decide) (by decide) (fun K hK => ?_) (fun K hK => ?_)
     · skip
       refine goes_ Try.func42 (by kernel_rfl) rfl #[.agg #[.string ((rd_T27 l0_0 x4_2).f0), .int .i64 ((rd_T27 l0_0 x4_2).f1)], .int .i64 (rd x3_7 x8_5), .int .i64 (rd x3_7 x14_9)] (by rfl) rfl rfl (by (try simp only [List.map_toArray, List.map_cons, List.map_nil]); first | done | rfl | (simp only [List.length_drop, List.length_take]; rfl)) ?_
       with_reducible refine (bits_Cut.calls ((rd_T27 l0_0 x4_2).f0) ((rd_T27 l0_0 x4_2).f1) (rd x3_7 x8_5) (rd x3_7 x14_9) t731 t732 t733 _ A159.out).mono ?_
       rintro e w162 ⟨rfl, hb⟩
       have HS2_ := (hb.cell (World.block_lt_of_cell? _ _ (hHeld.2.2.1))).trans (hHeld.2.2.1)
       have HS3_ := (hb.cell (World.block_lt_of_cell? _ _ (hHeld.2.2.2))).trans (hHeld.2.2.2)
       refine ⟨_, rfl, ?_⟩
       have n0_ := ak (Kd.R_below (ur <| HO_3.out) hb)
       have n1_ := ak (Kd.R_below (ur <| HO_7.out) hb)
       have n2_ := ak (blk_below (g := gb661) (o := .cells #[.slice (some ad673) l0_0.length c0_0, .slice A0_1 l0_1.length c0_1] 25 (0, 0)) (ub BK661.out) hb)
       have n3_ := ak (blk_below (g := gb674) (o := .cells #[.string ((rd_T27 l0_0 x4_2).f0), .int .i64 ((rd_T27 l0_0 x4_2).f1)] 27 (0, 0)) (ub BK674.out) hb)
       have n4_ := ak (blk_below (g := gb694) (o := .cells #[.string t691, .int .i64 t692] 27 (0, 0)) (ub BK694.out) hb)
       have n5_ := ak (blk_below (g := gb695) (o := .cells #[.string x696000_95, .int .i64 x696001_95] 27 (0, 0)) (ub BK695.out) hb)
       have n6_ := ak (below_step (by repeat with_reducible first | exact HB.out | apply b1 | apply b2 | apply b3 | refine b4 ?_ GE661.out | refine b4 ?_ GE674.out | refine b4 ?_ GE694.out | refine b4 ?_ GE695.out) hb)
       clear HO_3
       clear HO_7
       clear BK661
       clear BK674
       clear BK694
       clear BK695
       clear HB
       have HO_3 := n0_
       have HO_7 := n1_
       have BK661 := n2_
       have BK674 := n3_
       have BK694 := n4_
       have BK695 := n5_
       have HB := n6_
       clear n0_ n1_ n2_ n3_ n4_ n5_ n6_
       (try clear hb)
       (try clear hb2)
       (try clear hk)
       (try clear hi)
       refine hK.out _ _ ⟨(blk_cell BK674.out 0).trans rfl, (blk_cell BK674.out 1).trans rfl, HS2_, HS3_⟩ (fun hHeld => ?_)
       clear hK K
       refine norm_ (a' := ?_) ?_ ?_
       rotate_left
       · show Act.put _ (some 253) _ = _
         simp only [Act.put, s1, s2, s3, i64_w, i32_w]
         rfl
       refine pure_ (i := 10) (N := some 243) (v := ?_) (a' := ?_) #[true, true, true, true, true, true, true, true, true, true, true, false, false, false, false, false] rfl rfl (any_of HT_.out (by kernel_rfl)) (fun _ _ _ h => h) (Or.inl ⟨by rfl, ?_⟩) ?_ ?_
       rotate_left
       · intro w'
         go_simp
         with_reducible rfl
       rotate_left
       · simp only [Act.put, s1, s2, s3, i64_w, i32_w]
         rfl
       refine pure_ (i := 11) (N := some 254) (v := ?_) (a' := ?_) #[true, true, true, true, true, true, true, true, true, true, true, true, false, false, false, false] rfl rfl (any_of HT_.out (by kernel_rfl)) (fun _ _ _ h => h) (Or.inl ⟨by rfl, ?_⟩) ?_ ?_
       rotate_left
       · intro w'
         go_simp
         with_reducible rfl
       rotate_left
       · simp only [Act.put, s1, s2, s3, i64_w, i32_w]
         rfl
       refine pure_ (i := 12) (N := some 255) (v := ?_) (a' := ?_) #[true, true, true, true, true, true, true, true, true, true, true, true, true, false, false, false] rfl rfl (any_of HT_.out (by kernel_rfl)) (fun _ _ _ h => h) (Or.inl ⟨by rfl, ?_⟩) ?_ ?_
       rotate_left
       · intro w'
         go_simp
         with_reducible rfl
       rotate_left
       · simp only [Act.put, s1, s2, s3, i64_w, i32_w]
         rfl
       refine one_ (i := 13) (N := some 23) #[true, true, true, true, true, true, true, true, true, true, true, true, true, true, false, false] rfl rfl (one_of HT_.out (by kernel_rfl)) (by decide) (fun K hK => ?_)
       refine box_step ?hg (N := 23) ?hd (cs := #[.string (⟨#[]⟩ : ByteArray), .int .i64 0]) (t := 27) ?hr ?_; (case hd => rfl); (case hg => rfl); (case hr => first | (go_simp; done) | (go_simp; rfl))
       intro gb734 hg w163 hbox hb
       have HS2_ := (hb.cell (World.block_lt_of_cell? _ _ (hHeld.2.2.1))).trans (hHeld.2.2.1)
       have HS3_ := (hb.cell (World.block_lt_of_cell? _ _ (hHeld.2.2.2))).trans (hHeld.2.2.2)
       have n0_ := ak (Kd.R_below (ur <| HO_3.out) hb)
       have n1_ := ak (Kd.R_below (ur <| HO_7.out) hb)
       have n2_ := ak (blk_below (g := gb661) (o := .cells #[.slice (some ad673) l0_0.length c0_0, .slice A0_1 l0_1.length c0_1] 25 (0, 0)) (ub BK661.out) hb)
       have n3_ := ak (blk_below (g := gb674) (o := .cells #[.string ((rd_T27 l0_0 x4_2).f0), .int .i64 ((rd_T27 l0_0 x4_2).f1)] 27 (0, 0)) (ub BK674.out) hb)
       have n4_ := ak (blk_below (g := gb694) (o := .cells #[.string t691, .int .i64 t692] 27 (0, 0)) (ub BK694.out) hb)
       have n5_ := ak (blk_below (g := gb695) (o := .cells #[.string x696000_95, .int .i64 x696001_95] 27 (0, 0)) (ub BK695.out) hb)
       have n6_ := ak (below_step (by repeat with_reducible first | exact HB.out | apply b1 | apply b2 | apply b3 | refine b4 ?_ GE661.out | refine b4 ?_ GE674.out | refine b4 ?_ GE694.out | refine b4 ?_ GE695.out) hb)
       have n7_ := ak (hbox)
       have n8_ := ak ((by rw [hg]; exact (below_size (by repeat with_reducible first | exact HB.out | apply b1 | apply b2 | apply b3 | refine b4 ?_ GE661.out | refine b4 ?_ GE674.out | refine b4 ?_ GE694.out | refine b4 ?_ GE695.out)) : w.heap.size ≤ gb734))
       have n9_ := ak ((by rw [hg]; exact (below_size (by repeat with_reducible first | exact HB.out | apply b1 | apply b2 | apply b3 | refine b4 ?_ GE661.out | refine b4 ?_ GE674.out | refine b4 ?_ GE694.out | refine b4 ?_ GE695.out)) : w.heap.size ≤ gb734))
       have n10_ := ak ((by rw [hg]; exact Nat.ne_of_lt (blk_lt (g := gb661) (o := .cells #[.slice (some ad673) l0_0.length c0_0, .slice A0_1 l0_1.length c0_1] 25 (0, 0)) (ub BK661.out)) : gb661 ≠ gb734))
       have n11_ := ak ((by rw [hg]; exact Nat.ne_of_gt (blk_lt (g := gb661) (o := .cells #[.slice (some ad673) l0_0.length c0_0, .slice A0_1 l0_1.length c0_1] 25 (0, 0)) (ub BK661.out)) : gb734 ≠ gb661))
       have n12_ := ak ((by rw [hg]; exact Nat.ne_of_lt (blk_lt (g := gb674) (o := .cells #[.string ((rd_T27 l0_0 x4_2).f0), .int .i64 ((rd_T27 l0_0 x4_2).f1)] 27 (0, 0)) (ub BK674.out)) : gb674 ≠ gb734))
       have n13_ := ak ((by rw [hg]; exact Nat.ne_of_gt (blk_lt (g := gb674) (o := .cells #[.string ((rd_T27 l0_0 x4_2).f0), .int .i64 ((rd_T27 l0_0 x4_2).f1)] 27 (0, 0)) (ub BK674.out)) : gb734 ≠ gb674))
       have n14_ := ak ((by rw [hg]; exact Nat.ne_of_lt (blk_lt (g := gb694) (o := .cells #[.string t691, .int .i64 t692] 27 (0, 0)) (ub BK694.out)) : gb694 ≠ gb734))
       have n15_ := ak ((by rw [hg]; exact Nat.ne_of_gt (blk_lt (g := gb694) (o := .cells #[.string t691, .int .i64 t692] 27 (0, 0)) (ub BK694.out)) : gb734 ≠ gb694))
       have n16_ := ak ((by rw [hg]; exact Nat.ne_of_lt (blk_lt (g := gb695) (o := .cells #[.string x696000_95, .int .i64 x696001_95] 27 (0, 0)) (ub BK695.out)) : gb695 ≠ gb734))
       have n17_ := ak ((by rw [hg]; exact Nat.ne_of_gt (blk_lt (g := gb695) (o := .cells #[.string x696000_95, .int .i64 x696001_95] 27 (0, 0)) (ub BK695.out)) : gb734 ≠ gb695))
       clear HO_3
       clear HO_7
       clear BK661
       clear BK674
       clear BK694
       clear BK695
       clear HB
       have HO_3 := n0_
       have HO_7 := n1_
       have BK661 := n2_
       have BK674 := n3_
       have BK694 := n4_
       have BK695 := n5_
       have HB := n6_
       have BK734 := n7_
       have GW734 := n8_
       have GE734 := n9_
       have NB661_734 := n10_
       have NB734_661 := n11_
       have NB674_734 := n12_
       have NB734_674 := n13_
       have NB694_734 := n14_
       have NB734_694 := n15_
       have NB695_734 := n16_
       have NB734_695 := n17_
       clear n0_ n1_ n2_ n3_ n4_ n5_ n6_ n7_ n8_ n9_ n10_ n11_ n12_ n13_ n14_ n15_ n16_ n17_
       clear hb hbox hg
       refine hK.out _ _ ⟨(blk_cell BK674.out 0).trans rfl, (blk_cell BK674.out 1).trans rfl, HS2_, HS3_⟩ (fun hHeld => ?_)
       clear hK K
       refine norm_ (a' := ?_) ?_ ?_
       rotate_left
       · show Act.put _ (some 23) _ = _
         simp only [Act.put, s1, s2, s3, i64_w, i32_w]
         rfl
       exact norm_ (by simp only [putAll, Act.put, s1, s2, s3]) (hCont (gb734) _ ⟨hHeld, (ur <| HO_3.out), (ur <| HO_7.out), (ub BK661.out), (ub BK674.out), (ub BK694.out), (ub BK695.out), (ub BK734.out), GW734.out, GE734.out, NB661_734.out, NB734_661.out, NB674_734.out, NB734_674.out, NB694_734.out, NB734_694.out, NB695_734.out, NB734_695.out, (by repeat with_reducible first | exact HB.out | apply b1 | apply b2 | apply b3 | refine b4 ?_ GE661.out | refine b4 ?_ GE674.out | refine b4 ?_ GE694.out | refine b4 ?_ GE695.out | refine b4 ?_ GE734.out)⟩)
     · skip
       refine box_step ?hg (N := 23) ?hd (cs := #[.string (⟨#[]⟩ : ByteArray), .int .i64 0]) (t := 27) ?hr ?_; (case hd => rfl); (case hg => rfl); (case hr => first | (go_simp; done) | (go_simp; rfl))
       intro gb734 hg w162 hbox hb
       have HS2_ := (hb.cell (World.block_lt_of_cell? _ _ (hHeld.2.2.1))).trans (hHeld.2.2.1)
       have HS3_ := (hb.cell (World.block_lt_of_cell? _ _ (hHeld.2.2.2))).trans (hHeld.2.2.2)
       have n0_ := ak (Kd.R_below (ur <| HO_3.out) hb)
       have n1_ := ak (Kd.R_below (ur <| HO_7.out) hb)
       have n2_ := ak (blk_below (g := gb661) (o := .cells #[.slice (some ad673) l0_0.length c0_0, .slice A0_1 l0_1.length c0_1] 25 (0, 0)) (ub BK661.out) hb)
       have n3_ := ak (blk_below (g := gb674) (o := .cells #[.string ((rd_T27 l0_0 x4_2).f0), .int .i64 ((rd_T27 l0_0 x4_2).f1)] 27 (0, 0)) (ub BK674.out) hb)
       have n4_ := ak (blk_below (g := gb694) (o := .cells #[.string t691, .int .i64 t692] 27 (0, 0)) (ub BK694.out) hb)
       have n5_ := ak (blk_below (g := gb695) (o := .cells #[.string x696000_95, .int .i64 x696001_95] 27 (0, 0)) (ub BK695.out) hb)
       have n6_ := ak (below_step (by repeat with_reducible first | exact HB.out | apply b1 | apply b2 | apply b3 | refine b4 ?_ GE661.out | refine b4 ?_ GE674.out | refine b4 ?_ GE694.out | refine b4 ?_ GE695.out) hb)
       have n7_ := ak (hbox)
       have n8_ := ak ((by rw [hg]; exact (below_size (by repeat with_reducible first | exact HB.out | apply b1 | apply b2 | apply b3 | refine b4 ?_ GE661.out | refine b4 ?_ GE674.out | refine b4 ?_ GE694.out | refine b4 ?_ GE695.out)) : w.heap.size ≤ gb734))
       have n9_ := ak ((by rw [hg]; exact (below_size (by repeat with_reducible first | exact HB.out | apply b1 | apply b2 | apply b3 | refine b4 ?_ GE661.out | refine b4 ?_ GE674.out | refine b4 ?_ GE694.out | refine b4 ?_ GE695.out)) : w.heap.size ≤ gb734))
       have n10_ := ak ((by rw [hg]; exact Nat.ne_of_lt (blk_lt (g := gb661) (o := .cells #[.slice (some ad673) l0_0.length c0_0, .slice A0_1 l0_1.length c0_1] 25 (0, 0)) (ub BK661.out)) : gb661 ≠ gb734))
       have n11_ := ak ((by rw [hg]; exact Nat.ne_of_gt (blk_lt (g := gb661) (o := .cells #[.slice (some ad673) l0_0.length c0_0, .slice A0_1 l0_1.length c0_1] 25 (0, 0)) (ub BK661.out)) : gb734 ≠ gb661))
       have n12_ := ak ((by rw [hg]; exact Nat.ne_of_lt (blk_lt (g := gb674) (o := .cells #[.string ((rd_T27 l0_0 x4_2).f0), .int .i64 ((rd_T27 l0_0 x4_2).f1)] 27 (0, 0)) (ub BK674.out)) : gb674 ≠ gb734))
       have n13_ := ak ((by rw [hg]; exact Nat.ne_of_gt (blk_lt (g := gb674) (o := .cells #[.string ((rd_T27 l0_0 x4_2).f0), .int .i64 ((rd_T27 l0_0 x4_2).f1)] 27 (0, 0)) (ub BK674.out)) : gb734 ≠ gb674))
       have n14_ := ak ((by rw [hg]; exact Nat.ne_of_lt (blk_lt (g := gb694) (o := .cells #[.string t691, .int .i64 t692] 27 (0, 0)) (ub BK694.out)) : gb694 ≠ gb734))
       have n15_ := ak ((by rw [hg]; exact Nat.ne_of_gt (blk_lt (g := gb694) (o := .cells #[.string t691, .int .i64 t692] 27 (0, 0)) (ub BK694.out)) : gb734 ≠ gb694))
       have n16_ := ak ((by rw [hg]; exact Nat.ne_of_lt (blk_lt (g := gb695) (o := .cells #[.string x696000_95, .int .i64 x696001_95] 27 (0, 0)) (ub BK695.out)) : gb695 ≠ gb734))
       have n17_ := ak ((by rw [hg]; exact Nat.ne_of_gt (blk_lt (g := gb695) (o := .cells #[.string x696000_95, .int .i64 x696001_95] 27 (0, 0)) (ub BK695.out)) : gb734 ≠ gb695))
       clear HO_3
       clear HO_7
       clear BK661
       clear BK674
       clear BK694
       clear BK695
       clear HB
       have HO_3 := n0_
       have HO_7 := n1_
       have BK661 := n2_
       have BK674 := n3_
       have BK694 := n4_
       have BK695 := n5_
       have HB := n6_
       have BK734 := n7_
       have GW734 := n8_
       have GE734 := n9_
       have NB661_734 := n10_
       have NB734_661 := n11_
       have NB674_734 := n12_
       have NB734_674 := n13_
       have NB694_734 := n14_
       have NB734_694 := n15_
       have NB695_734 := n16_
       have NB734_695 := n17_
       clear n0_ n1_ n2_ n3_ n4_ n5_ n6_ n7_ n8_ n9_ n10_ n11_ n12_ n13_ n14_ n15_ n16_ n17_
       clear hb hbox hg
       refine hK.out _ _ ⟨(blk_cell BK674.out 0).trans rfl, (blk_cell BK674.out 1).trans rfl, HS2_, HS3_⟩ (fun hHeld => ?_)
       clear hK K
       refine norm_ (a' := ?_) ?_ ?_
       rotate_left
       · show Act.put _ (some 23) _ = _
         simp only [Act.put, s1, s2, s3, i64_w, i32_w]
         rfl
       refine one_ (i := 9) (N := some 253) #[true, true, true, true, true, true, true, true, true, true, false, false, false, true, false, false] rfl rfl (one_of HT_.out (by kernel_rfl)) (by decide) (fun K hK => ?_)
       refine goes_ Try.func42 (by kernel_rfl) rfl #[.agg #[.string ((rd_T27 l0_0 x4_2).f0), .int .i64 ((rd_T27 l0_0 x4_2).f1)], .int .i64 (rd x3_7 x8_5), .int .i64 (rd x3_7 x14_9)] (by rfl) rfl rfl (by (try simp only [List.map_toArray, List.map_cons, List.map_nil]); first | done | rfl | (simp only [List.length_drop, List.length_take]; rfl)) ?_
       with_reducible refine (bits_Cut.calls ((rd_T27 l0_0 x4_2).f0) ((rd_T27 l0_0 x4_2).f1) (rd x3_7 x8_5) (rd x3_7 x14_9) t731 t732 t733 _ A159.out).mono ?_
       rintro e w163 ⟨rfl, hb⟩
       have HS2_ := (hb.cell (World.block_lt_of_cell? _ _ (hHeld.2.2.1))).trans (hHeld.2.2.1)
       have HS3_ := (hb.cell (World.block_lt_of_cell? _ _ (hHeld.2.2.2))).trans (hHeld.2.2.2)
       refine ⟨_, rfl, ?_⟩
       have n0_ := ak (Kd.R_below (ur <| HO_3.out) hb)
       have n1_ := ak (Kd.R_below (ur <| HO_7.out) hb)
       have n2_ := ak (blk_below (g := gb661) (o := .cells #[.slice (some ad673) l0_0.length c0_0, .slice A0_1 l0_1.length c0_1] 25 (0, 0)) (ub BK661.out) hb)
       have n3_ := ak (blk_below (g := gb674) (o := .cells #[.string ((rd_T27 l0_0 x4_2).f0), .int .i64 ((rd_T27 l0_0 x4_2).f1)] 27 (0, 0)) (ub BK674.out) hb)
       have n4_ := ak (blk_below (g := gb694) (o := .cells #[.string t691, .int .i64 t692] 27 (0, 0)) (ub BK694.out) hb)
       have n5_ := ak (blk_below (g := gb695) (o := .cells #[.string x696000_95, .int .i64 x696001_95] 27 (0, 0)) (ub BK695.out) hb)
       have n6_ := ak (blk_below (g := gb734) (o := .cells #[.string (⟨#[]⟩ : ByteArray), .int .i64 0] 27 (0, 0)) (ub BK734.out) hb)
       have n7_ := ak (below_step (by repeat with_reducible first | exact HB.out | apply b1 | apply b2 | apply b3 | refine b4 ?_ GE661.out | refine b4 ?_ GE674.out | refine b4 ?_ GE694.out | refine b4 ?_ GE695.out | refine b4 ?_ GE734.out) hb)
       clear HO_3
       clear HO_7
       clear BK661
       clear BK674
       clear BK694
       clear BK695
       clear BK734
       clear HB
       have HO_3 := n0_
       have HO_7 := n1_
       have BK661 := n2_
       have BK674 := n3_
       have BK694 := n4_
       have BK695 := n5_
       have BK734 := n6_
       have HB := n7_
       clear n0_ n1_ n2_ n3_ n4_ n5_ n6_ n7_
       (try clear hb)
       (try clear hb2)
       (try clear hk)
       (try clear hi)
       refine hK.out _ _ ⟨(blk_cell BK674.out 0).trans rfl, (blk_cell BK674.out 1).trans rfl, HS2_, HS3_⟩ (fun hHeld => ?_)
       clear hK K
       refine norm_ (a' := ?_) ?_ ?_
       rotate_left
       · show Act.put _ (some 253) _ = _
         simp only [Act.put, s1, s2, s3, i64_w, i32_w]
         rfl
       refine pure_ (i := 10) (N := some 243) (v := ?_) (a' := ?_) #[true, true, true, true, true, true, true, true, true, true, true, false, false, true, false, false] rfl rfl (any_of HT_.out (by kernel_rfl)) (fun _ _ _ h => h) (Or.inl ⟨by rfl, ?_⟩) ?_ ?_
       rotate_left
       · intro w'
         go_simp
         with_reducible rfl
       rotate_left
       · simp only [Act.put, s1, s2, s3, i64_w, i32_w]
         rfl
       refine pure_ (i := 11) (N := some 254) (v := ?_) (a' := ?_) #[true, true, true, true, true, true, true, true, true, true, true, true, false, true, false, false] rfl rfl (any_of HT_.out (by kernel_rfl)) (fun _ _ _ h => h) (Or.inl ⟨by rfl, ?_⟩) ?_ ?_
       rotate_left
       · intro w'
         go_simp
         with_reducible rfl
       rotate_left
       · simp only [Act.put, s1, s2, s3, i64_w, i32_w]
         rfl
       refine pure_ (i := 12) (N := some 255) (v := ?_) (a' := ?_) #[true, true, true, true, true, true, true, true, true, true, true, true, true, true, false, false] rfl rfl (any_of HT_.out (by kernel_rfl)) (fun _ _ _ h => h) (Or.inl ⟨by rfl, ?_⟩) ?_ ?_
       rotate_left
       · intro w'
         go_simp
         with_reducible rfl
       rotate_left
       · simp only [Act.put, s1, s2, s3, i64_w, i32_w]
         rfl
       exact norm_ (by simp only [putAll, Act.put, s1, s2, s3]) (hCont (gb734) _ ⟨hHeld, (ur <| HO_3.out), (ur <| HO_7.out), (ub BK661.out), (ub BK674.out), (ub BK694.out), (ub BK695.out), (ub BK734.out), GW734.out, GE734.out, NB661_734.out, NB734_661.out, NB674_734.out, NB734_674.out, NB694_734.out, NB734_694.out, NB695_734.out, NB734_695.out, (by repeat with_reducible first | exact HB.out | apply b1 | apply b2 | apply b3 | refine b4 ?_ GE661.out | refine b4 ?_ GE674.out | refine b4 ?_ GE694.out | refine b4 ?_ GE695.out | refine b4 ?_ GE734.out)⟩)
   rintro gb734 w164 ⟨hS_, h0_, h1_, h2_, h3_, h4_, h5_, h6_, h7_, h8_, h9_, h10_, h11_, h12_, h13_, h14_, h15_, h16_, h17_⟩
   have n0_ : Aside0 (Kd.R (Kd.int .i64) 3 w164 w.heap.size (fun _ => True) (.slice (some ad681) x3_7.length co48) x3_7) := ⟨h0_⟩
   have n1_ : Aside0 (Kd.R (Kd.int .u8) 5 w164 w.heap.size (fun _ => True) u7 x7_30) := ⟨h1_⟩
   have n2_ : Aside0 (w164.heap[gb661]? = some (.cells #[.slice (some ad673) l0_0.length c0_0, .slice A0_1 l0_1.length c0_1] 25 (0, 0))) := ⟨h2_⟩
   have n3_ : Aside0 (w164.heap[gb674]? = some (.cells #[.string ((rd_T27 l0_0 x4_2).f0), .int .i64 ((rd_T27 l0_0 x4_2).f1)] 27 (0, 0))) := ⟨h3_⟩
   have n4_ : Aside0 (w164.heap[gb694]? = some (.cells #[.string t691, .int .i64 t692] 27 (0, 0))) := ⟨h4_⟩
   have n5_ : Aside0 (w164.heap[gb695]? = some (.cells #[.string x696000_95, .int .i64 x696001_95] 27 (0, 0))) := ⟨h5_⟩
   have n6_ : Aside0 (w164.heap[gb734]? = some (.cells #[.string (⟨#[]⟩ : ByteArray), .int .i64 0] 27 (0, 0))) := ⟨h6_⟩
   have n7_ : Aside0 (w.heap.size ≤ gb734) := ⟨h7_⟩
   have n8_ : Aside0 (w.heap.size ≤ gb734) := ⟨h8_⟩
   have n9_ : Aside0 (gb661 ≠ gb734) := ⟨h9_⟩
   have n10_ : Aside0 (gb734 ≠ gb661) := ⟨h10_⟩
   have n11_ : Aside0 (gb674 ≠ gb734) := ⟨h11_⟩
   have n12_ : Aside0 (gb734 ≠ gb674) := ⟨h12_⟩
   have n13_ : Aside0 (gb694 ≠ gb734) := ⟨h13_⟩
   have n14_ : Aside0 (gb734 ≠ gb694) := ⟨h14_⟩
   have n15_ : Aside0 (gb695 ≠ gb734) := ⟨h15_⟩
   have n16_ : Aside0 (gb734 ≠ gb695) := ⟨h16_⟩
   have n17_ : Aside0 (Below w.heap.size w w164) := ⟨h17_⟩
   clear HO_3
   clear HO_7
   clear BK661
   clear BK674
   clear BK694
   clear BK695
   clear HB
   clear h0_ h1_ h2_ h3_ h4_ h5_ h6_ h7_ h8_ h9_ h10_ h11_ h12_ h13_ h14_ h15_ h16_ h17_
   have HO_3 := n0_
   have HO_7 := n1_
   have BK661 := n2_
   have BK674 := n3_
   have BK694 := n4_
   have BK695 := n5_
   have BK734 := n6_
   have GW734 := n7_
   have GE734 := n8_
   have NB661_734 := n9_
   have NB734_661 := n10_
   have NB674_734 := n11_
   have NB734_674 := n12_
   have NB694_734 := n13_
   have NB734_694 := n14_
   have NB695_734 := n15_
   have NB734_695 := n16_
   have HB := n17_
   clear n0_ n1_ n2_ n3_ n4_ n5_ n6_ n7_ n8_ n9_ n10_ n11_ n12_ n13_ n14_ n15_ n16_ n17_
   have hHeld : w164.cell? ⟨gb674, 0, none⟩ = some (.string ((rd_T27 l0_0 x4_2).f0)) ∧ w164.cell? ⟨gb674, 1, none⟩ = some (.int .i64 ((rd_T27 l0_0 x4_2).f1)) ∧ w164.cell? (ad681.add (x8_5).toNat) = some (.int .i64 (rd x3_7 x8_5)) ∧ w164.cell? (ad681.add (x14_9).toNat) = some (.int .i64 (rd x3_7 x14_9)) := hS_
   refine norm_ (a' := ?_) ?_ ?_
   rotate_left
   · simp only [putAll, Act.put, s1, s2, s3]
     rfl
   refine one_ (i := 14) (N := none) #[true, true, true, true, true, true, true, true, true, true, true, true, true, true, true, false] rfl rfl (one_of HT_.out (by kernel_rfl)) (by decide) (fun K hK => ?_)
   have hs165 : w164.cell? ⟨gb734, 0, none⟩ = some (.string (⟨#[]⟩ : ByteArray)) := (blk_cell BK734.out 0).trans rfl
   have hfs165 := blk_frozen BK734.out 0
   have hns165_0 := NB661_734.out
   have hns165_1 := NB674_734.out
   have hns165_2 := NB694_734.out
   have hns165_3 := NB695_734.out
   have hms165_0 := NB734_661.out
   have hms165_1 := NB734_674.out
   have hms165_2 := NB734_694.out
   have hms165_3 := NB734_695.out
   have hs166 : w164.cell? ⟨gb734, 1, none⟩ = some (.int .i64 0) := (blk_cell BK734.out 1).trans rfl
   have hfs166 := blk_frozen BK734.out 1
   have hns166_0 := NB661_734.out
   have hns166_1 := NB674_734.out
   have hns166_2 := NB694_734.out
   have hns166_3 := NB695_734.out
   have hms166_0 := NB734_661.out
   have hms166_1 := NB734_674.out
   have hms166_2 := NB734_694.out
   have hms166_3 := NB734_695.out
   refine skip_ (w1 := ?_) (by rfl) rfl ?_ ?_
   rotate_left
   · go_simp
     rfl
   refine hK.out _ _ ⟨((cell_far (p := ⟨gb734, _, none⟩) NB674_734.out _).trans (((cell_far (p := ⟨gb734, _, none⟩) NB674_734.out _).trans (hHeld.1)))), ((cell_far (p := ⟨gb734, _, none⟩) NB674_734.out _).trans (((cell_far (p := ⟨gb734, _, none⟩) NB674_734.out _).trans (hHeld.2.1)))), ((cell_far (p := ⟨gb734, _, none⟩) (by first | exact Kd.own_blk (Kd.R_ne HO_3.out BK734.out (by decide)) | (rw [add_block]; exact Kd.own_blk (Kd.R_ne HO_3.out BK734.out (by decide))) | (show (Addr.add _ _).block ≠ _; rw [add_block]; exact Kd.own_blk (Kd.R_ne HO_3.out BK734.out (by decide))) | (dsimp only; exact Kd.own_blk (Kd.R_ne HO_3.out BK734.out (by decide)))) _).trans (((cell_far (p := ⟨gb734, _, none⟩) (by first | exact Kd.own_blk (Kd.R_ne HO_3.out BK734.out (by decide)) | (rw [add_block]; exact Kd.own_blk (Kd.R_ne HO_3.out BK734.out (by decide))) | (show (Addr.add _ _).block ≠ _; rw [add_block]; exact Kd.own_blk (Kd.R_ne HO_3.out BK734.out (by decide))) | (dsimp only; exact Kd.own_blk (Kd.R_ne HO_3.out BK734.out (by decide)))) _).trans (hHeld.2.2.1)))), ((cell_far (p := ⟨gb734, _, none⟩) (by first | exact Kd.own_blk (Kd.R_ne HO_3.out BK734.out (by decide)) | (rw [add_block]; exact Kd.own_blk (Kd.R_ne HO_3.out BK734.out (by decide))) | (show (Addr.add _ _).block ≠ _; rw [add_block]; exact Kd.own_blk (Kd.R_ne HO_3.out BK734.out (by decide))) | (dsimp only; exact Kd.own_blk (Kd.R_ne HO_3.out BK734.out (by decide)))) _).trans (((cell_far (p := ⟨gb734, _, none⟩) (by first | exact Kd.own_blk (Kd.R_ne HO_3.out BK734.out (by decide)) | (rw [add_block]; exact Kd.own_blk (Kd.R_ne HO_3.out BK734.out (by decide))) | (show (Addr.add _ _).block ≠ _; rw [add_block]; exact Kd.own_blk (Kd.R_ne HO_3.out BK734.out (by decide))) | (dsimp only; exact Kd.own_blk (Kd.R_ne HO_3.out BK734.out (by decide)))) _).trans (hHeld.2.2.2))))⟩ (fun hHeld => ?_)
   clear hK K
   refine pure_ (i := 15) (N := some 24) (v := ?_) (a' := ?_) #[true, true, true, true, true, true, true, true, true, true, true, true, true, true, true, true] rfl rfl (any_of HT_.out (by kernel_rfl)) (fun _ _ _ h => h) (Or.inl ⟨by rfl, ?_⟩) ?_ ?_
   rotate_left
   · intro w'
     go_simp
     with_reducible rfl
   rotate_left
   · simp only [Act.put, s1, s2, s3, i64_w, i32_w]
     rfl
   refine done_ (done_of HT_.out (by kernel_rfl)) ?_
   go_upto_region 47 with (first | ((with_reducible refine gate_dst (N := 26) rfl ?_); refine box_event ?hg (N := 26) ?hd (cs := #[.string (⟨#[]⟩ : ByteArray), .int .i64 0]) (t := 27) ?hr ?_; (case hd => rfl); (case hg => rfl); (case hr => first | (go_simp; done) | (go_simp; rfl)); intro gb735 hg w167 hbox hb; have n0_ := ak (Kd.R_below (ur <| (Kd.R_mono (Kd.R_far (p := ⟨gb734, 1, none⟩) (Kd.R_far (p := ⟨gb734, 0, none⟩) (Kd.R_types HO_3.out BK734.out (by decide)) (fun _ hk => hk.2) (.string t731)) (fun _ hk => hk.2) (.int .i64 t732)) (fun _ h_ => h_.1))) hb); have n1_ := ak (Kd.R_below (ur <| (Kd.R_mono (Kd.R_far (p := ⟨gb734, 1, none⟩) (Kd.R_far (p := ⟨gb734, 0, none⟩) (Kd.R_types HO_7.out BK734.out (by decide)) (fun _ hk => hk.2) (.string t731)) (fun _ hk => hk.2) (.int .i64 t732)) (fun _ h_ => h_.1))) hb); have n2_ := ak (blk_below (g := gb661) (o := .cells #[.slice (some ad673) l0_0.length c0_0, .slice A0_1 l0_1.length c0_1] 25 (0, 0)) (by (with_reducible repeat (first | refine blk_drewN ?_ _ | refine blk_drew ?_ | refine blk_alloc ?_ _)); refine blk_far ?_ NB661_734.out _; (with_reducible repeat (first | refine blk_drewN ?_ _ | refine blk_drew ?_ | refine blk_alloc ?_ _)); refine blk_far ?_ NB661_734.out _; (with_reducible repeat (first | refine blk_drewN ?_ _ | refine blk_drew ?_ | refine blk_alloc ?_ _)); exact BK661.out) hb); have n3_ := ak (blk_below (g := gb674) (o := .cells #[.string ((rd_T27 l0_0 x4_2).f0), .int .i64 ((rd_T27 l0_0 x4_2).f1)] 27 (0, 0)) (by (with_reducible repeat (first | refine blk_drewN ?_ _ | refine blk_drew ?_ | refine blk_alloc ?_ _)); refine blk_far ?_ NB674_734.out _; (with_reducible repeat (first | refine blk_drewN ?_ _ | refine blk_drew ?_ | refine blk_alloc ?_ _)); refine blk_far ?_ NB674_734.out _; (with_reducible repeat (first | refine blk_drewN ?_ _ | refine blk_drew ?_ | refine blk_alloc ?_ _)); exact BK674.out) hb); have n4_ := ak (blk_below (g := gb694) (o := .cells #[.string t691, .int .i64 t692] 27 (0, 0)) (by (with_reducible repeat (first | refine blk_drewN ?_ _ | refine blk_drew ?_ | refine blk_alloc ?_ _)); refine blk_far ?_ NB694_734.out _; (with_reducible repeat (first | refine blk_drewN ?_ _ | refine blk_drew ?_ | refine blk_alloc ?_ _)); refine blk_far ?_ NB694_734.out _; (with_reducible repeat (first | refine blk_drewN ?_ _ | refine blk_drew ?_ | refine blk_alloc ?_ _)); exact BK694.out) hb); have n5_ := ak (blk_below (g := gb695) (o := .cells #[.string x696000_95, .int .i64 x696001_95] 27 (0, 0)) (by (with_reducible repeat (first | refine blk_drewN ?_ _ | refine blk_drew ?_ | refine blk_alloc ?_ _)); refine blk_far ?_ NB695_734.out _; (with_reducible repeat (first | refine blk_drewN ?_ _ | refine blk_drew ?_ | refine blk_alloc ?_ _)); refine blk_far ?_ NB695_734.out _; (with_reducible repeat (first | refine blk_drewN ?_ _ | refine blk_drew ?_ | refine blk_alloc ?_ _)); exact BK695.out) hb); have n6_ := ak (blk_below (g := gb734) (o := .cells #[.string t731, .int .i64 t732] 27 (0, 0)) (by (with_reducible repeat (first | refine blk_drewN ?_ _ | refine blk_drew ?_ | refine blk_alloc ?_ _)); refine blk_put (cs := #[.string t731, .int .i64 0]) ?_ 1 _ rfl; (with_reducible repeat (first | refine blk_drewN ?_ _ | refine blk_drew ?_ | refine blk_alloc ?_ _)); refine blk_put (cs := #[.string (⟨#[]⟩ : ByteArray), .int .i64 0]) ?_ 0 _ rfl; (with_reducible repeat (first | refine blk_drewN ?_ _ | refine blk_drew ?_ | refine blk_alloc ?_ _)); exact BK734.out) hb); have n7_ := ak (below_step (by repeat with_reducible first | exact HB.out | apply b1 | apply b2 | apply b3 | refine b4 ?_ GE661.out | refine b4 ?_ GE674.out | refine b4 ?_ GE694.out | refine b4 ?_ GE695.out | refine b4 ?_ GE734.out) hb); have n8_ := ak (hbox); have n9_ := ak ((by rw [hg]; exact (below_size (by repeat with_reducible first | exact HB.out | apply b1 | apply b2 | apply b3 | refine b4 ?_ GE661.out | refine b4 ?_ GE674.out | refine b4 ?_ GE694.out | refine b4 ?_ GE695.out | refine b4 ?_ GE734.out)) : w.heap.size ≤ gb735)); have n10_ := ak ((by rw [hg]; exact (below_size (by repeat with_reducible first | exact HB.out | apply b1 | apply b2 | apply b3 | refine b4 ?_ GE661.out | refine b4 ?_ GE674.out | refine b4 ?_ GE694.out | refine b4 ?_ GE695.out | refine b4 ?_ GE734.out)) : w.heap.size ≤ gb735)); have n11_ := ak ((by rw [hg]; exact Nat.ne_of_lt (blk_lt (g := gb661) (o := .cells #[.slice (some ad673) l0_0.length c0_0, .slice A0_1 l0_1.length c0_1] 25 (0, 0)) (by (with_reducible repeat (first | refine blk_drewN ?_ _ | refine blk_drew ?_ | refine blk_alloc ?_ _)); refine blk_far ?_ NB661_734.out _; (with_reducible repeat (first | refine blk_drewN ?_ _ | refine blk_drew ?_ | refine blk_alloc ?_ _)); refine blk_far ?_ NB661_734.out _; (with_reducible repeat (first | refine blk_drewN ?_ _ | refine blk_drew ?_ | refine blk_alloc ?_ _)); exact BK661.out)) : gb661 ≠ gb735)); have n12_ := ak ((by rw [hg]; exact Nat.ne_of_gt (blk_lt (g := gb661) (o := .cells #[.slice (some ad673) l0_0.length c0_0, .slice A0_1 l0_1.length c0_1] 25 (0, 0)) (by (with_reducible repeat (first | refine blk_drewN ?_ _ | refine blk_drew ?_ | refine blk_alloc ?_ _)); refine blk_far ?_ NB661_734.out _; (with_reducible repeat (first | refine blk_drewN ?_ _ | refine blk_drew ?_ | refine blk_alloc ?_ _)); refine blk_far ?_ NB661_734.out _; (with_reducible repeat (first | refine blk_drewN ?_ _ | refine blk_drew ?_ | refine blk_alloc ?_ _)); exact BK661.out)) : gb735 ≠ gb661)); have n13_ := ak ((by rw [hg]; exact Nat.ne_of_lt (blk_lt (g := gb674) (o := .cells #[.string ((rd_T27 l0_0 x4_2).f0), .int .i64 ((rd_T27 l0_0 x4_2).f1)] 27 (0, 0)) (by (with_reducible repeat (first | refine blk_drewN ?_ _ | refine blk_drew ?_ | refine blk_alloc ?_ _)); refine blk_far ?_ NB674_734.out _; (with_reducible repeat (first | refine blk_drewN ?_ _ | refine blk_drew ?_ | refine blk_alloc ?_ _)); refine blk_far ?_ NB674_734.out _; (with_reducible repeat (first | refine blk_drewN ?_ _ | refine blk_drew ?_ | refine blk_alloc ?_ _)); exact BK674.out)) : gb674 ≠ gb735)); have n14_ := ak ((by rw [hg]; exact Nat.ne_of_gt (blk_lt (g := gb674) (o := .cells #[.string ((rd_T27 l0_0 x4_2).f0), .int .i64 ((rd_T27 l0_0 x4_2).f1)] 27 (0, 0)) (by (with_reducible repeat (first | refine blk_drewN ?_ _ | refine blk_drew ?_ | refine blk_alloc ?_ _)); refine blk_far ?_ NB674_734.out _; (with_reducible repeat (first | refine blk_drewN ?_ _ | refine blk_drew ?_ | refine blk_alloc ?_ _)); refine blk_far ?_ NB674_734.out _; (with_reducible repeat (first | refine blk_drewN ?_ _ | refine blk_drew ?_ | refine blk_alloc ?_ _)); exact BK674.out)) : gb735 ≠ gb674)); have n15_ := ak ((by rw [hg]; exact Nat.ne_of_lt (blk_lt (g := gb694) (o := .cells #[.string t691, .int .i64 t692] 27 (0, 0)) (by (with_reducible repeat (first | refine blk_drewN ?_ _ | refine blk_drew ?_ | refine blk_alloc ?_ _)); refine blk_far ?_ NB694_734.out _; (with_reducible repeat (first | refine blk_drewN ?_ _ | refine blk_drew ?_ | refine blk_alloc ?_ _)); refine blk_far ?_ NB694_734.out _; (with_reducible repeat (first | refine blk_drewN ?_ _ | refine blk_drew ?_ | refine blk_alloc ?_ _)); exact BK694.out)) : gb694 ≠ gb735)); have n16_ := ak ((by rw [hg]; exact Nat.ne_of_gt (blk_lt (g := gb694) (o := .cells #[.string t691, .int .i64 t692] 27 (0, 0)) (by (with_reducible repeat (first | refine blk_drewN ?_ _ | refine blk_drew ?_ | refine blk_alloc ?_ _)); refine blk_far ?_ NB694_734.out _; (with_reducible repeat (first | refine blk_drewN ?_ _ | refine blk_drew ?_ | refine blk_alloc ?_ _)); refine blk_far ?_ NB694_734.out _; (with_reducible repeat (first | refine blk_drewN ?_ _ | refine blk_drew ?_ | refine blk_alloc ?_ _)); exact BK694.out)) : gb735 ≠ gb694)); have n17_ := ak ((by rw [hg]; exact Nat.ne_of_lt (blk_lt (g := gb695) (o := .cells #[.string x696000_95, .int .i64 x696001_95] 27 (0, 0)) (by (with_reducible repeat (first | refine blk_drewN ?_ _ | refine blk_drew ?_ | refine blk_alloc ?_ _)); refine blk_far ?_ NB695_734.out _; (with_reducible repeat (first | refine blk_drewN ?_ _ | refine blk_drew ?_ | refine blk_alloc ?_ _)); refine blk_far ?_ NB695_734.out _; (with_reducible repeat (first | refine blk_drewN ?_ _ | refine blk_drew ?_ | refine blk_alloc ?_ _)); exact BK695.out)) : gb695 ≠ gb735)); have n18_ := ak ((by rw [hg]; exact Nat.ne_of_gt (blk_lt (g := gb695) (o := .cells #[.string x696000_95, .int .i64 x696001_95] 27 (0, 0)) (by (with_reducible repeat (first | refine blk_drewN ?_ _ | refine blk_drew ?_ | refine blk_alloc ?_ _)); refine blk_far ?_ NB695_734.out _; (with_reducible repeat (first | refine blk_drewN ?_ _ | refine blk_drew ?_ | refine blk_alloc ?_ _)); refine blk_far ?_ NB695_734.out _; (with_reducible repeat (first | refine blk_drewN ?_ _ | refine blk_drew ?_ | refine blk_alloc ?_ _)); exact BK695.out)) : gb735 ≠ gb695)); have n19_ := ak ((by rw [hg]; exact Nat.ne_of_lt (blk_lt (g := gb734) (o := .cells #[.string t731, .int .i64 t732] 27 (0, 0)) (by (with_reducible repeat (first | refine blk_drewN ?_ _ | refine blk_drew ?_ | refine blk_alloc ?_ _)); refine blk_put (cs := #[.string t731, .int .i64 0]) ?_ 1 _ rfl; (with_reducible repeat (first | refine blk_drewN ?_ _ | refine blk_drew ?_ | refine blk_alloc ?_ _)); refine blk_put (cs := #[.string (⟨#[]⟩ : ByteArray), .int .i64 0]) ?_ 0 _ rfl; (with_reducible repeat (first | refine blk_drewN ?_ _ | refine blk_drew ?_ | refine blk_alloc ?_ _)); exact BK734.out)) : gb734 ≠ gb735)); have n20_ := ak ((by rw [hg]; exact Nat.ne_of_gt (blk_lt (g := gb734) (o := .cells #[.string t731, .int .i64 t732] 27 (0, 0)) (by (with_reducible repeat (first | refine blk_drewN ?_ _ | refine blk_drew ?_ | refine blk_alloc ?_ _)); refine blk_put (cs := #[.string t731, .int .i64 0]) ?_ 1 _ rfl; (with_reducible repeat (first | refine blk_drewN ?_ _ | refine blk_drew ?_ | refine blk_alloc ?_ _)); refine blk_put (cs := #[.string (⟨#[]⟩ : ByteArray), .int .i64 0]) ?_ 0 _ rfl; (with_reducible repeat (first | refine blk_drewN ?_ _ | refine blk_drew ?_ | refine blk_alloc ?_ _)); exact BK734.out)) : gb735 ≠ gb734)); clear HO_3; clear HO_7; clear BK661; clear BK674; clear BK694; clear BK695; clear BK734; clear HB; have HO_3 := n0_; have HO_7 := n1_; have BK661 := n2_; have BK674 := n3_; have BK694 := n4_; have BK695 := n5_; have BK734 := n6_; have HB := n7_; have BK735 := n8_; have GW735 := n9_; have GE735 := n10_; have NB661_735 := n11_; have NB735_661 := n12_; have NB674_735 := n13_; have NB735_674 := n14_; have NB694_735 := n15_; have NB735_694 := n16_; have NB695_735 := n17_; have NB735_695 := n18_; have NB734_735 := n19_; have NB735_734 := n20_; clear n0_ n1_ n2_ n3_ n4_ n5_ n6_ n7_ n8_ n9_ n10_ n11_ n12_ n13_ n14_ n15_ n16_ n17_ n18_ n19_ n20_; clear hb hbox hg; have hnb168 := NB735_661.out; have hnc168 := NB661_735.out; have hnb169 := NB735_674.out; have hnc169 := NB674_735.out; have hnb170 := NB735_694.out; have hnc170 := NB694_735.out; have hnb171 := NB735_695.out; have hnc171 := NB695_735.out; have hnb172 := NB735_734.out; have hnc172 := NB734_735.out; have hcz173_0 : w167.cell? ⟨gb735, 0, none⟩ = some (.string (⟨#[]⟩ : ByteArray)) := (blk_cell BK735.out 0).trans rfl; have hcz173_1 : w167.cell? ⟨gb735, 1, none⟩ = some (.int .i64 0) := (blk_cell BK735.out 1).trans rfl; have hfz173_0 := blk_frozen BK735.out 0; have hfz173_1 := blk_frozen BK735.out 1))
   (try simp only [Act.put, s1, s2, s3])
   go_cut [284] from 9999 to 0 (fun v284 wc => ∃ (kq : Nat) (x284_159 : Bool), v284 = .bool x284_159 ∧ Aside0 (herbariumlaw1_BitsExact.j14 kq x3_7 x4_2 t675 x7_30 x8_5 x14_9 t718 t719 x21_140 x22_140 t733 1 x284_159 l0_0 l0_1 ((rd_T27 l0_0 x4_2).f0) ((rd_T27 l0_0 x4_2).f1) t731 t732 (⟨#[]⟩ : ByteArray) 0 = some true) ∧ Aside0 (kq ≤ kj140) ∧ Aside0 (Kd.R (Kd.int .i64) 3 wc w.heap.size (fun _ => True) (.slice (some ad681) x3_7.length co48) x3_7) ∧ Aside0 (Kd.R (Kd.int .u8) 5 wc w.heap.size (fun _ => True) u7 x7_30) ∧ Aside0 (wc.heap[gb661]? = some (.cells #[(.slice (some ad673) l0_0.length c0_0), (.slice A0_1 l0_1.length c0_1)] 25 (0, 0))) ∧ Aside0 (wc.heap[gb674]? = some (.cells #[.string ((rd_T27 l0_0 x4_2).f0), .int .i64 ((rd_T27 l0_0 x4_2).f1)] 27 (0, 0))) ∧ Aside0 (wc.heap[gb694]? = some (.cells #[.string t691, .int .i64 t692] 27 (0, 0))) ∧ Aside0 (wc.heap[gb695]? = some (.cells #[.string x696000_95, .int .i64 x696001_95] 27 (0, 0))) ∧ Aside0 (wc.heap[gb734]? = some (.cells #[.string t731, .int .i64 t732] 27 (0, 0))) ∧ Aside0 (wc.heap[gb735]? = some (.cells #[.string (⟨#[]⟩ : ByteArray), .int .i64 0] 27 (0, 0))) ∧ Aside0 (Below w.heap.size w wc))
   case first =>
     have H := HC160.out
     clear HC160
     by_cases c174 : t675 = true
     rotate_left
     · replace c174 := Bool.eq_false_iff.mpr c174
       subst c174
       have H1 : (herbariumlaw1_BitsExact.j14 kj140 x3_7 x4_2 false x7_30 x8_5 x14_9 t718 t719 x21_140 x22_140 t733 1 false l0_0 l0_1 ((rd_T27 l0_0 x4_2).f0) ((rd_T27 l0_0 x4_2).f1) t731 t732 (⟨#[]⟩ : ByteArray) 0) = some true := by rw [if_neg (show ¬ (false = true) by decide)] at H; exact H
       clear H
       have H := H1
       clear H1
       have H' := ak H
       clear H
       try go_wp2
       have n0_ : Aside0 (Kd.R (Kd.int .i64) 3 ((w167.setCell ⟨gb735, 0, none⟩ (.string (⟨#[]⟩ : ByteArray))).setCell ⟨gb735, 1, none⟩ (.int .i64 0)) w.heap.size (fun _ => True) (.slice (some ad681) x3_7.length co48) x3_7) := ⟨ur <| Kd.R_mono (Kd.R_far (p := ⟨gb735, 1, none⟩) (Kd.R_far (p := ⟨gb735, 0, none⟩) (Kd.R_types HO_3.out BK735.out (by decide)) (fun _ hk => hk.2) (.string (⟨#[]⟩ : ByteArray))) (fun _ hk => hk.2) (.int .i64 0)) (fun _ hk => trivial)⟩
       have n1_ : Aside0 (Kd.R (Kd.int .u8) 5 ((w167.setCell ⟨gb735, 0, none⟩ (.string (⟨#[]⟩ : ByteArray))).setCell ⟨gb735, 1, none⟩ (.int .i64 0)) w.heap.size (fun _ => True) u7 x7_30) := ⟨ur <| Kd.R_mono (Kd.R_far (p := ⟨gb735, 1, none⟩) (Kd.R_far (p := ⟨gb735, 0, none⟩) (Kd.R_types HO_7.out BK735.out (by decide)) (fun _ hk => hk.2) (.string (⟨#[]⟩ : ByteArray))) (fun _ hk => hk.2) (.int .i64 0)) (fun _ hk => trivial)⟩
       have n2_ : Aside0 (((w167.setCell ⟨gb735, 0, none⟩ (.string (⟨#[]⟩ : ByteArray))).setCell ⟨gb735, 1, none⟩ (.int .i64 0)).heap[gb661]? = some (.cells #[.slice (some ad673) l0_0.length c0_0, .slice A0_1 l0_1.length c0_1] 25 (0, 0))) := ⟨by (with_reducible repeat (first | refine blk_drewN ?_ _ | refine blk_drew ?_ | refine blk_alloc ?_ _)); refine blk_far ?_ NB661_735.out _; (with_reducible repeat (first | refine blk_drewN ?_ _ | refine blk_drew ?_ | refine blk_alloc ?_ _)); refine blk_far ?_ NB661_735.out _; (with_reducible repeat (first | refine blk_drewN ?_ _ | refine blk_drew ?_ | refine blk_alloc ?_ _)); exact BK661.out⟩
       have n3_ : Aside0 (((w167.setCell ⟨gb735, 0, none⟩ (.string (⟨#[]⟩ : ByteArray))).setCell ⟨gb735, 1, none⟩ (.int .i64 0)).heap[gb674]? = some (.cells #[.string ((rd_T27 l0_0 x4_2).f0), .int .i64 ((rd_T27 l0_0 x4_2).f1)] 27 (0, 0))) := ⟨by (with_reducible repeat (first | refine blk_drewN ?_ _ | refine blk_drew ?_ | refine blk_alloc ?_ _)); refine blk_far ?_ NB674_735.out _; (with_reducible repeat (first | refine blk_drewN ?_ _ | refine blk_drew ?_ | refine blk_alloc ?_ _)); refine blk_far ?_ NB674_735.out _; (with_reducible repeat (first | refine blk_drewN ?_ _ | refine blk_drew ?_ | refine blk_alloc ?_ _)); exact BK674.out⟩
       have n4_ : Aside0 (((w167.setCell ⟨gb735, 0, none⟩ (.string (⟨#[]⟩ : ByteArray))).setCell ⟨gb735, 1, none⟩ (.int .i64 0)).heap[gb694]? = some (.cells #[.string t691, .int .i64 t692] 27 (0, 0))) := ⟨by (with_reducible repeat (first | refine blk_drewN ?_ _ | refine blk_drew ?_ | refine blk_alloc ?_ _)); refine blk_far ?_ NB694_735.out _; (with_reducible repeat (first | refine blk_drewN ?_ _ | refine blk_drew ?_ | refine blk_alloc ?_ _)); refine blk_far ?_ NB694_735.out _; (with_reducible repeat (first | refine blk_drewN ?_ _ | refine blk_drew ?_ | refine blk_alloc ?_ _)); exact BK694.out⟩
       have n5_ : Aside0 (((w167.setCell ⟨gb735, 0, none⟩ (.string (⟨#[]⟩ : ByteArray))).setCell ⟨gb735, 1, none⟩ (.int .i64 0)).heap[gb695]? = some (.cells #[.string x696000_95, .int .i64 x696001_95] 27 (0, 0))) := ⟨by (with_reducible repeat (first | refine blk_drewN ?_ _ | refine blk_drew ?_ | refine blk_alloc ?_ _)); refine blk_far ?_ NB695_735.out _; (with_reducible repeat (first | refine blk_drewN ?_ _ | refine blk_drew ?_ | refine blk_alloc ?_ _)); refine blk_far ?_ NB695_735.out _; (with_reducible repeat (first | refine blk_drewN ?_ _ | refine blk_drew ?_ | refine blk_alloc ?_ _)); exact BK695.out⟩
       have n6_ : Aside0 (((w167.setCell ⟨gb735, 0, none⟩ (.string (⟨#[]⟩ : ByteArray))).setCell ⟨gb735, 1, none⟩ (.int .i64 0)).heap[gb734]? = some (.cells #[.string t731, .int .i64 t732] 27 (0, 0))) := ⟨by (with_reducible repeat (first | refine blk_drewN ?_ _ | refine blk_drew ?_ | refine blk_alloc ?_ _)); refine blk_far ?_ NB734_735.out _; (with_reducible repeat (first | refine blk_drewN ?_ _ | refine blk_drew ?_ | refine blk_alloc ?_ _)); refine blk_far ?_ NB734_735.out _; (with_reducible repeat (first | refine blk_drewN ?_ _ | refine blk_drew ?_ | refine blk_alloc ?_ _)); exact BK734.out⟩
       have n7_ : Aside0 (((w167.setCell ⟨gb735, 0, none⟩ (.string (⟨#[]⟩ : ByteArray))).setCell ⟨gb735, 1, none⟩ (.int .i64 0)).heap[gb735]? = some (.cells #[.string (⟨#[]⟩ : ByteArray), .int .i64 0] 27 (0, 0))) := ⟨by (with_reducible repeat (first | refine blk_drewN ?_ _ | refine blk_drew ?_ | refine blk_alloc ?_ _)); refine blk_put (cs := #[.string (⟨#[]⟩ : ByteArray), .int .i64 0]) ?_ 1 _ rfl; (with_reducible repeat (first | refine blk_drewN ?_ _ | refine blk_drew ?_ | refine blk_alloc ?_ _)); refine blk_put (cs := #[.string (⟨#[]⟩ : ByteArray), .int .i64 0]) ?_ 0 _ rfl; (with_reducible repeat (first | refine blk_drewN ?_ _ | refine blk_drew ?_ | refine blk_alloc ?_ _)); exact BK735.out⟩
       have n8_ : Aside0 (Below w.heap.size w ((w167.setCell ⟨gb735, 0, none⟩ (.string (⟨#[]⟩ : ByteArray))).setCell ⟨gb735, 1, none⟩ (.int .i64 0))) := ⟨by repeat with_reducible first | exact HB.out | apply b1 | apply b2 | apply b3 | refine b4 ?_ GE661.out | refine b4 ?_ GE674.out | refine b4 ?_ GE694.out | refine b4 ?_ GE695.out | refine b4 ?_ GE734.out | refine b4 ?_ GE735.out⟩
       (try clear HO_3)
       (try clear HO_7)
       (try clear BK661)
       (try clear BK674)
       (try clear BK694)
       (try clear BK695)
       (try clear BK734)
       (try clear BK735)
       (try clear HB)
       generalize ((w167.setCell ⟨gb735, 0, none⟩ (.string (⟨#[]⟩ : ByteArray))).setCell ⟨gb735, 1, none⟩ (.int .i64 0)) = w183 at n0_ n1_ n2_ n3_ n4_ n5_ n6_ n7_ n8_ ⊢
       have HO_3 := n0_
       have HO_7 := n1_
       have BK661 := n2_
       have BK674 := n3_
       have BK694 := n4_
       have BK695 := n5_
       have BK734 := n6_
       have BK735 := n7_
       have HB := n8_
       clear n0_ n1_ n2_ n3_ n4_ n5_ n6_ n7_ n8_
       have n0_ := ak (Kd.R_drew HO_3.out)
       have n1_ := ak (Kd.R_drew HO_7.out)
       have n2_ := ak (blk_drew BK661.out)
       have n3_ := ak (blk_drew BK674.out)
       have n4_ := ak (blk_drew BK694.out)
       have n5_ := ak (blk_drew BK695.out)
       have n6_ := ak (blk_drew BK734.out)
       have n7_ := ak (blk_drew BK735.out)
       have n8_ := ak (below_drew1 HB.out)
       clear HO_3
       clear HO_7
       clear BK661
       clear BK674
       clear BK694
       clear BK695
       clear BK734
       clear BK735
       clear HB
       have HO_3 := n0_
       have HO_7 := n1_
       have BK661 := n2_
       have BK674 := n3_
       have BK694 := n4_
       have BK695 := n5_
       have BK734 := n6_
       have BK735 := n7_
       have HB := n8_
       clear n0_ n1_ n2_ n3_ n4_ n5_ n6_ n7_ n8_
       refine start_ (n := 28) (S := fun w' => True) (ds := []) #[false, false, false, false, false, false, false, false, false, false, false, false, false, false, false, false, false, false, false, false, false, false, false, false, false, false, false, false] (by kernel_rfl) rfl rfl trivial (fun hHeld => ?_); refine with_tabW herbariumlaw1_BitsExact.tab47 herbariumlaw1_BitsExact.bits47 (fun HT_ HW_ => ?_)
       generalize w183.drew = w184 at HO_3 HO_7 BK661 BK674 BK694 BK695 BK734 BK735 HB hHeld ⊢
       refine pure_ (i := 0) (N := some 257) (v := ?_) (a' := ?_) #[true, false, false, false, false, false, false, false, false, false, false, false, false, false, false, false, false, false, false, false, false, false, false, false, false, false, false, false] rfl rfl (any_of HT_.out (by kernel_rfl)) (fun _ _ _ h => h) (Or.inl ⟨by rfl, ?_⟩) ?_ ?_
       rotate_left
       · intro w'
         go_simp
         with_reducible rfl
       rotate_left
       · simp only [Act.put, s1, s2, s3, i64_w, i32_w]
         rfl
       refine pure_ (i := 1) (N := some 258) (v := ?_) (a' := ?_) #[true, true, false, false, false, false, false, false, false, false, false, false, false, false, false, false, false, false, false, false, false, false, false, false, false, false, false, false] rfl rfl (any_of HT_.out (by kernel_rfl)) (fun _ _ _ h => h) (Or.inl ⟨by rfl, ?_⟩) ?_ ?_
       rotate_left
       · intro w'
         go_simp
         with_reducible rfl
       rotate_left
       · simp only [Act.put, s1, s2, s3, i64_w, i32_w]
         rfl
       refine pure_ (i := 2) (N := some 259) (v := undef) (a' := ?_) #[true, true, true, false, false, false, false, false, false, false, false, false, false, false, false, false, false, false, false, false, false, false, false, false, false, false, false, false] rfl rfl (any_of HT_.out (by kernel_rfl)) (fun _ _ _ h => h) (Or.inr ⟨by rfl, rfl⟩) ?_ ?_
       rotate_left
       · simp only [Act.put, s1, s2, s3, i64_w, i32_w]
         rfl
       refine pure_ (i := 3) (N := some 260) (v := undef) (a' := ?_) #[true, true, true, true, false, false, false, false, false, false, false, false, false, false, false, false, false, false, false, false, false, false, false, false, false, false, false, false] rfl rfl (any_of HT_.out (by kernel_rfl)) (fun _ _ _ h => h) (Or.inr ⟨by rfl, rfl⟩) ?_ ?_
       rotate_left
       · simp only [Act.put, s1, s2, s3, i64_w, i32_w]
         rfl
       refine pure_ (i := 4) (N := some 261) (v := undef) (a' := ?_) #[true, true, true, true, true, false, false, false, false, false, false, false, false, false, false, false, false, false, false, false, false, false, false, false, false, false, false, false] rfl rfl (any_of HT_.out (by kernel_rfl)) (fun _ _ _ h => h) (Or.inr ⟨by rfl, rfl⟩) ?_ ?_
       rotate_left
       · simp only [Act.put, s1, s2, s3, i64_w, i32_w]
         rfl
       refine pure_ (i := 5) (N := some 262) (v := undef) (a' := ?_) #[true, true, true, true, true, true, false, false, false, false, false, false, false, false, false, false, false, false, false, false, false, false, false, false, false, false, false, false] rfl rfl (any_of HT_.out (by kernel_rfl)) (fun _ _ _ h => h) (Or.inr ⟨by rfl, rfl⟩) ?_ ?_
       rotate_left
       · simp only [Act.put, s1, s2, s3, i64_w, i32_w]
         rfl
       refine pure_ (i := 6) (N := some 263) (v := undef) (a' := ?_) #[true, true, true, true, true, true, true, false, false, false, false, false, false, false, false, false, false, false, false, false, false, false, false, false, false, false, false, false] rfl rfl (any_of HT_.out (by kernel_rfl)) (fun _ _ _ h => h) (Or.inr ⟨by rfl, rfl⟩) ?_ ?_
       rotate_left
       · simp only [Act.put, s1, s2, s3, i64_w, i32_w]
         rfl
       refine pure_ (i := 7) (N := some 264) (v := ?_) (a' := ?_) #[true, true, true, true, true, true, true, true, false, false, false, false, false, false, false, false, false, false, false, false, false, false, false, false, false, false, false, false] rfl rfl (any_of HT_.out (by kernel_rfl)) (fun _ _ _ h => h) (Or.inl ⟨by rfl, ?_⟩) ?_ ?_
       rotate_left
       · intro w'
         go_simp
         with_reducible rfl
       rotate_left
       · simp only [Act.put, s1, s2, s3, i64_w, i32_w]
         rfl
       refine pure_ (i := 8) (N := some 265) (v := ?_) (a' := ?_) #[true, true, true, true, true, true, true, true, true, false, false, false, false, false, false, false, false, false, false, false, false, false, false, false, false, false, false, false] rfl rfl (any_of HT_.out (by kernel_rfl)) (fun _ _ _ h => h) (Or.inl ⟨by rfl, ?_⟩) ?_ ?_
       rotate_left
       · intro w'
         go_simp
         with_reducible rfl
       rotate_left
       · simp only [Act.put, s1, s2, s3, i64_w, i32_w]
         rfl
       refine pure_ (i := 9) (N := some 266) (v := undef) (a' := ?_) #[true, true, true, true, true, true, true, true, true, true, false, false, false, false, false, false, false, false, false, false, false, false, false, false, false, false, false, false] rfl rfl (any_of HT_.out (by kernel_rfl)) (fun _ _ _ h => h) (Or.inr ⟨by rfl, rfl⟩) ?_ ?_
       rotate_left
       · simp only [Act.put, s1, s2, s3, i64_w, i32_w]
         rfl
       refine pure_ (i := 10) (N := some 267) (v := undef) (a' := ?_) #[true, true, true, true, true, true, true, true, true, true, true, false, false, false, false, false, false, false, false, false, false, false, false, false, false, false, false, false] rfl rfl (any_of HT_.out (by kernel_rfl)) (fun _ _ _ h => h) (Or.inr ⟨by rfl, rfl⟩) ?_ ?_
       rotate_left
       · simp only [Act.put, s1, s2, s3, i64_w, i32_w]
         rfl
       refine pure_ (i := 11) (N := some 268) (v := undef) (a' := ?_) #[true, true, true, true, true, true, true, true, true, true, true, true, false, false, false, false, false, false, false, false, false, false, false, false, false, false, false, false] rfl rfl (any_of HT_.out (by kernel_rfl)) (fun _ _ _ h => h) (Or.inr ⟨by rfl, rfl⟩) ?_ ?_
       rotate_left
       · simp only [Act.put, s1, s2, s3, i64_w, i32_w]
         rfl
       refine pure_ (i := 12) (N := some 269) (v := undef) (a' := ?_) #[true, true, true, true, true, true, true, true, true, true, true, true, true, false, false, false, false, false, false, false, false, false, false, false, false, false, false, false] rfl rfl (any_of HT_.out (by kernel_rfl)) (fun _ _ _ h => h) (Or.inr ⟨by rfl, rfl⟩) ?_ ?_
       rotate_left
       · simp only [Act.put, s1, s2, s3, i64_w, i32_w]
         rfl
       refine pure_ (i := 13) (N := some 270) (v := undef) (a' := ?_) #[true, true, true, true, true, true, true, true, true, true, true, true, true, true, false, false, false, false, false, false, false, false, false, false, false, false, false, false] rfl rfl (any_of HT_.out (by kernel_rfl)) (fun _ _ _ h => h) (Or.inr ⟨by rfl, rfl⟩) ?_ ?_
       rotate_left
       · simp only [Act.put, s1, s2, s3, i64_w, i32_w]
         rfl
       refine pure_ (i := 14) (N := some 271) (v := undef) (a' := ?_) #[true, true, true, true, true, true, true, true, true, true, true, true, true, true, true, false, false, false, false, false, false, false, false, false, false, false, false, false] rfl rfl (any_of HT_.out (by kernel_rfl)) (fun _ _ _ h => h) (Or.inr ⟨by rfl, rfl⟩) ?_ ?_
       rotate_left
       · simp only [Act.put, s1, s2, s3, i64_w, i32_w]
         rfl
       refine pure_ (i := 15) (N := some 272) (v := undef) (a' := ?_) #[true, true, true, true, true, true, true, true, true, true, true, true, true, true, true, true, false, false, false, false, false, false, false, false, false, false, false, false] rfl rfl (any_of HT_.out (by kernel_rfl)) (fun _ _ _ h => h) (Or.inr ⟨by rfl, rfl⟩) ?_ ?_
       rotate_left
       · simp only [Act.put, s1, s2, s3, i64_w, i32_w]
         rfl
       refine pure_ (i := 16) (N := some 273) (v := undef) (a' := ?_) #[true, true, true, true, true, true, true, true, true, true, true, true, true, true, true, true, true, false, false, false, false, false, false, false, false, false, false, false] rfl rfl (any_of HT_.out (by kernel_rfl)) (fun _ _ _ h => h) (Or.inr ⟨by rfl, rfl⟩) ?_ ?_
       rotate_left
       · simp only [Act.put, s1, s2, s3, i64_w, i32_w]
         rfl
       refine pure_ (i := 17) (N := some 274) (v := undef) (a' := ?_) #[true, true, true, true, true, true, true, true, true, true, true, true, true, true, true, true, true, true, false, false, false, false, false, false, false, false, false, false] rfl rfl (any_of HT_.out (by kernel_rfl)) (fun _ _ _ h => h) (Or.inr ⟨by rfl, rfl⟩) ?_ ?_
       rotate_left
       · simp only [Act.put, s1, s2, s3, i64_w, i32_w]
         rfl
       refine pure_ (i := 18) (N := some 275) (v := ?_) (a' := ?_) #[true, true, true, true, true, true, true, true, true, true, true, true, true, true, true, true, true, true, true, false, false, false, false, false, false, false, false, false] rfl rfl (any_of HT_.out (by kernel_rfl)) (fun _ _ _ h => h) (Or.inl ⟨by rfl, ?_⟩) ?_ ?_
       rotate_left
       · intro w'
         go_simp
         with_reducible rfl
       rotate_left
       · simp only [Act.put, s1, s2, s3, i64_w, i32_w]
         rfl
       refine pure_ (i := 19) (N := some 276) (v := ?_) (a' := ?_) #[true, true, true, true, true, true, true, true, true, true, true, true, true, true, true, true, true, true, true, true, false, false, false, false, false, false, false, false] rfl rfl (any_of HT_.out (by kernel_rfl)) (fun _ _ _ h => h) (Or.inl ⟨by rfl, ?_⟩) ?_ ?_
       rotate_left
       · intro w'
         go_simp
         with_reducible rfl
       rotate_left
       · simp only [Act.put, s1, s2, s3, i64_w, i32_w]
         rfl
       refine pure_ (i := 20) (N := some 277) (v := undef) (a' := ?_) #[true, true, true, true, true, true, true, true, true, true, true, true, true, true, true, true, true, true, true, true, true, false, false, false, false, false, false, false] rfl rfl (any_of HT_.out (by kernel_rfl)) (fun _ _ _ h => h) (Or.inr ⟨by rfl, rfl⟩) ?_ ?_
       rotate_left
       · simp only [Act.put, s1, s2, s3, i64_w, i32_w]
         rfl
       refine pure_ (i := 21) (N := some 278) (v := undef) (a' := ?_) #[true, true, true, true, true, true, true, true, true, true, true, true, true, true, true, true, true, true, true, true, true, true, false, false, false, false, false, false] rfl rfl (any_of HT_.out (by kernel_rfl)) (fun _ _ _ h => h) (Or.inr ⟨by rfl, rfl⟩) ?_ ?_
       rotate_left
       · simp only [Act.put, s1, s2, s3, i64_w, i32_w]
         rfl
       refine pure_ (i := 22) (N := some 279) (v := undef) (a' := ?_) #[true, true, true, true, true, true, true, true, true, true, true, true, true, true, true, true, true, true, true, true, true, true, true, false, false, false, false, false] rfl rfl (any_of HT_.out (by kernel_rfl)) (fun _ _ _ h => h) (Or.inr ⟨by rfl, rfl⟩) ?_ ?_
       rotate_left
       · simp only [Act.put, s1, s2, s3, i64_w, i32_w]
         rfl
       refine pure_ (i := 23) (N := some 280) (v := undef) (a' := ?_) #[true, true, true, true, true, true, true, true, true, true, true, true, true, true, true, true, true, true, true, true, true, true, true, true, false, false, false, false] rfl rfl (any_of HT_.out (by kernel_rfl)) (fun _ _ _ h => h) (Or.inr ⟨by rfl, rfl⟩) ?_ ?_
       rotate_left
       · simp only [Act.put, s1, s2, s3, i64_w, i32_w]
         rfl
       refine pure_ (i := 24) (N := some 281) (v := undef) (a' := ?_) #[true, true, true, true, true, true, true, true, true, true, true, true, true, true, true, true, true, true, true, true, true, true, true, true, true, false, false, false] rfl rfl (any_of HT_.out (by kernel_rfl)) (fun _ _ _ h => h) (Or.inr ⟨by rfl, rfl⟩) ?_ ?_
       rotate_left
       · simp only [Act.put, s1, s2, s3, i64_w, i32_w]
         rfl
       refine pure_ (i := 25) (N := some 282) (v := undef) (a' := ?_) #[true, true, true, true, true, true, true, true, true, true, true, true, true, true, true, true, true, true, true, true, true, true, true, true, true, true, false, false] rfl rfl (any_of HT_.out (by kernel_rfl)) (fun _ _ _ h => h) (Or.inr ⟨by rfl, rfl⟩) ?_ ?_
       rotate_left
       · simp only [Act.put, s1, s2, s3, i64_w, i32_w]
         rfl
       refine pure_ (i := 26) (N := some 283) (v := undef) (a' := ?_) #[true, true, true, true, true, true, true, true, true, true, true, true, true, true, true, true, true, true, true, true, true, true, true, true, true, true, true, false] rfl rfl (any_of HT_.out (by kernel_rfl)) (fun _ _ _ h => h) (Or.inr ⟨by rfl, rfl⟩) ?_ ?_
       rotate_left
       · simp only [Act.put, s1, s2, s3, i64_w, i32_w]
         rfl
       refine pure_ (i := 27) (N := some 284) (v := ?_) (a' := ?_) #[true, true, true, true, true, true, true, true, true, true, true, true, true, true, true, true, true, true, true, true, true, true, true, true, true, true, true, true] rfl rfl (any_of HT_.out (by kernel_rfl)) (fun _ _ _ h => h) (Or.inl ⟨by rfl, ?_⟩) ?_ ?_
       rotate_left
       · intro w'
         go_simp
         with_reducible rfl
       rotate_left
       · simp only [Act.put, s1, s2, s3, i64_w, i32_w]
         rfl
       refine done_ (done_of HT_.out (by kernel_rfl)) ?_
       try go_wp2
       go_meet
       case rel => exact ⟨_, (false), (by first | rfl | (simp; done) | (simp [*]; done)), H', ⟨by have := HJ7.out; have := HK2.out; have := HJ19.out; have := HJ30.out; have := HK5.out; have := HJ46.out; have := HJ54.out; have := HJ62.out; have := HK9.out; have := HJ71.out; have := HJ95.out; have := HJ118.out; have := HJ134.out; have := HJ140.out; first | omega | exact Nat.le_refl _⟩, ⟨ur <| HO_3.out⟩, ⟨ur <| HO_7.out⟩, ⟨ub BK661.out⟩, ⟨ub BK674.out⟩, ⟨ub BK694.out⟩, ⟨ub BK695.out⟩, ⟨ub BK734.out⟩, ⟨ub BK735.out⟩, ⟨by repeat with_reducible first | exact HB.out | apply b1 | apply b2 | apply b3 | refine b4 ?_ GE661.out | refine b4 ?_ GE674.out | refine b4 ?_ GE694.out | refine b4 ?_ GE695.out | refine b4 ?_ GE734.out | refine b4 ?_ GE735.out⟩⟩
     subst c174
     have H1 : (if (rd x3_7 x8_5) ≥ 0 then (if (rd x3_7 x8_5) ≤ (rd x3_7 x14_9) then (herbariumlaw1_BitsExact.j14 kj140 x3_7 x4_2 true x7_30 x8_5 x14_9 t718 t719 x21_140 x22_140 t733 1 (decide ((rd x3_7 x14_9) ≤ ((rd_T27 l0_0 x4_2).f1))) l0_0 l0_1 ((rd_T27 l0_0 x4_2).f0) ((rd_T27 l0_0 x4_2).f1) t731 t732 (⟨#[]⟩ : ByteArray) 0) else (herbariumlaw1_BitsExact.j14 kj140 x3_7 x4_2 true x7_30 x8_5 x14_9 t718 t719 x21_140 x22_140 t733 1 false l0_0 l0_1 ((rd_T27 l0_0 x4_2).f0) ((rd_T27 l0_0 x4_2).f1) t731 t732 (⟨#[]⟩ : ByteArray) 0)) else (herbariumlaw1_BitsExact.j14 kj140 x3_7 x4_2 true x7_30 x8_5 x14_9 t718 t719 x21_140 x22_140 t733 1 false l0_0 l0_1 ((rd_T27 l0_0 x4_2).f0) ((rd_T27 l0_0 x4_2).f1) t731 t732 (⟨#[]⟩ : ByteArray) 0)) = some true := by rw [if_pos rfl] at H; exact H
     clear H
     have H := H1
     clear H1
     by_cases c175 : (rd x3_7 x8_5) ≥ 0
     rotate_left
     · rw [if_neg c175] at H
       have c175b0 : decide (0 ≤ (rd x3_7 x8_5)) = false := decide_eq_false c175
       clear c175
       (first | rw [c175b0] | (simp only [i64_w, i32_w]; rw [c175b0]) | skip)
       have H' := ak H
       clear H
       try go_wp2
       have n0_ : Aside0 (Kd.R (Kd.int .i64) 3 ((w167.setCell ⟨gb735, 0, none⟩ (.string (⟨#[]⟩ : ByteArray))).setCell ⟨gb735, 1, none⟩ (.int .i64 0)) w.heap.size (fun _ => True) (.slice (some ad681) x3_7.length co48) x3_7) := ⟨ur <| Kd.R_mono (Kd.R_far (p := ⟨gb735, 1, none⟩) (Kd.R_far (p := ⟨gb735, 0, none⟩) (Kd.R_types HO_3.out BK735.out (by decide)) (fun _ hk => hk.2) (.string (⟨#[]⟩ : ByteArray))) (fun _ hk => hk.2) (.int .i64 0)) (fun _ hk => trivial)⟩
       have n1_ : Aside0 (Kd.R (Kd.int .u8) 5 ((w167.setCell ⟨gb735, 0, none⟩ (.string (⟨#[]⟩ : ByteArray))).setCell ⟨gb735, 1, none⟩ (.int .i64 0)) w.heap.size (fun _ => True) u7 x7_30) := ⟨ur <| Kd.R_mono (Kd.R_far (p := ⟨gb735, 1, none⟩) (Kd.R_far (p := ⟨gb735, 0, none⟩) (Kd.R_types HO_7.out BK735.out (by decide)) (fun _ hk => hk.2) (.string (⟨#[]⟩ : ByteArray))) (fun _ hk => hk.2) (.int .i64 0)) (fun _ hk => trivial)⟩
       have n2_ : Aside0 (((w167.setCell ⟨gb735, 0, none⟩ (.string (⟨#[]⟩ : ByteArray))).setCell ⟨gb735, 1, none⟩ (.int .i64 0)).heap[gb661]? = some (.cells #[.slice (some ad673) l0_0.length c0_0, .slice A0_1 l0_1.length c0_1] 25 (0, 0))) := ⟨by (with_reducible repeat (first | refine blk_drewN ?_ _ | refine blk_drew ?_ | refine blk_alloc ?_ _)); refine blk_far ?_ NB661_735.out _; (with_reducible repeat (first | refine blk_drewN ?_ _ | refine blk_drew ?_ | refine blk_alloc ?_ _)); refine blk_far ?_ NB661_735.out _; (with_reducible repeat (first | refine blk_drewN ?_ _ | refine blk_drew ?_ | refine blk_alloc ?_ _)); exact BK661.out⟩
       have n3_ : Aside0 (((w167.setCell ⟨gb735, 0, none⟩ (.string (⟨#[]⟩ : ByteArray))).setCell ⟨gb735, 1, none⟩ (.int .i64 0)).heap[gb674]? = some (.cells #[.string ((rd_T27 l0_0 x4_2).f0), .int .i64 ((rd_T27 l0_0 x4_2).f1)] 27 (0, 0))) := ⟨by (with_reducible repeat (first | refine blk_drewN ?_ _ | refine blk_drew ?_ | refine blk_alloc ?_ _)); refine blk_far ?_ NB674_735.out _; (with_reducible repeat (first | refine blk_drewN ?_ _ | refine blk_drew ?_ | refine blk_alloc ?_ _)); refine blk_far ?_ NB674_735.out _; (with_reducible repeat (first | refine blk_drewN ?_ _ | refine blk_drew ?_ | refine blk_alloc ?_ _)); exact BK674.out⟩
       have n4_ : Aside0 (((w167.setCell ⟨gb735, 0, none⟩ (.string (⟨#[]⟩ : ByteArray))).setCell ⟨gb735, 1, none⟩ (.int .i64 0)).heap[gb694]? = some (.cells #[.string t691, .int .i64 t692] 27 (0, 0))) := ⟨by (with_reducible repeat (first | refine blk_drewN ?_ _ | refine blk_drew ?_ | refine blk_alloc ?_ _)); refine blk_far ?_ NB694_735.out _; (with_reducible repeat (first | refine blk_drewN ?_ _ | refine blk_drew ?_ | refine blk_alloc ?_ _)); refine blk_far ?_ NB694_735.out _; (with_reducible repeat (first | refine blk_drewN ?_ _ | refine blk_drew ?_ | refine blk_alloc ?_ _)); exact BK694.out⟩
       have n5_ : Aside0 (((w167.setCell ⟨gb735, 0, none⟩ (.string (⟨#[]⟩ : ByteArray))).setCell ⟨gb735, 1, none⟩ (.int .i64 0)).heap[gb695]? = some (.cells #[.string x696000_95, .int .i64 x696001_95] 27 (0, 0))) := ⟨by (with_reducible repeat (first | refine blk_drewN ?_ _ | refine blk_drew ?_ | refine blk_alloc ?_ _)); refine blk_far ?_ NB695_735.out _; (with_reducible repeat (first | refine blk_drewN ?_ _ | refine blk_drew ?_ | refine blk_alloc ?_ _)); refine blk_far ?_ NB695_735.out _; (with_reducible repeat (first | refine blk_drewN ?_ _ | refine blk_drew ?_ | refine blk_alloc ?_ _)); exact BK695.out⟩
       have n6_ : Aside0 (((w167.setCell ⟨gb735, 0, none⟩ (.string (⟨#[]⟩ : ByteArray))).setCell ⟨gb735, 1, none⟩ (.int .i64 0)).heap[gb734]? = some (.cells #[.string t731, .int .i64 t732] 27 (0, 0))) := ⟨by (with_reducible repeat (first | refine blk_drewN ?_ _ | refine blk_drew ?_ | refine blk_alloc ?_ _)); refine blk_far ?_ NB734_735.out _; (with_reducible repeat (first | refine blk_drewN ?_ _ | refine blk_drew ?_ | refine blk_alloc ?_ _)); refine blk_far ?_ NB734_735.out _; (with_reducible repeat (first | refine blk_drewN ?_ _ | refine blk_drew ?_ | refine blk_alloc ?_ _)); exact BK734.out⟩
       have n7_ : Aside0 (((w167.setCell ⟨gb735, 0, none⟩ (.string (⟨#[]⟩ : ByteArray))).setCell ⟨gb735, 1, none⟩ (.int .i64 0)).heap[gb735]? = some (.cells #[.string (⟨#[]⟩ : ByteArray), .int .i64 0] 27 (0, 0))) := ⟨by (with_reducible repeat (first | refine blk_drewN ?_ _ | refine blk_drew ?_ | refine blk_alloc ?_ _)); refine blk_put (cs := #[.string (⟨#[]⟩ : ByteArray), .int .i64 0]) ?_ 1 _ rfl; (with_reducible repeat (first | refine blk_drewN ?_ _ | refine blk_drew ?_ | refine blk_alloc ?_ _)); refine blk_put (cs := #[.string (⟨#[]⟩ : ByteArray), .int .i64 0]) ?_ 0 _ rfl; (with_reducible repeat (first | refine blk_drewN ?_ _ | refine blk_drew ?_ | refine blk_alloc ?_ _)); exact BK735.out⟩
       have n8_ : Aside0 (Below w.heap.size w ((w167.setCell ⟨gb735, 0, none⟩ (.string (⟨#[]⟩ : ByteArray))).setCell ⟨gb735, 1, none⟩ (.int .i64 0))) := ⟨by repeat with_reducible first | exact HB.out | apply b1 | apply b2 | apply b3 | refine b4 ?_ GE661.out | refine b4 ?_ GE674.out | refine b4 ?_ GE694.out | refine b4 ?_ GE695.out | refine b4 ?_ GE734.out | refine b4 ?_ GE735.out⟩
       (try clear HO_3)
       (try clear HO_7)
       (try clear BK661)
       (try clear BK674)
       (try clear BK694)
       (try clear BK695)
       (try clear BK734)
       (try clear BK735)
       (try clear HB)
       generalize ((w167.setCell ⟨gb735, 0, none⟩ (.string (⟨#[]⟩ : ByteArray))).setCell ⟨gb735, 1, none⟩ (.int .i64 0)) = w181 at n0_ n1_ n2_ n3_ n4_ n5_ n6_ n7_ n8_ ⊢
       have HO_3 := n0_
       have HO_7 := n1_
       have BK661 := n2_
       have BK674 := n3_
       have BK694 := n4_
       have BK695 := n5_
       have BK734 := n6_
       have BK735 := n7_
       have HB := n8_
       clear n0_ n1_ n2_ n3_ n4_ n5_ n6_ n7_ n8_
       have n0_ := ak (Kd.R_drew HO_3.out)
       have n1_ := ak (Kd.R_drew HO_7.out)
       have n2_ := ak (blk_drew BK661.out)
       have n3_ := ak (blk_drew BK674.out)
       have n4_ := ak (blk_drew BK694.out)
       have n5_ := ak (blk_drew BK695.out)
       have n6_ := ak (blk_drew BK734.out)
       have n7_ := ak (blk_drew BK735.out)
       have n8_ := ak (below_drew1 HB.out)
       clear HO_3
       clear HO_7
       clear BK661
       clear BK674
       clear BK694
       clear BK695
       clear BK734
       clear BK735
       clear HB
       have HO_3 := n0_
       have HO_7 := n1_
       have BK661 := n2_
       have BK674 := n3_
       have BK694 := n4_
       have BK695 := n5_
       have BK734 := n6_
       have BK735 := n7_
       have HB := n8_
       clear n0_ n1_ n2_ n3_ n4_ n5_ n6_ n7_ n8_
       have p736 : 0 ≤ (x8_5 : Int) := of_decide_eq_true (by first | (with_reducible assumption) | assumption)
       have q736 : x8_5 < (x3_7.length : Int) := of_decide_eq_true (by first | (with_reducible assumption) | assumption)
       obtain ⟨ad736, e736, hx736_0⟩ := Kd.at_int (Kd.R_reads' HO_3.out).2.2 x8_5 p736 q736
       obtain rfl : ad681 = ad736 := (by injection e736)
       replace p736 := eq_true p736
       replace q736 := eq_true q736
       refine start_ (n := 28) (S := fun w' => w'.cell? (ad681.add (x8_5).toNat) = some (.int .i64 (rd x3_7 x8_5))) (ds := []) #[false, false, false, false, false, false, false, false, false, false, false, false, false, false, false, false, false, false, false, false, false, false, false, false, false, false, false, false] (by kernel_rfl) rfl rfl (hx736_0) (fun hHeld => ?_); refine with_tabW herbariumlaw1_BitsExact.tab47 herbariumlaw1_BitsExact.bits47 (fun HT_ HW_ => ?_)
       generalize w181.drew = w182 at HO_3 HO_7 BK661 BK674 BK694 BK695 BK734 BK735 HB hx736_0 hHeld ⊢
       refine pure_ (i := 0) (N := some 257) (v := ?_) (a' := ?_) #[true, false, false, false, false, false, false, false, false, false, false, false, false, false, false, false, false, false, false, false, false, false, false, false, false, false, false, false] rfl rfl (any_of HT_.out (by kernel_rfl)) (fun _ _ _ h => h) (Or.inl ⟨by rfl, ?_⟩) ?_ ?_
       rotate_left
       · intro w'
         go_simp
         with_reducible rfl
       rotate_left
       · simp only [Act.put, s1, s2, s3, i64_w, i32_w]
         rfl
       refine pure_ (i := 1) (N := some 258) (v := ?_) (a' := ?_) #[true, true, false, false, false, false, false, false, false, false, false, false, false, false, false, false, false, false, false, false, false, false, false, false, false, false, false, false] rfl rfl (any_of HT_.out (by kernel_rfl)) (fun _ _ _ h => h) (Or.inl ⟨by rfl, ?_⟩) ?_ ?_
       rotate_left
       · intro w'
         go_simp
         with_reducible rfl
       rotate_left
       · simp only [Act.put, s1, s2, s3, i64_w, i32_w]
         rfl
       refine pure_ (i := 2) (N := some 259) (v := ?_) (a' := ?_) #[true, true, true, false, false, false, false, false, false, false, false, false, false, false, false, false, false, false, false, false, false, false, false, false, false, false, false, false] rfl rfl (any_of HT_.out (by kernel_rfl)) (fun _ _ _ h => h) (Or.inl ⟨by rfl, ?_⟩) ?_ ?_
       rotate_left
       · intro w'
         go_simp
         with_reducible rfl
       rotate_left
       · simp only [Act.put, s1, s2, s3, i64_w, i32_w]
         rfl
       refine pure_ (i := 3) (N := some 260) (v := ?_) (a' := ?_) #[true, true, true, true, false, false, false, false, false, false, false, false, false, false, false, false, false, false, false, false, false, false, false, false, false, false, false, false] rfl rfl (any_of HT_.out (by kernel_rfl)) (fun _ _ _ h => h) (Or.inl ⟨by rfl, ?_⟩) ?_ ?_
       rotate_left
       · intro w'
         go_simp
         with_reducible rfl
       rotate_left
       · simp only [Act.put, s1, s2, s3, i64_w, i32_w]
         rfl
       refine pure_ (i := 4) (N := some 261) (v := ?_) (a' := ?_) #[true, true, true, true, true, false, false, false, false, false, false, false, false, false, false, false, false, false, false, false, false, false, false, false, false, false, false, false] rfl rfl (any_of HT_.out (by kernel_rfl)) (fun _ _ _ h => h) (Or.inl ⟨by rfl, ?_⟩) ?_ ?_
       rotate_left
       · intro w'
         go_simp
         with_reducible rfl
       rotate_left
       · simp only [Act.put, s1, s2, s3, i64_w, i32_w]
         rfl
       refine take_ (i := 5) (N := some 262) (v := ?_) (a' := ?_) #[true, true, true, true, true, true, false, false, false, false, false, false, false, false, false, false, false, false, false, false, false, false, false, false, false, false, false, false] rfl rfl (take_ofW HT_.out HW_.out (by kernel_rfl)) (fun _ _ _ h => h) (Or.inl ⟨by rfl, ?_⟩) hHeld ?_ ?_
       rotate_left
       · intro w' s0
         go_simp
         with_reducible rfl
       rotate_left
       · simp only [Act.put, s1, s2, s3, i64_w, i32_w]
         rfl
       refine pure_ (i := 6) (N := some 263) (v := ?_) (a' := ?_) #[true, true, true, true, true, true, true, false, false, false, false, false, false, false, false, false, false, false, false, false, false, false, false, false, false, false, false, false] rfl rfl (any_of HT_.out (by kernel_rfl)) (fun _ _ _ h => h) (Or.inl ⟨by rfl, ?_⟩) ?_ ?_
       rotate_left
       · intro w'
         go_simp
         with_reducible rfl
       rotate_left
       · simp only [Act.put, s1, s2, s3, i64_w, i32_w]
         rfl
       refine pure_ (i := 7) (N := some 264) (v := ?_) (a' := ?_) #[true, true, true, true, true, true, true, true, false, false, false, false, false, false, false, false, false, false, false, false, false, false, false, false, false, false, false, false] rfl rfl (any_of HT_.out (by kernel_rfl)) (fun _ _ _ h => h) (Or.inl ⟨by rfl, ?_⟩) ?_ ?_
       rotate_left
       · intro w'
         go_simp
         with_reducible rfl
       rotate_left
       · simp only [Act.put, s1, s2, s3, i64_w, i32_w]
         rfl
       refine pure_ (i := 8) (N := some 265) (v := ?_) (a' := ?_) #[true, true, true, true, true, true, true, true, true, false, false, false, false, false, false, false, false, false, false, false, false, false, false, false, false, false, false, false] rfl rfl (any_of HT_.out (by kernel_rfl)) (fun _ _ _ h => h) (Or.inl ⟨by rfl, ?_⟩) ?_ ?_
       rotate_left
       · intro w'
         go_simp
         with_reducible rfl
       rotate_left
       · simp only [Act.put, s1, s2, s3, i64_w, i32_w]
         rfl
       refine pure_ (i := 9) (N := some 266) (v := undef) (a' := ?_) #[true, true, true, true, true, true, true, true, true, true, false, false, false, false, false, false, false, false, false, false, false, false, false, false, false, false, false, false] rfl rfl (any_of HT_.out (by kernel_rfl)) (fun _ _ _ h => h) (Or.inr ⟨by rfl, rfl⟩) ?_ ?_
       rotate_left
       · simp only [Act.put, s1, s2, s3, i64_w, i32_w]
         rfl
       refine pure_ (i := 10) (N := some 267) (v := undef) (a' := ?_) #[true, true, true, true, true, true, true, true, true, true, true, false, false, false, false, false, false, false, false, false, false, false, false, false, false, false, false, false] rfl rfl (any_of HT_.out (by kernel_rfl)) (fun _ _ _ h => h) (Or.inr ⟨by rfl, rfl⟩) ?_ ?_
       rotate_left
       · simp only [Act.put, s1, s2, s3, i64_w, i32_w]
         rfl
       refine pure_ (i := 11) (N := some 268) (v := undef) (a' := ?_) #[true, true, true, true, true, true, true, true, true, true, true, true, false, false, false, false, false, false, false, false, false, false, false, false, false, false, false, false] rfl rfl (any_of HT_.out (by kernel_rfl)) (fun _ _ _ h => h) (Or.inr ⟨by rfl, rfl⟩) ?_ ?_
       rotate_left
       · simp only [Act.put, s1, s2, s3, i64_w, i32_w]
         rfl
       refine pure_ (i := 12) (N := some 269) (v := undef) (a' := ?_) #[true, true, true, true, true, true, true, true, true, true, true, true, true, false, false, false, false, false, false, false, false, false, false, false, false, false, false, false] rfl rfl (any_of HT_.out (by kernel_rfl)) (fun _ _ _ h => h) (Or.inr ⟨by rfl, rfl⟩) ?_ ?_
       rotate_left
       · simp only [Act.put, s1, s2, s3, i64_w, i32_w]
         rfl
       refine pure_ (i := 13) (N := some 270) (v := undef) (a' := ?_) #[true, true, true, true, true, true, true, true, true, true, true, true, true, true, false, false, false, false, false, false, false, false, false, false, false, false, false, false] rfl rfl (any_of HT_.out (by kernel_rfl)) (fun _ _ _ h => h) (Or.inr ⟨by rfl, rfl⟩) ?_ ?_
       rotate_left
       · simp only [Act.put, s1, s2, s3, i64_w, i32_w]
         rfl
       refine pure_ (i := 14) (N := some 271) (v := undef) (a' := ?_) #[true, true, true, true, true, true, true, true, true, true, true, true, true, true, true, false, false, false, false, false, false, false, false, false, false, false, false, false] rfl rfl (any_of HT_.out (by kernel_rfl)) (fun _ _ _ h => h) (Or.inr ⟨by rfl, rfl⟩) ?_ ?_
       rotate_left
       · simp only [Act.put, s1, s2, s3, i64_w, i32_w]
         rfl
       refine pure_ (i := 15) (N := some 272) (v := undef) (a' := ?_) #[true, true, true, true, true, true, true, true, true, true, true, true, true, true, true, true, false, false, false, false, false, false, false, false, false, false, false, false] rfl rfl (any_of HT_.out (by kernel_rfl)) (fun _ _ _ h => h) (Or.inr ⟨by rfl, rfl⟩) ?_ ?_
       rotate_left
       · simp only [Act.put, s1, s2, s3, i64_w, i32_w]
         rfl
       refine pure_ (i := 16) (N := some 273) (v := undef) (a' := ?_) #[true, true, true, true, true, true, true, true, true, true, true, true, true, true, true, true, true, false, false, false, false, false, false, false, false, false, false, false] rfl rfl (any_of HT_.out (by kernel_rfl)) (fun _ _ _ h => h) (Or.inr ⟨by rfl, rfl⟩) ?_ ?_
       rotate_left
       · simp only [Act.put, s1, s2, s3, i64_w, i32_w]
         rfl
       refine pure_ (i := 17) (N := some 274) (v := undef) (a' := ?_) #[true, true, true, true, true, true, true, true, true, true, true, true, true, true, true, true, true, true, false, false, false, false, false, false, false, false, false, false] rfl rfl (any_of HT_.out (by kernel_rfl)) (fun _ _ _ h => h) (Or.inr ⟨by rfl, rfl⟩) ?_ ?_
       rotate_left
       · simp only [Act.put, s1, s2, s3, i64_w, i32_w]
         rfl
       refine pure_ (i := 18) (N := some 275) (v := ?_) (a' := ?_) #[true, true, true, true, true, true, true, true, true, true, true, true, true, true, true, true, true, true, true, false, false, false, false, false, false, false, false, false] rfl rfl (any_of HT_.out (by kernel_rfl)) (fun _ _ _ h => h) (Or.inl ⟨by rfl, ?_⟩) ?_ ?_
       rotate_left
       · intro w'
         go_simp
         with_reducible rfl
       rotate_left
       · simp only [Act.put, s1, s2, s3, i64_w, i32_w]
         rfl
       refine pure_ (i := 19) (N := some 276) (v := ?_) (a' := ?_) #[true, true, true, true, true, true, true, true, true, true, true, true, true, true, true, true, true, true, true, true, false, false, false, false, false, false, false, false] rfl rfl (any_of HT_.out (by kernel_rfl)) (fun _ _ _ h => h) (Or.inl ⟨by rfl, ?_⟩) ?_ ?_
       rotate_left
       · intro w'
         go_simp
         with_reducible rfl
       rotate_left
       · simp only [Act.put, s1, s2, s3, i64_w, i32_w]
         rfl
       refine pure_ (i := 20) (N := some 277) (v := undef) (a' := ?_) #[true, true, true, true, true, true, true, true, true, true, true, true, true, true, true, true, true, true, true, true, true, false, false, false, false, false, false, false] rfl rfl (any_of HT_.out (by kernel_rfl)) (fun _ _ _ h => h) (Or.inr ⟨by rfl, rfl⟩) ?_ ?_
       rotate_left
       · simp only [Act.put, s1, s2, s3, i64_w, i32_w]
         rfl
       refine pure_ (i := 21) (N := some 278) (v := undef) (a' := ?_) #[true, true, true, true, true, true, true, true, true, true, true, true, true, true, true, true, true, true, true, true, true, true, false, false, false, false, false, false] rfl rfl (any_of HT_.out (by kernel_rfl)) (fun _ _ _ h => h) (Or.inr ⟨by rfl, rfl⟩) ?_ ?_
       rotate_left
       · simp only [Act.put, s1, s2, s3, i64_w, i32_w]
         rfl
       refine pure_ (i := 22) (N := some 279) (v := undef) (a' := ?_) #[true, true, true, true, true, true, true, true, true, true, true, true, true, true, true, true, true, true, true, true, true, true, true, false, false, false, false, false] rfl rfl (any_of HT_.out (by kernel_rfl)) (fun _ _ _ h => h) (Or.inr ⟨by rfl, rfl⟩) ?_ ?_
       rotate_left
       · simp only [Act.put, s1, s2, s3, i64_w, i32_w]
         rfl
       refine pure_ (i := 23) (N := some 280) (v := undef) (a' := ?_) #[true, true, true, true, true, true, true, true, true, true, true, true, true, true, true, true, true, true, true, true, true, true, true, true, false, false, false, false] rfl rfl (any_of HT_.out (by kernel_rfl)) (fun _ _ _ h => h) (Or.inr ⟨by rfl, rfl⟩) ?_ ?_
       rotate_left
       · simp only [Act.put, s1, s2, s3, i64_w, i32_w]
         rfl
       refine pure_ (i := 24) (N := some 281) (v := undef) (a' := ?_) #[true, true, true, true, true, true, true, true, true, true, true, true, true, true, true, true, true, true, true, true, true, true, true, true, true, false, false, false] rfl rfl (any_of HT_.out (by kernel_rfl)) (fun _ _ _ h => h) (Or.inr ⟨by rfl, rfl⟩) ?_ ?_
       rotate_left
       · simp only [Act.put, s1, s2, s3, i64_w, i32_w]
         rfl
       refine pure_ (i := 25) (N := some 282) (v := undef) (a' := ?_) #[true, true, true, true, true, true, true, true, true, true, true, true, true, true, true, true, true, true, true, true, true, true, true, true, true, true, false, false] rfl rfl (any_of HT_.out (by kernel_rfl)) (fun _ _ _ h => h) (Or.inr ⟨by rfl, rfl⟩) ?_ ?_
       rotate_left
       · simp only [Act.put, s1, s2, s3, i64_w, i32_w]
         rfl
       refine pure_ (i := 26) (N := some 283) (v := undef) (a' := ?_) #[true, true, true, true, true, true, true, true, true, true, true, true, true, true, true, true, true, true, true, true, true, true, true, true, true, true, true, false] rfl rfl (any_of HT_.out (by kernel_rfl)) (fun _ _ _ h => h) (Or.inr ⟨by rfl, rfl⟩) ?_ ?_
       rotate_left
       · simp only [Act.put, s1, s2, s3, i64_w, i32_w]
         rfl
       refine pure_ (i := 27) (N := some 284) (v := ?_) (a' := ?_) #[true, true, true, true, true, true, true, true, true, true, true, true, true, true, true, true, true, true, true, true, true, true, true, true, true, true, true, true] rfl rfl (any_of HT_.out (by kernel_rfl)) (fun _ _ _ h => h) (Or.inl ⟨by rfl, ?_⟩) ?_ ?_
       rotate_left
       · intro w'
         go_simp
         with_reducible rfl
       rotate_left
       · simp only [Act.put, s1, s2, s3, i64_w, i32_w]
         rfl
       refine done_ (done_of HT_.out (by kernel_rfl)) ?_
       try go_wp2
       go_meet
       case rel => exact ⟨_, (false), (by first | rfl | (simp; done) | (simp [*]; done)), H', ⟨by have := HJ7.out; have := HK2.out; have := HJ19.out; have := HJ30.out; have := HK5.out; have := HJ46.out; have := HJ54.out; have := HJ62.out; have := HK9.out; have := HJ71.out; have := HJ95.out; have := HJ118.out; have := HJ134.out; have := HJ140.out; first | omega | exact Nat.le_refl _⟩, ⟨ur <| HO_3.out⟩, ⟨ur <| HO_7.out⟩, ⟨ub BK661.out⟩, ⟨ub BK674.out⟩, ⟨ub BK694.out⟩, ⟨ub BK695.out⟩, ⟨ub BK734.out⟩, ⟨ub BK735.out⟩, ⟨by repeat with_reducible first | exact HB.out | apply b1 | apply b2 | apply b3 | refine b4 ?_ GE661.out | refine b4 ?_ GE674.out | refine b4 ?_ GE694.out | refine b4 ?_ GE695.out | refine b4 ?_ GE734.out | refine b4 ?_ GE735.out⟩⟩
     rw [if_pos c175] at H
     have c175b0 : decide (0 ≤ (rd x3_7 x8_5)) = true := decide_eq_true c175
     clear c175
     (first | rw [c175b0] | (simp only [i64_w, i32_w]; rw [c175b0]) | skip)
     by_cases c176 : (rd x3_7 x8_5) ≤ (rd x3_7 x14_9)
     rotate_left
     · rw [if_neg c176] at H
       have c176b0 : decide ((rd x3_7 x8_5) ≤ (rd x3_7 x14_9)) = false := decide_eq_false c176
       clear c176
       have H' := ak H
       clear H
       try go_wp2
       have n0_ : Aside0 (Kd.R (Kd.int .i64) 3 ((w167.setCell ⟨gb735, 0, none⟩ (.string (⟨#[]⟩ : ByteArray))).setCell ⟨gb735, 1, none⟩ (.int .i64 0)) w.heap.size (fun _ => True) (.slice (some ad681) x3_7.length co48) x3_7) := ⟨ur <| Kd.R_mono (Kd.R_far (p := ⟨gb735, 1, none⟩) (Kd.R_far (p := ⟨gb735, 0, none⟩) (Kd.R_types HO_3.out BK735.out (by decide)) (fun _ hk => hk.2) (.string (⟨#[]⟩ : ByteArray))) (fun _ hk => hk.2) (.int .i64 0)) (fun _ hk => trivial)⟩
       have n1_ : Aside0 (Kd.R (Kd.int .u8) 5 ((w167.setCell ⟨gb735, 0, none⟩ (.string (⟨#[]⟩ : ByteArray))).setCell ⟨gb735, 1, none⟩ (.int .i64 0)) w.heap.size (fun _ => True) u7 x7_30) := ⟨ur <| Kd.R_mono (Kd.R_far (p := ⟨gb735, 1, none⟩) (Kd.R_far (p := ⟨gb735, 0, none⟩) (Kd.R_types HO_7.out BK735.out (by decide)) (fun _ hk => hk.2) (.string (⟨#[]⟩ : ByteArray))) (fun _ hk => hk.2) (.int .i64 0)) (fun _ hk => trivial)⟩
       have n2_ : Aside0 (((w167.setCell ⟨gb735, 0, none⟩ (.string (⟨#[]⟩ : ByteArray))).setCell ⟨gb735, 1, none⟩ (.int .i64 0)).heap[gb661]? = some (.cells #[.slice (some ad673) l0_0.length c0_0, .slice A0_1 l0_1.length c0_1] 25 (0, 0))) := ⟨by (with_reducible repeat (first | refine blk_drewN ?_ _ | refine blk_drew ?_ | refine blk_alloc ?_ _)); refine blk_far ?_ NB661_735.out _; (with_reducible repeat (first | refine blk_drewN ?_ _ | refine blk_drew ?_ | refine blk_alloc ?_ _)); refine blk_far ?_ NB661_735.out _; (with_reducible repeat (first | refine blk_drewN ?_ _ | refine blk_drew ?_ | refine blk_alloc ?_ _)); exact BK661.out⟩
       have n3_ : Aside0 (((w167.setCell ⟨gb735, 0, none⟩ (.string (⟨#[]⟩ : ByteArray))).setCell ⟨gb735, 1, none⟩ (.int .i64 0)).heap[gb674]? = some (.cells #[.string ((rd_T27 l0_0 x4_2).f0), .int .i64 ((rd_T27 l0_0 x4_2).f1)] 27 (0, 0))) := ⟨by (with_reducible repeat (first | refine blk_drewN ?_ _ | refine blk_drew ?_ | refine blk_alloc ?_ _)); refine blk_far ?_ NB674_735.out _; (with_reducible repeat (first | refine blk_drewN ?_ _ | refine blk_drew ?_ | refine blk_alloc ?_ _)); refine blk_far ?_ NB674_735.out _; (with_reducible repeat (first | refine blk_drewN ?_ _ | refine blk_drew ?_ | refine blk_alloc ?_ _)); exact BK674.out⟩
       have n4_ : Aside0 (((w167.setCell ⟨gb735, 0, none⟩ (.string (⟨#[]⟩ : ByteArray))).setCell ⟨gb735, 1, none⟩ (.int .i64 0)).heap[gb694]? = some (.cells #[.string t691, .int .i64 t692] 27 (0, 0))) := ⟨by (with_reducible repeat (first | refine blk_drewN ?_ _ | refine blk_drew ?_ | refine blk_alloc ?_ _)); refine blk_far ?_ NB694_735.out _; (with_reducible repeat (first | refine blk_drewN ?_ _ | refine blk_drew ?_ | refine blk_alloc ?_ _)); refine blk_far ?_ NB694_735.out _; (with_reducible repeat (first | refine blk_drewN ?_ _ | refine blk_drew ?_ | refine blk_alloc ?_ _)); exact BK694.out⟩
       have n5_ : Aside0 (((w167.setCell ⟨gb735, 0, none⟩ (.string (⟨#[]⟩ : ByteArray))).setCell ⟨gb735, 1, none⟩ (.int .i64 0)).heap[gb695]? = some (.cells #[.string x696000_95, .int .i64 x696001_95] 27 (0, 0))) := ⟨by (with_reducible repeat (first | refine blk_drewN ?_ _ | refine blk_drew ?_ | refine blk_alloc ?_ _)); refine blk_far ?_ NB695_735.out _; (with_reducible repeat (first | refine blk_drewN ?_ _ | refine blk_drew ?_ | refine blk_alloc ?_ _)); refine blk_far ?_ NB695_735.out _; (with_reducible repeat (first | refine blk_drewN ?_ _ | refine blk_drew ?_ | refine blk_alloc ?_ _)); exact BK695.out⟩
       have n6_ : Aside0 (((w167.setCell ⟨gb735, 0, none⟩ (.string (⟨#[]⟩ : ByteArray))).setCell ⟨gb735, 1, none⟩ (.int .i64 0)).heap[gb734]? = some (.cells #[.string t731, .int .i64 t732] 27 (0, 0))) := ⟨by (with_reducible repeat (first | refine blk_drewN ?_ _ | refine blk_drew ?_ | refine blk_alloc ?_ _)); refine blk_far ?_ NB734_735.out _; (with_reducible repeat (first | refine blk_drewN ?_ _ | refine blk_drew ?_ | refine blk_alloc ?_ _)); refine blk_far ?_ NB734_735.out _; (with_reducible repeat (first | refine blk_drewN ?_ _ | refine blk_drew ?_ | refine blk_alloc ?_ _)); exact BK734.out⟩
       have n7_ : Aside0 (((w167.setCell ⟨gb735, 0, none⟩ (.string (⟨#[]⟩ : ByteArray))).setCell ⟨gb735, 1, none⟩ (.int .i64 0)).heap[gb735]? = some (.cells #[.string (⟨#[]⟩ : ByteArray), .int .i64 0] 27 (0, 0))) := ⟨by (with_reducible repeat (first | refine blk_drewN ?_ _ | refine blk_drew ?_ | refine blk_alloc ?_ _)); refine blk_put (cs := #[.string (⟨#[]⟩ : ByteArray), .int .i64 0]) ?_ 1 _ rfl; (with_reducible repeat (first | refine blk_drewN ?_ _ | refine blk_drew ?_ | refine blk_alloc ?_ _)); refine blk_put (cs := #[.string (⟨#[]⟩ : ByteArray), .int .i64 0]) ?_ 0 _ rfl; (with_reducible repeat (first | refine blk_drewN ?_ _ | refine blk_drew ?_ | refine blk_alloc ?_ _)); exact BK735.out⟩
       have n8_ : Aside0 (Below w.heap.size w ((w167.setCell ⟨gb735, 0, none⟩ (.string (⟨#[]⟩ : ByteArray))).setCell ⟨gb735, 1, none⟩ (.int .i64 0))) := ⟨by repeat with_reducible first | exact HB.out | apply b1 | apply b2 | apply b3 | refine b4 ?_ GE661.out | refine b4 ?_ GE674.out | refine b4 ?_ GE694.out | refine b4 ?_ GE695.out | refine b4 ?_ GE734.out | refine b4 ?_ GE735.out⟩
       (try clear HO_3)
       (try clear HO_7)
       (try clear BK661)
       (try clear BK674)
       (try clear BK694)
       (try clear BK695)
       (try clear BK734)
       (try clear BK735)
       (try clear HB)
       generalize ((w167.setCell ⟨gb735, 0, none⟩ (.string (⟨#[]⟩ : ByteArray))).setCell ⟨gb735, 1, none⟩ (.int .i64 0)) = w179 at n0_ n1_ n2_ n3_ n4_ n5_ n6_ n7_ n8_ ⊢
       have HO_3 := n0_
       have HO_7 := n1_
       have BK661 := n2_
       have BK674 := n3_
       have BK694 := n4_
       have BK695 := n5_
       have BK734 := n6_
       have BK735 := n7_
       have HB := n8_
       clear n0_ n1_ n2_ n3_ n4_ n5_ n6_ n7_ n8_
       have n0_ := ak (Kd.R_drew HO_3.out)
       have n1_ := ak (Kd.R_drew HO_7.out)
       have n2_ := ak (blk_drew BK661.out)
       have n3_ := ak (blk_drew BK674.out)
       have n4_ := ak (blk_drew BK694.out)
       have n5_ := ak (blk_drew BK695.out)
       have n6_ := ak (blk_drew BK734.out)
       have n7_ := ak (blk_drew BK735.out)
       have n8_ := ak (below_drew1 HB.out)
       clear HO_3
       clear HO_7
       clear BK661
       clear BK674
       clear BK694
       clear BK695
       clear BK734
       clear BK735
       clear HB
       have HO_3 := n0_
       have HO_7 := n1_
       have BK661 := n2_
       have BK674 := n3_
       have BK694 := n4_
       have BK695 := n5_
       have BK734 := n6_
       have BK735 := n7_
       have HB := n8_
       clear n0_ n1_ n2_ n3_ n4_ n5_ n6_ n7_ n8_
       have p736 : 0 ≤ (x8_5 : Int) := of_decide_eq_true (by first | (with_reducible assumption) | assumption)
       have q736 : x8_5 < (x3_7.length : Int) := of_decide_eq_true (by first | (with_reducible assumption) | assumption)
       obtain ⟨ad736, e736, hx736_0⟩ := Kd.at_int (Kd.R_reads' HO_3.out).2.2 x8_5 p736 q736
       obtain rfl : ad681 = ad736 := (by injection e736)
       replace p736 := eq_true p736
       replace q736 := eq_true q736
       have p737 : 0 ≤ (x8_5 : Int) := of_decide_eq_true (by first | (with_reducible assumption) | assumption)
       have q737 : x8_5 < (x3_7.length : Int) := of_decide_eq_true (by first | (with_reducible assumption) | assumption)
       obtain ⟨ad737, e737, hx737_0⟩ := Kd.at_int (Kd.R_reads' HO_3.out).2.2 x8_5 p737 q737
       obtain rfl : ad681 = ad737 := (by injection e737)
       replace p737 := eq_true p737
       replace q737 := eq_true q737
       have p738 : 0 ≤ (x14_9 : Int) := of_decide_eq_true (by first | (with_reducible assumption) | assumption)
       have q738 : x14_9 < (x3_7.length : Int) := of_decide_eq_true (by first | (with_reducible assumption) | assumption)
       obtain ⟨ad738, e738, hx738_0⟩ := Kd.at_int (Kd.R_reads' HO_3.out).2.2 x14_9 p738 q738
       obtain rfl : ad681 = ad738 := (by injection e738)
       replace p738 := eq_true p738
       replace q738 := eq_true q738
       refine start_ (n := 28) (S := fun w' => w'.cell? (ad681.add (x8_5).toNat) = some (.int .i64 (rd x3_7 x8_5)) ∧ w'.cell? (ad681.add (x8_5).toNat) = some (.int .i64 (rd x3_7 x8_5)) ∧ w'.cell? (ad681.add (x14_9).toNat) = some (.int .i64 (rd x3_7 x14_9))) (ds := []) #[false, false, false, false, false, false, false, false, false, false, false, false, false, false, false, false, false, false, false, false, false, false, false, false, false, false, false, false] (by kernel_rfl) rfl rfl ⟨hx736_0, hx737_0, hx738_0⟩ (fun hHeld => ?_); refine with_tabW herbariumlaw1_BitsExact.tab47 herbariumlaw1_BitsExact.bits47 (fun HT_ HW_ => ?_)
       generalize w179.drew = w180 at HO_3 HO_7 BK661 BK674 BK694 BK695 BK734 BK735 HB hx736_0 hx737_0 hx738_0 hHeld ⊢
       refine pure_ (i := 0) (N := some 257) (v := ?_) (a' := ?_) #[true, false, false, false, false, false, false, false, false, false, false, false, false, false, false, false, false, false, false, false, false, false, false, false, false, false, false, false] rfl rfl (any_of HT_.out (by kernel_rfl)) (fun _ _ _ h => h) (Or.inl ⟨by rfl, ?_⟩) ?_ ?_
       rotate_left
       · intro w'
         go_simp
         with_reducible rfl
       rotate_left
       · simp only [Act.put, s1, s2, s3, i64_w, i32_w]
         rfl
       refine pure_ (i := 1) (N := some 258) (v := ?_) (a' := ?_) #[true, true, false, false, false, false, false, false, false, false, false, false, false, false, false, false, false, false, false, false, false, false, false, false, false, false, false, false] rfl rfl (any_of HT_.out (by kernel_rfl)) (fun _ _ _ h => h) (Or.inl ⟨by rfl, ?_⟩) ?_ ?_
       rotate_left
       · intro w'
         go_simp
         with_reducible rfl
       rotate_left
       · simp only [Act.put, s1, s2, s3, i64_w, i32_w]
         rfl
       refine pure_ (i := 2) (N := some 259) (v := ?_) (a' := ?_) #[true, true, true, false, false, false, false, false, false, false, false, false, false, false, false, false, false, false, false, false, false, false, false, false, false, false, false, false] rfl rfl (any_of HT_.out (by kernel_rfl)) (fun _ _ _ h => h) (Or.inl ⟨by rfl, ?_⟩) ?_ ?_
       rotate_left
       · intro w'
         go_simp
         with_reducible rfl
       rotate_left
       · simp only [Act.put, s1, s2, s3, i64_w, i32_w]
         rfl
       refine pure_ (i := 3) (N := some 260) (v := ?_) (a' := ?_) #[true, true, true, true, false, false, false, false, false, false, false, false, false, false, false, false, false, false, false, false, false, false, false, false, false, false, false, false] rfl rfl (any_of HT_.out (by kernel_rfl)) (fun _ _ _ h => h) (Or.inl ⟨by rfl, ?_⟩) ?_ ?_
       rotate_left
       · intro w'
         go_simp
         with_reducible rfl
       rotate_left
       · simp only [Act.put, s1, s2, s3, i64_w, i32_w]
         rfl
       refine pure_ (i := 4) (N := some 261) (v := ?_) (a' := ?_) #[true, true, true, true, true, false, false, false, false, false, false, false, false, false, false, false, false, false, false, false, false, false, false, false, false, false, false, false] rfl rfl (any_of HT_.out (by kernel_rfl)) (fun _ _ _ h => h) (Or.inl ⟨by rfl, ?_⟩) ?_ ?_
       rotate_left
       · intro w'
         go_simp
         with_reducible rfl
       rotate_left
       · simp only [Act.put, s1, s2, s3, i64_w, i32_w]
         rfl
       refine take_ (i := 5) (N := some 262) (v := ?_) (a' := ?_) #[true, true, true, true, true, true, false, false, false, false, false, false, false, false, false, false, false, false, false, false, false, false, false, false, false, false, false, false] rfl rfl (take_ofW HT_.out HW_.out (by kernel_rfl)) (fun _ _ _ h => h) (Or.inl ⟨by rfl, ?_⟩) hHeld ?_ ?_
       rotate_left
       · rintro w' ⟨s0, s1, s2⟩
         go_simp
         with_reducible rfl
       rotate_left
       · simp only [Act.put, s1, s2, s3, i64_w, i32_w]
         rfl
       refine pure_ (i := 6) (N := some 263) (v := ?_) (a' := ?_) #[true, true, true, true, true, true, true, false, false, false, false, false, false, false, false, false, false, false, false, false, false, false, false, false, false, false, false, false] rfl rfl (any_of HT_.out (by kernel_rfl)) (fun _ _ _ h => h) (Or.inl ⟨by rfl, ?_⟩) ?_ ?_
       rotate_left
       · intro w'
         go_simp
         with_reducible rfl
       rotate_left
       · simp only [Act.put, s1, s2, s3, i64_w, i32_w]
         rfl
       refine pure_ (i := 7) (N := some 264) (v := ?_) (a' := ?_) #[true, true, true, true, true, true, true, true, false, false, false, false, false, false, false, false, false, false, false, false, false, false, false, false, false, false, false, false] rfl rfl (any_of HT_.out (by kernel_rfl)) (fun _ _ _ h => h) (Or.inl ⟨by rfl, ?_⟩) ?_ ?_
       rotate_left
       · intro w'
         go_simp
         with_reducible rfl
       rotate_left
       · simp only [Act.put, s1, s2, s3, i64_w, i32_w]
         rfl
       refine pure_ (i := 8) (N := some 265) (v := ?_) (a' := ?_) #[true, true, true, true, true, true, true, true, true, false, false, false, false, false, false, false, false, false, false, false, false, false, false, false, false, false, false, false] rfl rfl (any_of HT_.out (by kernel_rfl)) (fun _ _ _ h => h) (Or.inl ⟨by rfl, ?_⟩) ?_ ?_
       rotate_left
       · intro w'
         go_simp
         with_reducible rfl
       rotate_left
       · simp only [Act.put, s1, s2, s3, i64_w, i32_w]
         rfl
       refine pure_ (i := 9) (N := some 266) (v := ?_) (a' := ?_) #[true, true, true, true, true, true, true, true, true, true, false, false, false, false, false, false, false, false, false, false, false, false, false, false, false, false, false, false] rfl rfl (any_of HT_.out (by kernel_rfl)) (fun _ _ _ h => h) (Or.inl ⟨by rfl, ?_⟩) ?_ ?_
       rotate_left
       · intro w'
         go_simp
         with_reducible rfl
       rotate_left
       · simp only [Act.put, s1, s2, s3, i64_w, i32_w]
         rfl
       refine pure_ (i := 10) (N := some 267) (v := ?_) (a' := ?_) #[true, true, true, true, true, true, true, true, true, true, true, false, false, false, false, false, false, false, false, false, false, false, false, false, false, false, false, false] rfl rfl (any_of HT_.out (by kernel_rfl)) (fun _ _ _ h => h) (Or.inl ⟨by rfl, ?_⟩) ?_ ?_
       rotate_left
       · intro w'
         go_simp
         with_reducible rfl
       rotate_left
       · simp only [Act.put, s1, s2, s3, i64_w, i32_w]
         rfl
       refine pure_ (i := 11) (N := some 268) (v := ?_) (a' := ?_) #[true, true, true, true, true, true, true, true, true, true, true, true, false, false, false, false, false, false, false, false, false, false, false, false, false, false, false, false] rfl rfl (any_of HT_.out (by kernel_rfl)) (fun _ _ _ h => h) (Or.inl ⟨by rfl, ?_⟩) ?_ ?_
       rotate_left
       · intro w'
         go_simp
         with_reducible rfl
       rotate_left
       · simp only [Act.put, s1, s2, s3, i64_w, i32_w]
         rfl
       refine pure_ (i := 13) (N := some 270) (v := ?_) (a' := ?_) #[true, true, true, true, true, true, true, true, true, true, true, true, false, true, false, false, false, false, false, false, false, false, false, false, false, false, false, false] rfl rfl (any_of HT_.out (by kernel_rfl)) (fun _ _ _ h => h) (Or.inl ⟨by rfl, ?_⟩) ?_ ?_
       rotate_left
       · intro w'
         go_simp
         with_reducible rfl
       rotate_left
       · simp only [Act.put, s1, s2, s3, i64_w, i32_w]
         rfl
       refine pure_ (i := 14) (N := some 271) (v := ?_) (a' := ?_) #[true, true, true, true, true, true, true, true, true, true, true, true, false, true, true, false, false, false, false, false, false, false, false, false, false, false, false, false] rfl rfl (any_of HT_.out (by kernel_rfl)) (fun _ _ _ h => h) (Or.inl ⟨by rfl, ?_⟩) ?_ ?_
       rotate_left
       · intro w'
         go_simp
         with_reducible rfl
       rotate_left
       · simp only [Act.put, s1, s2, s3, i64_w, i32_w]
         rfl
       refine pure_ (i := 15) (N := some 272) (v := ?_) (a' := ?_) #[true, true, true, true, true, true, true, true, true, true, true, true, false, true, true, true, false, false, false, false, false, false, false, false, false, false, false, false] rfl rfl (any_of HT_.out (by kernel_rfl)) (fun _ _ _ h => h) (Or.inl ⟨by rfl, ?_⟩) ?_ ?_
       rotate_left
       · intro w'
         go_simp
         with_reducible rfl
       rotate_left
       · simp only [Act.put, s1, s2, s3, i64_w, i32_w]
         rfl
       refine take_ (i := 12) (N := some 269) (v := ?_) (a' := ?_) #[true, true, true, true, true, true, true, true, true, true, true, true, true, true, true, true, false, false, false, false, false, false, false, false, false, false, false, false] rfl rfl (take_ofW HT_.out HW_.out (by kernel_rfl)) (fun _ _ _ h => h) (Or.inl ⟨by rfl, ?_⟩) hHeld ?_ ?_
       rotate_left
       · rintro w' ⟨s0, s1, s2⟩
         go_simp
         with_reducible rfl
       rotate_left
       · simp only [Act.put, s1, s2, s3, i64_w, i32_w]
         rfl
       refine take_ (i := 16) (N := some 273) (v := ?_) (a' := ?_) #[true, true, true, true, true, true, true, true, true, true, true, true, true, true, true, true, true, false, false, false, false, false, false, false, false, false, false, false] rfl rfl (take_ofW HT_.out HW_.out (by kernel_rfl)) (fun _ _ _ h => h) (Or.inl ⟨by rfl, ?_⟩) hHeld ?_ ?_
       rotate_left
       · rintro w' ⟨s0, s1, s2⟩
         go_simp
         with_reducible rfl
       rotate_left
       · simp only [Act.put, s1, s2, s3, i64_w, i32_w]
         rfl
       refine pure_ (i := 17) (N := some 274) (v := ?_) (a' := ?_) #[true, true, true, true, true, true, true, true, true, true, true, true, true, true, true, true, true, true, false, false, false, false, false, false, false, false, false, false] rfl rfl (any_of HT_.out (by kernel_rfl)) (fun _ _ _ h => h) (Or.inl ⟨by rfl, ?_⟩) ?_ ?_
       rotate_left
       · intro w'
         go_simp
         with_reducible rfl
       rotate_left
       · simp only [Act.put, s1, s2, s3, i64_w, i32_w]
         rfl
       refine pure_ (i := 18) (N := some 275) (v := ?_) (a' := ?_) #[true, true, true, true, true, true, true, true, true, true, true, true, true, true, true, true, true, true, true, false, false, false, false, false, false, false, false, false] rfl rfl (any_of HT_.out (by kernel_rfl)) (fun _ _ _ h => h) (Or.inl ⟨by rfl, ?_⟩) ?_ ?_
       rotate_left
       · intro w'
         go_simp
         with_reducible rfl
       rotate_left
       · simp only [Act.put, s1, s2, s3, i64_w, i32_w]
         rfl
       refine pure_ (i := 19) (N := some 276) (v := ?_) (a' := ?_) #[true, true, true, true, true, true, true, true, true, true, true, true, true, true, true, true, true, true, true, true, false, false, false, false, false, false, false, false] rfl rfl (any_of HT_.out (by kernel_rfl)) (fun _ _ _ h => h) (Or.inl ⟨by rfl, ?_⟩) ?_ ?_
       rotate_left
       · intro w'
         go_simp
         with_reducible rfl
       rotate_left
       · simp only [Act.put, s1, s2, s3, i64_w, i32_w]
         rfl
       refine pure_ (i := 20) (N := some 277) (v := undef) (a' := ?_) #[true, true, true, true, true, true, true, true, true, true, true, true, true, true, true, true, true, true, true, true, true, false, false, false, false, false, false, false] rfl rfl (any_of HT_.out (by kernel_rfl)) (fun _ _ _ h => h) (Or.inr ⟨by rfl, rfl⟩) ?_ ?_
       rotate_left
       · simp only [Act.put, s1, s2, s3, i64_w, i32_w]
         rfl
       refine pure_ (i := 21) (N := some 278) (v := undef) (a' := ?_) #[true, true, true, true, true, true, true, true, true, true, true, true, true, true, true, true, true, true, true, true, true, true, false, false, false, false, false, false] rfl rfl (any_of HT_.out (by kernel_rfl)) (fun _ _ _ h => h) (Or.inr ⟨by rfl, rfl⟩) ?_ ?_
       rotate_left
       · simp only [Act.put, s1, s2, s3, i64_w, i32_w]
         rfl
       refine pure_ (i := 22) (N := some 279) (v := undef) (a' := ?_) #[true, true, true, true, true, true, true, true, true, true, true, true, true, true, true, true, true, true, true, true, true, true, true, false, false, false, false, false] rfl rfl (any_of HT_.out (by kernel_rfl)) (fun _ _ _ h => h) (Or.inr ⟨by rfl, rfl⟩) ?_ ?_
       rotate_left
       · simp only [Act.put, s1, s2, s3, i64_w, i32_w]
         rfl
       refine pure_ (i := 23) (N := some 280) (v := undef) (a' := ?_) #[true, true, true, true, true, true, true, true, true, true, true, true, true, true, true, true, true, true, true, true, true, true, true, true, false, false, false, false] rfl rfl (any_of HT_.out (by kernel_rfl)) (fun _ _ _ h => h) (Or.inr ⟨by rfl, rfl⟩) ?_ ?_
       rotate_left
       · simp only [Act.put, s1, s2, s3, i64_w, i32_w]
         rfl
       refine pure_ (i := 24) (N := some 281) (v := undef) (a' := ?_) #[true, true, true, true, true, true, true, true, true, true, true, true, true, true, true, true, true, true, true, true, true, true, true, true, true, false, false, false] rfl rfl (any_of HT_.out (by kernel_rfl)) (fun _ _ _ h => h) (Or.inr ⟨by rfl, rfl⟩) ?_ ?_
       rotate_left
       · simp only [Act.put, s1, s2, s3, i64_w, i32_w]
         rfl
       refine pure_ (i := 25) (N := some 282) (v := undef) (a' := ?_) #[true, true, true, true, true, true, true, true, true, true, true, true, true, true, true, true, true, true, true, true, true, true, true, true, true, true, false, false] rfl rfl (any_of HT_.out (by kernel_rfl)) (fun _ _ _ h => h) (Or.inr ⟨by rfl, rfl⟩) ?_ ?_
       rotate_left
       · simp only [Act.put, s1, s2, s3, i64_w, i32_w]
         rfl
       refine pure_ (i := 26) (N := some 283) (v := undef) (a' := ?_) #[true, true, true, true, true, true, true, true, true, true, true, true, true, true, true, true, true, true, true, true, true, true, true, true, true, true, true, false] rfl rfl (any_of HT_.out (by kernel_rfl)) (fun _ _ _ h => h) (Or.inr ⟨by rfl, rfl⟩) ?_ ?_
       rotate_left
       · simp only [Act.put, s1, s2, s3, i64_w, i32_w]
         rfl
       refine pure_ (i := 27) (N := some 284) (v := ?_) (a' := ?_) #[true, true, true, true, true, true, true, true, true, true, true, true, true, true, true, true, true, true, true, true, true, true, true, true, true, true, true, true] rfl rfl (any_of HT_.out (by kernel_rfl)) (fun _ _ _ h => h) (Or.inl ⟨by rfl, ?_⟩) ?_ ?_
       rotate_left
       · intro w'
         go_simp
         with_reducible rfl
       rotate_left
       · simp only [Act.put, s1, s2, s3, i64_w, i32_w]
         rfl
       refine done_ (done_of HT_.out (by kernel_rfl)) ?_
       try go_wp2
       go_meet
       case rel => exact ⟨_, (false), (by first | rfl | (simp; done) | (simp [*]; done)), H', ⟨by have := HJ7.out; have := HK2.out; have := HJ19.out; have := HJ30.out; have := HK5.out; have := HJ46.out; have := HJ54.out; have := HJ62.out; have := HK9.out; have := HJ71.out; have := HJ95.out; have := HJ118.out; have := HJ134.out; have := HJ140.out; first | omega | exact Nat.le_refl _⟩, ⟨ur <| HO_3.out⟩, ⟨ur <| HO_7.out⟩, ⟨ub BK661.out⟩, ⟨ub BK674.out⟩, ⟨ub BK694.out⟩, ⟨ub BK695.out⟩, ⟨ub BK734.out⟩, ⟨ub BK735.out⟩, ⟨by repeat with_reducible first | exact HB.out | apply b1 | apply b2 | apply b3 | refine b4 ?_ GE661.out | refine b4 ?_ GE674.out | refine b4 ?_ GE694.out | refine b4 ?_ GE695.out | refine b4 ?_ GE734.out | refine b4 ?_ GE735.out⟩⟩
     rw [if_pos c176] at H
     have c176b0 : decide ((rd x3_7 x8_5) ≤ (rd x3_7 x14_9)) = true := decide_eq_true c176
     clear c176
     have H' := ak H
     clear H
     try go_wp2
     have n0_ : Aside0 (Kd.R (Kd.int .i64) 3 ((w167.setCell ⟨gb735, 0, none⟩ (.string (⟨#[]⟩ : ByteArray))).setCell ⟨gb735, 1, none⟩ (.int .i64 0)) w.heap.size (fun _ => True) (.slice (some ad681) x3_7.length co48) x3_7) := ⟨ur <| Kd.R_mono (Kd.R_far (p := ⟨gb735, 1, none⟩) (Kd.R_far (p := ⟨gb735, 0, none⟩) (Kd.R_types HO_3.out BK735.out (by decide)) (fun _ hk => hk.2) (.string (⟨#[]⟩ : ByteArray))) (fun _ hk => hk.2) (.int .i64 0)) (fun _ hk => trivial)⟩
     have n1_ : Aside0 (Kd.R (Kd.int .u8) 5 ((w167.setCell ⟨gb735, 0, none⟩ (.string (⟨#[]⟩ : ByteArray))).setCell ⟨gb735, 1, none⟩ (.int .i64 0)) w.heap.size (fun _ => True) u7 x7_30) := ⟨ur <| Kd.R_mono (Kd.R_far (p := ⟨gb735, 1, none⟩) (Kd.R_far (p := ⟨gb735, 0, none⟩) (Kd.R_types HO_7.out BK735.out (by decide)) (fun _ hk => hk.2) (.string (⟨#[]⟩ : ByteArray))) (fun _ hk => hk.2) (.int .i64 0)) (fun _ hk => trivial)⟩
     have n2_ : Aside0 (((w167.setCell ⟨gb735, 0, none⟩ (.string (⟨#[]⟩ : ByteArray))).setCell ⟨gb735, 1, none⟩ (.int .i64 0)).heap[gb661]? = some (.cells #[.slice (some ad673) l0_0.length c0_0, .slice A0_1 l0_1.length c0_1] 25 (0, 0))) := ⟨by (with_reducible repeat (first | refine blk_drewN ?_ _ | refine blk_drew ?_ | refine blk_alloc ?_ _)); refine blk_far ?_ NB661_735.out _; (with_reducible repeat (first | refine blk_drewN ?_ _ | refine blk_drew ?_ | refine blk_alloc ?_ _)); refine blk_far ?_ NB661_735.out _; (with_reducible repeat (first | refine blk_drewN ?_ _ | refine blk_drew ?_ | refine blk_alloc ?_ _)); exact BK661.out⟩
     have n3_ : Aside0 (((w167.setCell ⟨gb735, 0, none⟩ (.string (⟨#[]⟩ : ByteArray))).setCell ⟨gb735, 1, none⟩ (.int .i64 0)).heap[gb674]? = some (.cells #[.string ((rd_T27 l0_0 x4_2).f0), .int .i64 ((rd_T27 l0_0 x4_2).f1)] 27 (0, 0))) := ⟨by (with_reducible repeat (first | refine blk_drewN ?_ _ | refine blk_drew ?_ | refine blk_alloc ?_ _)); refine blk_far ?_ NB674_735.out _; (with_reducible repeat (first | refine blk_drewN ?_ _ | refine blk_drew ?_ | refine blk_alloc ?_ _)); refine blk_far ?_ NB674_735.out _; (with_reducible repeat (first | refine blk_drewN ?_ _ | refine blk_drew ?_ | refine blk_alloc ?_ _)); exact BK674.out⟩
     have n4_ : Aside0 (((w167.setCell ⟨gb735, 0, none⟩ (.string (⟨#[]⟩ : ByteArray))).setCell ⟨gb735, 1, none⟩ (.int .i64 0)).heap[gb694]? = some (.cells #[.string t691, .int .i64 t692] 27 (0, 0))) := ⟨by (with_reducible repeat (first | refine blk_drewN ?_ _ | refine blk_drew ?_ | refine blk_alloc ?_ _)); refine blk_far ?_ NB694_735.out _; (with_reducible repeat (first | refine blk_drewN ?_ _ | refine blk_drew ?_ | refine blk_alloc ?_ _)); refine blk_far ?_ NB694_735.out _; (with_reducible repeat (first | refine blk_drewN ?_ _ | refine blk_drew ?_ | refine blk_alloc ?_ _)); exact BK694.out⟩
     have n5_ : Aside0 (((w167.setCell ⟨gb735, 0, none⟩ (.string (⟨#[]⟩ : ByteArray))).setCell ⟨gb735, 1, none⟩ (.int .i64 0)).heap[gb695]? = some (.cells #[.string x696000_95, .int .i64 x696001_95] 27 (0, 0))) := ⟨by (with_reducible repeat (first | refine blk_drewN ?_ _ | refine blk_drew ?_ | refine blk_alloc ?_ _)); refine blk_far ?_ NB695_735.out _; (with_reducible repeat (first | refine blk_drewN ?_ _ | refine blk_drew ?_ | refine blk_alloc ?_ _)); refine blk_far ?_ NB695_735.out _; (with_reducible repeat (first | refine blk_drewN ?_ _ | refine blk_drew ?_ | refine blk_alloc ?_ _)); exact BK695.out⟩
     have n6_ : Aside0 (((w167.setCell ⟨gb735, 0, none⟩ (.string (⟨#[]⟩ : ByteArray))).setCell ⟨gb735, 1, none⟩ (.int .i64 0)).heap[gb734]? = some (.cells #[.string t731, .int .i64 t732] 27 (0, 0))) := ⟨by (with_reducible repeat (first | refine blk_drewN ?_ _ | refine blk_drew ?_ | refine blk_alloc ?_ _)); refine blk_far ?_ NB734_735.out _; (with_reducible repeat (first | refine blk_drewN ?_ _ | refine blk_drew ?_ | refine blk_alloc ?_ _)); refine blk_far ?_ NB734_735.out _; (with_reducible repeat (first | refine blk_drewN ?_ _ | refine blk_drew ?_ | refine blk_alloc ?_ _)); exact BK734.out⟩
     have n7_ : Aside0 (((w167.setCell ⟨gb735, 0, none⟩ (.string (⟨#[]⟩ : ByteArray))).setCell ⟨gb735, 1, none⟩ (.int .i64 0)).heap[gb735]? = some (.cells #[.string (⟨#[]⟩ : ByteArray), .int .i64 0] 27 (0, 0))) := ⟨by (with_reducible repeat (first | refine blk_drewN ?_ _ | refine blk_drew ?_ | refine blk_alloc ?_ _)); refine blk_put (cs := #[.string (⟨#[]⟩ : ByteArray), .int .i64 0]) ?_ 1 _ rfl; (with_reducible repeat (first | refine blk_drewN ?_ _ | refine blk_drew ?_ | refine blk_alloc ?_ _)); refine blk_put (cs := #[.string (⟨#[]⟩ : ByteArray), .int .i64 0]) ?_ 0 _ rfl; (with_reducible repeat (first | refine blk_drewN ?_ _ | refine blk_drew ?_ | refine blk_alloc ?_ _)); exact BK735.out⟩
     have n8_ : Aside0 (Below w.heap.size w ((w167.setCell ⟨gb735, 0, none⟩ (.string (⟨#[]⟩ : ByteArray))).setCell ⟨gb735, 1, none⟩ (.int .i64 0))) := ⟨by repeat with_reducible first | exact HB.out | apply b1 | apply b2 | apply b3 | refine b4 ?_ GE661.out | refine b4 ?_ GE674.out | refine b4 ?_ GE694.out | refine b4 ?_ GE695.out | refine b4 ?_ GE734.out | refine b4 ?_ GE735.out⟩
     (try clear HO_3)
     (try clear HO_7)
     (try clear BK661)
     (try clear BK674)
     (try clear BK694)
     (try clear BK695)
     (try clear BK734)
     (try clear BK735)
     (try clear HB)
     generalize ((w167.setCell ⟨gb735, 0, none⟩ (.string (⟨#[]⟩ : ByteArray))).setCell ⟨gb735, 1, none⟩ (.int .i64 0)) = w177 at n0_ n1_ n2_ n3_ n4_ n5_ n6_ n7_ n8_ ⊢
     have HO_3 := n0_
     have HO_7 := n1_
     have BK661 := n2_
     have BK674 := n3_
     have BK694 := n4_
     have BK695 := n5_
     have BK734 := n6_
     have BK735 := n7_
     have HB := n8_
     clear n0_ n1_ n2_ n3_ n4_ n5_ n6_ n7_ n8_
     have n0_ := ak (Kd.R_drew HO_3.out)
     have n1_ := ak (Kd.R_drew HO_7.out)
     have n2_ := ak (blk_drew BK661.out)
     have n3_ := ak (blk_drew BK674.out)
     have n4_ := ak (blk_drew BK694.out)
     have n5_ := ak (blk_drew BK695.out)
     have n6_ := ak (blk_drew BK734.out)
     have n7_ := ak (blk_drew BK735.out)
     have n8_ := ak (below_drew1 HB.out)
     clear HO_3
     clear HO_7
     clear BK661
     clear BK674
     clear BK694
     clear BK695
     clear BK734
     clear BK735
     clear HB
     have HO_3 := n0_
     have HO_7 := n1_
     have BK661 := n2_
     have BK674 := n3_
     have BK694 := n4_
     have BK695 := n5_
     have BK734 := n6_
     have BK735 := n7_
     have HB := n8_
     clear n0_ n1_ n2_ n3_ n4_ n5_ n6_ n7_ n8_
     have p736 : 0 ≤ (x8_5 : Int) := of_decide_eq_true (by first | (with_reducible assumption) | assumption)
     have q736 : x8_5 < (x3_7.length : Int) := of_decide_eq_true (by first | (with_reducible assumption) | assumption)
     obtain ⟨ad736, e736, hx736_0⟩ := Kd.at_int (Kd.R_reads' HO_3.out).2.2 x8_5 p736 q736
     obtain rfl : ad681 = ad736 := (by injection e736)
     replace p736 := eq_true p736
     replace q736 := eq_true q736
     have p737 : 0 ≤ (x8_5 : Int) := of_decide_eq_true (by first | (with_reducible assumption) | assumption)
     have q737 : x8_5 < (x3_7.length : Int) := of_decide_eq_true (by first | (with_reducible assumption) | assumption)
     obtain ⟨ad737, e737, hx737_0⟩ := Kd.at_int (Kd.R_reads' HO_3.out).2.2 x8_5 p737 q737
     obtain rfl : ad681 = ad737 := (by injection e737)
     replace p737 := eq_true p737
     replace q737 := eq_true q737
     have p738 : 0 ≤ (x14_9 : Int) := of_decide_eq_true (by first | (with_reducible assumption) | assumption)
     have q738 : x14_9 < (x3_7.length : Int) := of_decide_eq_true (by first | (with_reducible assumption) | assumption)
     obtain ⟨ad738, e738, hx738_0⟩ := Kd.at_int (Kd.R_reads' HO_3.out).2.2 x14_9 p738 q738
     obtain rfl : ad681 = ad738 := (by injection e738)
     replace p738 := eq_true p738
     replace q738 := eq_true q738
     have p739 : 0 ≤ (x14_9 : Int) := of_decide_eq_true (by first | (with_reducible assumption) | assumption)
     have q739 : x14_9 < (x3_7.length : Int) := of_decide_eq_true (by first | (with_reducible assumption) | assumption)
     obtain ⟨ad739, e739, hx739_0⟩ := Kd.at_int (Kd.R_reads' HO_3.out).2.2 x14_9 p739 q739
     obtain rfl : ad681 = ad739 := (by injection e739)
     replace p739 := eq_true p739
     replace q739 := eq_true q739
     refine start_ (n := 28) (S := fun w' => w'.cell? ⟨gb674, 0, none⟩ = some (.string ((rd_T27 l0_0 x4_2).f0)) ∧ w'.cell? ⟨gb674, 1, none⟩ = some (.int .i64 ((rd_T27 l0_0 x4_2).f1)) ∧ w'.cell? (ad681.add (x8_5).toNat) = some (.int .i64 (rd x3_7 x8_5)) ∧ w'.cell? (ad681.add (x8_5).toNat) = some (.int .i64 (rd x3_7 x8_5)) ∧ w'.cell? (ad681.add (x14_9).toNat) = some (.int .i64 (rd x3_7 x14_9)) ∧ w'.cell? (ad681.add (x14_9).toNat) = some (.int .i64 (rd x3_7 x14_9))) (ds := []) #[false, false, false, false, false, false, false, false, false, false, false, false, false, false, false, false, false, false, false, false, false, false, false, false, false, false, false, false] (by kernel_rfl) rfl rfl ⟨(blk_cell BK674.out 0).trans rfl, (blk_cell BK674.out 1).trans rfl, hx736_0, hx737_0, hx738_0, hx739_0⟩ (fun hHeld => ?_); refine with_tabW herbariumlaw1_BitsExact.tab47 herbariumlaw1_BitsExact.bits47 (fun HT_ HW_ => ?_)
     generalize w177.drew = w178 at HO_3 HO_7 BK661 BK674 BK694 BK695 BK734 BK735 HB hx736_0 hx737_0 hx738_0 hx739_0 hHeld ⊢
     refine pure_ (i := 0) (N := some 257) (v := ?_) (a' := ?_) #[true, false, false, false, false, false, false, false, false, false, false, false, false, false, false, false, false, false, false, false, false, false, false, false, false, false, false, false] rfl rfl (any_of HT_.out (by kernel_rfl)) (fun _ _ _ h => h) (Or.inl ⟨by rfl, ?_⟩) ?_ ?_
     rotate_left
     · intro w'
       go_simp
       with_reducible rfl
     rotate_left
     · simp only [Act.put, s1, s2, s3, i64_w, i32_w]
       rfl
     refine pure_ (i := 1) (N := some 258) (v := ?_) (a' := ?_) #[true, true, false, false, false, false, false, false, false, false, false, false, false, false, false, false, false, false, false, false, false, false, false, false, false, false, false, false] rfl rfl (any_of HT_.out (by kernel_rfl)) (fun _ _ _ h => h) (Or.inl ⟨by rfl, ?_⟩) ?_ ?_
     rotate_left
     · intro w'
       go_simp
       with_reducible rfl
     rotate_left
     · simp only [Act.put, s1, s2, s3, i64_w, i32_w]
       rfl
     refine pure_ (i := 2) (N := some 259) (v := ?_) (a' := ?_) #[true, true, true, false, false, false, false, false, false, false, false, false, false, false, false, false, false, false, false, false, false, false, false, false, false, false, false, false] rfl rfl (any_of HT_.out (by kernel_rfl)) (fun _ _ _ h => h) (Or.inl ⟨by rfl, ?_⟩) ?_ ?_
     rotate_left
     · intro w'
       go_simp
       with_reducible rfl
     rotate_left
     · simp only [Act.put, s1, s2, s3, i64_w, i32_w]
       rfl
     refine pure_ (i := 3) (N := some 260) (v := ?_) (a' := ?_) #[true, true, true, true, false, false, false, false, false, false, false, false, false, false, false, false, false, false, false, false, false, false, false, false, false, false, false, false] rfl rfl (any_of HT_.out (by kernel_rfl)) (fun _ _ _ h => h) (Or.inl ⟨by rfl, ?_⟩) ?_ ?_
     rotate_left
     · intro w'
       go_simp
       with_reducible rfl
     rotate_left
     · simp only [Act.put, s1, s2, s3, i64_w, i32_w]
       rfl
     refine pure_ (i := 4) (N := some 261) (v := ?_) (a' := ?_) #[true, true, true, true, true, false, false, false, false, false, false, false, false, false, false, false, false, false, false, false, false, false, false, false, false, false, false, false] rfl rfl (any_of HT_.out (by kernel_rfl)) (fun _ _ _ h => h) (Or.inl ⟨by rfl, ?_⟩) ?_ ?_
     rotate_left
     · intro w'
       go_simp
       with_reducible rfl
     rotate_left
     · simp only [Act.put, s1, s2, s3, i64_w, i32_w]
       rfl
     refine take_ (i := 5) (N := some 262) (v := ?_) (a' := ?_) #[true, true, true, true, true, true, false, false, false, false, false, false, false, false, false, false, false, false, false, false, false, false, false, false, false, false, false, false] rfl rfl (take_ofW HT_.out HW_.out (by kernel_rfl)) (fun _ _ _ h => h) (Or.inl ⟨by rfl, ?_⟩) hHeld ?_ ?_
     rotate_left
     · rintro w' ⟨s0, s1, s2, s3, s4, s5⟩
       go_simp
       with_reducible rfl
     rotate_left
     · simp only [Act.put, s1, s2, s3, i64_w, i32_w]
       rfl
     refine pure_ (i := 6) (N := some 263) (v := ?_) (a' := ?_) #[true, true, true, true, true, true, true, false, false, false, false, false, false, false, false, false, false, false, false, false, false, false, false, false, false, false, false, false] rfl rfl (any_of HT_.out (by kernel_rfl)) (fun _ _ _ h => h) (Or.inl ⟨by rfl, ?_⟩) ?_ ?_
     rotate_left
     · intro w'
       go_simp
       with_reducible rfl
     rotate_left
     · simp only [Act.put, s1, s2, s3, i64_w, i32_w]
       rfl
     refine pure_ (i := 7) (N := some 264) (v := ?_) (a' := ?_) #[true, true, true, true, true, true, true, true, false, false, false, false, false, false, false, false, false, false, false, false, false, false, false, false, false, false, false, false] rfl rfl (any_of HT_.out (by kernel_rfl)) (fun _ _ _ h => h) (Or.inl ⟨by rfl, ?_⟩) ?_ ?_
     rotate_left
     · intro w'
       go_simp
       with_reducible rfl
     rotate_left
     · simp only [Act.put, s1, s2, s3, i64_w, i32_w]
       rfl
     refine pure_ (i := 8) (N := some 265) (v := ?_) (a' := ?_) #[true, true, true, true, true, true, true, true, true, false, false, false, false, false, false, false, false, false, false, false, false, false, false, false, false, false, false, false] rfl rfl (any_of HT_.out (by kernel_rfl)) (fun _ _ _ h => h) (Or.inl ⟨by rfl, ?_⟩) ?_ ?_
     rotate_left
     · intro w'
       go_simp
       with_reducible rfl
     rotate_left
     · simp only [Act.put, s1, s2, s3, i64_w, i32_w]
       rfl
     refine pure_ (i := 9) (N := some 266) (v := ?_) (a' := ?_) #[true, true, true, true, true, true, true, true, true, true, false, false, false, false, false, false, false, false, false, false, false, false, false, false, false, false, false, false] rfl rfl (any_of HT_.out (by kernel_rfl)) (fun _ _ _ h => h) (Or.inl ⟨by rfl, ?_⟩) ?_ ?_
     rotate_left
     · intro w'
       go_simp
       with_reducible rfl
     rotate_left
     · simp only [Act.put, s1, s2, s3, i64_w, i32_w]
       rfl
     refine pure_ (i := 10) (N := some 267) (v := ?_) (a' := ?_) #[true, true, true, true, true, true, true, true, true, true, true, false, false, false, false, false, false, false, false, false, false, false, false, false, false, false, false, false] rfl rfl (any_of HT_.out (by kernel_rfl)) (fun _ _ _ h => h) (Or.inl ⟨by rfl, ?_⟩) ?_ ?_
     rotate_left
     · intro w'
       go_simp
       with_reducible rfl
     rotate_left
     · simp only [Act.put, s1, s2, s3, i64_w, i32_w]
       rfl
     refine pure_ (i := 11) (N := some 268) (v := ?_) (a' := ?_) #[true, true, true, true, true, true, true, true, true, true, true, true, false, false, false, false, false, false, false, false, false, false, false, false, false, false, false, false] rfl rfl (any_of HT_.out (by kernel_rfl)) (fun _ _ _ h => h) (Or.inl ⟨by rfl, ?_⟩) ?_ ?_
     rotate_left
     · intro w'
       go_simp
       with_reducible rfl
     rotate_left
     · simp only [Act.put, s1, s2, s3, i64_w, i32_w]
       rfl
     refine pure_ (i := 13) (N := some 270) (v := ?_) (a' := ?_) #[true, true, true, true, true, true, true, true, true, true, true, true, false, true, false, false, false, false, false, false, false, false, false, false, false, false, false, false] rfl rfl (any_of HT_.out (by kernel_rfl)) (fun _ _ _ h => h) (Or.inl ⟨by rfl, ?_⟩) ?_ ?_
     rotate_left
     · intro w'
       go_simp
       with_reducible rfl
     rotate_left
     · simp only [Act.put, s1, s2, s3, i64_w, i32_w]
       rfl
     refine pure_ (i := 14) (N := some 271) (v := ?_) (a' := ?_) #[true, true, true, true, true, true, true, true, true, true, true, true, false, true, true, false, false, false, false, false, false, false, false, false, false, false, false, false] rfl rfl (any_of HT_.out (by kernel_rfl)) (fun _ _ _ h => h) (Or.inl ⟨by rfl, ?_⟩) ?_ ?_
     rotate_left
     · intro w'
       go_simp
       with_reducible rfl
     rotate_left
     · simp only [Act.put, s1, s2, s3, i64_w, i32_w]
       rfl
     refine pure_ (i := 15) (N := some 272) (v := ?_) (a' := ?_) #[true, true, true, true, true, true, true, true, true, true, true, true, false, true, true, true, false, false, false, false, false, false, false, false, false, false, false, false] rfl rfl (any_of HT_.out (by kernel_rfl)) (fun _ _ _ h => h) (Or.inl ⟨by rfl, ?_⟩) ?_ ?_
     rotate_left
     · intro w'
       go_simp
       with_reducible rfl
     rotate_left
     · simp only [Act.put, s1, s2, s3, i64_w, i32_w]
       rfl
     refine take_ (i := 12) (N := some 269) (v := ?_) (a' := ?_) #[true, true, true, true, true, true, true, true, true, true, true, true, true, true, true, true, false, false, false, false, false, false, false, false, false, false, false, false] rfl rfl (take_ofW HT_.out HW_.out (by kernel_rfl)) (fun _ _ _ h => h) (Or.inl ⟨by rfl, ?_⟩) hHeld ?_ ?_
     rotate_left
     · rintro w' ⟨s0, s1, s2, s3, s4, s5⟩
       go_simp
       with_reducible rfl
     rotate_left
     · simp only [Act.put, s1, s2, s3, i64_w, i32_w]
       rfl
     refine take_ (i := 16) (N := some 273) (v := ?_) (a' := ?_) #[true, true, true, true, true, true, true, true, true, true, true, true, true, true, true, true, true, false, false, false, false, false, false, false, false, false, false, false] rfl rfl (take_ofW HT_.out HW_.out (by kernel_rfl)) (fun _ _ _ h => h) (Or.inl ⟨by rfl, ?_⟩) hHeld ?_ ?_
     rotate_left
     · rintro w' ⟨s0, s1, s2, s3, s4, s5⟩
       go_simp
       with_reducible rfl
     rotate_left
     · simp only [Act.put, s1, s2, s3, i64_w, i32_w]
       rfl
     refine pure_ (i := 17) (N := some 274) (v := ?_) (a' := ?_) #[true, true, true, true, true, true, true, true, true, true, true, true, true, true, true, true, true, true, false, false, false, false, false, false, false, false, false, false] rfl rfl (any_of HT_.out (by kernel_rfl)) (fun _ _ _ h => h) (Or.inl ⟨by rfl, ?_⟩) ?_ ?_
     rotate_left
     · intro w'
       go_simp
       with_reducible rfl
     rotate_left
     · simp only [Act.put, s1, s2, s3, i64_w, i32_w]
       rfl
     refine pure_ (i := 18) (N := some 275) (v := ?_) (a' := ?_) #[true, true, true, true, true, true, true, true, true, true, true, true, true, true, true, true, true, true, true, false, false, false, false, false, false, false, false, false] rfl rfl (any_of HT_.out (by kernel_rfl)) (fun _ _ _ h => h) (Or.inl ⟨by rfl, ?_⟩) ?_ ?_
     rotate_left
     · intro w'
       go_simp
       with_reducible rfl
     rotate_left
     · simp only [Act.put, s1, s2, s3, i64_w, i32_w]
       rfl
     refine pure_ (i := 19) (N := some 276) (v := ?_) (a' := ?_) #[true, true, true, true, true, true, true, true, true, true, true, true, true, true, true, true, true, true, true, true, false, false, false, false, false, false, false, false] rfl rfl (any_of HT_.out (by kernel_rfl)) (fun _ _ _ h => h) (Or.inl ⟨by rfl, ?_⟩) ?_ ?_
     rotate_left
     · intro w'
       go_simp
       with_reducible rfl
     rotate_left
     · simp only [Act.put, s1, s2, s3, i64_w, i32_w]
       rfl
     refine pure_ (i := 20) (N := some 277) (v := ?_) (a' := ?_) #[true, true, true, true, true, true, true, true, true, true, true, true, true, true, true, true, true, true, true, true, true, false, false, false, false, false, false, false] rfl rfl (any_of HT_.out (by kernel_rfl)) (fun _ _ _ h => h) (Or.inl ⟨by rfl, ?_⟩) ?_ ?_
     rotate_left
     · intro w'
       go_simp
       with_reducible rfl
     rotate_left
     · simp only [Act.put, s1, s2, s3, i64_w, i32_w]
       rfl
     refine pure_ (i := 21) (N := some 278) (v := ?_) (a' := ?_) #[true, true, true, true, true, true, true, true, true, true, true, true, true, true, true, true, true, true, true, true, true, true, false, false, false, false, false, false] rfl rfl (any_of HT_.out (by kernel_rfl)) (fun _ _ _ h => h) (Or.inl ⟨by rfl, ?_⟩) ?_ ?_
     rotate_left
     · intro w'
       go_simp
       with_reducible rfl
     rotate_left
     · simp only [Act.put, s1, s2, s3, i64_w, i32_w]
       rfl
     refine pure_ (i := 22) (N := some 279) (v := ?_) (a' := ?_) #[true, true, true, true, true, true, true, true, true, true, true, true, true, true, true, true, true, true, true, true, true, true, true, false, false, false, false, false] rfl rfl (any_of HT_.out (by kernel_rfl)) (fun _ _ _ h => h) (Or.inl ⟨by rfl, ?_⟩) ?_ ?_
     rotate_left
     · intro w'
       go_simp
       with_reducible rfl
     rotate_left
     · simp only [Act.put, s1, s2, s3, i64_w, i32_w]
       rfl
     refine pure_ (i := 24) (N := some 281) (v := ?_) (a' := ?_) #[true, true, true, true, true, true, true, true, true, true, true, true, true, true, true, true, true, true, true, true, true, true, true, false, true, false, false, false] rfl rfl (any_of HT_.out (by kernel_rfl)) (fun _ _ _ h => h) (Or.inl ⟨by rfl, ?_⟩) ?_ ?_
     rotate_left
     · intro w'
       go_simp
       with_reducible rfl
     rotate_left
     · simp only [Act.put, s1, s2, s3, i64_w, i32_w]
       rfl
     refine take_ (i := 23) (N := some 280) (v := ?_) (a' := ?_) #[true, true, true, true, true, true, true, true, true, true, true, true, true, true, true, true, true, true, true, true, true, true, true, true, true, false, false, false] rfl rfl (take_ofW HT_.out HW_.out (by kernel_rfl)) (fun _ _ _ h => h) (Or.inl ⟨by rfl, ?_⟩) hHeld ?_ ?_
     rotate_left
     · rintro w' ⟨s0, s1, s2, s3, s4, s5⟩
       go_simp
       with_reducible rfl
     rotate_left
     · simp only [Act.put, s1, s2, s3, i64_w, i32_w]
       rfl
     refine take_ (i := 25) (N := some 282) (v := ?_) (a' := ?_) #[true, true, true, true, true, true, true, true, true, true, true, true, true, true, true, true, true, true, true, true, true, true, true, true, true, true, false, false] rfl rfl (take_ofW HT_.out HW_.out (by kernel_rfl)) (fun _ _ _ h => h) (Or.inl ⟨by rfl, ?_⟩) hHeld ?_ ?_
     rotate_left
     · rintro w' ⟨s0, s1, s2, s3, s4, s5⟩
       go_simp
       with_reducible rfl
     rotate_left
     · simp only [Act.put, s1, s2, s3, i64_w, i32_w]
       rfl
     refine pure_ (i := 26) (N := some 283) (v := ?_) (a' := ?_) #[true, true, true, true, true, true, true, true, true, true, true, true, true, true, true, true, true, true, true, true, true, true, true, true, true, true, true, false] rfl rfl (any_of HT_.out (by kernel_rfl)) (fun _ _ _ h => h) (Or.inl ⟨by rfl, ?_⟩) ?_ ?_
     rotate_left
     · intro w'
       go_simp
       with_reducible rfl
     rotate_left
     · simp only [Act.put, s1, s2, s3, i64_w, i32_w]
       rfl
     refine pure_ (i := 27) (N := some 284) (v := ?_) (a' := ?_) #[true, true, true, true, true, true, true, true, true, true, true, true, true, true, true, true, true, true, true, true, true, true, true, true, true, true, true, true] rfl rfl (any_of HT_.out (by kernel_rfl)) (fun _ _ _ h => h) (Or.inl ⟨by rfl, ?_⟩) ?_ ?_
     rotate_left
     · intro w'
       go_simp
       with_reducible rfl
     rotate_left
     · simp only [Act.put, s1, s2, s3, i64_w, i32_w]
       rfl
     refine done_ (done_of HT_.out (by kernel_rfl)) ?_
     try go_wp2
     go_meet
     case rel => exact ⟨_, (decide ((rd x3_7 x14_9) ≤ ((rd_T27 l0_0 x4_2).f1))), (by first | rfl | (simp; done) | (simp [*]; done)), H', ⟨by have := HJ7.out; have := HK2.out; have := HJ19.out; have := HJ30.out; have := HK5.out; have := HJ46.out; have := HJ54.out; have := HJ62.out; have := HK9.out; have := HJ71.out; have := HJ95.out; have := HJ118.out; have := HJ134.out; have := HJ140.out; first | omega | exact Nat.le_refl _⟩, ⟨ur <| HO_3.out⟩, ⟨ur <| HO_7.out⟩, ⟨ub BK661.out⟩, ⟨ub BK674.out⟩, ⟨ub BK694.out⟩, ⟨ub BK695.out⟩, ⟨ub BK734.out⟩, ⟨ub BK735.out⟩, ⟨by repeat with_reducible first | exact HB.out | apply b1 | apply b2 | apply b3 | refine b4 ?_ GE661.out | refine b4 ?_ GE674.out | refine b4 ?_ GE694.out | refine b4 ?_ GE695.out | refine b4 ?_ GE734.out | refine b4 ?_ GE735.out⟩⟩
   clear HC160
   try clear HA
   try clear HJ159
   try clear HO_3
   try clear HO_7
   try clear BK661
   try clear BK674
   try clear BK694
   try clear BK695
   try clear BK734
   try clear BK735
   try clear HB
   obtain ⟨kq, x284_159, rfl, HA, HJ159, HO_3, HO_7, BK661, BK674, BK694, BK695, BK734, BK735, HB⟩ := hcut
   rename_i z12_1 z12_2 z12_3 z12_4 z12_5 z12_6 z12_7 z12_8 z12_9 z12_10 z12_11 z12_12 z12_13 z12_14 z12_15 z12_16 z12_17 z12_18 z12_19 z12_20 z12_21 z12_22 z12_23 z12_24 z12_25 z12_26 z12_27 z12_28 z12_29 z12_30 z12_31 z12_32 z12_33 z12_34 z12_35 z12_36 z12_37 z12_38
   revert k c0_0 l0_0 A0_1 c0_1 l0_1 w hu25 hu27 HC0_0 HR0_1 HC0_1 A2 y663 Ny663 LMc7 y666 Ny666 z1_1 gb661 w9 GW661 GE661 w11 z1_2 v664 w12 w15 Ao16 co16 HO668 z3_1 u40 u41 u42 x3_7 kj7 HJ7 z2_1 z2_2 z4_1 z4_2 u5 u6 z3_2 u8 z4_3 z4_4 z4_5 z4_6 z4_7 z4_8 z4_9 z4_10 z4_11 z4_12 z4_13 z4_14 z4_15 z4_16 z4_17 z4_18 z4_19 z4_20 u27 u28 u29 u30 u31 z3_3 z3_4 z3_5 z3_6 z3_7 z3_8 z3_9 z3_10 u51 u52 u53 u54 u55 u56 u57 u58 u59 u60 u61 u62 u63 u64 u65 u66 z3_11 z3_12 z3_13 z4_21 z4_22 z4_23 z4_24 z4_25 z4_26 z4_27 z4_28 z4_29 z4_30 z4_31 z4_32 z4_33 z4_34 z4_35 z4_36 z4_37 z4_38 z4_39 z4_40 z4_41 z4_42 z4_43 z4_44 z4_45 z4_46 z4_47 z4_48 z4_49 z4_50 z4_51 z4_52 z4_53 z4_54 z4_55 z4_56 z4_57 z4_58 z4_59 z4_60 z4_61 z4_62 z4_63 z4_64 z4_65 z4_66 z4_67 z4_68 z4_69 z4_70 z4_71 z4_72 z4_73 z4_74 z4_75 z4_76 z4_77 z4_78 z4_79 z4_80 z4_81 z4_82 z4_83 z4_84 z4_85 z4_86 z4_87 z4_88 z4_89 z4_90 z4_91 z4_92 z4_93 z4_94 z4_95 z4_96 z4_97 z4_98 z4_99 z4_100 z4_101 z4_102 z4_103 z4_104 z4_105 z4_106 z4_107 z4_108 z4_109 z4_110 z4_111 z4_112 z4_113 z4_114 z4_115 z4_116 z4_117 z4_118 z4_119 z4_120 z4_121 z4_122 z4_123 z4_124 z4_125 z4_126 z4_127 z4_128 z4_129 z4_130 z4_131 z4_132 z4_133 z4_134 z4_135 z4_136 z4_137 z4_138 z4_139 z4_140 z4_141 z4_142 z4_143 z4_144 z4_145 z4_146 z4_147 z4_148 z4_149 z4_150 z4_151 z4_152 z4_153 z4_154 z4_155 z4_156 z4_157 z4_158 z4_159 z4_160 z4_161 z4_162 z4_163 z4_164 z4_165 z4_166 z4_167 z4_168 z4_169 z4_170 z4_171 z4_172 z4_173 z4_174 z4_175 z4_176 z4_177 z4_178 z4_179 z4_180 z4_181 z4_182 z4_183 z4_184 z4_185 z4_186 z4_187 z4_188 z4_189 z4_190 z4_191 z4_192 z4_193 z4_194 z4_195 z4_196 z4_197 z4_198 z4_199 z4_200 z4_201 z4_202 z4_203 z4_204 z4_205 z4_206 z4_207 z4_208 z4_209 z4_210 z4_211 z4_212 z4_213 z4_214 z4_215 z4_216 z4_217 z4_218 z4_219 z4_220 z4_221 z4_222 z4_223 z4_224 z4_225 z4_226 z4_227 z4_228 z4_229 z4_230 z4_231 z4_232 z4_233 z4_234 z4_235 z4_236 z4_237 z4_238 z4_239 z4_240 z4_241 z4_242 z4_243 z4_244 z4_245 z4_246 z4_247 z4_248 z4_249 z4_250 z4_251 z4_252 z4_253 z4_254 z4_255 z4_256 z4_257 z4_258 z4_259 z4_260 z4_261 z4_262 z4_263 z4_264 z4_265 z4_266 u316 u317 u318 u319 u320 u321 u322 u323 u324 u325 u326 u327 u328 u329 u330 u331 u332 u333 u334 u335 u336 u337 u338 u339 u340 u341 u342 u343 u344 u345 u346 u347 u348 u349 u350 u351 u352 u353 u354 u355 u356 u357 u358 u359 u360 u361 u362 u363 u364 u365 u366 u367 u368 u369 u370 u371 u372 u373 u374 u375 u376 z2_3 z2_4 x4_2 k2 z2_6 HK2 z3_14 u43 u44 u45 u46 u47 u48 u49 u50 kj19 HJ19 t675 A27 t676 A28 t677 A29 ad673 HR0_0 z3_15 z3_16 gb674 w33 GW674 GE674 NB661_674 NB674_661 hnb34 hnc34 w36 w38 nd z5_1 u7 u67 u68 u69 x7_30 kj30 HJ30 z4_267 z4_268 z7_1 z7_2 u9 u10 u11 u12 z6_1 u14 z7_3 z7_4 z7_5 z7_6 z7_7 z7_8 z7_9 z7_10 z7_11 z7_12 z7_13 z7_14 u70 u71 u72 u73 u74 u75 u76 u77 u78 u79 u80 u81 u82 u83 u84 z5_2 z5_3 z5_4 z5_5 z5_6 z5_7 z5_8 z5_9 z5_10 z6_2 z6_3 z6_4 z6_5 z6_6 z6_7 z6_8 z6_9 z6_10 z6_11 z6_12 z6_13 z6_14 z6_15 z6_16 z6_17 z6_18 z6_19 u112 z7_15 z7_16 z7_17 z7_18 z7_19 z7_20 z7_21 z7_22 z7_23 z7_24 z7_25 z7_26 z7_27 z7_28 z7_29 z7_30 z7_31 z7_32 z7_33 z7_34 z7_35 z7_36 z7_37 z7_38 z7_39 z7_40 z7_41 z7_42 z7_43 z7_44 z7_45 z7_46 z7_47 z7_48 z7_49 z7_50 z7_51 z7_52 z7_53 z7_54 z7_55 z7_56 z7_57 z7_58 z7_59 z7_60 z7_61 z7_62 z7_63 z7_64 z7_65 z7_66 z7_67 z7_68 z7_69 z7_70 z7_71 z7_72 z7_73 z7_74 z7_75 z7_76 z7_77 z7_78 z7_79 z7_80 z7_81 z7_82 z7_83 z7_84 z7_85 z7_86 z7_87 z7_88 z7_89 z7_90 z7_91 z7_92 z7_93 z7_94 z7_95 z7_96 z7_97 z7_98 z7_99 z7_100 z7_101 z7_102 z7_103 z7_104 z7_105 z7_106 z7_107 z7_108 z7_109 z7_110 z7_111 z7_112 z7_113 z7_114 z7_115 z7_116 z7_117 z7_118 z7_119 z7_120 z7_121 z7_122 z7_123 z7_124 z7_125 z7_126 z7_127 z7_128 z7_129 z7_130 z7_131 z7_132 z7_133 z7_134 z7_135 z7_136 z7_137 z7_138 z7_139 z7_140 z7_141 z7_142 z7_143 z7_144 z7_145 z7_146 z7_147 z7_148 z7_149 z7_150 z7_151 z7_152 z7_153 z7_154 z7_155 z7_156 z7_157 z7_158 z7_159 z7_160 z7_161 z7_162 z7_163 z7_164 z7_165 z7_166 z7_167 z7_168 z7_169 z7_170 z7_171 z7_172 z7_173 z7_174 z7_175 z7_176 z7_177 z7_178 z7_179 z7_180 z7_181 z7_182 z7_183 z7_184 z7_185 z7_186 z7_187 z7_188 z7_189 z7_190 z7_191 z7_192 z7_193 z7_194 z7_195 z7_196 z7_197 z7_198 z7_199 z7_200 z7_201 z7_202 z7_203 z7_204 z7_205 z7_206 z7_207 z7_208 z7_209 z7_210 z7_211 z7_212 z7_213 z7_214 z7_215 z7_216 z7_217 z4_269 z4_270 x8_5 k5 z4_272 HK5 t682 t683 A46 co48 z5_11 z5_12 ad681 z2_5 z4_271 z8_1 z8_2 w49 z5_13 w50 z10_1 z8_3 z6_20 u85 u86 u87 u88 u89 u90 u91 u92 u93 x94_46 kj46 HJ46 z6_21 u13 u94 u95 u96 u97 u98 u99 u100 u101 u102 u103 x11_54 x12_54 kj54 HJ54 z8_4 u104 u105 u106 u107 u108 u109 u110 u111 kj62 HJ62 wr u2 u15 u16 u17 u18 u19 u20 u21 u22 u23 u24 u25 u26 u113 u114 u115 u116 u117 u118 u119 u120 u121 u122 u123 u124 u125 u126 u127 u128 u129 u130 u131 u132 z8_5 z8_6 z8_7 z8_8 z8_9 z8_10 z8_11 z8_12 z8_13 z8_14 z8_15 z8_16 z8_17 z8_18 z8_19 z8_20 z8_21 z8_22 z8_23 z8_24 z9_1 z9_2 z9_3 z9_4 z9_5 z9_6 z9_7 z9_8 z9_9 z9_10 z9_11 z9_12 z9_13 z9_14 z9_15 z9_16 z9_17 z9_18 z9_19 z9_20 z9_21 z9_22 z10_2 z10_3 z10_4 z10_5 z10_6 z10_7 z10_8 z10_9 u183 u184 u185 u186 u187 u188 u189 u190 u191 u192 u193 u194 u195 u196 z10_10 z10_11 z10_12 z10_13 z10_14 z10_15 z10_16 z10_17 z10_18 z10_19 z10_20 z10_21 z10_22 z10_23 z11_1 z11_2 z11_3 z11_4 z11_5 z11_6 z11_7 z11_8 z11_9 z11_10 z11_11 z11_12 z11_13 z11_14 z11_15 z11_16 z11_17 z11_18 z11_19 z11_20 z11_21 z11_22 z11_23 z11_24 z11_25 z11_26 z11_27 z11_28 z11_29 z11_30 z11_31 z11_32 u243 u244 u245 u246 u247 u248 u249 u250 u251 u252 u253 u254 u255 u256 z12_1 z12_2 z12_3 z12_4 z12_5 z12_6 z12_7 z12_8 z12_9 z12_10 z12_11 z12_12 z12_13 z12_14 z12_15 z12_16 z12_17 z12_18 z12_19 z12_20 z12_21 z12_22 z12_23 z12_24 z12_25 z12_26 z12_27 u284 u285 u286 u287 u288 u289 u290 u291 u292 u293 u294 u295 u296 u297 u298 u299 u300 u301 u302 u303 u304 u305 u306 u307 u308 u309 u310 u311 u312 u313 u314 u315 z7_218 z7_219 z7_220 x14_9 k9 z7_221 HK9 c67b0 c68b0 c69b0 c70b0 t691 t692 t693 A71 z8_25 z8_26 p689 q689 p690 q690 z10_24 z10_25 w73 hx689_0 hx690_0 z8_27 gb694 w76 z12_28 GW694 GE694 NB661_694 NB694_661 NB674_694 NB694_674 z8_28 hs77 hfs77 hns77_0 hns77_1 hms77_0 hms77_1 hs78 hfs78 hns78_0 hns78_1 hms78_0 hms78_1 z10_26 gb695 w79 GW695 GE695 NB661_695 NB695_661 NB674_695 NB695_674 NB694_695 NB695_694 hnb80 hnc80 hnb81 hnc81 hnb82 hnc82 hcz83_0 hcz83_1 hfz83_0 hfz83_1 z9_23 u133 u134 u135 u136 u137 u138 u139 u140 u141 u142 u143 u144 u145 u146 u147 u148 u149 u150 u151 u152 x153_71 kj71 HJ71 z10_27 u153 u154 u155 u156 u157 u158 u159 u160 u161 u162 u163 u164 u165 u166 u167 u168 u169 u170 u171 u172 u173 u174 x17_95 x696000_95 x696001_95 kj95 HJ95 z10_28 u175 u176 u177 u178 u179 u180 u181 u182 kj118 HJ118 t718 t719 A134 e689 e690 z12_29 z12_30 w136 z10_29 w137 HS2_ HS3_ z12_31 z11_33 u197 u198 u199 u200 u201 u202 u203 u204 u205 u206 u207 u208 u209 u210 x211_134 kj134 HJ134 z12_32 u211 u212 u213 u214 u215 u216 u217 u218 u219 u220 u221 u222 u223 u224 u225 u226 u227 u228 u229 u230 u231 u232 u233 u234 u235 u236 u237 u238 u239 u240 u241 u242 x21_140 x22_140 kj140 HJ140 c155b0 c156b0 c157b0 c158b0 t731 t732 t733 A159 e716 e717 e729 p729 q729 e730 p730 q730 HT_ HW_ w161 hx729_0 hx730_0 z12_33 gb734 w164 hS_ GW734 GE734 NB661_734 NB734_661 NB674_734 NB734_674 NB694_734 NB734_694 NB695_734 NB734_695 z12_34 hs165 hfs165 hns165_0 hns165_1 hns165_2 hns165_3 hms165_0 hms165_1 hms165_2 hms165_3 hs166 hfs166 hns166_0 hns166_1 hns166_2 hns166_3 hms166_0 hms166_1 hms166_2 hms166_3 hHeld gb735 w167 GW735 GE735 NB661_735 NB735_661 NB674_735 NB735_674 NB694_735 NB735_694 NB695_735 NB735_695 NB734_735 NB735_734 hnb168 hnc168 hnb169 hnc169 hnb170 hnc170 hnb171 hnc171 hnb172 hnc172 hcz173_0 hcz173_1 hfz173_0 hfz173_1 z12_35 z12_36 z12_37 z12_38 wc u257 u258 u259 u260 u261 u262 u263 u264 u265 u266 u267 u268 u269 u270 u271 u272 u273 u274 u275 u276 u277 u278 u279 u280 u281 u282 u283 kq x284_159 HA HJ159 HO_3 HO_7 BK661 BK674 BK694 BK695 BK734 BK735 HB
   exact hP_.out
end Go.Proofs.Ytnpghcikhpglkaa.Q
namespace Go.Proofs.Ytnpghcikhpglkaa.Q
open Go.RowKit Go.Proofs.YtnpghcikhpglkaaW.PrintWords Go.Proofs.YtnpghcikhpglkaaW.PrintLast Go.Proofs.YtnpghcikhpglkaaW.PrintMore
attribute [local go_sem] max2_int min2_int max_two min_two max_three min_three max_four min_four   -- for this text's walks alone
set_option linter.unusedVariables false
set_option linter.unusedSimpArgs false
attribute [local go_sem high] eqA27
set_option maxHeartbeats 8000000 in
set_option maxRecDepth 100000 in
theorem herbariumlaw1_BitsExact.p13 : herbariumlaw1_BitsExact.p12.1 := by
  intro k c0_0 l0_0 A0_1 c0_1 l0_1 w hu25 hu27 HC0_0 HR0_1 HC0_1 A2 y663 Ny663 LMc7 y666 Ny666 z1_1 gb661 w9 GW661 GE661 w11 z1_2 v664 w12 w15 Ao16 co16 HO668 z3_1 u40 u41 u42 x3_7 kj7 HJ7 z2_1 z2_2 z4_1 z4_2 u5 u6 z3_2 u8 z4_3 z4_4 z4_5 z4_6 z4_7 z4_8 z4_9 z4_10 z4_11 z4_12 z4_13 z4_14 z4_15 z4_16 z4_17 z4_18 z4_19 z4_20 u27 u28 u29 u30 u31 z3_3 z3_4 z3_5 z3_6 z3_7 z3_8 z3_9 z3_10 u51 u52 u53 u54 u55 u56 u57 u58 u59 u60 u61 u62 u63 u64 u65 u66 z3_11 z3_12 z3_13 z4_21 z4_22 z4_23 z4_24 z4_25 z4_26 z4_27 z4_28 z4_29 z4_30 z4_31 z4_32 z4_33 z4_34 z4_35 z4_36 z4_37 z4_38 z4_39 z4_40 z4_41 z4_42 z4_43 z4_44 z4_45 z4_46 z4_47 z4_48 z4_49 z4_50 z4_51 z4_52 z4_53 z4_54 z4_55 z4_56 z4_57 z4_58 z4_59 z4_60 z4_61 z4_62 z4_63 z4_64 z4_65 z4_66 z4_67 z4_68 z4_69 z4_70 z4_71 z4_72 z4_73 z4_74 z4_75 z4_76 z4_77 z4_78 z4_79 z4_80 z4_81 z4_82 z4_83 z4_84 z4_85 z4_86 z4_87 z4_88 z4_89 z4_90 z4_91 z4_92 z4_93 z4_94 z4_95 z4_96 z4_97 z4_98 z4_99 z4_100 z4_101 z4_102 z4_103 z4_104 z4_105 z4_106 z4_107 z4_108 z4_109 z4_110 z4_111 z4_112 z4_113 z4_114 z4_115 z4_116 z4_117 z4_118 z4_119 z4_120 z4_121 z4_122 z4_123 z4_124
  intro z4_125 z4_126 z4_127 z4_128 z4_129 z4_130 z4_131 z4_132 z4_133 z4_134 z4_135 z4_136 z4_137 z4_138 z4_139 z4_140 z4_141 z4_142 z4_143 z4_144 z4_145 z4_146 z4_147 z4_148 z4_149 z4_150 z4_151 z4_152 z4_153 z4_154 z4_155 z4_156 z4_157 z4_158 z4_159 z4_160 z4_161 z4_162 z4_163 z4_164 z4_165 z4_166 z4_167 z4_168 z4_169 z4_170 z4_171 z4_172 z4_173 z4_174 z4_175 z4_176 z4_177 z4_178 z4_179 z4_180 z4_181 z4_182 z4_183 z4_184 z4_185 z4_186 z4_187 z4_188 z4_189 z4_190 z4_191 z4_192 z4_193 z4_194 z4_195 z4_196 z4_197 z4_198 z4_199 z4_200 z4_201 z4_202 z4_203 z4_204 z4_205 z4_206 z4_207 z4_208 z4_209 z4_210 z4_211 z4_212 z4_213 z4_214 z4_215 z4_216 z4_217 z4_218 z4_219 z4_220 z4_221 z4_222 z4_223 z4_224 z4_225 z4_226 z4_227 z4_228 z4_229 z4_230 z4_231 z4_232 z4_233 z4_234 z4_235 z4_236 z4_237 z4_238 z4_239 z4_240 z4_241 z4_242 z4_243 z4_244 z4_245 z4_246 z4_247 z4_248 z4_249 z4_250 z4_251 z4_252 z4_253 z4_254 z4_255 z4_256 z4_257 z4_258 z4_259 z4_260 z4_261 z4_262 z4_263 z4_264 z4_265 z4_266 u316 u317 u318 u319 u320 u321 u322 u323 u324 u325 u326 u327 u328 u329 u330 u331 u332 u333 u334 u335 u336 u337 u338 u339 u340 u341 u342 u343 u344 u345 u346 u347 u348 u349 u350 u351 u352 u353 u354 u355 u356 u357 u358 u359 u360 u361 u362 u363 u364 u365 u366 u367 u368 u369 u370 u371 u372 u373
  intro u374 u375 u376 z2_3 z2_4 x4_2 k2 z2_6 HK2 z3_14 u43 u44 u45 u46 u47 u48 u49 u50 kj19 HJ19 t675 A27 t676 A28 t677 A29 ad673 HR0_0 z3_15 z3_16 gb674 w33 GW674 GE674 NB661_674 NB674_661 hnb34 hnc34 w36 w38 nd z5_1 u7 u67 u68 u69 x7_30 kj30 HJ30 z4_267 z4_268 z7_1 z7_2 u9 u10 u11 u12 z6_1 u14 z7_3 z7_4 z7_5 z7_6 z7_7 z7_8 z7_9 z7_10 z7_11 z7_12 z7_13 z7_14 u70 u71 u72 u73 u74 u75 u76 u77 u78 u79 u80 u81 u82 u83 u84 z5_2 z5_3 z5_4 z5_5 z5_6 z5_7 z5_8 z5_9 z5_10 z6_2 z6_3 z6_4 z6_5 z6_6 z6_7 z6_8 z6_9 z6_10 z6_11 z6_12 z6_13 z6_14 z6_15 z6_16 z6_17 z6_18 z6_19 u112 z7_15 z7_16 z7_17 z7_18 z7_19 z7_20 z7_21 z7_22 z7_23 z7_24 z7_25 z7_26 z7_27 z7_28 z7_29 z7_30 z7_31 z7_32 z7_33 z7_34 z7_35 z7_36 z7_37 z7_38 z7_39 z7_40 z7_41 z7_42 z7_43 z7_44 z7_45 z7_46 z7_47 z7_48 z7_49 z7_50 z7_51 z7_52 z7_53 z7_54 z7_55 z7_56 z7_57 z7_58 z7_59 z7_60 z7_61 z7_62 z7_63 z7_64 z7_65 z7_66 z7_67 z7_68 z7_69 z7_70 z7_71 z7_72 z7_73 z7_74 z7_75 z7_76 z7_77 z7_78 z7_79 z7_80 z7_81 z7_82 z7_83 z7_84 z7_85 z7_86 z7_87 z7_88 z7_89 z7_90 z7_91 z7_92 z7_93 z7_94 z7_95 z7_96 z7_97 z7_98 z7_99 z7_100
  intro z7_101 z7_102 z7_103 z7_104 z7_105 z7_106 z7_107 z7_108 z7_109 z7_110 z7_111 z7_112 z7_113 z7_114 z7_115 z7_116 z7_117 z7_118 z7_119 z7_120 z7_121 z7_122 z7_123 z7_124 z7_125 z7_126 z7_127 z7_128 z7_129 z7_130 z7_131 z7_132 z7_133 z7_134 z7_135 z7_136 z7_137 z7_138 z7_139 z7_140 z7_141 z7_142 z7_143 z7_144 z7_145 z7_146 z7_147 z7_148 z7_149 z7_150 z7_151 z7_152 z7_153 z7_154 z7_155 z7_156 z7_157 z7_158 z7_159 z7_160 z7_161 z7_162 z7_163 z7_164 z7_165 z7_166 z7_167 z7_168 z7_169 z7_170 z7_171 z7_172 z7_173 z7_174 z7_175 z7_176 z7_177 z7_178 z7_179 z7_180 z7_181 z7_182 z7_183 z7_184 z7_185 z7_186 z7_187 z7_188 z7_189 z7_190 z7_191 z7_192 z7_193 z7_194 z7_195 z7_196 z7_197 z7_198 z7_199 z7_200 z7_201 z7_202 z7_203 z7_204 z7_205 z7_206 z7_207 z7_208 z7_209 z7_210 z7_211 z7_212 z7_213 z7_214 z7_215 z7_216 z7_217 z4_269 z4_270 x8_5 k5 z4_272 HK5 t682 t683 A46 co48 z5_11 z5_12 ad681 z2_5 z4_271 z8_1 z8_2 w49 z5_13 w50 z10_1 z8_3 z6_20 u85 u86 u87 u88 u89 u90 u91 u92 u93 x94_46 kj46 HJ46 z6_21 u13 u94 u95 u96 u97 u98 u99 u100 u101 u102 u103 x11_54 x12_54 kj54 HJ54 z8_4 u104 u105 u106 u107 u108 u109 u110 u111 kj62 HJ62 wr u2 u15 u16 u17 u18 u19 u20 u21 u22 u23 u24 u25 u26 u113 u114 u115 u116 u117 u118 u119
  intro u120 u121 u122 u123 u124 u125 u126 u127 u128 u129 u130 u131 u132 z8_5 z8_6 z8_7 z8_8 z8_9 z8_10 z8_11 z8_12 z8_13 z8_14 z8_15 z8_16 z8_17 z8_18 z8_19 z8_20 z8_21 z8_22 z8_23 z8_24 z9_1 z9_2 z9_3 z9_4 z9_5 z9_6 z9_7 z9_8 z9_9 z9_10 z9_11 z9_12 z9_13 z9_14 z9_15 z9_16 z9_17 z9_18 z9_19 z9_20 z9_21 z9_22 z10_2 z10_3 z10_4 z10_5 z10_6 z10_7 z10_8 z10_9 u183 u184 u185 u186 u187 u188 u189 u190 u191 u192 u193 u194 u195 u196 z10_10 z10_11 z10_12 z10_13 z10_14 z10_15 z10_16 z10_17 z10_18 z10_19 z10_20 z10_21 z10_22 z10_23 z11_1 z11_2 z11_3 z11_4 z11_5 z11_6 z11_7 z11_8 z11_9 z11_10 z11_11 z11_12 z11_13 z11_14 z11_15 z11_16 z11_17 z11_18 z11_19 z11_20 z11_21 z11_22 z11_23 z11_24 z11_25 z11_26 z11_27 z11_28 z11_29 z11_30 z11_31 z11_32 u243 u244 u245 u246 u247 u248 u249 u250 u251 u252 u253 u254 u255 u256 z12_1 z12_2 z12_3 z12_4 z12_5 z12_6 z12_7 z12_8 z12_9 z12_10 z12_11 z12_12 z12_13 z12_14 z12_15 z12_16 z12_17 z12_18 z12_19 z12_20 z12_21 z12_22 z12_23 z12_24 z12_25 z12_26 z12_27 u284 u285 u286 u287 u288 u289 u290 u291 u292 u293 u294 u295 u296 u297 u298 u299 u300 u301 u302 u303 u304 u305 u306 u307 u308 u309 u310 u311 u312 u313 u314 u315 z7_218 z7_219 z7_220 x14_9
  intro k9 z7_221 HK9 c67b0 c68b0 c69b0 c70b0 t691 t692 t693 A71 z8_25 z8_26 p689 q689 p690 q690 z10_24 z10_25 w73 hx689_0 hx690_0 z8_27 gb694 w76 z12_28 GW694 GE694 NB661_694 NB694_661 NB674_694 NB694_674 z8_28 hs77 hfs77 hns77_0 hns77_1 hms77_0 hms77_1 hs78 hfs78 hns78_0 hns78_1 hms78_0 hms78_1 z10_26 gb695 w79 GW695 GE695 NB661_695 NB695_661 NB674_695 NB695_674 NB694_695 NB695_694 hnb80 hnc80 hnb81 hnc81 hnb82 hnc82 hcz83_0 hcz83_1 hfz83_0 hfz83_1 z9_23 u133 u134 u135 u136 u137 u138 u139 u140 u141 u142 u143 u144 u145 u146 u147 u148 u149 u150 u151 u152 x153_71 kj71 HJ71 z10_27 u153 u154 u155 u156 u157 u158 u159 u160 u161 u162 u163 u164 u165 u166 u167 u168 u169 u170 u171 u172 u173 u174 x17_95 x696000_95 x696001_95 kj95 HJ95 z10_28 u175 u176 u177 u178 u179 u180 u181 u182 kj118 HJ118 t718 t719 A134 e689 e690 z12_29 z12_30 w136 z10_29 w137 HS2_ HS3_ z12_31 z11_33 u197 u198 u199 u200 u201 u202 u203 u204 u205 u206 u207 u208 u209 u210 x211_134 kj134 HJ134 z12_32 u211 u212 u213 u214 u215 u216 u217 u218 u219 u220 u221 u222 u223 u224 u225 u226 u227 u228 u229 u230 u231 u232 u233 u234 u235 u236 u237 u238 u239 u240 u241 u242 x21_140 x22_140 kj140 HJ140 c155b0 c156b0 c157b0
  intro c158b0 t731 t732 t733 A159 e716 e717 e729 p729 q729 e730 p730 q730 HT_ HW_ w161 hx729_0 hx730_0 z12_33 gb734 w164 hS_ GW734 GE734 NB661_734 NB734_661 NB674_734 NB734_674 NB694_734 NB734_694 NB695_734 NB734_695 z12_34 hs165 hfs165 hns165_0 hns165_1 hns165_2 hns165_3 hms165_0 hms165_1 hms165_2 hms165_3 hs166 hfs166 hns166_0 hns166_1 hns166_2 hns166_3 hms166_0 hms166_1 hms166_2 hms166_3 hHeld gb735 w167 GW735 GE735 NB661_735 NB735_661 NB674_735 NB735_674 NB694_735 NB735_694 NB695_735 NB735_695 NB734_735 NB735_734 hnb168 hnc168 hnb169 hnc169 hnb170 hnc170 hnb171 hnc171 hnb172 hnc172 hcz173_0 hcz173_1 hfz173_0 hfz173_1 z12_35 z12_36 z12_37 z12_38 wc u257 u258 u259 u260 u261 u262 u263 u264 u265 u266 u267 u268 u269 u270 u271 u272 u273 u274 u275 u276 u277 u278 u279 u280 u281 u282 u283 kq x284_159 HA HJ159 HO_3 HO_7 BK661 BK674 BK694 BK695 BK734 BK735 HB
  cases kq with
  | zero => exact absurd HA.out (by simp [herbariumlaw1_BitsExact.j14])
  | succ kj159 => ?_
  have H := HA.out
  clear HA
  simp only [herbariumlaw1_BitsExact.j14] at H
  have HC185 := ak H
  clear H
  go_upto_if 284 with (fail)
  go_cut [25] from 284 to 284 (fun v25 wc => ∃ (kq : Nat) (x25_184 : Int) (x736000_184 : ByteArray) (x736001_184 : Int), v25 = .int .i64 x25_184 ∧ Aside0 (herbariumlaw1_BitsExact.j15 kq x3_7 x4_2 t675 x7_30 x8_5 x14_9 t718 t719 x21_140 x22_140 t733 x25_184 l0_0 l0_1 ((rd_T27 l0_0 x4_2).f0) ((rd_T27 l0_0 x4_2).f1) t731 t732 x736000_184 x736001_184 = some true) ∧ Aside0 (kq ≤ kj159) ∧ Aside0 (Kd.R (Kd.int .i64) 3 wc w.heap.size (fun _ => True) (.slice (some ad681) x3_7.length co48) x3_7) ∧ Aside0 (Kd.R (Kd.int .u8) 5 wc w.heap.size (fun _ => True) u7 x7_30) ∧ Aside0 (wc.heap[gb661]? = some (.cells #[(.slice (some ad673) l0_0.length c0_0), (.slice A0_1 l0_1.length c0_1)] 25 (0, 0))) ∧ Aside0 (wc.heap[gb674]? = some (.cells #[.string ((rd_T27 l0_0 x4_2).f0), .int .i64 ((rd_T27 l0_0 x4_2).f1)] 27 (0, 0))) ∧ Aside0 (wc.heap[gb694]? = some (.cells #[.string t691, .int .i64 t692] 27 (0, 0))) ∧ Aside0 (wc.heap[gb695]? = some (.cells #[.string x696000_95, .int .i64 x696001_95] 27 (0, 0))) ∧ Aside0 (wc.heap[gb734]? = some (.cells #[.string t731, .int .i64 t732] 27 (0, 0))) ∧ Aside0 (wc.heap[gb735]? = some (.cells #[.string x736000_184, .int .i64 x736001_184] 27 (0, 0))) ∧ Aside0 (Below w.heap.size w wc))
  case first =>
    have H := HC185.out
    clear HC185
    by_cases c186 : x284_159 = true
    rotate_left
    · replace c186 := Bool.eq_false_iff.mpr c186
      subst c186
      have H1 : (herbariumlaw1_BitsExact.j15 kj159 x3_7 x4_2 t675 x7_30 x8_5 x14_9 t718 t719 x21_140 x22_140 t733 1 l0_0 l0_1 ((rd_T27 l0_0 x4_2).f0) ((rd_T27 l0_0 x4_2).f1) t731 t732 (⟨#[]⟩ : ByteArray) 0) = some true := by rw [if_neg (show ¬ (false = true) by decide)] at H; exact H
      clear H
      have H := H1
      clear H1
      have H' := ak H
      clear H
      go_wp2
      go_meet
      case rel => exact ⟨_, (1), ((⟨#[]⟩ : ByteArray)), (0), (by first | rfl | (simp; done) | (simp [*]; done)), H', ⟨by have := HJ7.out; have := HK2.out; have := HJ19.out; have := HJ30.out; have := HK5.out; have := HJ46.out; have := HJ54.out; have := HJ62.out; have := HK9.out; have := HJ71.out; have := HJ95.out; have := HJ118.out; have := HJ134.out; have := HJ140.out; have := HJ159.out; first | omega | exact Nat.le_refl _⟩, ⟨ur <| HO_3.out⟩, ⟨ur <| HO_7.out⟩, ⟨ub BK661.out⟩, ⟨ub BK674.out⟩, ⟨ub BK694.out⟩, ⟨ub BK695.out⟩, ⟨ub BK734.out⟩, ⟨ub BK735.out⟩, ⟨by repeat with_reducible first | exact HB.out | apply b1 | apply b2 | apply b3 | refine b4 ?_ GE661.out | refine b4 ?_ GE674.out | refine b4 ?_ GE694.out | refine b4 ?_ GE695.out | refine b4 ?_ GE734.out | refine b4 ?_ GE735.out⟩⟩
    subst c186
    have H1 : (if 0 ≤ x8_5 then (if x8_5 < (x3_7.length : Int) then (if 0 ≤ x14_9 then (if x14_9 < (x3_7.length : Int) then (if 0 ≤ (rd x3_7 x8_5) then (if (rd x3_7 x8_5) ≤ (rd x3_7 x14_9) then (if (rd x3_7 x14_9) ≤ (x7_30.length : Int) then ((herbariumref1_List_Pack.f kj159 ((x7_30.take ((rd x3_7 x14_9) : Int).toNat).drop ((rd x3_7 x8_5) : Int).toNat)).bind fun bt746 => (herbariumlaw1_BitsExact.j15 kj159 x3_7 x4_2 t675 x7_30 x8_5 x14_9 t718 t719 x21_140 x22_140 t733 0 l0_0 l0_1 ((rd_T27 l0_0 x4_2).f0) ((rd_T27 l0_0 x4_2).f1) t731 t732 bt746.1 bt746.2)) else (none)) else (none)) else (none)) else (none)) else (none)) else (none)) else (none)) = some true := by rw [if_pos rfl] at H; exact H
    clear H
    have H := H1
    clear H1
    by_cases c187 : 0 ≤ x8_5
    rotate_left
    · rw [if_neg c187] at H
      exact absurd H (by simp)
    rw [if_pos c187] at H
    have c187b0 : decide (0 ≤ x8_5) = true := decide_eq_true c187
    clear c187
    (first | rw [c187b0] | (simp only [i64_w, i32_w]; rw [c187b0]) | skip)
    by_cases c188 : x8_5 < (x3_7.length : Int)
    rotate_left
    · rw [if_neg c188] at H
      exact absurd H (by simp)
    rw [if_pos c188] at H
    have c188b0 : decide (x8_5 < (x3_7.length : Int)) = true := decide_eq_true c188
    clear c188
    by_cases c189 : 0 ≤ x14_9
    rotate_left
    · rw [if_neg c189] at H
      exact absurd H (by simp)
    rw [if_pos c189] at H
    have c189b0 : decide (0 ≤ x14_9) = true := decide_eq_true c189
    clear c189
    by_cases c190 : x14_9 < (x3_7.length : Int)
    rotate_left
    · rw [if_neg c190] at H
      exact absurd H (by simp)
    rw [if_pos c190] at H
    have c190b0 : decide (x14_9 < (x3_7.length : Int)) = true := decide_eq_true c190
    clear c190
    by_cases c191 : 0 ≤ (rd x3_7 x8_5)
    rotate_left
    · rw [if_neg c191] at H
      exact absurd H (by simp)
    rw [if_pos c191] at H
    have c191b0 := eq_true c191
    have c191b1 : decide (0 ≤ (rd x3_7 x8_5)) = true := decide_eq_true c191
    clear c191
    by_cases c192 : (rd x3_7 x8_5) ≤ (rd x3_7 x14_9)
    rotate_left
    · rw [if_neg c192] at H
      exact absurd H (by simp)
    rw [if_pos c192] at H
    have c192b0 := eq_true c192
    have c192b1 : decide ((rd x3_7 x8_5) ≤ (rd x3_7 x14_9)) = true := decide_eq_true c192
    clear c192
    by_cases c193 : (rd x3_7 x14_9) ≤ (x7_30.length : Int)
    rotate_left
    · rw [if_neg c193] at H
      exact absurd H (by simp)
    rw [if_pos c193] at H
    have c193b0 := eq_true c193
    have c193b1 : decide ((rd x3_7 x14_9) ≤ (x7_30.length : Int)) = true := decide_eq_true c193
    clear c193
    obtain ⟨y742, hy742⟩ : ∃ y_ : List Int, y_ = ((x7_30.take ((rd x3_7 x14_9) : Int).toNat).drop ((rd x3_7 x8_5) : Int).toNat) := ⟨_, rfl⟩
    replace H : ((herbariumref1_List_Pack.f kj159 y742).bind fun bt746 => (herbariumlaw1_BitsExact.j15 kj159 x3_7 x4_2 t675 x7_30 x8_5 x14_9 t718 t719 x21_140 x22_140 t733 0 l0_0 l0_1 ((rd_T27 l0_0 x4_2).f0) ((rd_T27 l0_0 x4_2).f1) t731 t732 bt746.1 bt746.2)) = some true := by first | (rw [hy742]; with_reducible exact H) | (have H2_ := (Option.bind_some _ _).symm.trans H; rw [hy742]; with_reducible exact H2_) | (have H2_ := (Option.bind_some _ _).symm.trans H; with_reducible exact H2_) | with_reducible exact H | (rw [hy742]; exact H) | exact H
    have Ny742 := ak hy742
    clear hy742
    replace H := Option.bind_eq_some_iff.mp H
    obtain ⟨⟨t746, t747⟩, A1940, H⟩ := H
    try dsimp only at H
    have A194 := ak A1940
    clear A1940
    have H' := ak H
    clear H
    try go_wp2
    have n0_ := ak (Kd.R_drew HO_3.out)
    have n1_ := ak (Kd.R_drew HO_7.out)
    have n2_ := ak (blk_drew BK661.out)
    have n3_ := ak (blk_drew BK674.out)
    have n4_ := ak (blk_drew BK694.out)
    have n5_ := ak (blk_drew BK695.out)
    have n6_ := ak (blk_drew BK734.out)
    have n7_ := ak (blk_drew BK735.out)
    have n8_ := ak (below_drew1 HB.out)
    clear HO_3
    clear HO_7
    clear BK661
    clear BK674
    clear BK694
    clear BK695
    clear BK734
    clear BK735
    clear HB
    have HO_3 := n0_
    have HO_7 := n1_
    have BK661 := n2_
    have BK674 := n3_
    have BK694 := n4_
    have BK695 := n5_
    have BK734 := n6_
    have BK735 := n7_
    have HB := n8_
    clear n0_ n1_ n2_ n3_ n4_ n5_ n6_ n7_ n8_
    have p740 : 0 ≤ (x8_5 : Int) := of_decide_eq_true (by first | (with_reducible assumption) | assumption)
    have q740 : x8_5 < (x3_7.length : Int) := of_decide_eq_true (by first | (with_reducible assumption) | assumption)
    obtain ⟨ad740, e740, hx740_0⟩ := Kd.at_int (Kd.R_reads' HO_3.out).2.2 x8_5 p740 q740
    obtain rfl : ad681 = ad740 := (by injection e740)
    replace p740 := eq_true p740
    replace q740 := eq_true q740
    have p741 : 0 ≤ (x14_9 : Int) := of_decide_eq_true (by first | (with_reducible assumption) | assumption)
    have q741 : x14_9 < (x3_7.length : Int) := of_decide_eq_true (by first | (with_reducible assumption) | assumption)
    obtain ⟨ad741, e741, hx741_0⟩ := Kd.at_int (Kd.R_reads' HO_3.out).2.2 x14_9 p741 q741
    obtain rfl : ad681 = ad741 := (by injection e741)
    replace p741 := eq_true p741
    replace q741 := eq_true q741
    obtain ⟨Ao197, co197, eo197⟩ := Kd.R_slice HO_7.out
    (first | subst eo197 | (injection eo197 with f1_ f2_ f3_; have f4_ := f1_.symm; have f5_ := f3_.symm; clear f1_ f2_ f3_; subst f4_; subst f5_))
    have q196 : ((rd x3_7 x14_9) : Int) ≤ ((x7_30.length : Int) : Int) := of_decide_eq_true (by first | (with_reducible assumption) | assumption)
    obtain ⟨i0196, hi0196, _, hsz196, _⟩ := info_parts info5
    have hroom196 : x7_30.length ≤ co197 := (Kd.R_reads' HO_7.out).2.1
    have hC196 : Kd.C (Kd.int .u8) _ Ao197 x7_30.length x7_30 := (Kd.R_reads' HO_7.out).2.2
    have ql196 : ((rd x3_7 x8_5) : Int) ≤ ((rd x3_7 x14_9) : Int) := of_decide_eq_true (by first | (with_reducible assumption) | assumption)
    have q0196 : (0 : Int) ≤ ((rd x3_7 x8_5) : Int) := of_decide_eq_true (by first | (with_reducible assumption) | assumption)
    have hcut196 := cut_mid (P := Try.prog) 64 5 .i64 .i64 Try.underlying64 hi0196 1 hsz196 Ao197 x7_30.length co197 (rd x3_7 x8_5) (rd x3_7 x14_9) q0196 ql196 q196 hroom196
    have hr196 := Kd.C_mid (lo := ((rd x3_7 x8_5) : Int).toNat) (hi := ((rd x3_7 x14_9) : Int).toNat) (c := co197) hC196 (by omega) (by omega) hroom196
    obtain ⟨A196, hA196⟩ : ∃ A1, A1 = (if co197 = ((rd x3_7 x8_5) : Int).toNat then Ao197 else (Ao197 : Option Addr).map (·.add (((rd x3_7 x8_5) : Int).toNat * 1))) := ⟨_, rfl⟩
    obtain ⟨c196, hc196⟩ : ∃ c1, c1 = co197 - ((rd x3_7 x8_5) : Int).toNat := ⟨_, rfl⟩
    have hy196 : y742.length = ((rd x3_7 x14_9) : Int).toNat - ((rd x3_7 x8_5) : Int).toNat := (by rw [Ny742.out, List.length_drop, List.length_take] <;> omega)
    rw [show ((x7_30).take ((rd x3_7 x14_9) : Int).toNat).drop ((rd x3_7 x8_5) : Int).toNat = y742 from Ny742.out.symm] at hr196
    replace hr196 : Kd.C (Kd.int .u8) _ A196 y742.length y742 := (by rw [hA196]; exact hr196)
    rw [← hy196, ← hA196, ← hc196] at hcut196
    have HR745 := ak hr196
    have HC745 := ak (show y742.length ≤ c196 from by rw [hy196, hc196]; exact Nat.sub_le_sub_right (Nat.le_trans (by omega) hroom196) _)
    clear hr196 hC196 hroom196 hi0196 hsz196 hc196
    have KY196 := ak hy196
    have KA196 := ak hA196
    clear hy196 hA196
    have KL196 := ak (show ((rd x3_7 x14_9) : Int).toNat ≤ x7_30.length from by omega)
    have KM196 := ak (show ((rd x3_7 x8_5) : Int).toNat ≤ ((rd x3_7 x14_9) : Int).toNat from by omega)
    replace q196 := eq_true q196
    refine start_ (n := 13) (S := fun w' => w'.cell? (ad681.add (x8_5).toNat) = some (.int .i64 (rd x3_7 x8_5)) ∧ w'.cell? (ad681.add (x14_9).toNat) = some (.int .i64 (rd x3_7 x14_9))) (ds := []) #[false, false, false, false, false, false, false, false, false, false, false, false, false] (by kernel_rfl) rfl rfl ⟨hx740_0, hx741_0⟩ (fun hHeld => ?_); refine with_tabW herbariumlaw1_BitsExact.tab48 herbariumlaw1_BitsExact.bits48 (fun HT_ HW_ => ?_)
    generalize wc.drew = w195 at HO_3 HO_7 BK661 BK674 BK694 BK695 BK734 BK735 HB HR745 hx740_0 hx741_0 hHeld ⊢
    refine pure_ (i := 0) (N := some 285) (v := ?_) (a' := ?_) #[true, false, false, false, false, false, false, false, false, false, false, false, false] rfl rfl (any_of HT_.out (by kernel_rfl)) (fun _ _ _ h => h) (Or.inl ⟨by rfl, ?_⟩) ?_ ?_
    rotate_left
    · intro w'
      go_simp
      with_reducible rfl
    rotate_left
    · simp only [Act.put, s1, s2, s3, i64_w, i32_w]
      rfl
    refine pure_ (i := 1) (N := some 286) (v := ?_) (a' := ?_) #[true, true, false, false, false, false, false, false, false, false, false, false, false] rfl rfl (any_of HT_.out (by kernel_rfl)) (fun _ _ _ h => h) (Or.inl ⟨by rfl, ?_⟩) ?_ ?_
    rotate_left
    · intro w'
      go_simp
      with_reducible rfl
    rotate_left
    · simp only [Act.put, s1, s2, s3, i64_w, i32_w]
      rfl
    refine pure_ (i := 2) (N := some 287) (v := ?_) (a' := ?_) #[true, true, true, false, false, false, false, false, false, false, false, false, false] rfl rfl (any_of HT_.out (by kernel_rfl)) (fun _ _ _ h => h) (Or.inl ⟨by rfl, ?_⟩) ?_ ?_
    rotate_left
    · intro w'
      go_simp
      with_reducible rfl
    rotate_left
    · simp only [Act.put, s1, s2, s3, i64_w, i32_w]
      rfl
    refine pure_ (i := 3) (N := some 288) (v := ?_) (a' := ?_) #[true, true, true, true, false, false, false, false, false, false, false, false, false] rfl rfl (any_of HT_.out (by kernel_rfl)) (fun _ _ _ h => h) (Or.inl ⟨by rfl, ?_⟩) ?_ ?_
    rotate_left
    · intro w'
      go_simp
      with_reducible rfl
    rotate_left
    · simp only [Act.put, s1, s2, s3, i64_w, i32_w]
      rfl
    refine pure_ (i := 5) (N := some 290) (v := ?_) (a' := ?_) #[true, true, true, true, false, true, false, false, false, false, false, false, false] rfl rfl (any_of HT_.out (by kernel_rfl)) (fun _ _ _ h => h) (Or.inl ⟨by rfl, ?_⟩) ?_ ?_
    rotate_left
    · intro w'
      go_simp
      with_reducible rfl
    rotate_left
    · simp only [Act.put, s1, s2, s3, i64_w, i32_w]
      rfl
    refine pure_ (i := 6) (N := some 291) (v := ?_) (a' := ?_) #[true, true, true, true, false, true, true, false, false, false, false, false, false] rfl rfl (any_of HT_.out (by kernel_rfl)) (fun _ _ _ h => h) (Or.inl ⟨by rfl, ?_⟩) ?_ ?_
    rotate_left
    · intro w'
      go_simp
      with_reducible rfl
    rotate_left
    · simp only [Act.put, s1, s2, s3, i64_w, i32_w]
      rfl
    refine pure_ (i := 7) (N := some 292) (v := ?_) (a' := ?_) #[true, true, true, true, false, true, true, true, false, false, false, false, false] rfl rfl (any_of HT_.out (by kernel_rfl)) (fun _ _ _ h => h) (Or.inl ⟨by rfl, ?_⟩) ?_ ?_
    rotate_left
    · intro w'
      go_simp
      with_reducible rfl
    rotate_left
    · simp only [Act.put, s1, s2, s3, i64_w, i32_w]
      rfl
    refine take_ (i := 4) (N := some 289) (v := ?_) (a' := ?_) #[true, true, true, true, true, true, true, true, false, false, false, false, false] rfl rfl (take_ofW HT_.out HW_.out (by kernel_rfl)) (fun _ _ _ h => h) (Or.inl ⟨by rfl, ?_⟩) hHeld ?_ ?_
    rotate_left
    · rintro w' ⟨s0, s1⟩
      go_simp
      with_reducible rfl
    rotate_left
    · simp only [Act.put, s1, s2, s3, i64_w, i32_w]
      rfl
    refine take_ (i := 8) (N := some 293) (v := ?_) (a' := ?_) #[true, true, true, true, true, true, true, true, true, false, false, false, false] rfl rfl (take_ofW HT_.out HW_.out (by kernel_rfl)) (fun _ _ _ h => h) (Or.inl ⟨by rfl, ?_⟩) hHeld ?_ ?_
    rotate_left
    · rintro w' ⟨s0, s1⟩
      go_simp
      with_reducible rfl
    rotate_left
    · simp only [Act.put, s1, s2, s3, i64_w, i32_w]
      rfl
    refine pure_ (i := 9) (N := some 294) (v := ?_) (a' := ?_) #[true, true, true, true, true, true, true, true, true, true, false, false, false] rfl rfl (any_of HT_.out (by kernel_rfl)) (fun _ _ _ h => h) (Or.inl ⟨by rfl, ?_⟩) ?_ ?_
    rotate_left
    · intro w'
      go_simp
      with_reducible rfl
    rotate_left
    · simp only [Act.put, s1, s2, s3, i64_w, i32_w]
      rfl
    refine one_ (i := 10) (N := some 295) #[true, true, true, true, true, true, true, true, true, true, true, false, false] rfl rfl (one_of HT_.out (by kernel_rfl)) (by decide) (fun K hK => ?_)
    refine goes_ Try.func56 (by kernel_rfl) rfl #[.slice A196 y742.length c196] (by rfl) rfl rfl (by (try simp only [List.map_toArray, List.map_cons, List.map_nil]); first | done | rfl | (simp only [List.length_drop, List.length_take]; rfl)) ?_
    with_reducible refine (herbariumref1_List_Pack.calls kj159 _ _ y742 t746 t747 _ ?side1 ?side2 A194.out).mono ?_
    (case side1 => exact uc HR745.out)
    (case side2 => exact HC745.out)
    rintro e w198 ⟨rfl, hb⟩
    have HS0_ := (hb.cell (World.block_lt_of_cell? _ _ (hHeld.1))).trans (hHeld.1)
    have HS1_ := (hb.cell (World.block_lt_of_cell? _ _ (hHeld.2))).trans (hHeld.2)
    refine ⟨_, rfl, ?_⟩
    have n0_ := ak (Kd.R_below (ur <| HO_3.out) hb)
    have n1_ := ak (Kd.R_below (ur <| HO_7.out) hb)
    have n2_ := ak (blk_below (g := gb661) (o := .cells #[.slice (some ad673) l0_0.length c0_0, .slice A0_1 l0_1.length c0_1] 25 (0, 0)) (ub BK661.out) hb)
    have n3_ := ak (blk_below (g := gb674) (o := .cells #[.string ((rd_T27 l0_0 x4_2).f0), .int .i64 ((rd_T27 l0_0 x4_2).f1)] 27 (0, 0)) (ub BK674.out) hb)
    have n4_ := ak (blk_below (g := gb694) (o := .cells #[.string t691, .int .i64 t692] 27 (0, 0)) (ub BK694.out) hb)
    have n5_ := ak (blk_below (g := gb695) (o := .cells #[.string x696000_95, .int .i64 x696001_95] 27 (0, 0)) (ub BK695.out) hb)
    have n6_ := ak (blk_below (g := gb734) (o := .cells #[.string t731, .int .i64 t732] 27 (0, 0)) (ub BK734.out) hb)
    have n7_ := ak (blk_below (g := gb735) (o := .cells #[.string (⟨#[]⟩ : ByteArray), .int .i64 0] 27 (0, 0)) (ub BK735.out) hb)
    have n8_ := ak (Kd.C_below (uc HR745.out) hb)
    have n9_ := ak (below_step (by repeat with_reducible first | exact HB.out | apply b1 | apply b2 | apply b3 | refine b4 ?_ GE661.out | refine b4 ?_ GE674.out | refine b4 ?_ GE694.out | refine b4 ?_ GE695.out | refine b4 ?_ GE734.out | refine b4 ?_ GE735.out) hb)
    clear HO_3
    clear HO_7
    clear BK661
    clear BK674
    clear BK694
    clear BK695
    clear BK734
    clear BK735
    clear HR745
    clear HB
    have HO_3 := n0_
    have HO_7 := n1_
    have BK661 := n2_
    have BK674 := n3_
    have BK694 := n4_
    have BK695 := n5_
    have BK734 := n6_
    have BK735 := n7_
    have HR745 := n8_
    have HB := n9_
    clear n0_ n1_ n2_ n3_ n4_ n5_ n6_ n7_ n8_ n9_
    (try clear hb)
    (try clear hb2)
    (try clear hk)
    (try clear hi)
    refine hK.out _ _ ⟨HS0_, HS1_⟩ (fun hHeld => ?_)
    clear hK K
    refine norm_ (a' := ?_) ?_ ?_
    rotate_left
    · show Act.put _ (some 295) _ = _
      simp only [Act.put, s1, s2, s3, i64_w, i32_w]
      rfl
    refine pure_ (i := 11) (N := some 25) (v := ?_) (a' := ?_) #[true, true, true, true, true, true, true, true, true, true, true, true, false] rfl rfl (any_of HT_.out (by kernel_rfl)) (fun _ _ _ h => h) (Or.inl ⟨by rfl, ?_⟩) ?_ ?_
    rotate_left
    · intro w'
      go_simp
      with_reducible rfl
    rotate_left
    · simp only [Act.put, s1, s2, s3, i64_w, i32_w]
      rfl
    refine one_ (i := 12) (N := none) #[true, true, true, true, true, true, true, true, true, true, true, true, true] rfl rfl (one_of HT_.out (by kernel_rfl)) (by decide) (fun K hK => ?_)
    have hs199 : w198.cell? ⟨gb735, 0, none⟩ = some (.string (⟨#[]⟩ : ByteArray)) := (blk_cell BK735.out 0).trans rfl
    have hfs199 := blk_frozen BK735.out 0
    have hns199_0 := NB661_735.out
    have hns199_1 := NB674_735.out
    have hns199_2 := NB694_735.out
    have hns199_3 := NB695_735.out
    have hns199_4 := NB734_735.out
    have hms199_0 := NB735_661.out
    have hms199_1 := NB735_674.out
    have hms199_2 := NB735_694.out
    have hms199_3 := NB735_695.out
    have hms199_4 := NB735_734.out
    have hs200 : w198.cell? ⟨gb735, 1, none⟩ = some (.int .i64 0) := (blk_cell BK735.out 1).trans rfl
    have hfs200 := blk_frozen BK735.out 1
    have hns200_0 := NB661_735.out
    have hns200_1 := NB674_735.out
    have hns200_2 := NB694_735.out
    have hns200_3 := NB695_735.out
    have hns200_4 := NB734_735.out
    have hms200_0 := NB735_661.out
    have hms200_1 := NB735_674.out
    have hms200_2 := NB735_694.out
    have hms200_3 := NB735_695.out
    have hms200_4 := NB735_734.out
    refine skip_ (w1 := ?_) (by rfl) rfl ?_ ?_
    rotate_left
    · go_simp
      rfl
    refine hK.out _ _ ⟨((cell_far (p := ⟨gb735, _, none⟩) (by first | exact Kd.own_blk (Kd.R_ne HO_3.out BK735.out (by decide)) | (rw [add_block]; exact Kd.own_blk (Kd.R_ne HO_3.out BK735.out (by decide))) | (show (Addr.add _ _).block ≠ _; rw [add_block]; exact Kd.own_blk (Kd.R_ne HO_3.out BK735.out (by decide))) | (dsimp only; exact Kd.own_blk (Kd.R_ne HO_3.out BK735.out (by decide)))) _).trans (((cell_far (p := ⟨gb735, _, none⟩) (by first | exact Kd.own_blk (Kd.R_ne HO_3.out BK735.out (by decide)) | (rw [add_block]; exact Kd.own_blk (Kd.R_ne HO_3.out BK735.out (by decide))) | (show (Addr.add _ _).block ≠ _; rw [add_block]; exact Kd.own_blk (Kd.R_ne HO_3.out BK735.out (by decide))) | (dsimp only; exact Kd.own_blk (Kd.R_ne HO_3.out BK735.out (by decide)))) _).trans (hHeld.1)))), ((cell_far (p := ⟨gb735, _, none⟩) (by first | exact Kd.own_blk (Kd.R_ne HO_3.out BK735.out (by decide)) | (rw [add_block]; exact Kd.own_blk (Kd.R_ne HO_3.out BK735.out (by decide))) | (show (Addr.add _ _).block ≠ _; rw [add_block]; exact Kd.own_blk (Kd.R_ne HO_3.out BK735.out (by decide))) | (dsimp only; exact Kd.own_blk (Kd.R_ne HO_3.out BK735.out (by decide)))) _).trans (((cell_far (p := ⟨gb735, _, none⟩) (by first | exact Kd.own_blk (Kd.R_ne HO_3.out BK735.out (by decide)) | (rw [add_block]; exact Kd.own_blk (Kd.R_ne HO_3.out BK735.out (by decide))) | (show (Addr.add _ _).block ≠ _; rw [add_block]; exact Kd.own_blk (Kd.R_ne HO_3.out BK735.out (by decide))) | (dsimp only; exact Kd.own_blk (Kd.R_ne HO_3.out BK735.out (by decide)))) _).trans (hHeld.2))))⟩ (fun hHeld => ?_)
    clear hK K
    refine done_ (done_of HT_.out (by kernel_rfl)) ?_
    try go_wp2
    go_meet
    case rel => exact ⟨_, (0), (t746), (t747), (by first | rfl | (simp; done) | (simp [*]; done)), H', ⟨by have := HJ7.out; have := HK2.out; have := HJ19.out; have := HJ30.out; have := HK5.out; have := HJ46.out; have := HJ54.out; have := HJ62.out; have := HK9.out; have := HJ71.out; have := HJ95.out; have := HJ118.out; have := HJ134.out; have := HJ140.out; have := HJ159.out; first | omega | exact Nat.le_refl _⟩, ⟨ur <| Kd.R_mono (Kd.R_far (p := ⟨gb735, 1, none⟩) (Kd.R_far (p := ⟨gb735, 0, none⟩) (Kd.R_types HO_3.out BK735.out (by decide)) (fun _ hk => hk.2) (.string t746)) (fun _ hk => hk.2) (.int .i64 t747)) (fun _ hk => trivial)⟩, ⟨ur <| Kd.R_mono (Kd.R_far (p := ⟨gb735, 1, none⟩) (Kd.R_far (p := ⟨gb735, 0, none⟩) (Kd.R_types HO_7.out BK735.out (by decide)) (fun _ hk => hk.2) (.string t746)) (fun _ hk => hk.2) (.int .i64 t747)) (fun _ hk => trivial)⟩, ⟨by (with_reducible repeat (first | refine blk_drewN ?_ _ | refine blk_drew ?_ | refine blk_alloc ?_ _)); refine blk_far ?_ NB661_735.out _; (with_reducible repeat (first | refine blk_drewN ?_ _ | refine blk_drew ?_ | refine blk_alloc ?_ _)); refine blk_far ?_ NB661_735.out _; (with_reducible repeat (first | refine blk_drewN ?_ _ | refine blk_drew ?_ | refine blk_alloc ?_ _)); exact BK661.out⟩, ⟨by (with_reducible repeat (first | refine blk_drewN ?_ _ | refine blk_drew ?_ | refine blk_alloc ?_ _)); refine blk_far ?_ NB674_735.out _; (with_reducible repeat (first | refine blk_drewN ?_ _ | refine blk_drew ?_ | refine blk_alloc ?_ _)); refine blk_far ?_ NB674_735.out _; (with_reducible repeat (first | refine blk_drewN ?_ _ | refine blk_drew ?_ | refine blk_alloc ?_ _)); exact BK674.out⟩, ⟨by (with_reducible repeat (first | refine blk_drewN ?_ _ | refine blk_drew ?_ | refine blk_alloc ?_ _)); refine blk_far ?_ NB694_735.out _; (with_reducible repeat (first | refine blk_drewN ?_ _ | refine blk_drew ?_ | refine blk_alloc ?_ _)); refine blk_far ?_ NB694_735.out _; (with_reducible repeat (first | refine blk_drewN ?_ _ | refine blk_drew ?_ | refine blk_alloc ?_ _)); exact BK694.out⟩, ⟨by (with_reducible repeat (first | refine blk_drewN ?_ _ | refine blk_drew ?_ | refine blk_alloc ?_ _)); refine blk_far ?_ NB695_735.out _; (with_reducible repeat (first | refine blk_drewN ?_ _ | refine blk_drew ?_ | refine blk_alloc ?_ _)); refine blk_far ?_ NB695_735.out _; (with_reducible repeat (first | refine blk_drewN ?_ _ | refine blk_drew ?_ | refine blk_alloc ?_ _)); exact BK695.out⟩, ⟨by (with_reducible repeat (first | refine blk_drewN ?_ _ | refine blk_drew ?_ | refine blk_alloc ?_ _)); refine blk_far ?_ NB734_735.out _; (with_reducible repeat (first | refine blk_drewN ?_ _ | refine blk_drew ?_ | refine blk_alloc ?_ _)); refine blk_far ?_ NB734_735.out _; (with_reducible repeat (first | refine blk_drewN ?_ _ | refine blk_drew ?_ | refine blk_alloc ?_ _)); exact BK734.out⟩, ⟨by (with_reducible repeat (first | refine blk_drewN ?_ _ | refine blk_drew ?_ | refine blk_alloc ?_ _)); refine blk_put (cs := #[.string t746, .int .i64 0]) ?_ 1 _ rfl; (with_reducible repeat (first | refine blk_drewN ?_ _ | refine blk_drew ?_ | refine blk_alloc ?_ _)); refine blk_put (cs := #[.string (⟨#[]⟩ : ByteArray), .int .i64 0]) ?_ 0 _ rfl; (with_reducible repeat (first | refine blk_drewN ?_ _ | refine blk_drew ?_ | refine blk_alloc ?_ _)); exact BK735.out⟩, ⟨by repeat with_reducible first | exact HB.out | apply b1 | apply b2 | apply b3 | refine b4 ?_ GE661.out | refine b4 ?_ GE674.out | refine b4 ?_ GE694.out | refine b4 ?_ GE695.out | refine b4 ?_ GE734.out | refine b4 ?_ GE735.out⟩⟩
  clear HC185
  try clear HA
  try clear HJ184
  try clear HO_3
  try clear HO_7
  try clear BK661
  try clear BK674
  try clear BK694
  try clear BK695
  try clear BK734
  try clear BK735
  try clear HB
  obtain ⟨kq, x25_184, x736000_184, x736001_184, rfl, HA, HJ184, HO_3, HO_7, BK661, BK674, BK694, BK695, BK734, BK735, HB⟩ := hcut
  cases kq with
  | zero => exact absurd HA.out (by simp [herbariumlaw1_BitsExact.j15])
  | succ kj184 => ?_
  have H := HA.out
  clear HA
  simp only [herbariumlaw1_BitsExact.j15] at H
  replace H := Option.bind_eq_some_iff.mp H
  obtain ⟨t748, A2010, H⟩ := H
  try dsimp only at H
  have A201 := ak A2010
  clear A2010
  by_cases c202 : t748 = x21_140
  rotate_left
  · rw [if_neg c202] at H
    have c202b0 : (t748 == x21_140) = false := beq_eq_false_iff_ne.mpr c202
    have c202b1 : (t748 != x21_140) = true := bne_iff_ne.mpr c202
    exact absurd (Option.some.inj H) (by decide)
  rw [if_pos c202] at H
  have c202b0 : (t748 == x21_140) = true := beq_iff_eq.mpr c202
  have c202b1 : (t748 != x21_140) = false := bne_eq_false_iff_eq.mpr c202
  clear c202
  by_cases c203 : t718 = x22_140
  rotate_left
  · rw [if_neg c203] at H
    have c203b0 : (t718 == x22_140) = false := beq_eq_false_iff_ne.mpr c203
    have c203b1 : (t718 != x22_140) = true := bne_iff_ne.mpr c203
    exact absurd (Option.some.inj H) (by decide)
  rw [if_pos c203] at H
  have c203b0 : (t718 == x22_140) = true := beq_iff_eq.mpr c203
  have c203b1 : (t718 != x22_140) = false := bne_eq_false_iff_eq.mpr c203
  clear c203
  replace H := Option.bind_eq_some_iff.mp H
  obtain ⟨t749, A2040, H⟩ := H
  try dsimp only at H
  have A204 := ak A2040
  clear A2040
  by_cases c205 : t749 = x25_184
  rotate_left
  · rw [if_neg c205] at H
    have c205b0 : (t749 == x25_184) = false := beq_eq_false_iff_ne.mpr c205
    have c205b1 : (t749 != x25_184) = true := bne_iff_ne.mpr c205
    exact absurd (Option.some.inj H) (by decide)
  rw [if_pos c205] at H
  have c205b0 : (t749 == x25_184) = true := beq_iff_eq.mpr c205
  have c205b1 : (t749 != x25_184) = false := bne_eq_false_iff_eq.mpr c205
  clear c205
  by_cases c206 : (!(t731.toList == x736000_184.toList) || (!(t732 == x736001_184))) = true
  · rw [if_pos c206] at H
    have c206b0 : (!(t731.toList == x736000_184.toList) || (!(t732 == x736001_184))) = true := c206
    clear c206
    exact absurd (Option.some.inj H) (by decide)
  rw [if_neg c206] at H
  have c206b0 : (!(t731.toList == x736000_184.toList) || (!(t732 == x736001_184))) = false := by simpa using c206
  clear c206
  have H' := ak H
  clear H
  go_wp2_with (first | ((with_reducible refine gate_callee (f := 26) rfl ?_); refine goesL_ (some 297) rfl rfl Try.func26 (by kernel_rfl) rfl #[.int .i64 t719] rfl (by (try simp only [List.map_toArray, List.map_cons, List.map_nil]); first | done | rfl | (simp only [List.length_drop, List.length_take]; rfl)) ?_; (with_reducible refine (herbariumlaw1_num.calls t719 t748 _ A201.out).mono ?_); rintro e w' ⟨rfl, ⟨nd, rfl⟩⟩; refine ⟨_, rfl, ?_⟩) | (go_at_call 26; (with_reducible refine (herbariumlaw1_num.calls t733 t749 _ A204.out).mono ?_); rintro e w' ⟨rfl, ⟨nd, rfl⟩⟩; have hnb207 := NB734_661.out; have hnc207 := NB661_734.out; have hnb208 := NB734_674.out; have hnc208 := NB674_734.out; have hnb209 := NB734_694.out; have hnc209 := NB694_734.out; have hnb210 := NB734_695.out; have hnc210 := NB695_734.out; have hnb211 := NB734_735.out; have hnc211 := NB735_734.out; have hcz212_0 : wc.cell? ⟨gb734, 0, none⟩ = some (.string t731) := (blk_cell BK734.out 0).trans rfl; have hcz212_1 : wc.cell? ⟨gb734, 1, none⟩ = some (.int .i64 t732) := (blk_cell BK734.out 1).trans rfl; have hfz212_0 := blk_frozen BK734.out 0; have hfz212_1 := blk_frozen BK734.out 1; have hnb213 := NB735_661.out; have hnc213 := NB661_735.out; have hnb214 := NB735_674.out; have hnc214 := NB674_735.out; have hnb215 := NB735_694.out; have hnc215 := NB694_735.out; have hnb216 := NB735_695.out; have hnc216 := NB695_735.out; have hcz217_0 : wc.cell? ⟨gb735, 0, none⟩ = some (.string x736000_184) := (blk_cell BK735.out 0).trans rfl; have hcz217_1 : wc.cell? ⟨gb735, 1, none⟩ = some (.int .i64 x736001_184) := (blk_cell BK735.out 1).trans rfl; have hfz217_0 := blk_frozen BK735.out 0; have hfz217_1 := blk_frozen BK735.out 1))
  go_roundg kj184
  case measure => have := HJ7.out; have := HK2.out; have := HJ19.out; have := HJ30.out; have := HK5.out; have := HJ46.out; have := HJ54.out; have := HJ62.out; have := HK9.out; have := HJ71.out; have := HJ95.out; have := HJ118.out; have := HJ134.out; have := HJ140.out; have := HJ159.out; have := HJ184.out; omega
  case rel => exact ⟨(wrap64 (x14_9 + 1)), (by first | rfl | (simp; done) | (simp [*]; done)), H', ⟨by have := HJ7.out; have := HK2.out; have := HJ19.out; have := HJ30.out; have := HK5.out; have := HJ46.out; have := HJ54.out; have := HJ62.out; have := HK9.out; have := HJ71.out; have := HJ95.out; have := HJ118.out; have := HJ134.out; have := HJ140.out; have := HJ159.out; have := HJ184.out; omega⟩, ⟨ur <| HO_3.out⟩, ⟨ur <| HO_7.out⟩, ⟨ub BK661.out⟩, ⟨ub BK674.out⟩, ⟨by repeat with_reducible first | exact HB.out | apply b1 | apply b2 | apply b3 | refine b4 ?_ GE661.out | refine b4 ?_ GE674.out | refine b4 ?_ GE694.out | refine b4 ?_ GE695.out | refine b4 ?_ GE734.out | refine b4 ?_ GE735.out⟩⟩
theorem herbariumlaw1_BitsExact.calls (k : Nat) (A0_0 : Option Addr) (c0_0 : Nat) (l0_0 : List (S27)) (A0_1 : Option Addr) (c0_1 : Nat) (l0_1 : List Int) (w : World) (hr0_0 : Kd.C k27 w A0_0 l0_0.length l0_0) (hc0_0 : l0_0.length ≤ c0_0) (hr0_1 : Kd.C (Kd.int .i64) w A0_1 l0_1.length l0_1) (hc0_1 : l0_1.length ≤ c0_1) (h : herbariumlaw1_BitsExact.f k l0_0 l0_1 = some true) :
    Calls Try.prog 10 #[.agg #[.slice A0_0 l0_0.length c0_0, .slice A0_1 l0_1.length c0_1]] w fun e w' => e = .returned (.bool true) ∧ Below w.heap.size w w' :=
  (herbariumlaw1_BitsExact.p1.2 ⟨(herbariumlaw1_BitsExact.p2.2 ⟨(herbariumlaw1_BitsExact.p3.2 ⟨(herbariumlaw1_BitsExact.p4.2 ⟨(herbariumlaw1_BitsExact.p5.2 ⟨(herbariumlaw1_BitsExact.p6.2 ⟨(herbariumlaw1_BitsExact.p7.2 ⟨(herbariumlaw1_BitsExact.p8.2 ⟨(herbariumlaw1_BitsExact.p9.2 ⟨(herbariumlaw1_BitsExact.p10.2 ⟨(herbariumlaw1_BitsExact.p11.2 ⟨(herbariumlaw1_BitsExact.p12.2 ⟨herbariumlaw1_BitsExact.p13⟩)⟩)⟩)⟩)⟩)⟩)⟩)⟩)⟩)⟩)⟩)⟩) k A0_0 c0_0 l0_0 A0_1 c0_1 l0_1 w hr0_0 hc0_0 hr0_1 hc0_1 h
end Go.Proofs.Ytnpghcikhpglkaa.Q
namespace Go.Proofs.Ytnpghcikhpglkaa.Pb
open Go.RowKit Go.Proofs.YtnpghcikhpglkaaW.PrintWords Go.Proofs.YtnpghcikhpglkaaW.PrintLast Go.Proofs.YtnpghcikhpglkaaW.PrintMore Go.Proofs.Ytnpghcikhpglkaa.Hand Go.Proofs.Ytnpghcikhpglkaa.Pu Go.Proofs.Ytnpghcikhpglkaa.Q
set_option linter.unusedVariables false
set_option linter.unusedSimpArgs false
/-! ### a list's text -/
theorem packS_size (l : List Int) : (packS l).size = (l.length + 7) / 8 := by rw [packS, strOfNums_size, packL_length]
theorem bt_strOfNums (xs : List Int) (i : Nat) (hi : i < xs.length) (h : 0 ≤ xs.getD i 0 ∧ xs.getD i 0 < 256) : bt (strOfNums xs) (i : Int) = xs.getD i 0 := by
  have hs : i < (strOfNums xs).size := by rw [strOfNums_size]; exact hi
  rw [← bt_at (strOfNums xs) (i : Int) hs]
  have h2 : i < (strOfNums xs).data.toList.length := hs
  have h3 : (strOfNums xs).data.toList[i]'h2 = UInt8.ofNat (xs[i]'hi).toNat := by simp [strOfNums_data]
  have h4 : (strOfNums xs)[(i : Int).toNat]'hs = UInt8.ofNat (xs[i]'hi).toNat := h3
  rw [h4]
  rw [List.getD_eq_getElem?_getD, List.getElem?_eq_getElem hi] at h ⊢
  simp only [Option.getD_some] at h ⊢
  rw [UInt8.toNat_ofNat']
  omega
theorem bt_packS (l : List Int) (hl : IsBits l) (j : Nat) (hj : j < (l.length + 7) / 8) : bt (packS l) (j : Int) = byteAt l j := by
  have h1 : (packL l).getD j 0 = byteAt l j := by rw [List.getD_eq_getElem?_getD, packL_get l j hj]; rfl
  have := bt_strOfNums (packL l) j (by rw [packL_length]; exact hj) (by rw [h1]; exact byteAt_range hl j)
  rw [packS, this, h1]
theorem b01 {x : Int} (h : x = 0 ∨ x = 1) : 0 ≤ x ∧ x ≤ 1 := by omega
theorem byte8 (x0 x1 x2 x3 x4 x5 x6 x7 : Int) (h0 : 0 ≤ x0 ∧ x0 ≤ 1) (h1 : 0 ≤ x1 ∧ x1 ≤ 1) (h2 : 0 ≤ x2 ∧ x2 ≤ 1) (h3 : 0 ≤ x3 ∧ x3 ≤ 1) (h4 : 0 ≤ x4 ∧ x4 ≤ 1) (h5 : 0 ≤ x5 ∧ x5 ≤ 1) (h6 : 0 ≤ x6 ∧ x6 ≤ 1) (h7 : 0 ≤ x7 ∧ x7 ≤ 1) :
    let b := x0 * 128 + x1 * 64 + x2 * 32 + x3 * 16 + x4 * 8 + x5 * 4 + x6 * 2 + x7
    b / 128 % 2 = x0 ∧ b / 64 % 2 = x1 ∧ b / 32 % 2 = x2 ∧ b / 16 % 2 = x3 ∧ b / 8 % 2 = x4 ∧ b / 4 % 2 = x5 ∧ b / 2 % 2 = x6 ∧ b / 1 % 2 = x7 := by
  refine ⟨?_, ?_, ?_, ?_, ?_, ?_, ?_, ?_⟩ <;> omega
theorem bit_byteAt (l : List Int) (hl : IsBits l) (j i : Nat) (hi : i < 8) : byteAt l j / 2 ^ (7 - i) % 2 = l.getD (8 * j + i) 0 := by
  have h := byte8 _ _ _ _ _ _ _ _ (b01 (hl.getD (8 * j))) (b01 (hl.getD (8 * j + 1))) (b01 (hl.getD (8 * j + 2))) (b01 (hl.getD (8 * j + 3))) (b01 (hl.getD (8 * j + 4))) (b01 (hl.getD (8 * j + 5))) (b01 (hl.getD (8 * j + 6))) (b01 (hl.getD (8 * j + 7)))
  have hi' : i = 0 ∨ i = 1 ∨ i = 2 ∨ i = 3 ∨ i = 4 ∨ i = 5 ∨ i = 6 ∨ i = 7 := by omega
  rcases hi' with rfl | rfl | rfl | rfl | rfl | rfl | rfl | rfl
  · exact h.1
  · exact h.2.1
  · exact h.2.2.1
  · exact h.2.2.2.1
  · exact h.2.2.2.2.1
  · exact h.2.2.2.2.2.1
  · exact h.2.2.2.2.2.2.1
  · exact h.2.2.2.2.2.2.2
theorem bitOf_packS (l : List Int) (hl : IsBits l) (i : Nat) (hi : i < l.length) : bitOf (packS l) (i : Int) = l.getD i 0 := by
  have h := bitOf_at (packS l) (i / 8) (i % 8) (by omega)
  rw [show 8 * (i / 8) + i % 8 = i by omega] at h
  rw [h, bt_packS l hl (i / 8) (by omega), bit_byteAt l hl (i / 8) (i % 8) (by omega), show 8 * (i / 8) + i % 8 = i by omega]
theorem ofS_packS (l : List Int) (hl : IsBits l) : ofS (packS l) (l.length : Int) = l := by
  refine List.ext_getElem? fun i => ?_
  rcases Nat.lt_or_ge i l.length with hi | hi
  · have h := ofS_getD (packS l) (l.length : Int) i (by simpa using hi)
    rw [bitOf_packS l hl i hi] at h
    have hi2 : i < (ofS (packS l) (l.length : Int)).length := by rw [ofS_length]; simpa using hi
    rw [List.getD_eq_getElem?_getD, List.getD_eq_getElem?_getD, List.getElem?_eq_getElem hi2, List.getElem?_eq_getElem hi] at h
    rw [List.getElem?_eq_getElem hi2, List.getElem?_eq_getElem hi]
    simpa using h
  · rw [List.getElem?_eq_none (by rw [ofS_length]; simpa using hi), List.getElem?_eq_none hi]
theorem may_packS (l : List Int) (hl : IsBits l) (h : l.length ≤ 6000) : MayP (packS l) (l.length : Int) := by
  refine ⟨by omega, by omega, by rw [packS_size]; omega, ?_⟩
  rcases Nat.eq_zero_or_pos (l.length % 8) with h8 | h8
  · exact .inl (by omega)
  · refine .inr ?_
    have hj : ((packS l).size : Int) - 1 = ((l.length / 8 : Nat) : Int) := by rw [packS_size]; omega
    rw [hj, bt_packS l hl _ (by omega)]
    have := (byteAt_snoc_new l 0).2
    rw [show (8 - (l.length : Int) % 8).toNat = 7 - l.length % 8 + 1 by omega]
    exact this
/-- Bits that may be are their list's. -/
theorem canon (s : ByteArray) (n : Int) (h : MayP s n) : s = packS (ofS s n) ∧ n = ((ofS s n).length : Int) ∧ IsBits (ofS s n) ∧ (ofS s n).length ≤ 6000 := by
  refine ⟨(packS_ofS s n h).symm, by rw [ofS_length]; have := h.1; omega, ofS_bits s n, by rw [ofS_length]; have := h.2.1; omega⟩
/-! ### numbers out of bits -/
def numL (l : List Int) : Int := l.foldl (fun v b => 2 * v + b) 0
theorem numL_snoc (l : List Int) (b : Int) : numL (l ++ [b]) = 2 * numL l + b := by simp [numL]
theorem numL_from (l : List Int) : ∀ v : Int, l.foldl (fun v b => 2 * v + b) v = v * 2 ^ l.length + numL l := by
  induction l with
  | nil => intro v; simp [numL]
  | cons a r ih =>
    intro v
    have h0 := ih (2 * v + a)
    have h1 : numL (a :: r) = a * 2 ^ r.length + numL r := by
      have := ih a
      simp only [numL, List.foldl_cons] at this ⊢
      simpa using this
    simp only [List.foldl_cons, List.length_cons]
    rw [h0, h1, Int.pow_succ]
    rw [Int.add_mul]
    have e : 2 * v * 2 ^ r.length = v * (2 ^ r.length * 2) := by rw [Int.mul_comm 2 v, Int.mul_assoc, Int.mul_comm 2]
    rw [e]
    omega
theorem numL_cons (a : Int) (r : List Int) : numL (a :: r) = a * 2 ^ r.length + numL r := by
  have := numL_from r a
  simp only [numL, List.foldl_cons] at this ⊢
  simpa using this
theorem numL_range {l : List Int} (h : IsBits l) : 0 ≤ numL l ∧ numL l < 2 ^ l.length := by
  induction l with
  | nil => simp [numL]
  | cons a r ih =>
    have hr := ih (fun x hx => h x (List.mem_cons_of_mem _ hx))
    have ha := h a (List.mem_cons_self)
    have hp : (0 : Int) < 2 ^ r.length := Int.pow_pos (by decide)
    rw [numL_cons, List.length_cons, Int.pow_succ]
    rcases ha with rfl | rfl <;> omega
/-! ### bits.Look, bits.Get -/
theorem or_step (v b : Int) (h0 : 0 ≤ v) (h1 : v < 2 ^ 61) (hb : b = 0 ∨ b = 1) : Go.bits .or .i64 (wrap64 (v * 2)) b = 2 * v + b := by
  rw [wrap_in _ (by omega) (by omega), bits_join .i64 63 (by decide) wraps_i64 1 (v * 2) b (by omega) (by simp) (by omega) (by omega) (by simp; omega) (by omega)]
  omega
theorem look_loop (l : List Int) (hl : IsBits l) (hlen : l.length ≤ 1000000) (n : Int) (a w : Nat) (haw : a + w ≤ l.length) (hw : w ≤ 61) (d : Nat) : ∀ (k i : Nat), i + d = w → d < k →
    bits_Look.l0 k (a : Int) (numL ((l.drop a).take i)) (w : Int) (i : Int) (packS l) n = some (numL ((l.drop a).take w), true) := by
  induction d with
  | zero =>
    intro k i hi hk
    obtain ⟨k, rfl⟩ : ∃ m, k = m + 1 := ⟨k - 1, by omega⟩
    obtain rfl : i = w := by omega
    simp only [bits_Look.l0]
    rw [if_neg (by omega)]
  | succ d ih =>
    intro k i hi hk
    obtain ⟨k, rfl⟩ : ∃ m, k = m + 1 := ⟨k - 1, by omega⟩
    simp only [bits_Look.l0]
    rw [if_pos (by omega)]
    have hw1 : wrap64 ((a : Int) + (i : Int)) = ((a + i : Nat) : Int) := by rw [wrap_in _ (by omega) (by omega)]; omega
    have hsz := packS_size l
    rw [hw1, bit_some _ _ _ (by omega) (by omega) (by omega), bitOf_packS l hl (a + i) (by omega), Option.bind_some]
    have hib : IsBits ((l.drop a).take i) := fun x hx => hl x (List.mem_of_mem_drop (List.mem_of_mem_take hx))
    have hr := numL_range hib
    have hlt : (l.drop a).length = l.length - a := List.length_drop ..
    have hlen2 : ((l.drop a).take i).length = i := by rw [List.length_take, hlt]; omega
    rw [hlen2] at hr
    have hp : (2 : Int) ^ i ≤ 2 ^ 60 := by have := Nat.pow_le_pow_right (n := 2) (by decide) (show i ≤ 60 by omega); exact_mod_cast this
    have h60 : (2 : Int) ^ 60 < 2 ^ 61 := by decide
    have hb := hl.getD (a + i)
    rw [or_step _ _ hr.1 (by omega) hb]
    have hsn : (l.drop a).take (i + 1) = (l.drop a).take i ++ [l.getD (a + i) 0] := by
      rw [List.take_succ_eq_append_getElem (by rw [hlt]; omega), List.getElem_drop, List.getD_eq_getElem?_getD, List.getElem?_eq_getElem (by omega)]
      rfl
    rw [← numL_snoc, ← hsn, wrap_in _ (by omega) (by omega)]
    have := ih k (i + 1) (by omega) (by omega)
    rw [show ((i + 1 : Nat) : Int) = (i : Int) + 1 by omega] at this
    exact this
theorem look_yes (l : List Int) (hl : IsBits l) (hlen : l.length ≤ 1000000) (a w : Nat) (haw : a + w ≤ l.length) (hw : w ≤ 61) (k : Nat) (hk : w + 1 < k) :
    bits_Look.f k (packS l) (l.length : Int) (a : Int) (w : Int) = some (numL ((l.drop a).take w), true) := by
  obtain ⟨k, rfl⟩ : ∃ m, k = m + 1 := ⟨k - 1, by omega⟩
  unfold bits_Look.f
  rw [if_neg (by omega)]
  have hd : decide ((w : Int) > wrap64 ((l.length : Int) - (a : Int))) = false := by
    rw [wrap_in _ (by omega) (by omega)]
    simp
    omega
  rw [hd]
  simp only [bits_Look.j0]
  rw [if_neg (by decide)]
  exact look_loop l hl hlen _ a w haw hw w k 0 (by omega) (by omega)
theorem look_no (s : ByteArray) (n a w : Int) (hn : 0 ≤ n ∧ n ≤ 1000000) (ha : 0 ≤ a) (hw0 : 0 ≤ w) (h : n < a + w) (k : Nat) (hk : 0 < k) : bits_Look.f k s n a w = some (0, false) := by
  obtain ⟨k, rfl⟩ : ∃ m, k = m + 1 := ⟨k - 1, by omega⟩
  unfold bits_Look.f
  by_cases h1 : a > n
  · rw [if_pos h1]
    simp only [bits_Look.j0]
    rw [if_pos trivial]
  · rw [if_neg h1]
    have hd : decide (w > wrap64 (n - a)) = true := by
      rw [wrap_in _ (by omega) (by omega)]
      simp
      omega
    rw [hd]
    simp only [bits_Look.j0]
    rw [if_pos trivial]
/-- bits.Get, of bits that may be. -/
def getR (l : List Int) (a w : Int) : Int × Int :=
  if 0 ≤ a ∧ 0 ≤ w ∧ w ≤ 30 then (if a + w ≤ (l.length : Int) then (numL ((l.drop a.toNat).take w.toNat), 0) else (0, 9)) else (0, 1)
theorem get_eq (l : List Int) (hl : IsBits l) (hlen : l.length ≤ 6000) (a w : Int) (ha : a < 9223372036854775808) (k : Nat) (hk : 40 ≤ k) : bits_Get.f k (packS l) (l.length : Int) a w = some (getR l a w) := by
  obtain ⟨k, rfl⟩ : ∃ m, k = m + 1 := ⟨k - 1, by omega⟩
  unfold bits_Get.f getR
  rw [may_eq, decide_eq_true (may_packS l hl hlen)]
  simp only [Option.bind_some, if_true]
  by_cases h0 : a < 0
  · rw [if_pos h0, if_neg (fun h => by omega)]
    simp only [bits_Get.j0]
    rw [if_pos trivial]
  · rw [if_neg h0, width_eq]
    simp only [Option.bind_some, bits_Get.j0]
    by_cases hw : 0 ≤ w ∧ w ≤ 30
    · rw [decide_eq_true hw, if_neg (by decide), if_pos ⟨by omega, hw⟩]
      by_cases hf : a + w ≤ (l.length : Int)
      · obtain ⟨a', rfl⟩ := Int.eq_ofNat_of_zero_le (show 0 ≤ a by omega)
        obtain ⟨w', rfl⟩ := Int.eq_ofNat_of_zero_le hw.1
        rw [if_pos hf, look_yes l hl (by omega) a' w' (by omega) (by omega) k (by omega), Option.bind_some]
        simp
      · rw [if_neg hf, look_no _ _ a w (by omega) (by omega) hw.1 (by omega) k (by omega), Option.bind_some]
        simp
    · rw [decide_eq_false hw, if_pos (by decide), if_neg (fun h => hw h.2)]
/-! ### bits.Put -/
theorem put_eq (l : List Int) (hl : IsBits l) (hlen : l.length ≤ 6000) (v w : Int) : bits_Put.f (packS l) (l.length : Int) v w =
    if 0 ≤ w ∧ w ≤ 30 ∧ 0 ≤ v ∧ v < 2 ^ w.toNat then (if (l.length : Int) + w ≤ 6000 then some (packS (l ++ putL w.toNat v), ((l ++ putL w.toNat v).length : Int), 0) else some (⟨#[]⟩, 0, 2)) else some (⟨#[]⟩, 0, 1) := by
  unfold bits_Put.f
  rw [ofS_packS l hl]
  by_cases h : 0 ≤ w ∧ w ≤ 30 ∧ 0 ≤ v ∧ v < 2 ^ w.toNat
  · rw [if_pos ⟨may_packS l hl hlen, h⟩, if_pos h]
    have : ((l ++ putL w.toNat v).length : Int) = (l.length : Int) + w := by rw [List.length_append, putL_length]; omega
    rw [this]
  · rw [if_neg (fun hh => h hh.2), if_neg h]
theorem put_some (l : List Int) (hl : IsBits l) (v : Int) (w : Nat) (hw : w ≤ 30) (hv : 0 ≤ v) (hv2 : v < 2 ^ w) (h : l.length + w ≤ 6000) :
    bits_Put.f (packS l) (l.length : Int) v (w : Int) = some (packS (l ++ putL w v), ((l ++ putL w v).length : Int), 0) := by
  rw [put_eq l hl (by omega), if_pos ⟨by omega, by omega, hv, by simpa using hv2⟩, if_pos (by omega)]
  simp
theorem packS_nil : packS [] = ⟨#[]⟩ := rfl
theorem put_nil (v : Int) (w : Nat) (hw : w ≤ 30) (hv : 0 ≤ v) (hv2 : v < 2 ^ w) : bits_Put.f (⟨#[]⟩ : ByteArray) 0 v (w : Int) = some (packS (putL w v), ((putL w v).length : Int), 0) := by
  have := put_some [] IsBits.nil v w hw hv hv2 (by simp; omega)
  simpa [packS_nil] using this
/-! ### slices of lists -/
end Go.Proofs.Ytnpghcikhpglkaa.Pb
namespace Go.Proofs.Ytnpghcikhpglkaa.Pb
open Go.RowKit Go.Proofs.YtnpghcikhpglkaaW.PrintWords Go.Proofs.YtnpghcikhpglkaaW.PrintLast Go.Proofs.YtnpghcikhpglkaaW.PrintMore Go.Proofs.Ytnpghcikhpglkaa.Hand Go.Proofs.Ytnpghcikhpglkaa.Pu Go.Proofs.Ytnpghcikhpglkaa.Q
set_option linter.unusedVariables false
set_option linter.unusedSimpArgs false
/-- How many bits 0 stand ahead of the first 1; -1: there is no 1. -/
def zerosL : List Int → Int
  | [] => -1
  | b :: r => if b = 1 then 0 else if zerosL r < 0 then -1 else zerosL r + 1
theorem zerosL_range (l : List Int) : -1 ≤ zerosL l ∧ zerosL l < (l.length : Int) := by
  induction l with
  | nil => simp [zerosL]
  | cons b r ih =>
    simp only [zerosL, List.length_cons]
    split
    · omega
    · split <;> omega
theorem ahead_loop (l : List Int) (hl : IsBits l) (hlen : l.length ≤ 1000000) (x : Int) (hx : 0 ≤ x) (d : Nat) : ∀ (k i : Nat), i + d = l.length → d < k → x ≤ i →
    bits_Ahead.l0 k x (i : Int) (packS l) (l.length : Int) = some (if zerosL (l.drop i) < 0 then -1 else (i : Int) + zerosL (l.drop i) - x) := by
  induction d with
  | zero =>
    intro k i hi hk hxi
    obtain ⟨k, rfl⟩ : ∃ m, k = m + 1 := ⟨k - 1, by omega⟩
    simp only [bits_Ahead.l0]
    rw [if_neg (by omega), List.drop_eq_nil_of_le (by omega)]
    rfl
  | succ d ih =>
    intro k i hi hk hxi
    obtain ⟨k, rfl⟩ : ∃ m, k = m + 1 := ⟨k - 1, by omega⟩
    have hsz := packS_size l
    have hb := bit_some (packS l) (l.length : Int) (i : Int) (by omega) (by omega) (by omega)
    rw [bitOf_packS l hl i (by omega)] at hb
    have hd : l.drop i = l.getD i 0 :: l.drop (i + 1) := by
      rw [List.drop_eq_getElem_cons (by omega), List.getD_eq_getElem?_getD, List.getElem?_eq_getElem (by omega)]
      rfl
    have hz := zerosL_range (l.drop (i + 1))
    simp only [bits_Ahead.l0]
    rw [if_pos (by omega), hb, Option.bind_some, hd]
    by_cases h1 : l.getD i 0 = 1
    · have hc : zerosL (l.getD i 0 :: l.drop (i + 1)) = 0 := by simp only [zerosL]; rw [if_pos h1]
      rw [if_pos h1, hc, wrap_in _ (by omega) (by omega), if_neg (by omega)]
      simp
    · rw [if_neg h1, wrap_in _ (by omega) (by omega)]
      have := ih k (i + 1) (by omega) (by omega) (by omega)
      rw [show ((i + 1 : Nat) : Int) = (i : Int) + 1 by omega] at this
      rw [this]
      by_cases h2 : zerosL (l.drop (i + 1)) < 0
      · have hc : zerosL (l.getD i 0 :: l.drop (i + 1)) = -1 := by simp only [zerosL]; rw [if_neg h1, if_pos h2]
        rw [if_pos h2, hc, if_pos (by omega)]
      · have hc : zerosL (l.getD i 0 :: l.drop (i + 1)) = zerosL (l.drop (i + 1)) + 1 := by simp only [zerosL]; rw [if_neg h1, if_neg h2]
        rw [if_neg h2, hc, if_neg (by omega)]
        congr 1
        omega
theorem ahead_eq (l : List Int) (hl : IsBits l) (hlen : l.length ≤ 1000000) (a : Nat) (ha : a ≤ l.length) (k : Nat) (hk : l.length < k) : bits_Ahead.f k (packS l) (l.length : Int) (a : Int) = some (zerosL (l.drop a)) := by
  have h := ahead_loop l hl hlen (a : Int) (by omega) (l.length - a) k a (by omega) (by omega) (Int.le_refl _)
  have hz := zerosL_range (l.drop a)
  unfold bits_Ahead.f
  rw [h]
  congr 1
  split <;> omega
/-- bits.Zeros, of bits that may be. -/
def zerosR (l : List Int) (a : Int) : Int × Int :=
  if 0 ≤ a ∧ a ≤ (l.length : Int) then (if zerosL (l.drop a.toNat) < 0 then (0, 9) else (zerosL (l.drop a.toNat), 0)) else (0, 1)
theorem zeros_eq (l : List Int) (hl : IsBits l) (hlen : l.length ≤ 6000) (a : Int) (k : Nat) (hk : l.length + 1 < k) : bits_Zeros.f k (packS l) (l.length : Int) a = some (zerosR l a) := by
  obtain ⟨k, rfl⟩ : ∃ m, k = m + 1 := ⟨k - 1, by omega⟩
  unfold bits_Zeros.f zerosR
  rw [may_eq, decide_eq_true (may_packS l hl hlen)]
  simp only [Option.bind_some, if_true]
  by_cases h0 : a < 0
  · rw [if_pos h0, if_neg (fun h => by omega)]
    simp only [bits_Zeros.j0, if_true]
  · rw [if_neg h0]
    by_cases h1 : a > (l.length : Int)
    · rw [decide_eq_true h1, if_neg (fun h => by omega)]
      simp only [bits_Zeros.j0, if_true]
    · rw [decide_eq_false h1, if_pos ⟨by omega, by omega⟩]
      obtain ⟨a', rfl⟩ := Int.eq_ofNat_of_zero_le (show 0 ≤ a by omega)
      simp only [bits_Zeros.j0]
      rw [if_neg (by decide), ahead_eq l hl (by omega) a' (by omega) k (by omega), Option.bind_some, Int.toNat_natCast]
      have hz := zerosL_range (l.drop a')
      split <;> rfl
end Go.Proofs.Ytnpghcikhpglkaa.Pb
namespace Go.Proofs.Ytnpghcikhpglkaa.Pb
open Go.RowKit Go.Proofs.YtnpghcikhpglkaaW.PrintWords Go.Proofs.YtnpghcikhpglkaaW.PrintLast Go.Proofs.YtnpghcikhpglkaaW.PrintMore Go.Proofs.Ytnpghcikhpglkaa.Hand Go.Proofs.Ytnpghcikhpglkaa.Pu Go.Proofs.Ytnpghcikhpglkaa.Q
set_option linter.unusedVariables false
set_option linter.unusedSimpArgs false
theorem partK_packS (l : List Int) (hl : IsBits l) (k i : Nat) (h : i + k ≤ l.length) : partK (packS l) k (i : Int) = (l.drop i).take k := by
  rw [partK_ofS]
  refine List.ext_getElem? fun j => ?_
  rcases Nat.lt_or_ge j k with hj | hj
  · rw [List.getElem?_map, List.getElem?_range hj, List.getElem?_take_of_lt hj, List.getElem?_drop, List.getElem?_eq_getElem (by omega)]
    simp only [Option.map_some]
    rw [bitOf_packS l hl (i + j) (by omega), List.getD_eq_getElem?_getD, List.getElem?_eq_getElem (by omega)]
    rfl
  · rw [List.getElem?_eq_none (by simp; omega), List.getElem?_eq_none (by simp; omega)]
/-- bits.Cut, of bits that may be. -/
def cutR (l : List Int) (a b : Int) : ByteArray × Int × Int :=
  if 0 ≤ a ∧ a ≤ b ∧ b ≤ (l.length : Int) then (packS ((l.drop a.toNat).take (b - a).toNat), b - a, 0) else (⟨#[]⟩, 0, 1)
theorem cut_eq (l : List Int) (hl : IsBits l) (hlen : l.length ≤ 6000) (a b : Int) : bits_Cut.f (packS l) (l.length : Int) a b = some (cutR l a b) := by
  unfold bits_Cut.f cutR
  rw [may_eq, decide_eq_true (may_packS l hl hlen)]
  simp only [Option.bind_some, if_true]
  by_cases h1 : a < 0
  · rw [if_pos h1, if_neg (fun h => by omega)]
  · rw [if_neg h1]
    by_cases h2 : a > b
    · rw [if_pos h2, if_neg (fun h => by omega)]
    · rw [if_neg h2]
      by_cases h3 : b > (l.length : Int)
      · rw [if_pos h3, if_neg (fun h => by omega)]
      · have hsz := packS_size l
        rw [if_neg h3, if_pos ⟨by omega, by omega, by omega⟩]
        unfold bits_Part.f
        rw [if_pos ⟨by omega, by omega, by omega⟩]
        simp only [Option.bind_some]
        obtain ⟨a', rfl⟩ := Int.eq_ofNat_of_zero_le (show 0 ≤ a by omega)
        rw [partK_packS l hl _ a' (by omega), Int.toNat_natCast, Int.toNat_of_nonneg (by omega)]
theorem cat_eq (A B : List Int) (hA : IsBits A) (hB : IsBits B) (h1 : A.length ≤ 6000) (h2 : B.length ≤ 6000) : bits_Cat.f (packS A) (A.length : Int) (packS B) (B.length : Int) =
    if A.length + B.length ≤ 6000 then some (packS (A ++ B), ((A ++ B).length : Int), 0) else some (⟨#[]⟩, 0, 2) := by
  unfold bits_Cat.f
  rw [if_pos ⟨may_packS A hA h1, may_packS B hB h2⟩, ofS_packS A hA, ofS_packS B hB]
  by_cases h : A.length + B.length ≤ 6000
  · rw [if_pos h, if_pos (by omega), List.length_append]
    simp
  · rw [if_neg h, if_neg (by omega)]
theorem weight_some (l : List S27) (hl : (l.length : Int) < 9223372036854775807) (d : Nat) : ∀ (k : Nat) (x i : Int), 0 ≤ i → i + d = l.length → d < k → ∃ t, herbariumlaw0_BitsWeight.l0 k l x i = some t := by
  induction d with
  | zero =>
    intro k x i h0 hi hk
    obtain ⟨k, rfl⟩ : ∃ m, k = m + 1 := ⟨k - 1, by omega⟩
    simp only [herbariumlaw0_BitsWeight.l0]
    rw [if_neg (by omega)]
    exact ⟨_, rfl⟩
  | succ d ih =>
    intro k x i h0 hi hk
    obtain ⟨k, rfl⟩ : ∃ m, k = m + 1 := ⟨k - 1, by omega⟩
    simp only [herbariumlaw0_BitsWeight.l0]
    rw [if_pos (by omega)]
    split
    · rw [wrap_in (i + 1) (by omega) (by omega)]
      exact ih k _ (i + 1) (by omega) (by omega) (by omega)
    · exact ⟨_, rfl⟩
/-- More than is played, or not: told in any case; and where it is not: there are few. -/
theorem heavy_some (l : List S27) (m : List Int) (hl : (l.length : Int) < 9223372036854775807) (k : Nat) (hk : l.length < k) : herbariumlaw1_Heavy.f k l m = some true ∨ (herbariumlaw1_Heavy.f k l m = some false ∧ m.length ≤ 100) := by
  unfold herbariumlaw1_Heavy.f herbariumlaw0_BitsWeight.f
  obtain ⟨t, ht⟩ := weight_some l hl l.length k (l.length : Int) 0 (by omega) (by omega) hk
  rw [ht]
  simp only [Option.bind_some]
  split
  · exact .inl rfl
  · by_cases h : (m.length : Int) > 100
    · rw [decide_eq_true h]; exact .inl rfl
    · rw [decide_eq_false h]; exact .inr ⟨rfl, by omega⟩
theorem wakes1 (k : Nat) (hk : 40 ≤ k) (f : Option Bool) (hf : f = ((bits_Put.f (⟨#[]⟩ : ByteArray) 0 5 3).bind fun bt559 => ((bits_Get.f k bt559.1 bt559.2.1 0 3).bind fun bt563 => ((herbariumlaw1_num.f bt559.2.2).bind fun t565 => (if t565 = 0 then ((herbariumlaw1_num.f bt563.2).bind fun t566 => (if t566 = 0 then (if (bt559.1.toList == ([160] : List UInt8) && (bt559.2.1 == 3)) = true then (some (bt563.1 == 5)) else (some false)) else (some false))) else (some false)))))) : f = some true := by
  have h1 : bits_Put.f (⟨#[]⟩ : ByteArray) 0 5 3 = some (packS (putL 3 5), ((putL 3 5).length : Int), 0) := put_nil 5 3 (by omega) (by omega) (by omega)
  rw [hf, h1]
  simp only [Option.bind_some]
  rw [get_eq (putL 3 5) (putL_bits 3 5) (by rw [putL_length]; omega) 0 3 (by omega) k hk]
  simp only [Option.bind_some, herbariumlaw1_num.f]
  decide +kernel
end Go.Proofs.Ytnpghcikhpglkaa.Pb
