/- What the row of BitsExact rests on, part 5 of 7: functions, contracts, plain laws. -/
import Derived.Test.YtnpghcikhpglkaaCBitsExact3
namespace Go.Proofs.Ytnpghcikhpglkaa.Q
open Go.RowKit Go.Proofs.YtnpghcikhpglkaaW.PrintWords Go.Proofs.YtnpghcikhpglkaaW.PrintLast Go.Proofs.YtnpghcikhpglkaaW.PrintMore
attribute [local go_sem] max2_int min2_int max_two min_two max_three min_three max_four min_four   -- for this text's walks alone
set_option linter.unusedVariables false
set_option linter.unusedSimpArgs false
attribute [local go_sem high] eqA27
set_option maxHeartbeats 8000000 in
set_option maxRecDepth 100000 in
noncomputable def herbariumlaw1_BitsExact.p6 : PSigma fun P_ : Prop => Later P_ → herbariumlaw1_BitsExact.p5.1 := by
  refine' ⟨_, fun hP_ => ?_⟩
  rotate_left
  focus
   intro k c0_0 l0_0 A0_1 c0_1 l0_1 w hu25 hu27 HC0_0 HR0_1 HC0_1 A2 y663 Ny663 LMc7 y666 Ny666 z1_1 gb661 w9 GW661 GE661 w11 z1_2 v664 w12 w15 Ao16 co16 HO668 z3_1 u40 u41 u42 x3_7 kj7 HJ7 z2_1 z2_2 z4_1 z4_2 u5 u6 z3_2 u8 z4_3 z4_4 z4_5 z4_6 z4_7 z4_8 z4_9 z4_10 z4_11 z4_12 z4_13 z4_14 z4_15 z4_16 z4_17 z4_18 z4_19 z4_20 u27 u28 u29 u30 u31 z3_3 z3_4 z3_5 z3_6 z3_7 z3_8 z3_9 z3_10 u51 u52 u53 u54 u55 u56 u57 u58 u59 u60 u61 u62 u63 u64 u65 u66 z3_11 z3_12 z3_13 z4_21 z4_22 z4_23 z4_24 z4_25 z4_26 z4_27 z4_28 z4_29 z4_30 z4_31 z4_32 z4_33 z4_34 z4_35 z4_36 z4_37 z4_38 z4_39 z4_40 z4_41 z4_42 z4_43 z4_44 z4_45 z4_46 z4_47 z4_48 z4_49 z4_50 z4_51 z4_52 z4_53 z4_54 z4_55 z4_56 z4_57 z4_58 z4_59 z4_60 z4_61 z4_62 z4_63 z4_64 z4_65 z4_66 z4_67 z4_68 z4_69 z4_70 z4_71 z4_72 z4_73 z4_74 z4_75 z4_76 z4_77 z4_78 z4_79 z4_80 z4_81 z4_82 z4_83 z4_84 z4_85 z4_86 z4_87 z4_88 z4_89 z4_90 z4_91 z4_92 z4_93 z4_94 z4_95 z4_96 z4_97 z4_98 z4_99 z4_100 z4_101 z4_102 z4_103 z4_104 z4_105 z4_106 z4_107 z4_108 z4_109 z4_110 z4_111 z4_112 z4_113 z4_114 z4_115 z4_116 z4_117 z4_118 z4_119 z4_120 z4_121 z4_122 z4_123 z4_124
   intro z4_125 z4_126 z4_127 z4_128 z4_129 z4_130 z4_131 z4_132 z4_133 z4_134 z4_135 z4_136 z4_137 z4_138 z4_139 z4_140 z4_141 z4_142 z4_143 z4_144 z4_145 z4_146 z4_147 z4_148 z4_149 z4_150 z4_151 z4_152 z4_153 z4_154 z4_155 z4_156 z4_157 z4_158 z4_159 z4_160 z4_161 z4_162 z4_163 z4_164 z4_165 z4_166 z4_167 z4_168 z4_169 z4_170 z4_171 z4_172 z4_173 z4_174 z4_175 z4_176 z4_177 z4_178 z4_179 z4_180 z4_181 z4_182 z4_183 z4_184 z4_185 z4_186 z4_187 z4_188 z4_189 z4_190 z4_191 z4_192 z4_193 z4_194 z4_195 z4_196 z4_197 z4_198 z4_199 z4_200 z4_201 z4_202 z4_203 z4_204 z4_205 z4_206 z4_207 z4_208 z4_209 z4_210 z4_211 z4_212 z4_213 z4_214 z4_215 z4_216 z4_217 z4_218 z4_219 z4_220 z4_221 z4_222 z4_223 z4_224 z4_225 z4_226 z4_227 z4_228 z4_229 z4_230 z4_231 z4_232 z4_233 z4_234 z4_235 z4_236 z4_237 z4_238 z4_239 z4_240 z4_241 z4_242 z4_243 z4_244 z4_245 z4_246 z4_247 z4_248 z4_249 z4_250 z4_251 z4_252 z4_253 z4_254 z4_255 z4_256 z4_257 z4_258 z4_259 z4_260 z4_261 z4_262 z4_263 z4_264 z4_265 z4_266 u316 u317 u318 u319 u320 u321 u322 u323 u324 u325 u326 u327 u328 u329 u330 u331 u332 u333 u334 u335 u336 u337 u338 u339 u340 u341 u342 u343 u344 u345 u346 u347 u348 u349 u350 u351 u352 u353 u354 u355 u356 u357 u358 u359 u360 u361 u362 u363 u364 u365 u366 u367 u368 u369 u370 u371 u372 u373
   intro u374 u375 u376 z2_3 z2_4 x4_2 k2 z2_6 HK2 z3_14 u43 u44 u45 u46 u47 u48 u49 u50 kj19 HJ19 t675 A27 t676 A28 t677 A29 ad673 HR0_0 z3_15 z3_16 gb674 w33 GW674 GE674 NB661_674 NB674_661 hnb34 hnc34 w36 w38 nd z5_1 u7 u67 u68 u69 x7_30 kj30 HJ30 z4_267 z4_268 wr u2 u9 u10 u11 u12 u13 u14 u15 u16 u17 u18 u19 u20 u21 u22 u23 u24 u25 u26 u70 u71 u72 u73 u74 u75 u76 u77 u78 u79 u80 u81 u82 u83 u84 z5_2 z5_3 z5_4 z5_5 z5_6 z5_7 z5_8 z5_9 z5_10 u94 u95 u96 u97 u98 u99 u100 u101 u102 u103 u104 u105 u106 u107 u108 u109 u110 u111 u112 u113 u114 u115 u116 u117 u118 u119 u120 u121 u122 u123 u124 u125 u126 u127 u128 u129 u130 u131 u132 u133 u134 u135 u136 u137 u138 u139 u140 u141 u142 u143 u144 u145 u146 u147 u148 u149 u150 u151 u152 u153 u154 u155 u156 u157 u158 u159 u160 u161 u162 u163 u164 u165 u166 u167 u168 u169 u170 u171 u172 u173 u174 u175 u176 u177 u178 u179 u180 u181 u182 u183 u184 u185 u186 u187 u188 u189 u190 u191 u192 u193 u194 u195 u196 u197 u198
   intro u199 u200 u201 u202 u203 u204 u205 u206 u207 u208 u209 u210 u211 u212 u213 u214 u215 u216 u217 u218 u219 u220 u221 u222 u223 u224 u225 u226 u227 u228 u229 u230 u231 u232 u233 u234 u235 u236 u237 u238 u239 u240 u241 u242 u243 u244 u245 u246 u247 u248 u249 u250 u251 u252 u253 u254 u255 u256 u257 u258 u259 u260 u261 u262 u263 u264 u265 u266 u267 u268 u269 u270 u271 u272 u273 u274 u275 u276 u277 u278 u279 u280 u281 u282 u283 u284 u285 u286 u287 u288 u289 u290 u291 u292 u293 u294 u295 u296 u297 u298 u299 u300 u301 u302 u303 u304 u305 u306 u307 u308 u309 u310 u311 u312 u313 u314 u315 z4_269 z4_270 x8_5 k5 z4_272 HK5 t682 t683 A46 co48 z5_11 z5_12 ad681 z2_5 z4_271 HT_ HW_ w49 z5_13 w50 HS2_ hHeld z5_14 z5_15 z5_16 z5_17 wc u85 u86 u87 u88 u89 u90 u91 u92 u93 kq x94_46 HA HJ46 HO_3 HO_7 BK661 BK674 HB
   cases kq with
   | zero => exact absurd HA.out (by simp [herbariumlaw1_BitsExact.j5])
   | succ kj46 => ?_
   have H := HA.out
   clear HA
   simp only [herbariumlaw1_BitsExact.j5] at H
   have HC55 := ak H
   clear H
   go_upto_if 94 with (fail)
   go_cut [11, 12] from 94 to 94 (fun v11 v12 wc => ∃ (kq : Nat) (x11_54 : Int) (x12_54 : Int), v11 = .int .i64 x11_54 ∧ v12 = .int .i64 x12_54 ∧ Aside0 (herbariumlaw1_BitsExact.j6 kq x3_7 x4_2 t675 x7_30 x8_5 t682 t683 x11_54 x12_54 l0_0 l0_1 ((rd_T27 l0_0 x4_2).f0) ((rd_T27 l0_0 x4_2).f1) = some true) ∧ Aside0 (kq ≤ kj46) ∧ Aside0 (Kd.R (Kd.int .i64) 3 wc w.heap.size (fun _ => True) (.slice (some ad681) x3_7.length co48) x3_7) ∧ Aside0 (Kd.R (Kd.int .u8) 5 wc w.heap.size (fun _ => True) u7 x7_30) ∧ Aside0 (wc.heap[gb661]? = some (.cells #[(.slice (some ad673) l0_0.length c0_0), (.slice A0_1 l0_1.length c0_1)] 25 (0, 0))) ∧ Aside0 (wc.heap[gb674]? = some (.cells #[.string ((rd_T27 l0_0 x4_2).f0), .int .i64 ((rd_T27 l0_0 x4_2).f1)] 27 (0, 0))) ∧ Aside0 (Below w.heap.size w wc))
   case first =>
     have H := HC55.out
     clear HC55
     by_cases c56 : x94_46 = true
     rotate_left
     · replace c56 := Bool.eq_false_iff.mpr c56
       subst c56
       have H1 : (herbariumlaw1_BitsExact.j6 kj46 x3_7 x4_2 t675 x7_30 x8_5 t682 t683 1 0 l0_0 l0_1 ((rd_T27 l0_0 x4_2).f0) ((rd_T27 l0_0 x4_2).f1)) = some true := by rw [if_neg (show ¬ (false = true) by decide)] at H; exact H
       clear H
       have H := H1
       clear H1
       have H' := ak H
       clear H
       go_wp2
       go_meet
       case rel => exact ⟨_, (1), (0), (by first | rfl | (simp; done) | (simp [*]; done)), (by first | rfl | (simp; done) | (simp [*]; done)), H', ⟨by have := HJ7.out; have := HK2.out; have := HJ19.out; have := HJ30.out; have := HK5.out; have := HJ46.out; first | omega | exact Nat.le_refl _⟩, ⟨ur <| HO_3.out⟩, ⟨ur <| HO_7.out⟩, ⟨ub BK661.out⟩, ⟨ub BK674.out⟩, ⟨by repeat with_reducible first | exact HB.out | apply b1 | apply b2 | apply b3 | refine b4 ?_ GE661.out | refine b4 ?_ GE674.out⟩⟩
     subst c56
     have H1 : (if 0 ≤ x8_5 then (if x8_5 < (x3_7.length : Int) then ((herbariumref1_List_Zeros.f kj46 x7_30 (rd x3_7 x8_5)).bind fun t687 => (if t687 ≥ 0 then (herbariumlaw1_BitsExact.j6 kj46 x3_7 x4_2 t675 x7_30 x8_5 t682 t683 0 t687 l0_0 l0_1 ((rd_T27 l0_0 x4_2).f0) ((rd_T27 l0_0 x4_2).f1)) else (herbariumlaw1_BitsExact.j6 kj46 x3_7 x4_2 t675 x7_30 x8_5 t682 t683 9 0 l0_0 l0_1 ((rd_T27 l0_0 x4_2).f0) ((rd_T27 l0_0 x4_2).f1)))) else (none)) else (none)) = some true := by rw [if_pos rfl] at H; exact H
     clear H
     have H := H1
     clear H1
     by_cases c57 : 0 ≤ x8_5
     rotate_left
     · rw [if_neg c57] at H
       exact absurd H (by simp)
     rw [if_pos c57] at H
     have c57b0 : decide (0 ≤ x8_5) = true := decide_eq_true c57
     clear c57
     (first | rw [c57b0] | (simp only [i64_w, i32_w]; rw [c57b0]) | skip)
     by_cases c58 : x8_5 < (x3_7.length : Int)
     rotate_left
     · rw [if_neg c58] at H
       exact absurd H (by simp)
     rw [if_pos c58] at H
     have c58b0 : decide (x8_5 < (x3_7.length : Int)) = true := decide_eq_true c58
     clear c58
     replace H := Option.bind_eq_some_iff.mp H
     obtain ⟨t687, A590, H⟩ := H
     try dsimp only at H
     have A59 := ak A590
     clear A590
     by_cases c60 : t687 ≥ 0
     rotate_left
     · rw [if_neg c60] at H
       have c60b0 : decide (0 ≤ t687) = false := decide_eq_false c60
       clear c60
       have H' := ak H
       clear H
       have p686 : 0 ≤ (x8_5 : Int) := of_decide_eq_true (by first | (with_reducible assumption) | assumption)
       have q686 : x8_5 < (x3_7.length : Int) := of_decide_eq_true (by first | (with_reducible assumption) | assumption)
       obtain ⟨ad686, e686, hx686_0⟩ := Kd.at_int (Kd.R_reads' HO_3.out).2.2 x8_5 p686 q686
       obtain rfl : ad681 = ad686 := (by injection e686)
       replace p686 := eq_true p686
       replace q686 := eq_true q686
       obtain ⟨Ao62, co62, eo62⟩ := Kd.R_slice HO_7.out
       subst eo62
       go_wp2_with (first | ((with_reducible refine gate_callee (f := 54) rfl ?_); refine goesL_ (some 100) rfl rfl Try.func54 (by kernel_rfl) rfl #[.slice Ao62 x7_30.length co62, .int .i64 (rd x3_7 x8_5)] rfl (by (try simp only [List.map_toArray, List.map_cons, List.map_nil]); first | done | rfl | (simp only [List.length_drop, List.length_take]; rfl)) ?_; (with_reducible refine (herbariumref1_List_Zeros.calls kj46 _ _ x7_30 (rd x3_7 x8_5) t687 _ ?side1 ?side2 A59.out).mono ?_); (case side1 => exact uc (Kd.R_reads' HO_7.out).2.2); (case side2 => exact (Kd.R_reads' HO_7.out).2.1); rintro e w' ⟨rfl, ⟨nd, rfl⟩⟩; refine ⟨_, rfl, ?_⟩))
       go_meet
       case rel => exact ⟨_, (9), (0), (by first | rfl | (simp; done) | (simp [*]; done)), (by first | rfl | (simp; done) | (simp [*]; done)), H', ⟨by have := HJ7.out; have := HK2.out; have := HJ19.out; have := HJ30.out; have := HK5.out; have := HJ46.out; first | omega | exact Nat.le_refl _⟩, ⟨ur <| HO_3.out⟩, ⟨ur <| HO_7.out⟩, ⟨ub BK661.out⟩, ⟨ub BK674.out⟩, ⟨by repeat with_reducible first | exact HB.out | apply b1 | apply b2 | apply b3 | refine b4 ?_ GE661.out | refine b4 ?_ GE674.out⟩⟩
     rw [if_pos c60] at H
     have c60b0 : decide (0 ≤ t687) = true := decide_eq_true c60
     clear c60
     have H' := ak H
     clear H
     have p686 : 0 ≤ (x8_5 : Int) := of_decide_eq_true (by first | (with_reducible assumption) | assumption)
     have q686 : x8_5 < (x3_7.length : Int) := of_decide_eq_true (by first | (with_reducible assumption) | assumption)
     obtain ⟨ad686, e686, hx686_0⟩ := Kd.at_int (Kd.R_reads' HO_3.out).2.2 x8_5 p686 q686
     obtain rfl : ad681 = ad686 := (by injection e686)
     replace p686 := eq_true p686
     replace q686 := eq_true q686
     obtain ⟨Ao61, co61, eo61⟩ := Kd.R_slice HO_7.out
     subst eo61
     go_wp2_with (first | ((with_reducible refine gate_callee (f := 54) rfl ?_); refine goesL_ (some 100) rfl rfl Try.func54 (by kernel_rfl) rfl #[.slice Ao61 x7_30.length co61, .int .i64 (rd x3_7 x8_5)] rfl (by (try simp only [List.map_toArray, List.map_cons, List.map_nil]); first | done | rfl | (simp only [List.length_drop, List.length_take]; rfl)) ?_; (with_reducible refine (herbariumref1_List_Zeros.calls kj46 _ _ x7_30 (rd x3_7 x8_5) t687 _ ?side1 ?side2 A59.out).mono ?_); (case side1 => exact uc (Kd.R_reads' HO_7.out).2.2); (case side2 => exact (Kd.R_reads' HO_7.out).2.1); rintro e w' ⟨rfl, ⟨nd, rfl⟩⟩; refine ⟨_, rfl, ?_⟩))
     go_meet
     case rel => exact ⟨_, (0), (t687), (by first | rfl | (simp; done) | (simp [*]; done)), (by first | rfl | (simp; done) | (simp [*]; done)), H', ⟨by have := HJ7.out; have := HK2.out; have := HJ19.out; have := HJ30.out; have := HK5.out; have := HJ46.out; first | omega | exact Nat.le_refl _⟩, ⟨ur <| HO_3.out⟩, ⟨ur <| HO_7.out⟩, ⟨ub BK661.out⟩, ⟨ub BK674.out⟩, ⟨by repeat with_reducible first | exact HB.out | apply b1 | apply b2 | apply b3 | refine b4 ?_ GE661.out | refine b4 ?_ GE674.out⟩⟩
   clear HC55
   try clear c3
   try clear c7
   try clear c24
   try clear c25
   try clear c25b0
   try clear c26
   try clear c26b0
   try clear c30
   try clear c30b0
   try clear c30b1
   try clear c30b2
   try clear c44
   try clear c44b0
   try clear c45
   try clear c45b0
   try clear hcz10_0
   try clear hcz10_1
   try clear hcz14_0
   try clear hcz14_1
   try clear hcz32_0
   try clear hcz32_1
   try clear hcz35_0
   try clear hcz35_1
   try clear hcz37_0
   try clear hcz37_1
   try clear hfz10_0
   try clear hfz10_1
   try clear hfz14_0
   try clear hfz14_1
   try clear hfz32_0
   try clear hfz32_1
   try clear hfz35_0
   try clear hfz35_1
   try clear hfz37_0
   try clear hfz37_1
   try clear hx673_0
   try clear hx673_1
   try clear hx681_0
   try clear p673
   try clear p681
   try clear q673
   try clear q681
   try clear HA
   try clear HJ54
   try clear HO_3
   try clear HO_7
   try clear BK661
   try clear BK674
   try clear HB
   obtain ⟨kq, x11_54, x12_54, rfl, rfl, HA, HJ54, HO_3, HO_7, BK661, BK674, HB⟩ := hcut
   cases kq with
   | zero => exact absurd HA.out (by simp [herbariumlaw1_BitsExact.j6])
   | succ kj54 => ?_
   have H := HA.out
   clear HA
   simp only [herbariumlaw1_BitsExact.j6] at H
   have HC63 := ak H
   clear H
   go_upto_region 26 with (fail)
   go_cut [112] from 9999 to 0 (fun v112 wc => ∃ (kq : Nat) (x112_62 : Bool), v112 = .bool x112_62 ∧ Aside0 (herbariumlaw1_BitsExact.j7 kq x3_7 x4_2 t675 x7_30 x8_5 x112_62 l0_0 l0_1 ((rd_T27 l0_0 x4_2).f0) ((rd_T27 l0_0 x4_2).f1) = some true) ∧ Aside0 (kq ≤ kj54) ∧ Aside0 (Kd.R (Kd.int .i64) 3 wc w.heap.size (fun _ => True) (.slice (some ad681) x3_7.length co48) x3_7) ∧ Aside0 (Kd.R (Kd.int .u8) 5 wc w.heap.size (fun _ => True) u7 x7_30) ∧ Aside0 (wc.heap[gb661]? = some (.cells #[(.slice (some ad673) l0_0.length c0_0), (.slice A0_1 l0_1.length c0_1)] 25 (0, 0))) ∧ Aside0 (wc.heap[gb674]? = some (.cells #[.string ((rd_T27 l0_0 x4_2).f0), .int .i64 ((rd_T27 l0_0 x4_2).f1)] 27 (0, 0))) ∧ Aside0 (Below w.heap.size w wc))
   case first =>
     have H := HC63.out
     clear HC63
     replace H := Option.bind_eq_some_iff.mp H
     obtain ⟨t688, A640, H⟩ := H
     try dsimp only at H
     have A64 := ak A640
     clear A640
     by_cases c65 : t688 = x11_54
     rotate_left
     · rw [if_neg c65] at H
       have c65b0 : (t688 == x11_54) = false := beq_eq_false_iff_ne.mpr c65
       have c65b1 : (t688 != x11_54) = true := bne_iff_ne.mpr c65
       (first | rw [c65b0] | (simp only [i64_w, i32_w]; rw [c65b0]) | skip)
       exact absurd H (herbariumlaw1_BitsExact.j7_no _ _ _ _ _ _ _ _ _ _)
     rw [if_pos c65] at H
     have c65b0 : (t688 == x11_54) = true := beq_iff_eq.mpr c65
     have c65b1 : (t688 != x11_54) = false := bne_eq_false_iff_eq.mpr c65
     clear c65
     (first | rw [c65b0] | (simp only [i64_w, i32_w]; rw [c65b0]) | skip)
     have H' := ak H
     clear H
     go_wp2_with (first | ((with_reducible refine gate_callee (f := 26) rfl ?_); refine goesL_ (some 105) rfl rfl Try.func26 (by kernel_rfl) rfl #[.int .i64 t683] rfl (by (try simp only [List.map_toArray, List.map_cons, List.map_nil]); first | done | rfl | (simp only [List.length_drop, List.length_take]; rfl)) ?_; (with_reducible refine (herbariumlaw1_num.calls t683 t688 _ A64.out).mono ?_); rintro e w' ⟨rfl, ⟨nd, rfl⟩⟩; refine ⟨_, rfl, ?_⟩))
     go_meet
     case rel => exact ⟨_, ((t682 != x12_54)), (by first | rfl | (simp; done) | (simp [*]; done)), H', ⟨by have := HJ7.out; have := HK2.out; have := HJ19.out; have := HJ30.out; have := HK5.out; have := HJ46.out; have := HJ54.out; first | omega | exact Nat.le_refl _⟩, ⟨ur <| HO_3.out⟩, ⟨ur <| HO_7.out⟩, ⟨ub BK661.out⟩, ⟨ub BK674.out⟩, ⟨by repeat with_reducible first | exact HB.out | apply b1 | apply b2 | apply b3 | refine b4 ?_ GE661.out | refine b4 ?_ GE674.out⟩⟩
   clear HC63
   try clear c3
   try clear c7
   try clear c24
   try clear c25
   try clear c25b0
   try clear c26
   try clear c26b0
   try clear c30
   try clear c30b0
   try clear c30b1
   try clear c30b2
   try clear c44
   try clear c44b0
   try clear c45
   try clear c45b0
   try clear hcz10_0
   try clear hcz10_1
   try clear hcz14_0
   try clear hcz14_1
   try clear hcz32_0
   try clear hcz32_1
   try clear hcz35_0
   try clear hcz35_1
   try clear hcz37_0
   try clear hcz37_1
   try clear hfz10_0
   try clear hfz10_1
   try clear hfz14_0
   try clear hfz14_1
   try clear hfz32_0
   try clear hfz32_1
   try clear hfz35_0
   try clear hfz35_1
   try clear hfz37_0
   try clear hfz37_1
   try clear hx673_0
   try clear hx673_1
   try clear hx681_0
   try clear p673
   try clear p681
   try clear q673
   try clear q681
   try clear HA
   try clear HJ62
   try clear HO_3
   try clear HO_7
   try clear BK661
   try clear BK674
   try clear HB
   obtain ⟨kq, x112_62, rfl, HA, HJ62, HO_3, HO_7, BK661, BK674, HB⟩ := hcut
   rename_i z6_1 z6_2 z6_3 z6_4 z6_5 z6_6 z6_7 z6_8 z6_9 z6_10 z6_11 z6_12 z6_13 z6_14 z6_15 z6_16 z6_17 z6_18 z6_19 z6_20 z6_21 z6_22 z6_23 z6_24 z6_25
   revert k c0_0 l0_0 A0_1 c0_1 l0_1 w hu25 hu27 HC0_0 HR0_1 HC0_1 A2 y663 Ny663 LMc7 y666 Ny666 z1_1 gb661 w9 GW661 GE661 w11 z1_2 v664 w12 w15 Ao16 co16 HO668 z3_1 u40 u41 u42 x3_7 kj7 HJ7 z2_1 z2_2 z4_1 z4_2 u5 u6 z3_2 u8 z4_3 z4_4 z4_5 z4_6 z4_7 z4_8 z4_9 z4_10 z4_11 z4_12 z4_13 z4_14 z4_15 z4_16 z4_17 z4_18 z4_19 z4_20 u27 u28 u29 u30 u31 z3_3 z3_4 z3_5 z3_6 z3_7 z3_8 z3_9 z3_10 u51 u52 u53 u54 u55 u56 u57 u58 u59 u60 u61 u62 u63 u64 u65 u66 z3_11 z3_12 z3_13 z4_21 z4_22 z4_23 z4_24 z4_25 z4_26 z4_27 z4_28 z4_29 z4_30 z4_31 z4_32 z4_33 z4_34 z4_35 z4_36 z4_37 z4_38 z4_39 z4_40 z4_41 z4_42 z4_43 z4_44 z4_45 z4_46 z4_47 z4_48 z4_49 z4_50 z4_51 z4_52 z4_53 z4_54 z4_55 z4_56 z4_57 z4_58 z4_59 z4_60 z4_61 z4_62 z4_63 z4_64 z4_65 z4_66 z4_67 z4_68 z4_69 z4_70 z4_71 z4_72 z4_73 z4_74 z4_75 z4_76 z4_77 z4_78 z4_79 z4_80 z4_81 z4_82 z4_83 z4_84 z4_85 z4_86 z4_87 z4_88 z4_89 z4_90 z4_91 z4_92 z4_93 z4_94 z4_95 z4_96 z4_97 z4_98 z4_99 z4_100 z4_101 z4_102 z4_103 z4_104 z4_105 z4_106 z4_107 z4_108 z4_109 z4_110 z4_111 z4_112 z4_113 z4_114 z4_115 z4_116 z4_117 z4_118 z4_119 z4_120 z4_121 z4_122 z4_123 z4_124 z4_125 z4_126 z4_127 z4_128 z4_129 z4_130 z4_131 z4_132 z4_133 z4_134 z4_135 z4_136 z4_137 z4_138 z4_139 z4_140 z4_141 z4_142 z4_143 z4_144 z4_145 z4_146 z4_147 z4_148 z4_149 z4_150 z4_151 z4_152 z4_153 z4_154 z4_155 z4_156 z4_157 z4_158 z4_159 z4_160 z4_161 z4_162 z4_163 z4_164 z4_165 z4_166 z4_167 z4_168 z4_169 z4_170 z4_171 z4_172 z4_173 z4_174 z4_175 z4_176 z4_177 z4_178 z4_179 z4_180 z4_181 z4_182 z4_183 z4_184 z4_185 z4_186 z4_187 z4_188 z4_189 z4_190 z4_191 z4_192 z4_193 z4_194 z4_195 z4_196 z4_197 z4_198 z4_199 z4_200 z4_201 z4_202 z4_203 z4_204 z4_205 z4_206 z4_207 z4_208 z4_209 z4_210 z4_211 z4_212 z4_213 z4_214 z4_215 z4_216 z4_217 z4_218 z4_219 z4_220 z4_221 z4_222 z4_223 z4_224 z4_225 z4_226 z4_227 z4_228 z4_229 z4_230 z4_231 z4_232 z4_233 z4_234 z4_235 z4_236 z4_237 z4_238 z4_239 z4_240 z4_241 z4_242 z4_243 z4_244 z4_245 z4_246 z4_247 z4_248 z4_249 z4_250 z4_251 z4_252 z4_253 z4_254 z4_255 z4_256 z4_257 z4_258 z4_259 z4_260 z4_261 z4_262 z4_263 z4_264 z4_265 z4_266 u316 u317 u318 u319 u320 u321 u322 u323 u324 u325 u326 u327 u328 u329 u330 u331 u332 u333 u334 u335 u336 u337 u338 u339 u340 u341 u342 u343 u344 u345 u346 u347 u348 u349 u350 u351 u352 u353 u354 u355 u356 u357 u358 u359 u360 u361 u362 u363 u364 u365 u366 u367 u368 u369 u370 u371 u372 u373 u374 u375 u376 z2_3 z2_4 x4_2 k2 z2_6 HK2 z3_14 u43 u44 u45 u46 u47 u48 u49 u50 kj19 HJ19 t675 A27 t676 A28 t677 A29 ad673 HR0_0 z3_15 z3_16 gb674 w33 GW674 GE674 NB661_674 NB674_661 hnb34 hnc34 w36 w38 nd z5_1 u7 u67 u68 u69 x7_30 kj30 HJ30 z4_267 z4_268 wr u2 u9 u10 u11 u12 z6_1 u14 u15 u16 u17 u18 u19 u20 u21 u22 u23 u24 u25 u26 u70 u71 u72 u73 u74 u75 u76 u77 u78 u79 u80 u81 u82 u83 u84 z5_2 z5_3 z5_4 z5_5 z5_6 z5_7 z5_8 z5_9 z5_10 z6_2 z6_3 z6_4 z6_5 z6_6 z6_7 z6_8 z6_9 z6_10 z6_11 z6_12 z6_13 z6_14 z6_15 z6_16 z6_17 z6_18 z6_19 u112 u113 u114 u115 u116 u117 u118 u119 u120 u121 u122 u123 u124 u125 u126 u127 u128 u129 u130 u131 u132 u133 u134 u135 u136 u137 u138 u139 u140 u141 u142 u143 u144 u145 u146 u147 u148 u149 u150 u151 u152 u153 u154 u155 u156 u157 u158 u159 u160 u161 u162 u163 u164 u165 u166 u167 u168 u169 u170 u171 u172 u173 u174 u175 u176 u177 u178 u179 u180 u181 u182 u183 u184 u185 u186 u187 u188 u189 u190 u191 u192 u193 u194 u195 u196 u197 u198 u199 u200 u201 u202 u203 u204 u205 u206 u207 u208 u209 u210 u211 u212 u213 u214 u215 u216 u217 u218 u219 u220 u221 u222 u223 u224 u225 u226 u227 u228 u229 u230 u231 u232 u233 u234 u235 u236 u237 u238 u239 u240 u241 u242 u243 u244 u245 u246 u247 u248 u249 u250 u251 u252 u253 u254 u255 u256 u257 u258 u259 u260 u261 u262 u263 u264 u265 u266 u267 u268 u269 u270 u271 u272 u273 u274 u275 u276 u277 u278 u279 u280 u281 u282 u283 u284 u285 u286 u287 u288 u289 u290 u291 u292 u293 u294 u295 u296 u297 u298 u299 u300 u301 u302 u303 u304 u305 u306 u307 u308 u309 u310 u311 u312 u313 u314 u315 z4_269 z4_270 x8_5 k5 z4_272 HK5 t682 t683 A46 co48 z5_11 z5_12 ad681 z2_5 z4_271 HT_ HW_ w49 z5_13 w50 HS2_ hHeld z6_20 u85 u86 u87 u88 u89 u90 u91 u92 u93 x94_46 kj46 HJ46 z6_21 u13 u94 u95 u96 u97 u98 u99 u100 u101 u102 u103 x11_54 x12_54 kj54 HJ54 z6_22 z6_23 z6_24 z6_25 wc u104 u105 u106 u107 u108 u109 u110 u111 kq x112_62 HA HJ62 HO_3 HO_7 BK661 BK674 HB
   exact hP_.out
end Go.Proofs.Ytnpghcikhpglkaa.Q
namespace Go.Proofs.Ytnpghcikhpglkaa.Q
open Go.RowKit Go.Proofs.YtnpghcikhpglkaaW.PrintWords Go.Proofs.YtnpghcikhpglkaaW.PrintLast Go.Proofs.YtnpghcikhpglkaaW.PrintMore
attribute [local go_sem] max2_int min2_int max_two min_two max_three min_three max_four min_four   -- for this text's walks alone
set_option linter.unusedVariables false
set_option linter.unusedSimpArgs false
attribute [local go_sem high] eqA27
set_option maxHeartbeats 8000000 in
set_option maxRecDepth 100000 in
noncomputable def herbariumlaw1_BitsExact.p7 : PSigma fun P_ : Prop => Later P_ → herbariumlaw1_BitsExact.p6.1 := by
  refine' ⟨_, fun hP_ => ?_⟩
  rotate_left
  focus
   intro k c0_0 l0_0 A0_1 c0_1 l0_1 w hu25 hu27 HC0_0 HR0_1 HC0_1 A2 y663 Ny663 LMc7 y666 Ny666 z1_1 gb661 w9 GW661 GE661 w11 z1_2 v664 w12 w15 Ao16 co16 HO668 z3_1 u40 u41 u42 x3_7 kj7 HJ7 z2_1 z2_2 z4_1 z4_2 u5 u6 z3_2 u8 z4_3 z4_4 z4_5 z4_6 z4_7 z4_8 z4_9 z4_10 z4_11 z4_12 z4_13 z4_14 z4_15 z4_16 z4_17 z4_18 z4_19 z4_20 u27 u28 u29 u30 u31 z3_3 z3_4 z3_5 z3_6 z3_7 z3_8 z3_9 z3_10 u51 u52 u53 u54 u55 u56 u57 u58 u59 u60 u61 u62 u63 u64 u65 u66 z3_11 z3_12 z3_13 z4_21 z4_22 z4_23 z4_24 z4_25 z4_26 z4_27 z4_28 z4_29 z4_30 z4_31 z4_32 z4_33 z4_34 z4_35 z4_36 z4_37 z4_38 z4_39 z4_40 z4_41 z4_42 z4_43 z4_44 z4_45 z4_46 z4_47 z4_48 z4_49 z4_50 z4_51 z4_52 z4_53 z4_54 z4_55 z4_56 z4_57 z4_58 z4_59 z4_60 z4_61 z4_62 z4_63 z4_64 z4_65 z4_66 z4_67 z4_68 z4_69 z4_70 z4_71 z4_72 z4_73 z4_74 z4_75 z4_76 z4_77 z4_78 z4_79 z4_80 z4_81 z4_82 z4_83 z4_84 z4_85 z4_86 z4_87 z4_88 z4_89 z4_90 z4_91 z4_92 z4_93 z4_94 z4_95 z4_96 z4_97 z4_98 z4_99 z4_100 z4_101 z4_102 z4_103 z4_104 z4_105 z4_106 z4_107 z4_108 z4_109 z4_110 z4_111 z4_112 z4_113 z4_114 z4_115 z4_116 z4_117 z4_118 z4_119 z4_120 z4_121 z4_122 z4_123 z4_124
   intro z4_125 z4_126 z4_127 z4_128 z4_129 z4_130 z4_131 z4_132 z4_133 z4_134 z4_135 z4_136 z4_137 z4_138 z4_139 z4_140 z4_141 z4_142 z4_143 z4_144 z4_145 z4_146 z4_147 z4_148 z4_149 z4_150 z4_151 z4_152 z4_153 z4_154 z4_155 z4_156 z4_157 z4_158 z4_159 z4_160 z4_161 z4_162 z4_163 z4_164 z4_165 z4_166 z4_167 z4_168 z4_169 z4_170 z4_171 z4_172 z4_173 z4_174 z4_175 z4_176 z4_177 z4_178 z4_179 z4_180 z4_181 z4_182 z4_183 z4_184 z4_185 z4_186 z4_187 z4_188 z4_189 z4_190 z4_191 z4_192 z4_193 z4_194 z4_195 z4_196 z4_197 z4_198 z4_199 z4_200 z4_201 z4_202 z4_203 z4_204 z4_205 z4_206 z4_207 z4_208 z4_209 z4_210 z4_211 z4_212 z4_213 z4_214 z4_215 z4_216 z4_217 z4_218 z4_219 z4_220 z4_221 z4_222 z4_223 z4_224 z4_225 z4_226 z4_227 z4_228 z4_229 z4_230 z4_231 z4_232 z4_233 z4_234 z4_235 z4_236 z4_237 z4_238 z4_239 z4_240 z4_241 z4_242 z4_243 z4_244 z4_245 z4_246 z4_247 z4_248 z4_249 z4_250 z4_251 z4_252 z4_253 z4_254 z4_255 z4_256 z4_257 z4_258 z4_259 z4_260 z4_261 z4_262 z4_263 z4_264 z4_265 z4_266 u316 u317 u318 u319 u320 u321 u322 u323 u324 u325 u326 u327 u328 u329 u330 u331 u332 u333 u334 u335 u336 u337 u338 u339 u340 u341 u342 u343 u344 u345 u346 u347 u348 u349 u350 u351 u352 u353 u354 u355 u356 u357 u358 u359 u360 u361 u362 u363 u364 u365 u366 u367 u368 u369 u370 u371 u372 u373
   intro u374 u375 u376 z2_3 z2_4 x4_2 k2 z2_6 HK2 z3_14 u43 u44 u45 u46 u47 u48 u49 u50 kj19 HJ19 t675 A27 t676 A28 t677 A29 ad673 HR0_0 z3_15 z3_16 gb674 w33 GW674 GE674 NB661_674 NB674_661 hnb34 hnc34 w36 w38 nd z5_1 u7 u67 u68 u69 x7_30 kj30 HJ30 z4_267 z4_268 wr u2 u9 u10 u11 u12 z6_1 u14 u15 u16 u17 u18 u19 u20 u21 u22 u23 u24 u25 u26 u70 u71 u72 u73 u74 u75 u76 u77 u78 u79 u80 u81 u82 u83 u84 z5_2 z5_3 z5_4 z5_5 z5_6 z5_7 z5_8 z5_9 z5_10 z6_2 z6_3 z6_4 z6_5 z6_6 z6_7 z6_8 z6_9 z6_10 z6_11 z6_12 z6_13 z6_14 z6_15 z6_16 z6_17 z6_18 z6_19 u112 u113 u114 u115 u116 u117 u118 u119 u120 u121 u122 u123 u124 u125 u126 u127 u128 u129 u130 u131 u132 u133 u134 u135 u136 u137 u138 u139 u140 u141 u142 u143 u144 u145 u146 u147 u148 u149 u150 u151 u152 u153 u154 u155 u156 u157 u158 u159 u160 u161 u162 u163 u164 u165 u166 u167 u168 u169 u170 u171 u172 u173 u174 u175 u176 u177 u178 u179 u180 u181 u182 u183 u184 u185 u186 u187 u188 u189 u190 u191 u192 u193 u194 u195 u196 u197 u198
   intro u199 u200 u201 u202 u203 u204 u205 u206 u207 u208 u209 u210 u211 u212 u213 u214 u215 u216 u217 u218 u219 u220 u221 u222 u223 u224 u225 u226 u227 u228 u229 u230 u231 u232 u233 u234 u235 u236 u237 u238 u239 u240 u241 u242 u243 u244 u245 u246 u247 u248 u249 u250 u251 u252 u253 u254 u255 u256 u257 u258 u259 u260 u261 u262 u263 u264 u265 u266 u267 u268 u269 u270 u271 u272 u273 u274 u275 u276 u277 u278 u279 u280 u281 u282 u283 u284 u285 u286 u287 u288 u289 u290 u291 u292 u293 u294 u295 u296 u297 u298 u299 u300 u301 u302 u303 u304 u305 u306 u307 u308 u309 u310 u311 u312 u313 u314 u315 z4_269 z4_270 x8_5 k5 z4_272 HK5 t682 t683 A46 co48 z5_11 z5_12 ad681 z2_5 z4_271 HT_ HW_ w49 z5_13 w50 HS2_ hHeld z6_20 u85 u86 u87 u88 u89 u90 u91 u92 u93 x94_46 kj46 HJ46 z6_21 u13 u94 u95 u96 u97 u98 u99 u100 u101 u102 u103 x11_54 x12_54 kj54 HJ54 z6_22 z6_23 z6_24 z6_25 wc u104 u105 u106 u107 u108 u109 u110 u111 kq x112_62 HA HJ62 HO_3 HO_7 BK661 BK674 HB
   cases kq with
   | zero => exact absurd HA.out (by simp [herbariumlaw1_BitsExact.j7])
   | succ kj62 => ?_
   have H := HA.out
   clear HA
   simp only [herbariumlaw1_BitsExact.j7] at H
   by_cases c66 : x112_62 = true
   · subst c66
     have H1 : (some false) = some true := by rw [if_pos rfl] at H; exact H
     clear H
     have H := H1
     clear H1
     exact absurd (Option.some.inj H) (by decide)
   replace c66 := Bool.eq_false_iff.mpr c66
   subst c66
   have H1 : (herbariumlaw1_BitsExact.l2 kj62 x3_7 x4_2 t675 x7_30 x8_5 0 l0_0 l0_1 ((rd_T27 l0_0 x4_2).f0) ((rd_T27 l0_0 x4_2).f1)) = some true := by rw [if_neg (show ¬ (false = true) by decide)] at H; exact H
   clear H
   have H := H1
   clear H1
   have H' := ak H
   clear H
   go_wp2
   go_loopg [14] kj62 (fun kq v14 w' => ∃ (x14_9 : Int), v14 = .int .i64 x14_9 ∧ Aside0 (herbariumlaw1_BitsExact.l2 kq x3_7 x4_2 t675 x7_30 x8_5 x14_9 l0_0 l0_1 ((rd_T27 l0_0 x4_2).f0) ((rd_T27 l0_0 x4_2).f1) = some true) ∧ Aside0 (kq ≤ kj62) ∧ Aside0 (Kd.R (Kd.int .i64) 3 w' w.heap.size (fun _ => True) (.slice (some ad681) x3_7.length co48) x3_7) ∧ Aside0 (Kd.R (Kd.int .u8) 5 w' w.heap.size (fun _ => True) u7 x7_30) ∧ Aside0 (w'.heap[gb661]? = some (.cells #[(.slice (some ad673) l0_0.length c0_0), (.slice A0_1 l0_1.length c0_1)] 25 (0, 0))) ∧ Aside0 (w'.heap[gb674]? = some (.cells #[.string ((rd_T27 l0_0 x4_2).f0), .int .i64 ((rd_T27 l0_0 x4_2).f1)] 27 (0, 0))) ∧ Aside0 (Below w.heap.size w w'))
   case atStart => exact ⟨(0), (by first | rfl | (simp; done) | (simp [*]; done)), H', ⟨Nat.le_refl _⟩, ⟨ur <| HO_3.out⟩, ⟨ur <| HO_7.out⟩, ⟨ub BK661.out⟩, ⟨ub BK674.out⟩, ⟨by repeat with_reducible first | exact HB.out | apply b1 | apply b2 | apply b3 | refine b4 ?_ GE661.out | refine b4 ?_ GE674.out⟩⟩
   clear H'
   try clear c3
   try clear c7
   try clear c24
   try clear c25
   try clear c25b0
   try clear c26
   try clear c26b0
   try clear c30
   try clear c30b0
   try clear c30b1
   try clear c30b2
   try clear c44
   try clear c44b0
   try clear c45
   try clear c45b0
   try clear c66
   try clear hcz10_0
   try clear hcz10_1
   try clear hcz14_0
   try clear hcz14_1
   try clear hcz32_0
   try clear hcz32_1
   try clear hcz35_0
   try clear hcz35_1
   try clear hcz37_0
   try clear hcz37_1
   try clear hfz10_0
   try clear hfz10_1
   try clear hfz14_0
   try clear hfz14_1
   try clear hfz32_0
   try clear hfz32_1
   try clear hfz35_0
   try clear hfz35_1
   try clear hfz37_0
   try clear hfz37_1
   try clear hx673_0
   try clear hx673_1
   try clear hx681_0
   try clear p673
   try clear p681
   try clear q673
   try clear q681
   try clear HA
   try clear HK9
   try clear HO_3
   try clear HO_7
   try clear BK661
   try clear BK674
   try clear HB
   obtain ⟨x14_9, rfl, HA, HK9, HO_3, HO_7, BK661, BK674, HB⟩ := hrel
   rename_i z7_1 z7_2 z7_3 z7_4 z7_5 z7_6 z7_7 z7_8 z7_9 z7_10 z7_11 z7_12 z7_13 z7_14 z7_15 z7_16 z7_17 z7_18 z7_19 z7_20 z7_21 z7_22 z7_23 z7_24 z7_25 z7_26 z7_27 z7_28 z7_29 z7_30 z7_31 z7_32 z7_33 z7_34 z7_35 z7_36 z7_37 z7_38 z7_39 z7_40 z7_41 z7_42 z7_43 z7_44 z7_45 z7_46 z7_47 z7_48 z7_49 z7_50 z7_51 z7_52 z7_53 z7_54 z7_55 z7_56 z7_57 z7_58 z7_59 z7_60 z7_61 z7_62 z7_63 z7_64 z7_65 z7_66 z7_67 z7_68 z7_69 z7_70 z7_71 z7_72 z7_73 z7_74 z7_75 z7_76 z7_77 z7_78 z7_79 z7_80 z7_81 z7_82 z7_83 z7_84 z7_85 z7_86 z7_87 z7_88 z7_89 z7_90 z7_91 z7_92 z7_93 z7_94 z7_95 z7_96 z7_97 z7_98 z7_99 z7_100 z7_101 z7_102 z7_103 z7_104 z7_105 z7_106 z7_107 z7_108 z7_109 z7_110 z7_111 z7_112 z7_113 z7_114 z7_115 z7_116 z7_117 z7_118 z7_119 z7_120 z7_121 z7_122 z7_123 z7_124 z7_125 z7_126 z7_127 z7_128 z7_129 z7_130 z7_131 z7_132 z7_133 z7_134 z7_135 z7_136 z7_137 z7_138 z7_139 z7_140 z7_141 z7_142 z7_143 z7_144 z7_145 z7_146 z7_147 z7_148 z7_149 z7_150 z7_151 z7_152 z7_153 z7_154 z7_155 z7_156 z7_157 z7_158 z7_159 z7_160 z7_161 z7_162 z7_163 z7_164 z7_165 z7_166 z7_167 z7_168 z7_169 z7_170 z7_171 z7_172 z7_173 z7_174 z7_175 z7_176 z7_177 z7_178 z7_179 z7_180 z7_181 z7_182 z7_183 z7_184 z7_185 z7_186 z7_187 z7_188 z7_189 z7_190 z7_191 z7_192 z7_193 z7_194 z7_195 z7_196 z7_197 z7_198 z7_199 z7_200 z7_201 z7_202 z7_203 z7_204 z7_205 z7_206 z7_207 z7_208 z7_209 z7_210 z7_211 z7_212 z7_213 z7_214 z7_215 z7_216 z7_217 z7_218 z7_219 z7_220 z7_221
   revert k c0_0 l0_0 A0_1 c0_1 l0_1 w hu25 hu27 HC0_0 HR0_1 HC0_1 A2 y663 Ny663 LMc7 y666 Ny666 z1_1 gb661 w9 GW661 GE661 w11 z1_2 v664 w12 w15 Ao16 co16 HO668 z3_1 u40 u41 u42 x3_7 kj7 HJ7 z2_1 z2_2 z4_1 z4_2 u5 u6 z3_2 u8 z4_3 z4_4 z4_5 z4_6 z4_7 z4_8 z4_9 z4_10 z4_11 z4_12 z4_13 z4_14 z4_15 z4_16 z4_17 z4_18 z4_19 z4_20 u27 u28 u29 u30 u31 z3_3 z3_4 z3_5 z3_6 z3_7 z3_8 z3_9 z3_10 u51 u52 u53 u54 u55 u56 u57 u58 u59 u60 u61 u62 u63 u64 u65 u66 z3_11 z3_12 z3_13 z4_21 z4_22 z4_23 z4_24 z4_25 z4_26 z4_27 z4_28 z4_29 z4_30 z4_31 z4_32 z4_33 z4_34 z4_35 z4_36 z4_37 z4_38 z4_39 z4_40 z4_41 z4_42 z4_43 z4_44 z4_45 z4_46 z4_47 z4_48 z4_49 z4_50 z4_51 z4_52 z4_53 z4_54 z4_55 z4_56 z4_57 z4_58 z4_59 z4_60 z4_61 z4_62 z4_63 z4_64 z4_65 z4_66 z4_67 z4_68 z4_69 z4_70 z4_71 z4_72 z4_73 z4_74 z4_75 z4_76 z4_77 z4_78 z4_79 z4_80 z4_81 z4_82 z4_83 z4_84 z4_85 z4_86 z4_87 z4_88 z4_89 z4_90 z4_91 z4_92 z4_93 z4_94 z4_95 z4_96 z4_97 z4_98 z4_99 z4_100 z4_101 z4_102 z4_103 z4_104 z4_105 z4_106 z4_107 z4_108 z4_109 z4_110 z4_111 z4_112 z4_113 z4_114 z4_115 z4_116 z4_117 z4_118 z4_119 z4_120 z4_121 z4_122 z4_123 z4_124 z4_125 z4_126 z4_127 z4_128 z4_129 z4_130 z4_131 z4_132 z4_133 z4_134 z4_135 z4_136 z4_137 z4_138 z4_139 z4_140 z4_141 z4_142 z4_143 z4_144 z4_145 z4_146 z4_147 z4_148 z4_149 z4_150 z4_151 z4_152 z4_153 z4_154 z4_155 z4_156 z4_157 z4_158 z4_159 z4_160 z4_161 z4_162 z4_163 z4_164 z4_165 z4_166 z4_167 z4_168 z4_169 z4_170 z4_171 z4_172 z4_173 z4_174 z4_175 z4_176 z4_177 z4_178 z4_179 z4_180 z4_181 z4_182 z4_183 z4_184 z4_185 z4_186 z4_187 z4_188 z4_189 z4_190 z4_191 z4_192 z4_193 z4_194 z4_195 z4_196 z4_197 z4_198 z4_199 z4_200 z4_201 z4_202 z4_203 z4_204 z4_205 z4_206 z4_207 z4_208 z4_209 z4_210 z4_211 z4_212 z4_213 z4_214 z4_215 z4_216 z4_217 z4_218 z4_219 z4_220 z4_221 z4_222 z4_223 z4_224 z4_225 z4_226 z4_227 z4_228 z4_229 z4_230 z4_231 z4_232 z4_233 z4_234 z4_235 z4_236 z4_237 z4_238 z4_239 z4_240 z4_241 z4_242 z4_243 z4_244 z4_245 z4_246 z4_247 z4_248 z4_249 z4_250 z4_251 z4_252 z4_253 z4_254 z4_255 z4_256 z4_257 z4_258 z4_259 z4_260 z4_261 z4_262 z4_263 z4_264 z4_265 z4_266 u316 u317 u318 u319 u320 u321 u322 u323 u324 u325 u326 u327 u328 u329 u330 u331 u332 u333 u334 u335 u336 u337 u338 u339 u340 u341 u342 u343 u344 u345 u346 u347 u348 u349 u350 u351 u352 u353 u354 u355 u356 u357 u358 u359 u360 u361 u362 u363 u364 u365 u366 u367 u368 u369 u370 u371 u372 u373 u374 u375 u376 z2_3 z2_4 x4_2 k2 z2_6 HK2 z3_14 u43 u44 u45 u46 u47 u48 u49 u50 kj19 HJ19 t675 A27 t676 A28 t677 A29 ad673 HR0_0 z3_15 z3_16 gb674 w33 GW674 GE674 NB661_674 NB674_661 hnb34 hnc34 w36 w38 nd z5_1 u7 u67 u68 u69 x7_30 kj30 HJ30 z4_267 z4_268 z7_1 z7_2 u9 u10 u11 u12 z6_1 u14 z7_3 z7_4 z7_5 z7_6 z7_7 z7_8 z7_9 z7_10 z7_11 z7_12 z7_13 z7_14 u70 u71 u72 u73 u74 u75 u76 u77 u78 u79 u80 u81 u82 u83 u84 z5_2 z5_3 z5_4 z5_5 z5_6 z5_7 z5_8 z5_9 z5_10 z6_2 z6_3 z6_4 z6_5 z6_6 z6_7 z6_8 z6_9 z6_10 z6_11 z6_12 z6_13 z6_14 z6_15 z6_16 z6_17 z6_18 z6_19 u112 z7_15 z7_16 z7_17 z7_18 z7_19 z7_20 z7_21 z7_22 z7_23 z7_24 z7_25 z7_26 z7_27 z7_28 z7_29 z7_30 z7_31 z7_32 z7_33 z7_34 z7_35 z7_36 z7_37 z7_38 z7_39 z7_40 z7_41 z7_42 z7_43 z7_44 z7_45 z7_46 z7_47 z7_48 z7_49 z7_50 z7_51 z7_52 z7_53 z7_54 z7_55 z7_56 z7_57 z7_58 z7_59 z7_60 z7_61 z7_62 z7_63 z7_64 z7_65 z7_66 z7_67 z7_68 z7_69 z7_70 z7_71 z7_72 z7_73 z7_74 z7_75 z7_76 z7_77 z7_78 z7_79 z7_80 z7_81 z7_82 z7_83 z7_84 z7_85 z7_86 z7_87 z7_88 z7_89 z7_90 z7_91 z7_92 z7_93 z7_94 z7_95 z7_96 z7_97 z7_98 z7_99 z7_100 z7_101 z7_102 z7_103 z7_104 z7_105 z7_106 z7_107 z7_108 z7_109 z7_110 z7_111 z7_112 z7_113 z7_114 z7_115 z7_116 z7_117 z7_118 z7_119 z7_120 z7_121 z7_122 z7_123 z7_124 z7_125 z7_126 z7_127 z7_128 z7_129 z7_130 z7_131 z7_132 z7_133 z7_134 z7_135 z7_136 z7_137 z7_138 z7_139 z7_140 z7_141 z7_142 z7_143 z7_144 z7_145 z7_146 z7_147 z7_148 z7_149 z7_150 z7_151 z7_152 z7_153 z7_154 z7_155 z7_156 z7_157 z7_158 z7_159 z7_160 z7_161 z7_162 z7_163 z7_164 z7_165 z7_166 z7_167 z7_168 z7_169 z7_170 z7_171 z7_172 z7_173 z7_174 z7_175 z7_176 z7_177 z7_178 z7_179 z7_180 z7_181 z7_182 z7_183 z7_184 z7_185 z7_186 z7_187 z7_188 z7_189 z7_190 z7_191 z7_192 z7_193 z7_194 z7_195 z7_196 z7_197 z7_198 z7_199 z7_200 z7_201 z7_202 z7_203 z7_204 z7_205 z7_206 z7_207 z7_208 z7_209 z7_210 z7_211 z7_212 z7_213 z7_214 z7_215 z7_216 z7_217 z4_269 z4_270 x8_5 k5 z4_272 HK5 t682 t683 A46 co48 z5_11 z5_12 ad681 z2_5 z4_271 HT_ HW_ w49 z5_13 w50 HS2_ hHeld z6_20 u85 u86 u87 u88 u89 u90 u91 u92 u93 x94_46 kj46 HJ46 z6_21 u13 u94 u95 u96 u97 u98 u99 u100 u101 u102 u103 x11_54 x12_54 kj54 HJ54 wc u104 u105 u106 u107 u108 u109 u110 u111 kj62 HJ62 gk wr u2 u15 u16 u17 u18 u19 u20 u21 u22 u23 u24 u25 u26 u113 u114 u115 u116 u117 u118 u119 u120 u121 u122 u123 u124 u125 u126 u127 u128 u129 u130 u131 u132 u133 u134 u135 u136 u137 u138 u139 u140 u141 u142 u143 u144 u145 u146 u147 u148 u149 u150 u151 u152 u153 u154 u155 u156 u157 u158 u159 u160 u161 u162 u163 u164 u165 u166 u167 u168 u169 u170 u171 u172 u173 u174 u175 u176 u177 u178 u179 u180 u181 u182 u183 u184 u185 u186 u187 u188 u189 u190 u191 u192 u193 u194 u195 u196 u197 u198 u199 u200 u201 u202 u203 u204 u205 u206 u207 u208 u209 u210 u211 u212 u213 u214 u215 u216 u217 u218 u219 u220 u221 u222 u223 u224 u225 u226 u227 u228 u229 u230 u231 u232 u233 u234 u235 u236 u237 u238 u239 u240 u241 u242 u243 u244 u245 u246 u247 u248 u249 u250 u251 u252 u253 u254 u255 u256 u257 u258 u259 u260 u261 u262 u263 u264 u265 u266 u267 u268 u269 u270 u271 u272 u273 u274 u275 u276 u277 u278 u279 u280 u281 u282 u283 u284 u285 u286 u287 u288 u289 u290 u291 u292 u293 u294 u295 u296 u297 u298 u299 u300 u301 u302 u303 u304 u305 u306 u307 u308 u309 u310 u311 u312 u313 u314 u315 z7_218 z7_219 z7_220 z7_221 x14_9 HA HK9 HO_3 HO_7 BK661 BK674 HB
   exact hP_.out
end Go.Proofs.Ytnpghcikhpglkaa.Q
namespace Go.Proofs.Ytnpghcikhpglkaa.Q
open Go.RowKit Go.Proofs.YtnpghcikhpglkaaW.PrintWords Go.Proofs.YtnpghcikhpglkaaW.PrintLast Go.Proofs.YtnpghcikhpglkaaW.PrintMore
attribute [local go_sem] max2_int min2_int max_two min_two max_three min_three max_four min_four   -- for this text's walks alone
set_option linter.unusedVariables false
set_option linter.unusedSimpArgs false
attribute [local go_sem high] eqA27
set_option maxHeartbeats 8000000 in
set_option maxRecDepth 100000 in
noncomputable def herbariumlaw1_BitsExact.p8 : PSigma fun P_ : Prop => Later P_ → herbariumlaw1_BitsExact.p7.1 := by
  refine' ⟨_, fun hP_ => ?_⟩
  rotate_left
  focus
   intro k c0_0 l0_0 A0_1 c0_1 l0_1 w hu25 hu27 HC0_0 HR0_1 HC0_1 A2 y663 Ny663 LMc7 y666 Ny666 z1_1 gb661 w9 GW661 GE661 w11 z1_2 v664 w12 w15 Ao16 co16 HO668 z3_1 u40 u41 u42 x3_7 kj7 HJ7 z2_1 z2_2 z4_1 z4_2 u5 u6 z3_2 u8 z4_3 z4_4 z4_5 z4_6 z4_7 z4_8 z4_9 z4_10 z4_11 z4_12 z4_13 z4_14 z4_15 z4_16 z4_17 z4_18 z4_19 z4_20 u27 u28 u29 u30 u31 z3_3 z3_4 z3_5 z3_6 z3_7 z3_8 z3_9 z3_10 u51 u52 u53 u54 u55 u56 u57 u58 u59 u60 u61 u62 u63 u64 u65 u66 z3_11 z3_12 z3_13 z4_21 z4_22 z4_23 z4_24 z4_25 z4_26 z4_27 z4_28 z4_29 z4_30 z4_31 z4_32 z4_33 z4_34 z4_35 z4_36 z4_37 z4_38 z4_39 z4_40 z4_41 z4_42 z4_43 z4_44 z4_45 z4_46 z4_47 z4_48 z4_49 z4_50 z4_51 z4_52 z4_53 z4_54 z4_55 z4_56 z4_57 z4_58 z4_59 z4_60 z4_61 z4_62 z4_63 z4_64 z4_65 z4_66 z4_67 z4_68 z4_69 z4_70 z4_71 z4_72 z4_73 z4_74 z4_75 z4_76 z4_77 z4_78 z4_79 z4_80 z4_81 z4_82 z4_83 z4_84 z4_85 z4_86 z4_87 z4_88 z4_89 z4_90 z4_91 z4_92 z4_93 z4_94 z4_95 z4_96 z4_97 z4_98 z4_99 z4_100 z4_101 z4_102 z4_103 z4_104 z4_105 z4_106 z4_107 z4_108 z4_109 z4_110 z4_111 z4_112 z4_113 z4_114 z4_115 z4_116 z4_117 z4_118 z4_119 z4_120 z4_121 z4_122 z4_123 z4_124
   intro z4_125 z4_126 z4_127 z4_128 z4_129 z4_130 z4_131 z4_132 z4_133 z4_134 z4_135 z4_136 z4_137 z4_138 z4_139 z4_140 z4_141 z4_142 z4_143 z4_144 z4_145 z4_146 z4_147 z4_148 z4_149 z4_150 z4_151 z4_152 z4_153 z4_154 z4_155 z4_156 z4_157 z4_158 z4_159 z4_160 z4_161 z4_162 z4_163 z4_164 z4_165 z4_166 z4_167 z4_168 z4_169 z4_170 z4_171 z4_172 z4_173 z4_174 z4_175 z4_176 z4_177 z4_178 z4_179 z4_180 z4_181 z4_182 z4_183 z4_184 z4_185 z4_186 z4_187 z4_188 z4_189 z4_190 z4_191 z4_192 z4_193 z4_194 z4_195 z4_196 z4_197 z4_198 z4_199 z4_200 z4_201 z4_202 z4_203 z4_204 z4_205 z4_206 z4_207 z4_208 z4_209 z4_210 z4_211 z4_212 z4_213 z4_214 z4_215 z4_216 z4_217 z4_218 z4_219 z4_220 z4_221 z4_222 z4_223 z4_224 z4_225 z4_226 z4_227 z4_228 z4_229 z4_230 z4_231 z4_232 z4_233 z4_234 z4_235 z4_236 z4_237 z4_238 z4_239 z4_240 z4_241 z4_242 z4_243 z4_244 z4_245 z4_246 z4_247 z4_248 z4_249 z4_250 z4_251 z4_252 z4_253 z4_254 z4_255 z4_256 z4_257 z4_258 z4_259 z4_260 z4_261 z4_262 z4_263 z4_264 z4_265 z4_266 u316 u317 u318 u319 u320 u321 u322 u323 u324 u325 u326 u327 u328 u329 u330 u331 u332 u333 u334 u335 u336 u337 u338 u339 u340 u341 u342 u343 u344 u345 u346 u347 u348 u349 u350 u351 u352 u353 u354 u355 u356 u357 u358 u359 u360 u361 u362 u363 u364 u365 u366 u367 u368 u369 u370 u371 u372 u373
   intro u374 u375 u376 z2_3 z2_4 x4_2 k2 z2_6 HK2 z3_14 u43 u44 u45 u46 u47 u48 u49 u50 kj19 HJ19 t675 A27 t676 A28 t677 A29 ad673 HR0_0 z3_15 z3_16 gb674 w33 GW674 GE674 NB661_674 NB674_661 hnb34 hnc34 w36 w38 nd z5_1 u7 u67 u68 u69 x7_30 kj30 HJ30 z4_267 z4_268 z7_1 z7_2 u9 u10 u11 u12 z6_1 u14 z7_3 z7_4 z7_5 z7_6 z7_7 z7_8 z7_9 z7_10 z7_11 z7_12 z7_13 z7_14 u70 u71 u72 u73 u74 u75 u76 u77 u78 u79 u80 u81 u82 u83 u84 z5_2 z5_3 z5_4 z5_5 z5_6 z5_7 z5_8 z5_9 z5_10 z6_2 z6_3 z6_4 z6_5 z6_6 z6_7 z6_8 z6_9 z6_10 z6_11 z6_12 z6_13 z6_14 z6_15 z6_16 z6_17 z6_18 z6_19 u112 z7_15 z7_16 z7_17 z7_18 z7_19 z7_20 z7_21 z7_22 z7_23 z7_24 z7_25 z7_26 z7_27 z7_28 z7_29 z7_30 z7_31 z7_32 z7_33 z7_34 z7_35 z7_36 z7_37 z7_38 z7_39 z7_40 z7_41 z7_42 z7_43 z7_44 z7_45 z7_46 z7_47 z7_48 z7_49 z7_50 z7_51 z7_52 z7_53 z7_54 z7_55 z7_56 z7_57 z7_58 z7_59 z7_60 z7_61 z7_62 z7_63 z7_64 z7_65 z7_66 z7_67 z7_68 z7_69 z7_70 z7_71 z7_72 z7_73 z7_74 z7_75 z7_76 z7_77 z7_78 z7_79 z7_80 z7_81 z7_82 z7_83 z7_84 z7_85 z7_86 z7_87 z7_88 z7_89 z7_90 z7_91 z7_92 z7_93 z7_94 z7_95 z7_96 z7_97 z7_98 z7_99 z7_100
   intro z7_101 z7_102 z7_103 z7_104 z7_105 z7_106 z7_107 z7_108 z7_109 z7_110 z7_111 z7_112 z7_113 z7_114 z7_115 z7_116 z7_117 z7_118 z7_119 z7_120 z7_121 z7_122 z7_123 z7_124 z7_125 z7_126 z7_127 z7_128 z7_129 z7_130 z7_131 z7_132 z7_133 z7_134 z7_135 z7_136 z7_137 z7_138 z7_139 z7_140 z7_141 z7_142 z7_143 z7_144 z7_145 z7_146 z7_147 z7_148 z7_149 z7_150 z7_151 z7_152 z7_153 z7_154 z7_155 z7_156 z7_157 z7_158 z7_159 z7_160 z7_161 z7_162 z7_163 z7_164 z7_165 z7_166 z7_167 z7_168 z7_169 z7_170 z7_171 z7_172 z7_173 z7_174 z7_175 z7_176 z7_177 z7_178 z7_179 z7_180 z7_181 z7_182 z7_183 z7_184 z7_185 z7_186 z7_187 z7_188 z7_189 z7_190 z7_191 z7_192 z7_193 z7_194 z7_195 z7_196 z7_197 z7_198 z7_199 z7_200 z7_201 z7_202 z7_203 z7_204 z7_205 z7_206 z7_207 z7_208 z7_209 z7_210 z7_211 z7_212 z7_213 z7_214 z7_215 z7_216 z7_217 z4_269 z4_270 x8_5 k5 z4_272 HK5 t682 t683 A46 co48 z5_11 z5_12 ad681 z2_5 z4_271 HT_ HW_ w49 z5_13 w50 HS2_ hHeld z6_20 u85 u86 u87 u88 u89 u90 u91 u92 u93 x94_46 kj46 HJ46 z6_21 u13 u94 u95 u96 u97 u98 u99 u100 u101 u102 u103 x11_54 x12_54 kj54 HJ54 wc u104 u105 u106 u107 u108 u109 u110 u111 kj62 HJ62 gk wr u2 u15 u16 u17 u18 u19 u20 u21 u22 u23 u24 u25 u26 u113 u114 u115 u116 u117 u118
   intro u119 u120 u121 u122 u123 u124 u125 u126 u127 u128 u129 u130 u131 u132 u133 u134 u135 u136 u137 u138 u139 u140 u141 u142 u143 u144 u145 u146 u147 u148 u149 u150 u151 u152 u153 u154 u155 u156 u157 u158 u159 u160 u161 u162 u163 u164 u165 u166 u167 u168 u169 u170 u171 u172 u173 u174 u175 u176 u177 u178 u179 u180 u181 u182 u183 u184 u185 u186 u187 u188 u189 u190 u191 u192 u193 u194 u195 u196 u197 u198 u199 u200 u201 u202 u203 u204 u205 u206 u207 u208 u209 u210 u211 u212 u213 u214 u215 u216 u217 u218 u219 u220 u221 u222 u223 u224 u225 u226 u227 u228 u229 u230 u231 u232 u233 u234 u235 u236 u237 u238 u239 u240 u241 u242 u243 u244 u245 u246 u247 u248 u249 u250 u251 u252 u253 u254 u255 u256 u257 u258 u259 u260 u261 u262 u263 u264 u265 u266 u267 u268 u269 u270 u271 u272 u273 u274 u275 u276 u277 u278 u279 u280 u281 u282 u283 u284 u285 u286 u287 u288 u289 u290 u291 u292 u293 u294 u295 u296 u297 u298 u299 u300 u301 u302 u303 u304 u305 u306 u307 u308 u309 u310 u311 u312 u313 u314 u315 z7_218 z7_219 z7_220
   intro z7_221 x14_9 HA HK9 HO_3 HO_7 BK661 BK674 HB
   cases gk with
   | zero => exact absurd HA.out (by simp [herbariumlaw1_BitsExact.l2])
   | succ k9 => ?_
   have H := HA.out
   clear HA
   simp only [herbariumlaw1_BitsExact.l2] at H
   by_cases c67 : x14_9 < (x3_7.length : Int)
   rotate_left
   · rw [if_neg c67] at H
     have c67b0 : decide (x14_9 < (x3_7.length : Int)) = false := decide_eq_false c67
     clear c67
     have H' := ak H
     clear H
     go_wp2
     go_roundg k9
     case measure => have := HJ7.out; have := HK2.out; have := HJ19.out; have := HJ30.out; have := HK5.out; have := HJ46.out; have := HJ54.out; have := HJ62.out; have := HK9.out; omega
     case rel => exact ⟨(wrap64 (x8_5 + 1)), (by first | rfl | (simp; done) | (simp [*]; done)), H', ⟨by have := HJ7.out; have := HK2.out; have := HJ19.out; have := HJ30.out; have := HK5.out; have := HJ46.out; have := HJ54.out; have := HJ62.out; have := HK9.out; omega⟩, ⟨ur <| HO_3.out⟩, ⟨ur <| HO_7.out⟩, ⟨ub BK661.out⟩, ⟨ub BK674.out⟩, ⟨by repeat with_reducible first | exact HB.out | apply b1 | apply b2 | apply b3 | refine b4 ?_ GE661.out | refine b4 ?_ GE674.out⟩⟩
   rw [if_pos c67] at H
   have c67b0 : decide (x14_9 < (x3_7.length : Int)) = true := decide_eq_true c67
   clear c67
   by_cases c68 : 0 ≤ x8_5
   rotate_left
   · rw [if_neg c68] at H
     exact absurd H (by simp)
   rw [if_pos c68] at H
   have c68b0 : decide (0 ≤ x8_5) = true := decide_eq_true c68
   clear c68
   by_cases c69 : x8_5 < (x3_7.length : Int)
   rotate_left
   · rw [if_neg c69] at H
     exact absurd H (by simp)
   rw [if_pos c69] at H
   have c69b0 : decide (x8_5 < (x3_7.length : Int)) = true := decide_eq_true c69
   clear c69
   by_cases c70 : 0 ≤ x14_9
   rotate_left
   · rw [if_neg c70] at H
     exact absurd H (by simp)
   rw [if_pos c70] at H
   have c70b0 : decide (0 ≤ x14_9) = true := decide_eq_true c70
   clear c70
   replace H := Option.bind_eq_some_iff.mp H
   obtain ⟨⟨t691, t692, t693⟩, A710, H⟩ := H
   try dsimp only at H
   have A71 := ak A710
   clear A710
   have HC72 := ak H
   clear H
   try go_wp2
   have n0_ := ak (Kd.R_drew HO_3.out)
   have n1_ := ak (Kd.R_drew HO_7.out)
   have n2_ := ak (blk_drew BK661.out)
   have n3_ := ak (blk_drew BK674.out)
   have n4_ := ak (below_drew1 HB.out)
   clear HO_3
   clear HO_7
   clear BK661
   clear BK674
   clear HB
   have HO_3 := n0_
   have HO_7 := n1_
   have BK661 := n2_
   have BK674 := n3_
   have HB := n4_
   clear n0_ n1_ n2_ n3_ n4_
   have p689 : 0 ≤ (x8_5 : Int) := of_decide_eq_true (by first | (with_reducible assumption) | assumption)
   have q689 : x8_5 < (x3_7.length : Int) := of_decide_eq_true (by first | (with_reducible assumption) | assumption)
   obtain ⟨ad689, e689, hx689_0⟩ := Kd.at_int (Kd.R_reads' HO_3.out).2.2 x8_5 p689 q689
   obtain rfl : ad681 = ad689 := (by injection e689)
   replace p689 := eq_true p689
   replace q689 := eq_true q689
   have p690 : 0 ≤ (x14_9 : Int) := of_decide_eq_true (by first | (with_reducible assumption) | assumption)
   have q690 : x14_9 < (x3_7.length : Int) := of_decide_eq_true (by first | (with_reducible assumption) | assumption)
   obtain ⟨ad690, e690, hx690_0⟩ := Kd.at_int (Kd.R_reads' HO_3.out).2.2 x14_9 p690 q690
   obtain rfl : ad681 = ad690 := (by injection e690)
   replace p690 := eq_true p690
   replace q690 := eq_true q690
   refine start_ (n := 16) (S := fun w' => w'.cell? ⟨gb674, 0, none⟩ = some (.string ((rd_T27 l0_0 x4_2).f0)) ∧ w'.cell? ⟨gb674, 1, none⟩ = some (.int .i64 ((rd_T27 l0_0 x4_2).f1)) ∧ w'.cell? (ad681.add (x8_5).toNat) = some (.int .i64 (rd x3_7 x8_5)) ∧ w'.cell? (ad681.add (x14_9).toNat) = some (.int .i64 (rd x3_7 x14_9))) (ds := []) #[false, false, false, false, false, false, false, false, false, false, false, false, false, false, false, false] (by kernel_rfl) rfl rfl ⟨(blk_cell BK674.out 0).trans rfl, (blk_cell BK674.out 1).trans rfl, hx689_0, hx690_0⟩ (fun hHeld => ?_); refine with_tabW herbariumlaw1_BitsExact.tab31 herbariumlaw1_BitsExact.bits31 (fun HT_ HW_ => ?_)
   generalize wr.drew = w73 at HO_3 HO_7 BK661 BK674 HB hx689_0 hx690_0 hHeld ⊢
   refine pure_ (i := 1) (N := some 121) (v := ?_) (a' := ?_) #[false, true, false, false, false, false, false, false, false, false, false, false, false, false, false, false] rfl rfl (any_of HT_.out (by kernel_rfl)) (fun _ _ _ h => h) (Or.inl ⟨by rfl, ?_⟩) ?_ ?_
   rotate_left
   · intro w'
     go_simp
     with_reducible rfl
   rotate_left
   · simp only [Act.put, s1, s2, s3, i64_w, i32_w]
     rfl
   refine pure_ (i := 2) (N := some 122) (v := ?_) (a' := ?_) #[false, true, true, false, false, false, false, false, false, false, false, false, false, false, false, false] rfl rfl (any_of HT_.out (by kernel_rfl)) (fun _ _ _ h => h) (Or.inl ⟨by rfl, ?_⟩) ?_ ?_
   rotate_left
   · intro w'
     go_simp
     with_reducible rfl
   rotate_left
   · simp only [Act.put, s1, s2, s3, i64_w, i32_w]
     rfl
   refine pure_ (i := 3) (N := some 123) (v := ?_) (a' := ?_) #[false, true, true, true, false, false, false, false, false, false, false, false, false, false, false, false] rfl rfl (any_of HT_.out (by kernel_rfl)) (fun _ _ _ h => h) (Or.inl ⟨by rfl, ?_⟩) ?_ ?_
   rotate_left
   · intro w'
     go_simp
     with_reducible rfl
   rotate_left
   · simp only [Act.put, s1, s2, s3, i64_w, i32_w]
     rfl
   refine pure_ (i := 5) (N := some 125) (v := ?_) (a' := ?_) #[false, true, true, true, false, true, false, false, false, false, false, false, false, false, false, false] rfl rfl (any_of HT_.out (by kernel_rfl)) (fun _ _ _ h => h) (Or.inl ⟨by rfl, ?_⟩) ?_ ?_
   rotate_left
   · intro w'
     go_simp
     with_reducible rfl
   rotate_left
   · simp only [Act.put, s1, s2, s3, i64_w, i32_w]
     rfl
   refine pure_ (i := 6) (N := some 126) (v := ?_) (a' := ?_) #[false, true, true, true, false, true, true, false, false, false, false, false, false, false, false, false] rfl rfl (any_of HT_.out (by kernel_rfl)) (fun _ _ _ h => h) (Or.inl ⟨by rfl, ?_⟩) ?_ ?_
   rotate_left
   · intro w'
     go_simp
     with_reducible rfl
   rotate_left
   · simp only [Act.put, s1, s2, s3, i64_w, i32_w]
     rfl
   refine pure_ (i := 7) (N := some 127) (v := ?_) (a' := ?_) #[false, true, true, true, false, true, true, true, false, false, false, false, false, false, false, false] rfl rfl (any_of HT_.out (by kernel_rfl)) (fun _ _ _ h => h) (Or.inl ⟨by rfl, ?_⟩) ?_ ?_
   rotate_left
   · intro w'
     go_simp
     with_reducible rfl
   rotate_left
   · simp only [Act.put, s1, s2, s3, i64_w, i32_w]
     rfl
   refine take_ (i := 0) (N := some 120) (v := ?_) (a' := ?_) #[true, true, true, true, false, true, true, true, false, false, false, false, false, false, false, false] rfl rfl (take_ofW HT_.out HW_.out (by kernel_rfl)) (fun _ _ _ h => h) (Or.inl ⟨by rfl, ?_⟩) hHeld ?_ ?_
   rotate_left
   · rintro w' ⟨s0, s1, s2, s3⟩
     go_simp
     with_reducible rfl
   rotate_left
   · simp only [Act.put, s1, s2, s3, i64_w, i32_w]
     rfl
   refine take_ (i := 4) (N := some 124) (v := ?_) (a' := ?_) #[true, true, true, true, true, true, true, true, false, false, false, false, false, false, false, false] rfl rfl (take_ofW HT_.out HW_.out (by kernel_rfl)) (fun _ _ _ h => h) (Or.inl ⟨by rfl, ?_⟩) hHeld ?_ ?_
   rotate_left
   · rintro w' ⟨s0, s1, s2, s3⟩
     go_simp
     with_reducible rfl
   rotate_left
   · simp only [Act.put, s1, s2, s3, i64_w, i32_w]
     rfl
   refine take_ (i := 8) (N := some 128) (v := ?_) (a' := ?_) #[true, true, true, true, true, true, true, true, true, false, false, false, false, false, false, false] rfl rfl (take_ofW HT_.out HW_.out (by kernel_rfl)) (fun _ _ _ h => h) (Or.inl ⟨by rfl, ?_⟩) hHeld ?_ ?_
   rotate_left
   · rintro w' ⟨s0, s1, s2, s3⟩
     go_simp
     with_reducible rfl
   rotate_left
   · simp only [Act.put, s1, s2, s3, i64_w, i32_w]
     rfl
   refine join_ (σ := Nat) 2 #[true, true, true, true, true, true, true, true, true, true, true, true, true, true, false, false] (fun s_ => [(129, .tuple #[.agg #[.string t691, .int .i64 t692], .int .i64 t693]), (15, .pointer (some ⟨s_, 0, none⟩)), (119, .tuple #[.agg #[.string t691, .int .i64 t692], .int .i64 t693]), (130, .agg #[.string t691, .int .i64 t692]), (131, .int .i64 t693)]) (fun s_ w' => (w'.cell? ⟨gb674, 0, none⟩ = some (.string ((rd_T27 l0_0 x4_2).f0)) ∧ w'.cell? ⟨gb674, 1, none⟩ = some (.int .i64 ((rd_T27 l0_0 x4_2).f1)) ∧ w'.cell? (ad681.add (x8_5).toNat) = some (.int .i64 (rd x3_7 x8_5)) ∧ w'.cell? (ad681.add (x14_9).toNat) = some (.int .i64 (rd x3_7 x14_9))) ∧ (Kd.R (Kd.int .i64) 3 w' w.heap.size (fun _ => True) (.slice (some ad681) x3_7.length co48) x3_7) ∧ (Kd.R (Kd.int .u8) 5 w' w.heap.size (fun _ => True) u7 x7_30) ∧ (w'.heap[gb661]? = some (.cells #[.slice (some ad673) l0_0.length c0_0, .slice A0_1 l0_1.length c0_1] 25 (0, 0))) ∧ (w'.heap[gb674]? = some (.cells #[.string ((rd_T27 l0_0 x4_2).f0), .int .i64 ((rd_T27 l0_0 x4_2).f1)] 27 (0, 0))) ∧ (w'.heap[s_]? = some (.cells #[.string (⟨#[]⟩ : ByteArray), .int .i64 0] 27 (0, 0))) ∧ (w.heap.size ≤ s_) ∧ (w.heap.size ≤ s_) ∧ (gb661 ≠ s_) ∧ (s_ ≠ gb661) ∧ (gb674 ≠ s_) ∧ (s_ ≠ gb674) ∧ (Below w.heap.size w w')) ?_ ?_
   rotate_left
   · intro hCont
     refine two_ (i := 9) (j := 13) (Ni := some 129) (Nj := some 15) #[true, true, true, true, true, true, true, true, true, true, false, false, false, false, false, false] #[true, true, true, true, true, true, true, true, true, false, false, false, false, true, false, false] rfl rfl rfl rfl (two_of HT_.out (by kernel_rfl)) (by decide) (by decide) (fun K hK => ?_) (fun K hK => ?_)
     · skip
       refine goes_ Try.func24 (by kernel_rfl) rfl #[.agg #[.string ((rd_T27 l0_0 x4_2).f0), .int .i64 ((rd_T27 l0_0 x4_2).f1)], .int .i64 (rd x3_7 x8_5), .int .i64 (rd x3_7 x14_9)] (by rfl) rfl rfl (by (try simp only [List.map_toArray, List.map_cons, List.map_nil]); first | done | rfl | (simp only [List.length_drop, List.length_take]; rfl)) ?_
       with_reducible refine (bits_Put.calls ((rd_T27 l0_0 x4_2).f0) ((rd_T27 l0_0 x4_2).f1) (rd x3_7 x8_5) (rd x3_7 x14_9) t691 t692 t693 _ A71.out).mono ?_
       rintro e w74 ⟨rfl, hb⟩
       have HS2_ := (hb.cell (World.block_lt_of_cell? _ _ (hHeld.2.2.1))).trans (hHeld.2.2.1)
       have HS3_ := (hb.cell (World.block_lt_of_cell? _ _ (hHeld.2.2.2))).trans (hHeld.2.2.2)
       refine ⟨_, rfl, ?_⟩
       have n0_ := ak (Kd.R_below (ur <| HO_3.out) hb)
       have n1_ := ak (Kd.R_below (ur <| HO_7.out) hb)
       have n2_ := ak (blk_below (g := gb661) (o := .cells #[.slice (some ad673) l0_0.length c0_0, .slice A0_1 l0_1.length c0_1] 25 (0, 0)) (ub BK661.out) hb)
       have n3_ := ak (blk_below (g := gb674) (o := .cells #[.string ((rd_T27 l0_0 x4_2).f0), .int .i64 ((rd_T27 l0_0 x4_2).f1)] 27 (0, 0)) (ub BK674.out) hb)
       have n4_ := ak (below_step (by repeat with_reducible first | exact HB.out | apply b1 | apply b2 | apply b3 | refine b4 ?_ GE661.out | refine b4 ?_ GE674.out) hb)
       clear HO_3
       clear HO_7
       clear BK661
       clear BK674
       clear HB
       have HO_3 := n0_
       have HO_7 := n1_
       have BK661 := n2_
       have BK674 := n3_
       have HB := n4_
       clear n0_ n1_ n2_ n3_ n4_
       (try clear hb)
       (try clear hb2)
       (try clear hk)
       (try clear hi)
       refine hK.out _ _ ⟨(blk_cell BK674.out 0).trans rfl, (blk_cell BK674.out 1).trans rfl, HS2_, HS3_⟩ (fun hHeld => ?_)
       clear hK K
       refine norm_ (a' := ?_) ?_ ?_
       rotate_left
       · show Act.put _ (some 129) _ = _
         simp only [Act.put, s1, s2, s3, i64_w, i32_w]
         rfl
       refine pure_ (i := 10) (N := some 119) (v := ?_) (a' := ?_) #[true, true, true, true, true, true, true, true, true, true, true, false, false, false, false, false] rfl rfl (any_of HT_.out (by kernel_rfl)) (fun _ _ _ h => h) (Or.inl ⟨by rfl, ?_⟩) ?_ ?_
       rotate_left
       · intro w'
         go_simp
         with_reducible rfl
       rotate_left
       · simp only [Act.put, s1, s2, s3, i64_w, i32_w]
         rfl
       refine pure_ (i := 11) (N := some 130) (v := ?_) (a' := ?_) #[true, true, true, true, true, true, true, true, true, true, true, true, false, false, false, false] rfl rfl (any_of HT_.out (by kernel_rfl)) (fun _ _ _ h => h) (Or.inl ⟨by rfl, ?_⟩) ?_ ?_
       rotate_left
       · intro w'
         go_simp
         with_reducible rfl
       rotate_left
       · simp only [Act.put, s1, s2, s3, i64_w, i32_w]
         rfl
       refine pure_ (i := 12) (N := some 131) (v := ?_) (a' := ?_) #[true, true, true, true, true, true, true, true, true, true, true, true, true, false, false, false] rfl rfl (any_of HT_.out (by kernel_rfl)) (fun _ _ _ h => h) (Or.inl ⟨by rfl, ?_⟩) ?_ ?_
       rotate_left
       · intro w'
         go_simp
         with_reducible rfl
       rotate_left
       · simp only [Act.put, s1, s2, s3, i64_w, i32_w]
         rfl
       refine one_ (i := 13) (N := some 15) #[true, true, true, true, true, true, true, true, true, true, true, true, true, true, false, false] rfl rfl (one_of HT_.out (by kernel_rfl)) (by decide) (fun K hK => ?_)
       refine box_step ?hg (N := 15) ?hd (cs := #[.string (⟨#[]⟩ : ByteArray), .int .i64 0]) (t := 27) ?hr ?_; (case hd => rfl); (case hg => rfl); (case hr => first | (go_simp; done) | (go_simp; rfl))
       intro gb694 hg w75 hbox hb
       have HS2_ := (hb.cell (World.block_lt_of_cell? _ _ (hHeld.2.2.1))).trans (hHeld.2.2.1)
       have HS3_ := (hb.cell (World.block_lt_of_cell? _ _ (hHeld.2.2.2))).trans (hHeld.2.2.2)
       have n0_ := ak (Kd.R_below (ur <| HO_3.out) hb)
       have n1_ := ak (Kd.R_below (ur <| HO_7.out) hb)
       have n2_ := ak (blk_below (g := gb661) (o := .cells #[.slice (some ad673) l0_0.length c0_0, .slice A0_1 l0_1.length c0_1] 25 (0, 0)) (ub BK661.out) hb)
       have n3_ := ak (blk_below (g := gb674) (o := .cells #[.string ((rd_T27 l0_0 x4_2).f0), .int .i64 ((rd_T27 l0_0 x4_2).f1)] 27 (0, 0)) (ub BK674.out) hb)
       have n4_ := ak (below_step (by repeat with_reducible first | exact HB.out | apply b1 | apply b2 | apply b3 | refine b4 ?_ GE661.out | refine b4 ?_ GE674.out) hb)
       have n5_ := ak (hbox)
       have n6_ := ak ((by rw [hg]; exact (below_size (by repeat with_reducible first | exact HB.out | apply b1 | apply b2 | apply b3 | refine b4 ?_ GE661.out | refine b4 ?_ GE674.out)) : w.heap.size ≤ gb694))
       have n7_ := ak ((by rw [hg]; exact (below_size (by repeat with_reducible first | exact HB.out | apply b1 | apply b2 | apply b3 | refine b4 ?_ GE661.out | refine b4 ?_ GE674.out)) : w.heap.size ≤ gb694))
       have n8_ := ak ((by rw [hg]; exact Nat.ne_of_lt (blk_lt (g := gb661) (o := .cells #[.slice (some ad673) l0_0.length c0_0, .slice A0_1 l0_1.length c0_1] 25 (0, 0)) (ub BK661.out)) : gb661 ≠ gb694))
       have n9_ := ak ((by rw [hg]; exact Nat.ne_of_gt (blk_lt (g := gb661) (o := .cells #[.slice (some ad673) l0_0.length c0_0, .slice A0_1 l0_1.length c0_1] 25 (0, 0)) (ub BK661.out)) : gb694 ≠ gb661))
       have n10_ := ak ((by rw [hg]; exact Nat.ne_of_lt (blk_lt (g := gb674) (o := .cells #[.string ((rd_T27 l0_0 x4_2).f0), .int .i64 ((rd_T27 l0_0 x4_2).f1)] 27 (0, 0)) (ub BK674.out)) : gb674 ≠ gb694))
       have n11_ := ak ((by rw [hg]; exact Nat.ne_of_gt (blk_lt (g := gb674) (o := .cells #[.string ((rd_T27 l0_0 x4_2).f0), .int .i64 ((rd_T27 l0_0 x4_2).f1)] 27 (0, 0)) (ub BK674.out)) : gb694 ≠ gb674))
       clear HO_3
       clear HO_7
       clear BK661
       clear BK674
       clear HB
       have HO_3 := n0_
       have HO_7 := n1_
       have BK661 := n2_
       have BK674 := n3_
       have HB := n4_
       have BK694 := n5_
       have GW694 := n6_
       have GE694 := n7_
       have NB661_694 := n8_
       have NB694_661 := n9_
       have NB674_694 := n10_
       have NB694_674 := n11_
       clear n0_ n1_ n2_ n3_ n4_ n5_ n6_ n7_ n8_ n9_ n10_ n11_
       clear hb hbox hg
       refine hK.out _ _ ⟨(blk_cell BK674.out 0).trans rfl, (blk_cell BK674.out 1).trans rfl, HS2_, HS3_⟩ (fun hHeld => ?_)
       clear hK K
       refine norm_ (a' := ?_) ?_ ?_
       rotate_left
       · show Act.put _ (some 15) _ = _
         simp only [Act.put, s1, s2, s3, i64_w, i32_w]
         rfl
       exact norm_ (by simp only [putAll, Act.put, s1, s2, s3]) (hCont (gb694) _ ⟨hHeld, (ur <| HO_3.out), (ur <| HO_7.out), (ub BK661.out), (ub BK674.out), (ub BK694.out), GW694.out, GE694.out, NB661_694.out, NB694_661.out, NB674_694.out, NB694_674.out, (by repeat with_reducible first | exact HB.out | apply b1 | apply b2 | apply b3 | refine b4 ?_ GE661.out | refine b4 ?_ GE674.out | refine b4 ?_ GE694.out)⟩)
     · skip
       refine box_step ?hg (N := 15) ?hd (cs := #[.string (⟨#[]⟩ : ByteArray), .int .i64 0]) (t := 27) ?hr ?_; (case hd => rfl); (case hg => rfl); (case hr => first | (go_simp; done) | (go_simp; rfl))
       intro gb694 hg w74 hbox hb
       have HS2_ := (hb.cell (World.block_lt_of_cell? _ _ (hHeld.2.2.1))).trans (hHeld.2.2.1)
       have HS3_ := (hb.cell (World.block_lt_of_cell? _ _ (hHeld.2.2.2))).trans (hHeld.2.2.2)
       have n0_ := ak (Kd.R_below (ur <| HO_3.out) hb)
       have n1_ := ak (Kd.R_below (ur <| HO_7.out) hb)
       have n2_ := ak (blk_below (g := gb661) (o := .cells #[.slice (some ad673) l0_0.length c0_0, .slice A0_1 l0_1.length c0_1] 25 (0, 0)) (ub BK661.out) hb)
       have n3_ := ak (blk_below (g := gb674) (o := .cells #[.string ((rd_T27 l0_0 x4_2).f0), .int .i64 ((rd_T27 l0_0 x4_2).f1)] 27 (0, 0)) (ub BK674.out) hb)
       have n4_ := ak (below_step (by repeat with_reducible first | exact HB.out | apply b1 | apply b2 | apply b3 | refine b4 ?_ GE661.out | refine b4 ?_ GE674.out) hb)
       have n5_ := ak (hbox)
       have n6_ := ak ((by rw [hg]; exact (below_size (by repeat with_reducible first | exact HB.out | apply b1 | apply b2 | apply b3 | refine b4 ?_ GE661.out | refine b4 ?_ GE674.out)) : w.heap.size ≤ gb694))
       have n7_ := ak ((by rw [hg]; exact (below_size (by repeat with_reducible first | exact HB.out | apply b1 | apply b2 | apply b3 | refine b4 ?_ GE661.out | refine b4 ?_ GE674.out)) : w.heap.size ≤ gb694))
       have n8_ := ak ((by rw [hg]; exact Nat.ne_of_lt (blk_lt (g := gb661) (o := .cells #[.slice (some ad673) l0_0.length c0_0, .slice A0_1 l0_1.length c0_1] 25 (0, 0)) (ub BK661.out)) : gb661 ≠ gb694))
       have n9_ := ak ((by rw [hg]; exact Nat.ne_of_gt (blk_lt (g := gb661) (o := .cells #[.slice (some ad673) l0_0.length c0_0, .slice A0_1 l0_1.length c0_1] 25 (0, 0)) (ub BK661.out)) : gb694 ≠ gb661))
       have n10_ := ak ((by rw [hg]; exact Nat.ne_of_lt (blk_lt (g := gb674) (o := .cells #[.string ((rd_T27 l0_0 x4_2).f0), .int .i64 ((rd_T27 l0_0 x4_2).f1)] 27 (0, 0)) (ub BK674.out)) : gb674 ≠ gb694))
       have n11_ := ak ((by rw [hg]; exact Nat.ne_of_gt (blk_lt (g := gb674) (o := .cells #[.string ((rd_T27 l0_0 x4_2).f0), .int .i64 ((rd_T27 l0_0 x4_2).f1)] 27 (0, 0)) (ub BK674.out)) : gb694 ≠ gb674))
       clear HO_3
       clear HO_7
       clear BK661
       clear BK674
       clear HB
       have HO_3 := n0_
       have HO_7 := n1_
       have BK661 := n2_
       have BK674 := n3_
       have HB := n4_
       have BK694 := n5_
       have GW694 := n6_
       have GE694 := n7_
       have NB661_694 := n8_
       have NB694_661 := n9_
       have NB674_694 := n10_
       have NB694_674 := n11_
       clear n0_ n1_ n2_ n3_ n4_ n5_ n6_ n7_ n8_ n9_ n10_ n11_
       clear hb hbox hg
       refine hK.out _ _ ⟨(blk_cell BK674.out 0).trans rfl, (blk_cell BK674.out 1).trans rfl, HS2_, HS3_⟩ (fun hHeld => ?_)
       clear hK K
       refine norm_ (a' := ?_) ?_ ?_
       rotate_left
       · show Act.put _ (some 15) _ = _
         simp only [Act.put, s1, s2, s3, i64_w, i32_w]
         rfl
       refine one_ (i := 9) (N := some 129) #[true, true, true, true, true, true, true, true, true, true, false, false, false, true, false, false] rfl rfl (one_of HT_.out (by kernel_rfl)) (by decide) (fun K hK => ?_)
       refine goes_ Try.func24 (by kernel_rfl) rfl #[.agg #[.string ((rd_T27 l0_0 x4_2).f0), .int .i64 ((rd_T27 l0_0 x4_2).f1)], .int .i64 (rd x3_7 x8_5), .int .i64 (rd x3_7 x14_9)] (by rfl) rfl rfl (by (try simp only [List.map_toArray, List.map_cons, List.map_nil]); first | done | rfl | (simp only [List.length_drop, List.length_take]; rfl)) ?_
       with_reducible refine (bits_Put.calls ((rd_T27 l0_0 x4_2).f0) ((rd_T27 l0_0 x4_2).f1) (rd x3_7 x8_5) (rd x3_7 x14_9) t691 t692 t693 _ A71.out).mono ?_
       rintro e w75 ⟨rfl, hb⟩
       have HS2_ := (hb.cell (World.block_lt_of_cell? _ _ (hHeld.2.2.1))).trans (hHeld.2.2.1)
       have HS3_ := (hb.cell (World.block_lt_of_cell? _ _ (hHeld.2.2.2))).trans (hHeld.2.2.2)
       refine ⟨_, rfl, ?_⟩
       have n0_ := ak (Kd.R_below (ur <| HO_3.out) hb)
       have n1_ := ak (Kd.R_below (ur <| HO_7.out) hb)
       have n2_ := ak (blk_below (g := gb661) (o := .cells #[.slice (some ad673) l0_0.length c0_0, .slice A0_1 l0_1.length c0_1] 25 (0, 0)) (ub BK661.out) hb)
       have n3_ := ak (blk_below (g := gb674) (o := .cells #[.string ((rd_T27 l0_0 x4_2).f0), .int .i64 ((rd_T27 l0_0 x4_2).f1)] 27 (0, 0)) (ub BK674.out) hb)
       have n4_ := ak (blk_below (g := gb694) (o := .cells #[.string (⟨#[]⟩ : ByteArray), .int .i64 0] 27 (0, 0)) (ub BK694.out) hb)
       have n5_ := ak (below_step (by repeat with_reducible first | exact HB.out | apply b1 | apply b2 | apply b3 | refine b4 ?_ GE661.out | refine b4 ?_ GE674.out | refine b4 ?_ GE694.out) hb)
       clear HO_3
       clear HO_7
       clear BK661
       clear BK674
       clear BK694
       clear HB
       have HO_3 := n0_
       have HO_7 := n1_
       have BK661 := n2_
       have BK674 := n3_
       have BK694 := n4_
       have HB := n5_
       clear n0_ n1_ n2_ n3_ n4_ n5_
       (try clear hb)
       (try clear hb2)
       (try clear hk)
       (try clear hi)
       refine hK.out _ _ ⟨(blk_cell BK674.out 0).trans rfl, (blk_cell BK674.out 1).trans rfl, HS2_, HS3_⟩ (fun hHeld => ?_)
       clear hK K
       refine norm_ (a' := ?_) ?_ ?_
       rotate_left
       · show Act.put _ (some 129) _ = _
         simp only [Act.put, s1, s2, s3, i64_w, i32_w]
         rfl
       refine pure_ (i := 10) (N := some 119) (v := ?_) (a' := ?_) #[true, true, true, true, true, true, true, true, true, true, true, false, false, true, false, false] rfl rfl (any_of HT_.out (by kernel_rfl)) (fun _ _ _ h => h) (Or.inl ⟨by rfl, ?_⟩) ?_ ?_
       rotate_left
       · intro w'
         go_simp
         with_reducible rfl
       rotate_left
       · simp only [Act.put, s1, s2, s3, i64_w, i32_w]
         rfl
       refine pure_ (i := 11) (N := some 130) (v := ?_) (a' := ?_) #[true, true, true, true, true, true, true, true, true, true, true, true, false, true, false, false] rfl rfl (any_of HT_.out (by kernel_rfl)) (fun _ _ _ h => h) (Or.inl ⟨by rfl, ?_⟩) ?_ ?_
       rotate_left
       · intro w'
         go_simp
         with_reducible rfl
       rotate_left
       · simp only [Act.put, s1, s2, s3, i64_w, i32_w]
         rfl
       refine pure_ (i := 12) (N := some 131) (v := ?_) (a' := ?_) #[true, true, true, true, true, true, true, true, true, true, true, true, true, true, false, false] rfl rfl (any_of HT_.out (by kernel_rfl)) (fun _ _ _ h => h) (Or.inl ⟨by rfl, ?_⟩) ?_ ?_
       rotate_left
       · intro w'
         go_simp
         with_reducible rfl
       rotate_left
       · simp only [Act.put, s1, s2, s3, i64_w, i32_w]
         rfl
       exact norm_ (by simp only [putAll, Act.put, s1, s2, s3]) (hCont (gb694) _ ⟨hHeld, (ur <| HO_3.out), (ur <| HO_7.out), (ub BK661.out), (ub BK674.out), (ub BK694.out), GW694.out, GE694.out, NB661_694.out, NB694_661.out, NB674_694.out, NB694_674.out, (by repeat with_reducible first | exact HB.out | apply b1 | apply b2 | apply b3 | refine b4 ?_ GE661.out | refine b4 ?_ GE674.out | refine b4 ?_ GE694.out)⟩)
   rintro gb694 w76 ⟨hS_, h0_, h1_, h2_, h3_, h4_, h5_, h6_, h7_, h8_, h9_, h10_, h11_⟩
   have n0_ : Aside0 (Kd.R (Kd.int .i64) 3 w76 w.heap.size (fun _ => True) (.slice (some ad681) x3_7.length co48) x3_7) := ⟨h0_⟩
   have n1_ : Aside0 (Kd.R (Kd.int .u8) 5 w76 w.heap.size (fun _ => True) u7 x7_30) := ⟨h1_⟩
   have n2_ : Aside0 (w76.heap[gb661]? = some (.cells #[.slice (some ad673) l0_0.length c0_0, .slice A0_1 l0_1.length c0_1] 25 (0, 0))) := ⟨h2_⟩
   have n3_ : Aside0 (w76.heap[gb674]? = some (.cells #[.string ((rd_T27 l0_0 x4_2).f0), .int .i64 ((rd_T27 l0_0 x4_2).f1)] 27 (0, 0))) := ⟨h3_⟩
   have n4_ : Aside0 (w76.heap[gb694]? = some (.cells #[.string (⟨#[]⟩ : ByteArray), .int .i64 0] 27 (0, 0))) := ⟨h4_⟩
   have n5_ : Aside0 (w.heap.size ≤ gb694) := ⟨h5_⟩
   have n6_ : Aside0 (w.heap.size ≤ gb694) := ⟨h6_⟩
   have n7_ : Aside0 (gb661 ≠ gb694) := ⟨h7_⟩
   have n8_ : Aside0 (gb694 ≠ gb661) := ⟨h8_⟩
   have n9_ : Aside0 (gb674 ≠ gb694) := ⟨h9_⟩
   have n10_ : Aside0 (gb694 ≠ gb674) := ⟨h10_⟩
   have n11_ : Aside0 (Below w.heap.size w w76) := ⟨h11_⟩
   clear HO_3
   clear HO_7
   clear BK661
   clear BK674
   clear HB
   clear h0_ h1_ h2_ h3_ h4_ h5_ h6_ h7_ h8_ h9_ h10_ h11_
   have HO_3 := n0_
   have HO_7 := n1_
   have BK661 := n2_
   have BK674 := n3_
   have BK694 := n4_
   have GW694 := n5_
   have GE694 := n6_
   have NB661_694 := n7_
   have NB694_661 := n8_
   have NB674_694 := n9_
   have NB694_674 := n10_
   have HB := n11_
   clear n0_ n1_ n2_ n3_ n4_ n5_ n6_ n7_ n8_ n9_ n10_ n11_
   have hHeld : w76.cell? ⟨gb674, 0, none⟩ = some (.string ((rd_T27 l0_0 x4_2).f0)) ∧ w76.cell? ⟨gb674, 1, none⟩ = some (.int .i64 ((rd_T27 l0_0 x4_2).f1)) ∧ w76.cell? (ad681.add (x8_5).toNat) = some (.int .i64 (rd x3_7 x8_5)) ∧ w76.cell? (ad681.add (x14_9).toNat) = some (.int .i64 (rd x3_7 x14_9)) := hS_
   refine norm_ (a' := ?_) ?_ ?_
   rotate_left
   · simp only [putAll, Act.put, s1, s2, s3]
     rfl
   refine one_ (i := 14) (N := none) #[true, true, true, true, true, true, true, true, true, true, true, true, true, true, true, false] rfl rfl (one_of HT_.out (by kernel_rfl)) (by decide) (fun K hK => ?_)
   have hs77 : w76.cell? ⟨gb694, 0, none⟩ = some (.string (⟨#[]⟩ : ByteArray)) := (blk_cell BK694.out 0).trans rfl
   have hfs77 := blk_frozen BK694.out 0
   have hns77_0 := NB661_694.out
   have hns77_1 := NB674_694.out
   have hms77_0 := NB694_661.out
   have hms77_1 := NB694_674.out
   have hs78 : w76.cell? ⟨gb694, 1, none⟩ = some (.int .i64 0) := (blk_cell BK694.out 1).trans rfl
   have hfs78 := blk_frozen BK694.out 1
   have hns78_0 := NB661_694.out
   have hns78_1 := NB674_694.out
   have hms78_0 := NB694_661.out
   have hms78_1 := NB694_674.out
   refine skip_ (w1 := ?_) (by rfl) rfl ?_ ?_
   rotate_left
   · go_simp
     rfl
   refine hK.out _ _ ⟨((cell_far (p := ⟨gb694, _, none⟩) NB674_694.out _).trans (((cell_far (p := ⟨gb694, _, none⟩) NB674_694.out _).trans (hHeld.1)))), ((cell_far (p := ⟨gb694, _, none⟩) NB674_694.out _).trans (((cell_far (p := ⟨gb694, _, none⟩) NB674_694.out _).trans (hHeld.2.1)))), ((cell_far (p := ⟨gb694, _, none⟩) (by first | exact Kd.own_blk (Kd.R_ne HO_3.out BK694.out (by decide)) | (rw [add_block]; exact Kd.own_blk (Kd.R_ne HO_3.out BK694.out (by decide))) | (show (Addr.add _ _).block ≠ _; rw [add_block]; exact Kd.own_blk (Kd.R_ne HO_3.out BK694.out (by decide))) | (dsimp only; exact Kd.own_blk (Kd.R_ne HO_3.out BK694.out (by decide)))) _).trans (((cell_far (p := ⟨gb694, _, none⟩) (by first | exact Kd.own_blk (Kd.R_ne HO_3.out BK694.out (by decide)) | (rw [add_block]; exact Kd.own_blk (Kd.R_ne HO_3.out BK694.out (by decide))) | (show (Addr.add _ _).block ≠ _; rw [add_block]; exact Kd.own_blk (Kd.R_ne HO_3.out BK694.out (by decide))) | (dsimp only; exact Kd.own_blk (Kd.R_ne HO_3.out BK694.out (by decide)))) _).trans (hHeld.2.2.1)))), ((cell_far (p := ⟨gb694, _, none⟩) (by first | exact Kd.own_blk (Kd.R_ne HO_3.out BK694.out (by decide)) | (rw [add_block]; exact Kd.own_blk (Kd.R_ne HO_3.out BK694.out (by decide))) | (show (Addr.add _ _).block ≠ _; rw [add_block]; exact Kd.own_blk (Kd.R_ne HO_3.out BK694.out (by decide))) | (dsimp only; exact Kd.own_blk (Kd.R_ne HO_3.out BK694.out (by decide)))) _).trans (((cell_far (p := ⟨gb694, _, none⟩) (by first | exact Kd.own_blk (Kd.R_ne HO_3.out BK694.out (by decide)) | (rw [add_block]; exact Kd.own_blk (Kd.R_ne HO_3.out BK694.out (by decide))) | (show (Addr.add _ _).block ≠ _; rw [add_block]; exact Kd.own_blk (Kd.R_ne HO_3.out BK694.out (by decide))) | (dsimp only; exact Kd.own_blk (Kd.R_ne HO_3.out BK694.out (by decide)))) _).trans (hHeld.2.2.2))))⟩ (fun hHeld => ?_)
   clear hK K
   refine pure_ (i := 15) (N := some 16) (v := ?_) (a' := ?_) #[true, true, true, true, true, true, true, true, true, true, true, true, true, true, true, true] rfl rfl (any_of HT_.out (by kernel_rfl)) (fun _ _ _ h => h) (Or.inl ⟨by rfl, ?_⟩) ?_ ?_
   rotate_left
   · intro w'
     go_simp
     with_reducible rfl
   rotate_left
   · simp only [Act.put, s1, s2, s3, i64_w, i32_w]
     rfl
   refine done_ (done_of HT_.out (by kernel_rfl)) ?_
   go_upto_region 33 with (first | ((with_reducible refine gate_dst (N := 18) rfl ?_); refine box_event ?hg (N := 18) ?hd (cs := #[.string (⟨#[]⟩ : ByteArray), .int .i64 0]) (t := 27) ?hr ?_; (case hd => rfl); (case hg => rfl); (case hr => first | (go_simp; done) | (go_simp; rfl)); intro gb695 hg w79 hbox hb; have n0_ := ak (Kd.R_below (ur <| (Kd.R_mono (Kd.R_far (p := ⟨gb694, 1, none⟩) (Kd.R_far (p := ⟨gb694, 0, none⟩) (Kd.R_types HO_3.out BK694.out (by decide)) (fun _ hk => hk.2) (.string t691)) (fun _ hk => hk.2) (.int .i64 t692)) (fun _ h_ => h_.1))) hb); have n1_ := ak (Kd.R_below (ur <| (Kd.R_mono (Kd.R_far (p := ⟨gb694, 1, none⟩) (Kd.R_far (p := ⟨gb694, 0, none⟩) (Kd.R_types HO_7.out BK694.out (by decide)) (fun _ hk => hk.2) (.string t691)) (fun _ hk => hk.2) (.int .i64 t692)) (fun _ h_ => h_.1))) hb); have n2_ := ak (blk_below (g := gb661) (o := .cells #[.slice (some ad673) l0_0.length c0_0, .slice A0_1 l0_1.length c0_1] 25 (0, 0)) (by (with_reducible repeat (first | refine blk_drewN ?_ _ | refine blk_drew ?_ | refine blk_alloc ?_ _)); refine blk_far ?_ NB661_694.out _; (with_reducible repeat (first | refine blk_drewN ?_ _ | refine blk_drew ?_ | refine blk_alloc ?_ _)); refine blk_far ?_ NB661_694.out _; (with_reducible repeat (first | refine blk_drewN ?_ _ | refine blk_drew ?_ | refine blk_alloc ?_ _)); exact BK661.out) hb); have n3_ := ak (blk_below (g := gb674) (o := .cells #[.string ((rd_T27 l0_0 x4_2).f0), .int .i64 ((rd_T27 l0_0 x4_2).f1)] 27 (0, 0)) (by (with_reducible repeat (first | refine blk_drewN ?_ _ | refine blk_drew ?_ | refine blk_alloc ?_ _)); refine blk_far ?_ NB674_694.out _; (with_reducible repeat (first | refine blk_drewN ?_ _ | refine blk_drew ?_ | refine blk_alloc ?_ _)); refine blk_far ?_ NB674_694.out _; (with_reducible repeat (first | refine blk_drewN ?_ _ | refine blk_drew ?_ | refine blk_alloc ?_ _)); exact BK674.out) hb); have n4_ := ak (blk_below (g := gb694) (o := .cells #[.string t691, .int .i64 t692] 27 (0, 0)) (by (with_reducible repeat (first | refine blk_drewN ?_ _ | refine blk_drew ?_ | refine blk_alloc ?_ _)); refine blk_put (cs := #[.string t691, .int .i64 0]) ?_ 1 _ rfl; (with_reducible repeat (first | refine blk_drewN ?_ _ | refine blk_drew ?_ | refine blk_alloc ?_ _)); refine blk_put (cs := #[.string (⟨#[]⟩ : ByteArray), .int .i64 0]) ?_ 0 _ rfl; (with_reducible repeat (first | refine blk_drewN ?_ _ | refine blk_drew ?_ | refine blk_alloc ?_ _)); exact BK694.out) hb); have n5_ := ak (below_step (by repeat with_reducible first | exact HB.out | apply b1 | apply b2 | apply b3 | refine b4 ?_ GE661.out | refine b4 ?_ GE674.out | refine b4 ?_ GE694.out) hb); have n6_ := ak (hbox); have n7_ := ak ((by rw [hg]; exact (below_size (by repeat with_reducible first | exact HB.out | apply b1 | apply b2 | apply b3 | refine b4 ?_ GE661.out | refine b4 ?_ GE674.out | refine b4 ?_ GE694.out)) : w.heap.size ≤ gb695)); have n8_ := ak ((by rw [hg]; exact (below_size (by repeat with_reducible first | exact HB.out | apply b1 | apply b2 | apply b3 | refine b4 ?_ GE661.out | refine b4 ?_ GE674.out | refine b4 ?_ GE694.out)) : w.heap.size ≤ gb695)); have n9_ := ak ((by rw [hg]; exact Nat.ne_of_lt (blk_lt (g := gb661) (o := .cells #[.slice (some ad673) l0_0.length c0_0, .slice A0_1 l0_1.length c0_1] 25 (0, 0)) (by (with_reducible repeat (first | refine blk_drewN ?_ _ | refine blk_drew ?_ | refine blk_alloc ?_ _)); refine blk_far ?_ NB661_694.out _; (with_reducible repeat (first | refine blk_drewN ?_ _ | refine blk_drew ?_ | refine blk_alloc ?_ _)); refine blk_far ?_ NB661_694.out _; (with_reducible repeat (first | refine blk_drewN ?_ _ | refine blk_drew ?_ | refine blk_alloc ?_ _)); exact BK661.out)) : gb661 ≠ gb695)); have n10_ := ak ((by rw [hg]; exact Nat.ne_of_gt (blk_lt (g := gb661) (o := .cells #[.slice (some ad673) l0_0.length c0_0, .slice A0_1 l0_1.length c0_1] 25 (0, 0)) (by (with_reducible repeat (first | refine blk_drewN ?_ _ | refine blk_drew ?_ | refine blk_alloc ?_ _)); refine blk_far ?_ NB661_694.out _; (with_reducible repeat (first | refine blk_drewN ?_ _ | refine blk_drew ?_ | refine blk_alloc ?_ _)); refine blk_far ?_ NB661_694.out _; (with_reducible repeat (first | refine blk_drewN ?_ _ | refine blk_drew ?_ | refine blk_alloc ?_ _)); exact BK661.out)) : gb695 ≠ gb661)); have n11_ := ak ((by rw [hg]; exact Nat.ne_of_lt (blk_lt (g := gb674) (o := .cells #[.string ((rd_T27 l0_0 x4_2).f0), .int .i64 ((rd_T27 l0_0 x4_2).f1)] 27 (0, 0)) (by (with_reducible repeat (first | refine blk_drewN ?_ _ | refine blk_drew ?_ | refine blk_alloc ?_ _)); refine blk_far ?_ NB674_694.out _; (with_reducible repeat (first | refine blk_drewN ?_ _ | refine blk_drew ?_ | refine blk_alloc ?_ _)); refine blk_far ?_ NB674_694.out _; (with_reducible repeat (first | refine blk_drewN ?_ _ | refine blk_drew ?_ | refine blk_alloc ?_ _)); exact BK674.out)) : gb674 ≠ gb695)); have n12_ := ak ((by rw [hg]; exact Nat.ne_of_gt (blk_lt (g := gb674) (o := .cells #[.string ((rd_T27 l0_0 x4_2).f0), .int .i64 ((rd_T27 l0_0 x4_2).f1)] 27 (0, 0)) (by (with_reducible repeat (first | refine blk_drewN ?_ _ | refine blk_drew ?_ | refine blk_alloc ?_ _)); refine blk_far ?_ NB674_694.out _; (with_reducible repeat (first | refine blk_drewN ?_ _ | refine blk_drew ?_ | refine blk_alloc ?_ _)); refine blk_far ?_ NB674_694.out _; (with_reducible repeat (first | refine blk_drewN ?_ _ | refine blk_drew ?_ | refine blk_alloc ?_ _)); exact BK674.out)) : gb695 ≠ gb674)); have n13_ := ak ((by rw [hg]; exact Nat.ne_of_lt (blk_lt (g := gb694) (o := .cells #[.string t691, .int .i64 t692] 27 (0, 0)) (by (with_reducible repeat (first | refine blk_drewN ?_ _ | refine blk_drew ?_ | refine blk_alloc ?_ _)); refine blk_put (cs := #[.string t691, .int .i64 0]) ?_ 1 _ rfl; (with_reducible repeat (first | refine blk_drewN ?_ _ | refine blk_drew ?_ | refine blk_alloc ?_ _)); refine blk_put (cs := #[.string (⟨#[]⟩ : ByteArray), .int .i64 0]) ?_ 0 _ rfl; (with_reducible repeat (first | refine blk_drewN ?_ _ | refine blk_drew ?_ | refine blk_alloc ?_ _)); exact BK694.out)) : gb694 ≠ gb695)); have n14_ := ak ((by rw [hg]; exact Nat.ne_of_gt (blk_lt (g := gb694) (o := .cells #[.string t691, .int .i64 t692] 27 (0, 0)) (by (with_reducible repeat (first | refine blk_drewN ?_ _ | refine blk_drew ?_ | refine blk_alloc ?_ _)); refine blk_put (cs := #[.string t691, .int .i64 0]) ?_ 1 _ rfl; (with_reducible repeat (first | refine blk_drewN ?_ _ | refine blk_drew ?_ | refine blk_alloc ?_ _)); refine blk_put (cs := #[.string (⟨#[]⟩ : ByteArray), .int .i64 0]) ?_ 0 _ rfl; (with_reducible repeat (first | refine blk_drewN ?_ _ | refine blk_drew ?_ | refine blk_alloc ?_ _)); exact BK694.out)) : gb695 ≠ gb694)); clear HO_3; clear HO_7; clear BK661; clear BK674; clear BK694; clear HB; have HO_3 := n0_; have HO_7 := n1_; have BK661 := n2_; have BK674 := n3_; have BK694 := n4_; have HB := n5_; have BK695 := n6_; have GW695 := n7_; have GE695 := n8_; have NB661_695 := n9_; have NB695_661 := n10_; have NB674_695 := n11_; have NB695_674 := n12_; have NB694_695 := n13_; have NB695_694 := n14_; clear n0_ n1_ n2_ n3_ n4_ n5_ n6_ n7_ n8_ n9_ n10_ n11_ n12_ n13_ n14_; clear hb hbox hg; have hnb80 := NB695_661.out; have hnc80 := NB661_695.out; have hnb81 := NB695_674.out; have hnc81 := NB674_695.out; have hnb82 := NB695_694.out; have hnc82 := NB694_695.out; have hcz83_0 : w79.cell? ⟨gb695, 0, none⟩ = some (.string (⟨#[]⟩ : ByteArray)) := (blk_cell BK695.out 0).trans rfl; have hcz83_1 : w79.cell? ⟨gb695, 1, none⟩ = some (.int .i64 0) := (blk_cell BK695.out 1).trans rfl; have hfz83_0 := blk_frozen BK695.out 0; have hfz83_1 := blk_frozen BK695.out 1))
   (try simp only [Act.put, s1, s2, s3])
   go_cut [153] from 9999 to 0 (fun v153 wc => ∃ (kq : Nat) (x153_71 : Bool), v153 = .bool x153_71 ∧ Aside0 (herbariumlaw1_BitsExact.j9 kq x3_7 x4_2 t675 x7_30 x8_5 x14_9 t693 1 x153_71 l0_0 l0_1 ((rd_T27 l0_0 x4_2).f0) ((rd_T27 l0_0 x4_2).f1) t691 t692 (⟨#[]⟩ : ByteArray) 0 = some true) ∧ Aside0 (kq ≤ k9) ∧ Aside0 (Kd.R (Kd.int .i64) 3 wc w.heap.size (fun _ => True) (.slice (some ad681) x3_7.length co48) x3_7) ∧ Aside0 (Kd.R (Kd.int .u8) 5 wc w.heap.size (fun _ => True) u7 x7_30) ∧ Aside0 (wc.heap[gb661]? = some (.cells #[(.slice (some ad673) l0_0.length c0_0), (.slice A0_1 l0_1.length c0_1)] 25 (0, 0))) ∧ Aside0 (wc.heap[gb674]? = some (.cells #[.string ((rd_T27 l0_0 x4_2).f0), .int .i64 ((rd_T27 l0_0 x4_2).f1)] 27 (0, 0))) ∧ Aside0 (wc.heap[gb694]? = some (.cells #[.string t691, .int .i64 t692] 27 (0, 0))) ∧ Aside0 (wc.heap[gb695]? = some (.cells #[.string (⟨#[]⟩ : ByteArray), .int .i64 0] 27 (0, 0))) ∧ Aside0 (Below w.heap.size w wc))
   case first =>
     have H := HC72.out
     clear HC72
     by_cases c84 : t675 = true
     rotate_left
     · replace c84 := Bool.eq_false_iff.mpr c84
       subst c84
       have H1 : (herbariumlaw1_BitsExact.j9 k9 x3_7 x4_2 false x7_30 x8_5 x14_9 t693 1 false l0_0 l0_1 ((rd_T27 l0_0 x4_2).f0) ((rd_T27 l0_0 x4_2).f1) t691 t692 (⟨#[]⟩ : ByteArray) 0) = some true := by rw [if_neg (show ¬ (false = true) by decide)] at H; exact H
       clear H
       have H := H1
       clear H1
       have H' := ak H
       clear H
       try go_wp2
       have n0_ : Aside0 (Kd.R (Kd.int .i64) 3 ((w79.setCell ⟨gb695, 0, none⟩ (.string (⟨#[]⟩ : ByteArray))).setCell ⟨gb695, 1, none⟩ (.int .i64 0)) w.heap.size (fun _ => True) (.slice (some ad681) x3_7.length co48) x3_7) := ⟨ur <| Kd.R_mono (Kd.R_far (p := ⟨gb695, 1, none⟩) (Kd.R_far (p := ⟨gb695, 0, none⟩) (Kd.R_types HO_3.out BK695.out (by decide)) (fun _ hk => hk.2) (.string (⟨#[]⟩ : ByteArray))) (fun _ hk => hk.2) (.int .i64 0)) (fun _ hk => trivial)⟩
       have n1_ : Aside0 (Kd.R (Kd.int .u8) 5 ((w79.setCell ⟨gb695, 0, none⟩ (.string (⟨#[]⟩ : ByteArray))).setCell ⟨gb695, 1, none⟩ (.int .i64 0)) w.heap.size (fun _ => True) u7 x7_30) := ⟨ur <| Kd.R_mono (Kd.R_far (p := ⟨gb695, 1, none⟩) (Kd.R_far (p := ⟨gb695, 0, none⟩) (Kd.R_types HO_7.out BK695.out (by decide)) (fun _ hk => hk.2) (.string (⟨#[]⟩ : ByteArray))) (fun _ hk => hk.2) (.int .i64 0)) (fun _ hk => trivial)⟩
       have n2_ : Aside0 (((w79.setCell ⟨gb695, 0, none⟩ (.string (⟨#[]⟩ : ByteArray))).setCell ⟨gb695, 1, none⟩ (.int .i64 0)).heap[gb661]? = some (.cells #[.slice (some ad673) l0_0.length c0_0, .slice A0_1 l0_1.length c0_1] 25 (0, 0))) := ⟨by (with_reducible repeat (first | refine blk_drewN ?_ _ | refine blk_drew ?_ | refine blk_alloc ?_ _)); refine blk_far ?_ NB661_695.out _; (with_reducible repeat (first | refine blk_drewN ?_ _ | refine blk_drew ?_ | refine blk_alloc ?_ _)); refine blk_far ?_ NB661_695.out _; (with_reducible repeat (first | refine blk_drewN ?_ _ | refine blk_drew ?_ | refine blk_alloc ?_ _)); exact BK661.out⟩
       have n3_ : Aside0 (((w79.setCell ⟨gb695, 0, none⟩ (.string (⟨#[]⟩ : ByteArray))).setCell ⟨gb695, 1, none⟩ (.int .i64 0)).heap[gb674]? = some (.cells #[.string ((rd_T27 l0_0 x4_2).f0), .int .i64 ((rd_T27 l0_0 x4_2).f1)] 27 (0, 0))) := ⟨by (with_reducible repeat (first | refine blk_drewN ?_ _ | refine blk_drew ?_ | refine blk_alloc ?_ _)); refine blk_far ?_ NB674_695.out _; (with_reducible repeat (first | refine blk_drewN ?_ _ | refine blk_drew ?_ | refine blk_alloc ?_ _)); refine blk_far ?_ NB674_695.out _; (with_reducible repeat (first | refine blk_drewN ?_ _ | refine blk_drew ?_ | refine blk_alloc ?_ _)); exact BK674.out⟩
       have n4_ : Aside0 (((w79.setCell ⟨gb695, 0, none⟩ (.string (⟨#[]⟩ : ByteArray))).setCell ⟨gb695, 1, none⟩ (.int .i64 0)).heap[gb694]? = some (.cells #[.string t691, .int .i64 t692] 27 (0, 0))) := ⟨by (with_reducible repeat (first | refine blk_drewN ?_ _ | refine blk_drew ?_ | refine blk_alloc ?_ _)); refine blk_far ?_ NB694_695.out _; (with_reducible repeat (first | refine blk_drewN ?_ _ | refine blk_drew ?_ | refine blk_alloc ?_ _)); refine blk_far ?_ NB694_695.out _; (with_reducible repeat (first | refine blk_drewN ?_ _ | refine blk_drew ?_ | refine blk_alloc ?_ _)); exact BK694.out⟩
       have n5_ : Aside0 (((w79.setCell ⟨gb695, 0, none⟩ (.string (⟨#[]⟩ : ByteArray))).setCell ⟨gb695, 1, none⟩ (.int .i64 0)).heap[gb695]? = some (.cells #[.string (⟨#[]⟩ : ByteArray), .int .i64 0] 27 (0, 0))) := ⟨by (with_reducible repeat (first | refine blk_drewN ?_ _ | refine blk_drew ?_ | refine blk_alloc ?_ _)); refine blk_put (cs := #[.string (⟨#[]⟩ : ByteArray), .int .i64 0]) ?_ 1 _ rfl; (with_reducible repeat (first | refine blk_drewN ?_ _ | refine blk_drew ?_ | refine blk_alloc ?_ _)); refine blk_put (cs := #[.string (⟨#[]⟩ : ByteArray), .int .i64 0]) ?_ 0 _ rfl; (with_reducible repeat (first | refine blk_drewN ?_ _ | refine blk_drew ?_ | refine blk_alloc ?_ _)); exact BK695.out⟩
       have n6_ : Aside0 (Below w.heap.size w ((w79.setCell ⟨gb695, 0, none⟩ (.string (⟨#[]⟩ : ByteArray))).setCell ⟨gb695, 1, none⟩ (.int .i64 0))) := ⟨by repeat with_reducible first | exact HB.out | apply b1 | apply b2 | apply b3 | refine b4 ?_ GE661.out | refine b4 ?_ GE674.out | refine b4 ?_ GE694.out | refine b4 ?_ GE695.out⟩
       (try clear HO_3)
       (try clear HO_7)
       (try clear BK661)
       (try clear BK674)
       (try clear BK694)
       (try clear BK695)
       (try clear HB)
       generalize ((w79.setCell ⟨gb695, 0, none⟩ (.string (⟨#[]⟩ : ByteArray))).setCell ⟨gb695, 1, none⟩ (.int .i64 0)) = w94 at n0_ n1_ n2_ n3_ n4_ n5_ n6_ ⊢
       have HO_3 := n0_
       have HO_7 := n1_
       have BK661 := n2_
       have BK674 := n3_
       have BK694 := n4_
       have BK695 := n5_
       have HB := n6_
       clear n0_ n1_ n2_ n3_ n4_ n5_ n6_
       have n0_ := ak (Kd.R_drew HO_3.out)
       have n1_ := ak (Kd.R_drew HO_7.out)
       have n2_ := ak (blk_drew BK661.out)
       have n3_ := ak (blk_drew BK674.out)
       have n4_ := ak (blk_drew BK694.out)
       have n5_ := ak (blk_drew BK695.out)
       have n6_ := ak (below_drew1 HB.out)
       clear HO_3
       clear HO_7
       clear BK661
       clear BK674
       clear BK694
       clear BK695
       clear HB
       have HO_3 := n0_
       have HO_7 := n1_
       have BK661 := n2_
       have BK674 := n3_
       have BK694 := n4_
       have BK695 := n5_
       have HB := n6_
       clear n0_ n1_ n2_ n3_ n4_ n5_ n6_
       refine start_ (n := 21) (S := fun w' => True) (ds := []) #[false, false, false, false, false, false, false, false, false, false, false, false, false, false, false, false, false, false, false, false, false] (by kernel_rfl) rfl rfl trivial (fun hHeld => ?_); refine with_tabW herbariumlaw1_BitsExact.tab33 herbariumlaw1_BitsExact.bits33 (fun HT_ HW_ => ?_)
       generalize w94.drew = w95 at HO_3 HO_7 BK661 BK674 BK694 BK695 HB hHeld ⊢
       refine pure_ (i := 0) (N := some 133) (v := ?_) (a' := ?_) #[true, false, false, false, false, false, false, false, false, false, false, false, false, false, false, false, false, false, false, false, false] rfl rfl (any_of HT_.out (by kernel_rfl)) (fun _ _ _ h => h) (Or.inl ⟨by rfl, ?_⟩) ?_ ?_
       rotate_left
       · intro w'
         go_simp
         with_reducible rfl
       rotate_left
       · simp only [Act.put, s1, s2, s3, i64_w, i32_w]
         rfl
       refine pure_ (i := 1) (N := some 134) (v := ?_) (a' := ?_) #[true, true, false, false, false, false, false, false, false, false, false, false, false, false, false, false, false, false, false, false, false] rfl rfl (any_of HT_.out (by kernel_rfl)) (fun _ _ _ h => h) (Or.inl ⟨by rfl, ?_⟩) ?_ ?_
       rotate_left
       · intro w'
         go_simp
         with_reducible rfl
       rotate_left
       · simp only [Act.put, s1, s2, s3, i64_w, i32_w]
         rfl
       refine pure_ (i := 2) (N := some 135) (v := undef) (a' := ?_) #[true, true, true, false, false, false, false, false, false, false, false, false, false, false, false, false, false, false, false, false, false] rfl rfl (any_of HT_.out (by kernel_rfl)) (fun _ _ _ h => h) (Or.inr ⟨by rfl, rfl⟩) ?_ ?_
       rotate_left
       · simp only [Act.put, s1, s2, s3, i64_w, i32_w]
         rfl
       refine pure_ (i := 3) (N := some 136) (v := undef) (a' := ?_) #[true, true, true, true, false, false, false, false, false, false, false, false, false, false, false, false, false, false, false, false, false] rfl rfl (any_of HT_.out (by kernel_rfl)) (fun _ _ _ h => h) (Or.inr ⟨by rfl, rfl⟩) ?_ ?_
       rotate_left
       · simp only [Act.put, s1, s2, s3, i64_w, i32_w]
         rfl
       refine pure_ (i := 4) (N := some 137) (v := undef) (a' := ?_) #[true, true, true, true, true, false, false, false, false, false, false, false, false, false, false, false, false, false, false, false, false] rfl rfl (any_of HT_.out (by kernel_rfl)) (fun _ _ _ h => h) (Or.inr ⟨by rfl, rfl⟩) ?_ ?_
       rotate_left
       · simp only [Act.put, s1, s2, s3, i64_w, i32_w]
         rfl
       refine pure_ (i := 5) (N := some 138) (v := undef) (a' := ?_) #[true, true, true, true, true, true, false, false, false, false, false, false, false, false, false, false, false, false, false, false, false] rfl rfl (any_of HT_.out (by kernel_rfl)) (fun _ _ _ h => h) (Or.inr ⟨by rfl, rfl⟩) ?_ ?_
       rotate_left
       · simp only [Act.put, s1, s2, s3, i64_w, i32_w]
         rfl
       refine pure_ (i := 6) (N := some 139) (v := undef) (a' := ?_) #[true, true, true, true, true, true, true, false, false, false, false, false, false, false, false, false, false, false, false, false, false] rfl rfl (any_of HT_.out (by kernel_rfl)) (fun _ _ _ h => h) (Or.inr ⟨by rfl, rfl⟩) ?_ ?_
       rotate_left
       · simp only [Act.put, s1, s2, s3, i64_w, i32_w]
         rfl
       refine pure_ (i := 7) (N := some 140) (v := ?_) (a' := ?_) #[true, true, true, true, true, true, true, true, false, false, false, false, false, false, false, false, false, false, false, false, false] rfl rfl (any_of HT_.out (by kernel_rfl)) (fun _ _ _ h => h) (Or.inl ⟨by rfl, ?_⟩) ?_ ?_
       rotate_left
       · intro w'
         go_simp
         with_reducible rfl
       rotate_left
       · simp only [Act.put, s1, s2, s3, i64_w, i32_w]
         rfl
       refine pure_ (i := 8) (N := some 141) (v := ?_) (a' := ?_) #[true, true, true, true, true, true, true, true, true, false, false, false, false, false, false, false, false, false, false, false, false] rfl rfl (any_of HT_.out (by kernel_rfl)) (fun _ _ _ h => h) (Or.inl ⟨by rfl, ?_⟩) ?_ ?_
       rotate_left
       · intro w'
         go_simp
         with_reducible rfl
       rotate_left
       · simp only [Act.put, s1, s2, s3, i64_w, i32_w]
         rfl
       refine pure_ (i := 9) (N := some 142) (v := undef) (a' := ?_) #[true, true, true, true, true, true, true, true, true, true, false, false, false, false, false, false, false, false, false, false, false] rfl rfl (any_of HT_.out (by kernel_rfl)) (fun _ _ _ h => h) (Or.inr ⟨by rfl, rfl⟩) ?_ ?_
       rotate_left
       · simp only [Act.put, s1, s2, s3, i64_w, i32_w]
         rfl
       refine pure_ (i := 10) (N := some 143) (v := undef) (a' := ?_) #[true, true, true, true, true, true, true, true, true, true, true, false, false, false, false, false, false, false, false, false, false] rfl rfl (any_of HT_.out (by kernel_rfl)) (fun _ _ _ h => h) (Or.inr ⟨by rfl, rfl⟩) ?_ ?_
       rotate_left
       · simp only [Act.put, s1, s2, s3, i64_w, i32_w]
         rfl
       refine pure_ (i := 11) (N := some 144) (v := undef) (a' := ?_) #[true, true, true, true, true, true, true, true, true, true, true, true, false, false, false, false, false, false, false, false, false] rfl rfl (any_of HT_.out (by kernel_rfl)) (fun _ _ _ h => h) (Or.inr ⟨by rfl, rfl⟩) ?_ ?_
       rotate_left
       · simp only [Act.put, s1, s2, s3, i64_w, i32_w]
         rfl
       refine pure_ (i := 12) (N := some 145) (v := undef) (a' := ?_) #[true, true, true, true, true, true, true, true, true, true, true, true, true, false, false, false, false, false, false, false, false] rfl rfl (any_of HT_.out (by kernel_rfl)) (fun _ _ _ h => h) (Or.inr ⟨by rfl, rfl⟩) ?_ ?_
       rotate_left
       · simp only [Act.put, s1, s2, s3, i64_w, i32_w]
         rfl
       refine pure_ (i := 13) (N := some 146) (v := undef) (a' := ?_) #[true, true, true, true, true, true, true, true, true, true, true, true, true, true, false, false, false, false, false, false, false] rfl rfl (any_of HT_.out (by kernel_rfl)) (fun _ _ _ h => h) (Or.inr ⟨by rfl, rfl⟩) ?_ ?_
       rotate_left
       · simp only [Act.put, s1, s2, s3, i64_w, i32_w]
         rfl
       refine pure_ (i := 14) (N := some 147) (v := undef) (a' := ?_) #[true, true, true, true, true, true, true, true, true, true, true, true, true, true, true, false, false, false, false, false, false] rfl rfl (any_of HT_.out (by kernel_rfl)) (fun _ _ _ h => h) (Or.inr ⟨by rfl, rfl⟩) ?_ ?_
       rotate_left
       · simp only [Act.put, s1, s2, s3, i64_w, i32_w]
         rfl
       refine pure_ (i := 15) (N := some 148) (v := undef) (a' := ?_) #[true, true, true, true, true, true, true, true, true, true, true, true, true, true, true, true, false, false, false, false, false] rfl rfl (any_of HT_.out (by kernel_rfl)) (fun _ _ _ h => h) (Or.inr ⟨by rfl, rfl⟩) ?_ ?_
       rotate_left
       · simp only [Act.put, s1, s2, s3, i64_w, i32_w]
         rfl
       refine pure_ (i := 16) (N := some 149) (v := undef) (a' := ?_) #[true, true, true, true, true, true, true, true, true, true, true, true, true, true, true, true, true, false, false, false, false] rfl rfl (any_of HT_.out (by kernel_rfl)) (fun _ _ _ h => h) (Or.inr ⟨by rfl, rfl⟩) ?_ ?_
       rotate_left
       · simp only [Act.put, s1, s2, s3, i64_w, i32_w]
         rfl
       refine pure_ (i := 17) (N := some 150) (v := undef) (a' := ?_) #[true, true, true, true, true, true, true, true, true, true, true, true, true, true, true, true, true, true, false, false, false] rfl rfl (any_of HT_.out (by kernel_rfl)) (fun _ _ _ h => h) (Or.inr ⟨by rfl, rfl⟩) ?_ ?_
       rotate_left
       · simp only [Act.put, s1, s2, s3, i64_w, i32_w]
         rfl
       refine pure_ (i := 18) (N := some 151) (v := undef) (a' := ?_) #[true, true, true, true, true, true, true, true, true, true, true, true, true, true, true, true, true, true, true, false, false] rfl rfl (any_of HT_.out (by kernel_rfl)) (fun _ _ _ h => h) (Or.inr ⟨by rfl, rfl⟩) ?_ ?_
       rotate_left
       · simp only [Act.put, s1, s2, s3, i64_w, i32_w]
         rfl
       refine pure_ (i := 19) (N := some 152) (v := undef) (a' := ?_) #[true, true, true, true, true, true, true, true, true, true, true, true, true, true, true, true, true, true, true, true, false] rfl rfl (any_of HT_.out (by kernel_rfl)) (fun _ _ _ h => h) (Or.inr ⟨by rfl, rfl⟩) ?_ ?_
       rotate_left
       · simp only [Act.put, s1, s2, s3, i64_w, i32_w]
         rfl
       refine pure_ (i := 20) (N := some 153) (v := ?_) (a' := ?_) #[true, true, true, true, true, true, true, true, true, true, true, true, true, true, true, true, true, true, true, true, true] rfl rfl (any_of HT_.out (by kernel_rfl)) (fun _ _ _ h => h) (Or.inl ⟨by rfl, ?_⟩) ?_ ?_
       rotate_left
       · intro w'
         go_simp
         with_reducible rfl
       rotate_left
       · simp only [Act.put, s1, s2, s3, i64_w, i32_w]
         rfl
       refine done_ (done_of HT_.out (by kernel_rfl)) ?_
       try go_wp2
       go_meet
       case rel => exact ⟨_, (false), (by first | rfl | (simp; done) | (simp [*]; done)), H', ⟨by have := HJ7.out; have := HK2.out; have := HJ19.out; have := HJ30.out; have := HK5.out; have := HJ46.out; have := HJ54.out; have := HJ62.out; have := HK9.out; first | omega | exact Nat.le_refl _⟩, ⟨ur <| HO_3.out⟩, ⟨ur <| HO_7.out⟩, ⟨ub BK661.out⟩, ⟨ub BK674.out⟩, ⟨ub BK694.out⟩, ⟨ub BK695.out⟩, ⟨by repeat with_reducible first | exact HB.out | apply b1 | apply b2 | apply b3 | refine b4 ?_ GE661.out | refine b4 ?_ GE674.out | refine b4 ?_ GE694.out | refine b4 ?_ GE695.out⟩⟩
     subst c84
     have H1 : ((herbariumref0_Num.f (rd x3_7 x14_9) 30).bind fun t697 => (if t697 = true then (if 0 ≤ (rd x3_7 x14_9) then ((herbariumref0_Num.f (rd x3_7 x8_5) (wrap64 ((shl .i64 1 (rd x3_7 x14_9)) - 1))).bind fun t700 => (herbariumlaw1_BitsExact.j9 k9 x3_7 x4_2 true x7_30 x8_5 x14_9 t693 1 t700 l0_0 l0_1 ((rd_T27 l0_0 x4_2).f0) ((rd_T27 l0_0 x4_2).f1) t691 t692 (⟨#[]⟩ : ByteArray) 0)) else (none)) else (herbariumlaw1_BitsExact.j9 k9 x3_7 x4_2 true x7_30 x8_5 x14_9 t693 1 false l0_0 l0_1 ((rd_T27 l0_0 x4_2).f0) ((rd_T27 l0_0 x4_2).f1) t691 t692 (⟨#[]⟩ : ByteArray) 0))) = some true := by rw [if_pos rfl] at H; exact H
     clear H
     have H := H1
     clear H1
     replace H := Option.bind_eq_some_iff.mp H
     obtain ⟨t697, A850, H⟩ := H
     try dsimp only at H
     have A85 := ak A850
     clear A850
     by_cases c86 : t697 = true
     rotate_left
     · replace c86 := Bool.eq_false_iff.mpr c86
       subst c86
       have H1 : (herbariumlaw1_BitsExact.j9 k9 x3_7 x4_2 true x7_30 x8_5 x14_9 t693 1 false l0_0 l0_1 ((rd_T27 l0_0 x4_2).f0) ((rd_T27 l0_0 x4_2).f1) t691 t692 (⟨#[]⟩ : ByteArray) 0) = some true := by rw [if_neg (show ¬ (false = true) by decide)] at H; exact H
       clear H
       have H := H1
       clear H1
       have H' := ak H
       clear H
       try go_wp2
       have n0_ : Aside0 (Kd.R (Kd.int .i64) 3 ((w79.setCell ⟨gb695, 0, none⟩ (.string (⟨#[]⟩ : ByteArray))).setCell ⟨gb695, 1, none⟩ (.int .i64 0)) w.heap.size (fun _ => True) (.slice (some ad681) x3_7.length co48) x3_7) := ⟨ur <| Kd.R_mono (Kd.R_far (p := ⟨gb695, 1, none⟩) (Kd.R_far (p := ⟨gb695, 0, none⟩) (Kd.R_types HO_3.out BK695.out (by decide)) (fun _ hk => hk.2) (.string (⟨#[]⟩ : ByteArray))) (fun _ hk => hk.2) (.int .i64 0)) (fun _ hk => trivial)⟩
       have n1_ : Aside0 (Kd.R (Kd.int .u8) 5 ((w79.setCell ⟨gb695, 0, none⟩ (.string (⟨#[]⟩ : ByteArray))).setCell ⟨gb695, 1, none⟩ (.int .i64 0)) w.heap.size (fun _ => True) u7 x7_30) := ⟨ur <| Kd.R_mono (Kd.R_far (p := ⟨gb695, 1, none⟩) (Kd.R_far (p := ⟨gb695, 0, none⟩) (Kd.R_types HO_7.out BK695.out (by decide)) (fun _ hk => hk.2) (.string (⟨#[]⟩ : ByteArray))) (fun _ hk => hk.2) (.int .i64 0)) (fun _ hk => trivial)⟩
       have n2_ : Aside0 (((w79.setCell ⟨gb695, 0, none⟩ (.string (⟨#[]⟩ : ByteArray))).setCell ⟨gb695, 1, none⟩ (.int .i64 0)).heap[gb661]? = some (.cells #[.slice (some ad673) l0_0.length c0_0, .slice A0_1 l0_1.length c0_1] 25 (0, 0))) := ⟨by (with_reducible repeat (first | refine blk_drewN ?_ _ | refine blk_drew ?_ | refine blk_alloc ?_ _)); refine blk_far ?_ NB661_695.out _; (with_reducible repeat (first | refine blk_drewN ?_ _ | refine blk_drew ?_ | refine blk_alloc ?_ _)); refine blk_far ?_ NB661_695.out _; (with_reducible repeat (first | refine blk_drewN ?_ _ | refine blk_drew ?_ | refine blk_alloc ?_ _)); exact BK661.out⟩
       have n3_ : Aside0 (((w79.setCell ⟨gb695, 0, none⟩ (.string (⟨#[]⟩ : ByteArray))).setCell ⟨gb695, 1, none⟩ (.int .i64 0)).heap[gb674]? = some (.cells #[.string ((rd_T27 l0_0 x4_2).f0), .int .i64 ((rd_T27 l0_0 x4_2).f1)] 27 (0, 0))) := ⟨by (with_reducible repeat (first | refine blk_drewN ?_ _ | refine blk_drew ?_ | refine blk_alloc ?_ _)); refine blk_far ?_ NB674_695.out _; (with_reducible repeat (first | refine blk_drewN ?_ _ | refine blk_drew ?_ | refine blk_alloc ?_ _)); refine blk_far ?_ NB674_695.out _; (with_reducible repeat (first | refine blk_drewN ?_ _ | refine blk_drew ?_ | refine blk_alloc ?_ _)); exact BK674.out⟩
       have n4_ : Aside0 (((w79.setCell ⟨gb695, 0, none⟩ (.string (⟨#[]⟩ : ByteArray))).setCell ⟨gb695, 1, none⟩ (.int .i64 0)).heap[gb694]? = some (.cells #[.string t691, .int .i64 t692] 27 (0, 0))) := ⟨by (with_reducible repeat (first | refine blk_drewN ?_ _ | refine blk_drew ?_ | refine blk_alloc ?_ _)); refine blk_far ?_ NB694_695.out _; (with_reducible repeat (first | refine blk_drewN ?_ _ | refine blk_drew ?_ | refine blk_alloc ?_ _)); refine blk_far ?_ NB694_695.out _; (with_reducible repeat (first | refine blk_drewN ?_ _ | refine blk_drew ?_ | refine blk_alloc ?_ _)); exact BK694.out⟩
       have n5_ : Aside0 (((w79.setCell ⟨gb695, 0, none⟩ (.string (⟨#[]⟩ : ByteArray))).setCell ⟨gb695, 1, none⟩ (.int .i64 0)).heap[gb695]? = some (.cells #[.string (⟨#[]⟩ : ByteArray), .int .i64 0] 27 (0, 0))) := ⟨by (with_reducible repeat (first | refine blk_drewN ?_ _ | refine blk_drew ?_ | refine blk_alloc ?_ _)); refine blk_put (cs := #[.string (⟨#[]⟩ : ByteArray), .int .i64 0]) ?_ 1 _ rfl; (with_reducible repeat (first | refine blk_drewN ?_ _ | refine blk_drew ?_ | refine blk_alloc ?_ _)); refine blk_put (cs := #[.string (⟨#[]⟩ : ByteArray), .int .i64 0]) ?_ 0 _ rfl; (with_reducible repeat (first | refine blk_drewN ?_ _ | refine blk_drew ?_ | refine blk_alloc ?_ _)); exact BK695.out⟩
       have n6_ : Aside0 (Below w.heap.size w ((w79.setCell ⟨gb695, 0, none⟩ (.string (⟨#[]⟩ : ByteArray))).setCell ⟨gb695, 1, none⟩ (.int .i64 0))) := ⟨by repeat with_reducible first | exact HB.out | apply b1 | apply b2 | apply b3 | refine b4 ?_ GE661.out | refine b4 ?_ GE674.out | refine b4 ?_ GE694.out | refine b4 ?_ GE695.out⟩
       (try clear HO_3)
       (try clear HO_7)
       (try clear BK661)
       (try clear BK674)
       (try clear BK694)
       (try clear BK695)
       (try clear HB)
       generalize ((w79.setCell ⟨gb695, 0, none⟩ (.string (⟨#[]⟩ : ByteArray))).setCell ⟨gb695, 1, none⟩ (.int .i64 0)) = w92 at n0_ n1_ n2_ n3_ n4_ n5_ n6_ ⊢
       have HO_3 := n0_
       have HO_7 := n1_
       have BK661 := n2_
       have BK674 := n3_
       have BK694 := n4_
       have BK695 := n5_
       have HB := n6_
       clear n0_ n1_ n2_ n3_ n4_ n5_ n6_
       have n0_ := ak (Kd.R_drew HO_3.out)
       have n1_ := ak (Kd.R_drew HO_7.out)
       have n2_ := ak (blk_drew BK661.out)
       have n3_ := ak (blk_drew BK674.out)
       have n4_ := ak (blk_drew BK694.out)
       have n5_ := ak (blk_drew BK695.out)
       have n6_ := ak (below_drew1 HB.out)
       clear HO_3
       clear HO_7
       clear BK661
       clear BK674
       clear BK694
       clear BK695
       clear HB
       have HO_3 := n0_
       have HO_7 := n1_
       have BK661 := n2_
       have BK674 := n3_
       have BK694 := n4_
       have BK695 := n5_
       have HB := n6_
       clear n0_ n1_ n2_ n3_ n4_ n5_ n6_
       have p696 : 0 ≤ (x14_9 : Int) := of_decide_eq_true (by first | (with_reducible assumption) | assumption)
       have q696 : x14_9 < (x3_7.length : Int) := of_decide_eq_true (by first | (with_reducible assumption) | assumption)
       obtain ⟨ad696, e696, hx696_0⟩ := Kd.at_int (Kd.R_reads' HO_3.out).2.2 x14_9 p696 q696
       obtain rfl : ad681 = ad696 := (by injection e696)
       replace p696 := eq_true p696
       replace q696 := eq_true q696
       refine start_ (n := 21) (S := fun w' => w'.cell? (ad681.add (x14_9).toNat) = some (.int .i64 (rd x3_7 x14_9))) (ds := []) #[false, false, false, false, false, false, false, false, false, false, false, false, false, false, false, false, false, false, false, false, false] (by kernel_rfl) rfl rfl (hx696_0) (fun hHeld => ?_); refine with_tabW herbariumlaw1_BitsExact.tab33 herbariumlaw1_BitsExact.bits33 (fun HT_ HW_ => ?_)
       generalize w92.drew = w93 at HO_3 HO_7 BK661 BK674 BK694 BK695 HB hx696_0 hHeld ⊢
       refine pure_ (i := 0) (N := some 133) (v := ?_) (a' := ?_) #[true, false, false, false, false, false, false, false, false, false, false, false, false, false, false, false, false, false, false, false, false] rfl rfl (any_of HT_.out (by kernel_rfl)) (fun _ _ _ h => h) (Or.inl ⟨by rfl, ?_⟩) ?_ ?_
       rotate_left
       · intro w'
         go_simp
         with_reducible rfl
       rotate_left
       · simp only [Act.put, s1, s2, s3, i64_w, i32_w]
         rfl
       refine pure_ (i := 1) (N := some 134) (v := ?_) (a' := ?_) #[true, true, false, false, false, false, false, false, false, false, false, false, false, false, false, false, false, false, false, false, false] rfl rfl (any_of HT_.out (by kernel_rfl)) (fun _ _ _ h => h) (Or.inl ⟨by rfl, ?_⟩) ?_ ?_
       rotate_left
       · intro w'
         go_simp
         with_reducible rfl
       rotate_left
       · simp only [Act.put, s1, s2, s3, i64_w, i32_w]
         rfl
       refine pure_ (i := 2) (N := some 135) (v := ?_) (a' := ?_) #[true, true, true, false, false, false, false, false, false, false, false, false, false, false, false, false, false, false, false, false, false] rfl rfl (any_of HT_.out (by kernel_rfl)) (fun _ _ _ h => h) (Or.inl ⟨by rfl, ?_⟩) ?_ ?_
       rotate_left
       · intro w'
         go_simp
         with_reducible rfl
       rotate_left
       · simp only [Act.put, s1, s2, s3, i64_w, i32_w]
         rfl
       refine pure_ (i := 3) (N := some 136) (v := ?_) (a' := ?_) #[true, true, true, true, false, false, false, false, false, false, false, false, false, false, false, false, false, false, false, false, false] rfl rfl (any_of HT_.out (by kernel_rfl)) (fun _ _ _ h => h) (Or.inl ⟨by rfl, ?_⟩) ?_ ?_
       rotate_left
       · intro w'
         go_simp
         with_reducible rfl
       rotate_left
       · simp only [Act.put, s1, s2, s3, i64_w, i32_w]
         rfl
       refine pure_ (i := 4) (N := some 137) (v := ?_) (a' := ?_) #[true, true, true, true, true, false, false, false, false, false, false, false, false, false, false, false, false, false, false, false, false] rfl rfl (any_of HT_.out (by kernel_rfl)) (fun _ _ _ h => h) (Or.inl ⟨by rfl, ?_⟩) ?_ ?_
       rotate_left
       · intro w'
         go_simp
         with_reducible rfl
       rotate_left
       · simp only [Act.put, s1, s2, s3, i64_w, i32_w]
         rfl
       refine take_ (i := 5) (N := some 138) (v := ?_) (a' := ?_) #[true, true, true, true, true, true, false, false, false, false, false, false, false, false, false, false, false, false, false, false, false] rfl rfl (take_ofW HT_.out HW_.out (by kernel_rfl)) (fun _ _ _ h => h) (Or.inl ⟨by rfl, ?_⟩) hHeld ?_ ?_
       rotate_left
       · intro w' s0
         go_simp
         with_reducible rfl
       rotate_left
       · simp only [Act.put, s1, s2, s3, i64_w, i32_w]
         rfl
       refine one_ (i := 6) (N := some 139) #[true, true, true, true, true, true, true, false, false, false, false, false, false, false, false, false, false, false, false, false, false] rfl rfl (one_of HT_.out (by kernel_rfl)) (by decide) (fun K hK => ?_)
       refine goes_ Try.func53 (by kernel_rfl) rfl #[.int .i64 (rd x3_7 x14_9), .int .i64 30] (by rfl) rfl rfl (by (try simp only [List.map_toArray, List.map_cons, List.map_nil]); first | done | rfl | (simp only [List.length_drop, List.length_take]; rfl)) ?_
       with_reducible refine (herbariumref0_Num.calls (rd x3_7 x14_9) 30 false _ A85.out).mono ?_
       rintro e w' ⟨rfl, ⟨nd, rfl⟩⟩
       refine ⟨_, rfl, ?_⟩
       refine hK.out _ _ (hHeld) (fun hHeld => ?_)
       clear hK K
       refine norm_ (a' := ?_) ?_ ?_
       rotate_left
       · show Act.put _ (some 139) _ = _
         simp only [Act.put, s1, s2, s3, i64_w, i32_w]
         rfl
       refine pure_ (i := 7) (N := some 140) (v := ?_) (a' := ?_) #[true, true, true, true, true, true, true, true, false, false, false, false, false, false, false, false, false, false, false, false, false] rfl rfl (any_of HT_.out (by kernel_rfl)) (fun _ _ _ h => h) (Or.inl ⟨by rfl, ?_⟩) ?_ ?_
       rotate_left
       · intro w'
         go_simp
         with_reducible rfl
       rotate_left
       · simp only [Act.put, s1, s2, s3, i64_w, i32_w]
         rfl
       refine pure_ (i := 8) (N := some 141) (v := ?_) (a' := ?_) #[true, true, true, true, true, true, true, true, true, false, false, false, false, false, false, false, false, false, false, false, false] rfl rfl (any_of HT_.out (by kernel_rfl)) (fun _ _ _ h => h) (Or.inl ⟨by rfl, ?_⟩) ?_ ?_
       rotate_left
       · intro w'
         go_simp
         with_reducible rfl
       rotate_left
       · simp only [Act.put, s1, s2, s3, i64_w, i32_w]
         rfl
       refine pure_ (i := 9) (N := some 142) (v := undef) (a' := ?_) #[true, true, true, true, true, true, true, true, true, true, false, false, false, false, false, false, false, false, false, false, false] rfl rfl (any_of HT_.out (by kernel_rfl)) (fun _ _ _ h => h) (Or.inr ⟨by rfl, rfl⟩) ?_ ?_
       rotate_left
       · simp only [Act.put, s1, s2, s3, i64_w, i32_w]
         rfl
       refine pure_ (i := 10) (N := some 143) (v := undef) (a' := ?_) #[true, true, true, true, true, true, true, true, true, true, true, false, false, false, false, false, false, false, false, false, false] rfl rfl (any_of HT_.out (by kernel_rfl)) (fun _ _ _ h => h) (Or.inr ⟨by rfl, rfl⟩) ?_ ?_
       rotate_left
       · simp only [Act.put, s1, s2, s3, i64_w, i32_w]
         rfl
       refine pure_ (i := 11) (N := some 144) (v := undef) (a' := ?_) #[true, true, true, true, true, true, true, true, true, true, true, true, false, false, false, false, false, false, false, false, false] rfl rfl (any_of HT_.out (by kernel_rfl)) (fun _ _ _ h => h) (Or.inr ⟨by rfl, rfl⟩) ?_ ?_
       rotate_left
       · simp only [Act.put, s1, s2, s3, i64_w, i32_w]
         rfl
       refine pure_ (i := 12) (N := some 145) (v := undef) (a' := ?_) #[true, true, true, true, true, true, true, true, true, true, true, true, true, false, false, false, false, false, false, false, false] rfl rfl (any_of HT_.out (by kernel_rfl)) (fun _ _ _ h => h) (Or.inr ⟨by rfl, rfl⟩) ?_ ?_
       rotate_left
       · simp only [Act.put, s1, s2, s3, i64_w, i32_w]
         rfl
       refine pure_ (i := 13) (N := some 146) (v := undef) (a' := ?_) #[true, true, true, true, true, true, true, true, true, true, true, true, true, true, false, false, false, false, false, false, false] rfl rfl (any_of HT_.out (by kernel_rfl)) (fun _ _ _ h => h) (Or.inr ⟨by rfl, rfl⟩) ?_ ?_
       rotate_left
       · simp only [Act.put, s1, s2, s3, i64_w, i32_w]
         rfl
       refine pure_ (i := 14) (N := some 147) (v := undef) (a' := ?_) #[true, true, true, true, true, true, true, true, true, true, true, true, true, true, true, false, false, false, false, false, false] rfl rfl (any_of HT_.out (by kernel_rfl)) (fun _ _ _ h => h) (Or.inr ⟨by rfl, rfl⟩) ?_ ?_
       rotate_left
       · simp only [Act.put, s1, s2, s3, i64_w, i32_w]
         rfl
       refine pure_ (i := 15) (N := some 148) (v := undef) (a' := ?_) #[true, true, true, true, true, true, true, true, true, true, true, true, true, true, true, true, false, false, false, false, false] rfl rfl (any_of HT_.out (by kernel_rfl)) (fun _ _ _ h => h) (Or.inr ⟨by rfl, rfl⟩) ?_ ?_
       rotate_left
       · simp only [Act.put, s1, s2, s3, i64_w, i32_w]
         rfl
       refine pure_ (i := 16) (N := some 149) (v := undef) (a' := ?_) #[true, true, true, true, true, true, true, true, true, true, true, true, true, true, true, true, true, false, false, false, false] rfl rfl (any_of HT_.out (by kernel_rfl)) (fun _ _ _ h => h) (Or.inr ⟨by rfl, rfl⟩) ?_ ?_
       rotate_left
       · simp only [Act.put, s1, s2, s3, i64_w, i32_w]
         rfl
       refine pure_ (i := 17) (N := some 150) (v := undef) (a' := ?_) #[true, true, true, true, true, true, true, true, true, true, true, true, true, true, true, true, true, true, false, false, false] rfl rfl (any_of HT_.out (by kernel_rfl)) (fun _ _ _ h => h) (Or.inr ⟨by rfl, rfl⟩) ?_ ?_
       rotate_left
       · simp only [Act.put, s1, s2, s3, i64_w, i32_w]
         rfl
       refine pure_ (i := 18) (N := some 151) (v := undef) (a' := ?_) #[true, true, true, true, true, true, true, true, true, true, true, true, true, true, true, true, true, true, true, false, false] rfl rfl (any_of HT_.out (by kernel_rfl)) (fun _ _ _ h => h) (Or.inr ⟨by rfl, rfl⟩) ?_ ?_
       rotate_left
       · simp only [Act.put, s1, s2, s3, i64_w, i32_w]
         rfl
       refine pure_ (i := 19) (N := some 152) (v := undef) (a' := ?_) #[true, true, true, true, true, true, true, true, true, true, true, true, true, true, true, true, true, true, true, true, false] rfl rfl (any_of HT_.out (by kernel_rfl)) (fun _ _ _ h => h) (Or.inr ⟨by rfl, rfl⟩) ?_ ?_
       rotate_left
       · simp only [Act.put, s1, s2, s3, i64_w, i32_w]
         rfl
       refine pure_ (i := 20) (N := some 153) (v := ?_) (a' := ?_) #[true, true, true, true, true, true, true, true, true, true, true, true, true, true, true, true, true, true, true, true, true] rfl rfl (any_of HT_.out (by kernel_rfl)) (fun _ _ _ h => h) (Or.inl ⟨by rfl, ?_⟩) ?_ ?_
       rotate_left
       · intro w'
         go_simp
         with_reducible rfl
       rotate_left
       · simp only [Act.put, s1, s2, s3, i64_w, i32_w]
         rfl
       refine done_ (done_of HT_.out (by kernel_rfl)) ?_
       try go_wp2
       go_meet
       case rel => exact ⟨_, (false), (by first | rfl | (simp; done) | (simp [*]; done)), H', ⟨by have := HJ7.out; have := HK2.out; have := HJ19.out; have := HJ30.out; have := HK5.out; have := HJ46.out; have := HJ54.out; have := HJ62.out; have := HK9.out; first | omega | exact Nat.le_refl _⟩, ⟨ur <| HO_3.out⟩, ⟨ur <| HO_7.out⟩, ⟨ub BK661.out⟩, ⟨ub BK674.out⟩, ⟨ub BK694.out⟩, ⟨ub BK695.out⟩, ⟨by repeat with_reducible first | exact HB.out | apply b1 | apply b2 | apply b3 | refine b4 ?_ GE661.out | refine b4 ?_ GE674.out | refine b4 ?_ GE694.out | refine b4 ?_ GE695.out⟩⟩
     subst c86
     have H1 : (if 0 ≤ (rd x3_7 x14_9) then ((herbariumref0_Num.f (rd x3_7 x8_5) (wrap64 ((shl .i64 1 (rd x3_7 x14_9)) - 1))).bind fun t700 => (herbariumlaw1_BitsExact.j9 k9 x3_7 x4_2 true x7_30 x8_5 x14_9 t693 1 t700 l0_0 l0_1 ((rd_T27 l0_0 x4_2).f0) ((rd_T27 l0_0 x4_2).f1) t691 t692 (⟨#[]⟩ : ByteArray) 0)) else (none)) = some true := by rw [if_pos rfl] at H; exact H
     clear H
     have H := H1
     clear H1
     by_cases c87 : 0 ≤ (rd x3_7 x14_9)
     rotate_left
     · rw [if_neg c87] at H
       exact absurd H (by simp)
     rw [if_pos c87] at H
     have c87b0 := eq_true c87
     have c87b1 : decide (0 ≤ (rd x3_7 x14_9)) = true := decide_eq_true c87
     clear c87
     obtain ⟨ji88, hji88⟩ : ∃ j_ : Int, (shl .i64 1 (rd x3_7 x14_9)) = j_ := ⟨_, rfl⟩
     replace H : ((herbariumref0_Num.f (rd x3_7 x8_5) (wrap64 ((ji88) - 1))).bind fun t700 => (herbariumlaw1_BitsExact.j9 k9 x3_7 x4_2 true x7_30 x8_5 x14_9 t693 1 t700 l0_0 l0_1 ((rd_T27 l0_0 x4_2).f0) ((rd_T27 l0_0 x4_2).f1) t691 t692 (⟨#[]⟩ : ByteArray) 0)) = some true := by first | (rw [hji88] at H; exact H) | (simp only [hji88] at H ⊢; exact H)
     (try rw [hji88] at A85)
     have hji88_ : (IntKind.i64.wrap (1 * 2 ^ min (rd x3_7 x14_9).toNat 64)) = ji88 := hji88
     have hji88z : (rd x3_7 x14_9) ≤ 64 → (IntKind.i64.wrap (1 * 2 ^ (rd x3_7 x14_9).toNat)) = ji88 := shl_small hji88
     have hji88u : (IntKind.i64.wrap (2 ^ min (rd x3_7 x14_9).toNat 64)) = ji88 := by have h_ := hji88_; rw [Int.one_mul] at h_; exact h_
     have hji88v : (rd x3_7 x14_9) ≤ 64 → (IntKind.i64.wrap (2 ^ (rd x3_7 x14_9).toNat)) = ji88 := fun hle_ => by have h_ := hji88z hle_; rw [Int.one_mul] at h_; exact h_
     have hji88y : (wrap64 (1 * 2 ^ min (rd x3_7 x14_9).toNat 64)) = ji88 := (i64_w _).symm.trans hji88_
     have hji88x : (rd x3_7 x14_9) ≤ 64 → (wrap64 (1 * 2 ^ (rd x3_7 x14_9).toNat)) = ji88 := fun h_ => (i64_w _).symm.trans (hji88z h_)
     replace H := Option.bind_eq_some_iff.mp H
     obtain ⟨t700, A890, H⟩ := H
     try dsimp only at H
     have A89 := ak A890
     clear A890
     have H' := ak H
     clear H
     try go_wp2
     have n0_ : Aside0 (Kd.R (Kd.int .i64) 3 ((w79.setCell ⟨gb695, 0, none⟩ (.string (⟨#[]⟩ : ByteArray))).setCell ⟨gb695, 1, none⟩ (.int .i64 0)) w.heap.size (fun _ => True) (.slice (some ad681) x3_7.length co48) x3_7) := ⟨ur <| Kd.R_mono (Kd.R_far (p := ⟨gb695, 1, none⟩) (Kd.R_far (p := ⟨gb695, 0, none⟩) (Kd.R_types HO_3.out BK695.out (by decide)) (fun _ hk => hk.2) (.string (⟨#[]⟩ : ByteArray))) (fun _ hk => hk.2) (.int .i64 0)) (fun _ hk => trivial)⟩
     have n1_ : Aside0 (Kd.R (Kd.int .u8) 5 ((w79.setCell ⟨gb695, 0, none⟩ (.string (⟨#[]⟩ : ByteArray))).setCell ⟨gb695, 1, none⟩ (.int .i64 0)) w.heap.size (fun _ => True) u7 x7_30) := ⟨ur <| Kd.R_mono (Kd.R_far (p := ⟨gb695, 1, none⟩) (Kd.R_far (p := ⟨gb695, 0, none⟩) (Kd.R_types HO_7.out BK695.out (by decide)) (fun _ hk => hk.2) (.string (⟨#[]⟩ : ByteArray))) (fun _ hk => hk.2) (.int .i64 0)) (fun _ hk => trivial)⟩
     have n2_ : Aside0 (((w79.setCell ⟨gb695, 0, none⟩ (.string (⟨#[]⟩ : ByteArray))).setCell ⟨gb695, 1, none⟩ (.int .i64 0)).heap[gb661]? = some (.cells #[.slice (some ad673) l0_0.length c0_0, .slice A0_1 l0_1.length c0_1] 25 (0, 0))) := ⟨by (with_reducible repeat (first | refine blk_drewN ?_ _ | refine blk_drew ?_ | refine blk_alloc ?_ _)); refine blk_far ?_ NB661_695.out _; (with_reducible repeat (first | refine blk_drewN ?_ _ | refine blk_drew ?_ | refine blk_alloc ?_ _)); refine blk_far ?_ NB661_695.out _; (with_reducible repeat (first | refine blk_drewN ?_ _ | refine blk_drew ?_ | refine blk_alloc ?_ _)); exact BK661.out⟩
     have n3_ : Aside0 (((w79.setCell ⟨gb695, 0, none⟩ (.string (⟨#[]⟩ : ByteArray))).setCell ⟨gb695, 1, none⟩ (.int .i64 0)).heap[gb674]? = some (.cells #[.string ((rd_T27 l0_0 x4_2).f0), .int .i64 ((rd_T27 l0_0 x4_2).f1)] 27 (0, 0))) := ⟨by (with_reducible repeat (first | refine blk_drewN ?_ _ | refine blk_drew ?_ | refine blk_alloc ?_ _)); refine blk_far ?_ NB674_695.out _; (with_reducible repeat (first | refine blk_drewN ?_ _ | refine blk_drew ?_ | refine blk_alloc ?_ _)); refine blk_far ?_ NB674_695.out _; (with_reducible repeat (first | refine blk_drewN ?_ _ | refine blk_drew ?_ | refine blk_alloc ?_ _)); exact BK674.out⟩
     have n4_ : Aside0 (((w79.setCell ⟨gb695, 0, none⟩ (.string (⟨#[]⟩ : ByteArray))).setCell ⟨gb695, 1, none⟩ (.int .i64 0)).heap[gb694]? = some (.cells #[.string t691, .int .i64 t692] 27 (0, 0))) := ⟨by (with_reducible repeat (first | refine blk_drewN ?_ _ | refine blk_drew ?_ | refine blk_alloc ?_ _)); refine blk_far ?_ NB694_695.out _; (with_reducible repeat (first | refine blk_drewN ?_ _ | refine blk_drew ?_ | refine blk_alloc ?_ _)); refine blk_far ?_ NB694_695.out _; (with_reducible repeat (first | refine blk_drewN ?_ _ | refine blk_drew ?_ | refine blk_alloc ?_ _)); exact BK694.out⟩
     have n5_ : Aside0 (((w79.setCell ⟨gb695, 0, none⟩ (.string (⟨#[]⟩ : ByteArray))).setCell ⟨gb695, 1, none⟩ (.int .i64 0)).heap[gb695]? = some (.cells #[.string (⟨#[]⟩ : ByteArray), .int .i64 0] 27 (0, 0))) := ⟨by (with_reducible repeat (first | refine blk_drewN ?_ _ | refine blk_drew ?_ | refine blk_alloc ?_ _)); refine blk_put (cs := #[.string (⟨#[]⟩ : ByteArray), .int .i64 0]) ?_ 1 _ rfl; (with_reducible repeat (first | refine blk_drewN ?_ _ | refine blk_drew ?_ | refine blk_alloc ?_ _)); refine blk_put (cs := #[.string (⟨#[]⟩ : ByteArray), .int .i64 0]) ?_ 0 _ rfl; (with_reducible repeat (first | refine blk_drewN ?_ _ | refine blk_drew ?_ | refine blk_alloc ?_ _)); exact BK695.out⟩
     have n6_ : Aside0 (Below w.heap.size w ((w79.setCell ⟨gb695, 0, none⟩ (.string (⟨#[]⟩ : ByteArray))).setCell ⟨gb695, 1, none⟩ (.int .i64 0))) := ⟨by repeat with_reducible first | exact HB.out | apply b1 | apply b2 | apply b3 | refine b4 ?_ GE661.out | refine b4 ?_ GE674.out | refine b4 ?_ GE694.out | refine b4 ?_ GE695.out⟩
     (try clear HO_3)
     (try clear HO_7)
     (try clear BK661)
     (try clear BK674)
     (try clear BK694)
     (try clear BK695)
     (try clear HB)
     generalize ((w79.setCell ⟨gb695, 0, none⟩ (.string (⟨#[]⟩ : ByteArray))).setCell ⟨gb695, 1, none⟩ (.int .i64 0)) = w90 at n0_ n1_ n2_ n3_ n4_ n5_ n6_ ⊢
     have HO_3 := n0_
     have HO_7 := n1_
     have BK661 := n2_
     have BK674 := n3_
     have BK694 := n4_
     have BK695 := n5_
     have HB := n6_
     clear n0_ n1_ n2_ n3_ n4_ n5_ n6_
     have n0_ := ak (Kd.R_drew HO_3.out)
     have n1_ := ak (Kd.R_drew HO_7.out)
     have n2_ := ak (blk_drew BK661.out)
     have n3_ := ak (blk_drew BK674.out)
     have n4_ := ak (blk_drew BK694.out)
     have n5_ := ak (blk_drew BK695.out)
     have n6_ := ak (below_drew1 HB.out)
     clear HO_3
     clear HO_7
     clear BK661
     clear BK674
     clear BK694
     clear BK695
     clear HB
     have HO_3 := n0_
     have HO_7 := n1_
     have BK661 := n2_
     have BK674 := n3_
     have BK694 := n4_
     have BK695 := n5_
     have HB := n6_
     clear n0_ n1_ n2_ n3_ n4_ n5_ n6_
     have p696 : 0 ≤ (x14_9 : Int) := of_decide_eq_true (by first | (with_reducible assumption) | assumption)
     have q696 : x14_9 < (x3_7.length : Int) := of_decide_eq_true (by first | (with_reducible assumption) | assumption)
     obtain ⟨ad696, e696, hx696_0⟩ := Kd.at_int (Kd.R_reads' HO_3.out).2.2 x14_9 p696 q696
     obtain rfl : ad681 = ad696 := (by injection e696)
     replace p696 := eq_true p696
     replace q696 := eq_true q696
     have p698 : 0 ≤ (x8_5 : Int) := of_decide_eq_true (by first | (with_reducible assumption) | assumption)
     have q698 : x8_5 < (x3_7.length : Int) := of_decide_eq_true (by first | (with_reducible assumption) | assumption)
     obtain ⟨ad698, e698, hx698_0⟩ := Kd.at_int (Kd.R_reads' HO_3.out).2.2 x8_5 p698 q698
     obtain rfl : ad681 = ad698 := (by injection e698)
     replace p698 := eq_true p698
     replace q698 := eq_true q698
     have p699 : 0 ≤ (x14_9 : Int) := of_decide_eq_true (by first | (with_reducible assumption) | assumption)
     have q699 : x14_9 < (x3_7.length : Int) := of_decide_eq_true (by first | (with_reducible assumption) | assumption)
     obtain ⟨ad699, e699, hx699_0⟩ := Kd.at_int (Kd.R_reads' HO_3.out).2.2 x14_9 p699 q699
     obtain rfl : ad681 = ad699 := (by injection e699)
     replace p699 := eq_true p699
     replace q699 := eq_true q699
     refine start_ (n := 21) (S := fun w' => w'.cell? (ad681.add (x14_9).toNat) = some (.int .i64 (rd x3_7 x14_9)) ∧ w'.cell? (ad681.add (x8_5).toNat) = some (.int .i64 (rd x3_7 x8_5)) ∧ w'.cell? (ad681.add (x14_9).toNat) = some (.int .i64 (rd x3_7 x14_9))) (ds := []) #[false, false, false, false, false, false, false, false, false, false, false, false, false, false, false, false, false, false, false, false, false] (by kernel_rfl) rfl rfl ⟨hx696_0, hx698_0, hx699_0⟩ (fun hHeld => ?_); refine with_tabW herbariumlaw1_BitsExact.tab33 herbariumlaw1_BitsExact.bits33 (fun HT_ HW_ => ?_)
     generalize w90.drew = w91 at HO_3 HO_7 BK661 BK674 BK694 BK695 HB hx696_0 hx698_0 hx699_0 hHeld ⊢
     refine pure_ (i := 0) (N := some 133) (v := ?_) (a' := ?_) #[true, false, false, false, false, false, false, false, false, false, false, false, false, false, false, false, false, false, false, false, false] rfl rfl (any_of HT_.out (by kernel_rfl)) (fun _ _ _ h => h) (Or.inl ⟨by rfl, ?_⟩) ?_ ?_
     rotate_left
     · intro w'
       go_simp
       with_reducible rfl
     rotate_left
     · simp only [Act.put, s1, s2, s3, i64_w, i32_w]
       rfl
     refine pure_ (i := 1) (N := some 134) (v := ?_) (a' := ?_) #[true, true, false, false, false, false, false, false, false, false, false, false, false, false, false, false, false, false, false, false, false] rfl rfl (any_of HT_.out (by kernel_rfl)) (fun _ _ _ h => h) (Or.inl ⟨by rfl, ?_⟩) ?_ ?_
     rotate_left
     · intro w'
       go_simp
       with_reducible rfl
     rotate_left
     · simp only [Act.put, s1, s2, s3, i64_w, i32_w]
       rfl
     refine pure_ (i := 2) (N := some 135) (v := ?_) (a' := ?_) #[true, true, true, false, false, false, false, false, false, false, false, false, false, false, false, false, false, false, false, false, false] rfl rfl (any_of HT_.out (by kernel_rfl)) (fun _ _ _ h => h) (Or.inl ⟨by rfl, ?_⟩) ?_ ?_
     rotate_left
     · intro w'
       go_simp
       with_reducible rfl
     rotate_left
     · simp only [Act.put, s1, s2, s3, i64_w, i32_w]
       rfl
     refine pure_ (i := 3) (N := some 136) (v := ?_) (a' := ?_) #[true, true, true, true, false, false, false, false, false, false, false, false, false, false, false, false, false, false, false, false, false] rfl rfl (any_of HT_.out (by kernel_rfl)) (fun _ _ _ h => h) (Or.inl ⟨by rfl, ?_⟩) ?_ ?_
     rotate_left
     · intro w'
       go_simp
       with_reducible rfl
     rotate_left
     · simp only [Act.put, s1, s2, s3, i64_w, i32_w]
       rfl
     refine pure_ (i := 4) (N := some 137) (v := ?_) (a' := ?_) #[true, true, true, true, true, false, false, false, false, false, false, false, false, false, false, false, false, false, false, false, false] rfl rfl (any_of HT_.out (by kernel_rfl)) (fun _ _ _ h => h) (Or.inl ⟨by rfl, ?_⟩) ?_ ?_
     rotate_left
     · intro w'
       go_simp
       with_reducible rfl
     rotate_left
     · simp only [Act.put, s1, s2, s3, i64_w, i32_w]
       rfl
     refine take_ (i := 5) (N := some 138) (v := ?_) (a' := ?_) #[true, true, true, true, true, true, false, false, false, false, false, false, false, false, false, false, false, false, false, false, false] rfl rfl (take_ofW HT_.out HW_.out (by kernel_rfl)) (fun _ _ _ h => h) (Or.inl ⟨by rfl, ?_⟩) hHeld ?_ ?_
     rotate_left
     · rintro w' ⟨s0, s1, s2⟩
       go_simp
       with_reducible rfl
     rotate_left
     · simp only [Act.put, s1, s2, s3, i64_w, i32_w]
       rfl
     refine one_ (i := 6) (N := some 139) #[true, true, true, true, true, true, true, false, false, false, false, false, false, false, false, false, false, false, false, false, false] rfl rfl (one_of HT_.out (by kernel_rfl)) (by decide) (fun K hK => ?_)
     refine goes_ Try.func53 (by kernel_rfl) rfl #[.int .i64 (rd x3_7 x14_9), .int .i64 30] (by rfl) rfl rfl (by (try simp only [List.map_toArray, List.map_cons, List.map_nil]); first | done | rfl | (simp only [List.length_drop, List.length_take]; rfl)) ?_
     with_reducible refine (herbariumref0_Num.calls (rd x3_7 x14_9) 30 true _ A85.out).mono ?_
     rintro e w' ⟨rfl, ⟨nd, rfl⟩⟩
     refine ⟨_, rfl, ?_⟩
     refine hK.out _ _ ⟨hHeld.1, hHeld.2.1, hHeld.2.2⟩ (fun hHeld => ?_)
     clear hK K
     refine norm_ (a' := ?_) ?_ ?_
     rotate_left
     · show Act.put _ (some 139) _ = _
       simp only [Act.put, s1, s2, s3, i64_w, i32_w]
       rfl
     refine pure_ (i := 7) (N := some 140) (v := ?_) (a' := ?_) #[true, true, true, true, true, true, true, true, false, false, false, false, false, false, false, false, false, false, false, false, false] rfl rfl (any_of HT_.out (by kernel_rfl)) (fun _ _ _ h => h) (Or.inl ⟨by rfl, ?_⟩) ?_ ?_
     rotate_left
     · intro w'
       go_simp
       with_reducible rfl
     rotate_left
     · simp only [Act.put, s1, s2, s3, i64_w, i32_w]
       rfl
     refine pure_ (i := 8) (N := some 141) (v := ?_) (a' := ?_) #[true, true, true, true, true, true, true, true, true, false, false, false, false, false, false, false, false, false, false, false, false] rfl rfl (any_of HT_.out (by kernel_rfl)) (fun _ _ _ h => h) (Or.inl ⟨by rfl, ?_⟩) ?_ ?_
     rotate_left
     · intro w'
       go_simp
       with_reducible rfl
     rotate_left
     · simp only [Act.put, s1, s2, s3, i64_w, i32_w]
       rfl
     refine pure_ (i := 9) (N := some 142) (v := ?_) (a' := ?_) #[true, true, true, true, true, true, true, true, true, true, false, false, false, false, false, false, false, false, false, false, false] rfl rfl (any_of HT_.out (by kernel_rfl)) (fun _ _ _ h => h) (Or.inl ⟨by rfl, ?_⟩) ?_ ?_
     rotate_left
     · intro w'
       go_simp
       with_reducible rfl
     rotate_left
     · simp only [Act.put, s1, s2, s3, i64_w, i32_w]
       rfl
     refine pure_ (i := 10) (N := some 143) (v := ?_) (a' := ?_) #[true, true, true, true, true, true, true, true, true, true, true, false, false, false, false, false, false, false, false, false, false] rfl rfl (any_of HT_.out (by kernel_rfl)) (fun _ _ _ h => h) (Or.inl ⟨by rfl, ?_⟩) ?_ ?_
     rotate_left
     · intro w'
       go_simp
       with_reducible rfl
     rotate_left
     · simp only [Act.put, s1, s2, s3, i64_w, i32_w]
       rfl
     refine pure_ (i := 11) (N := some 144) (v := ?_) (a' := ?_) #[true, true, true, true, true, true, true, true, true, true, true, true, false, false, false, false, false, false, false, false, false] rfl rfl (any_of HT_.out (by kernel_rfl)) (fun _ _ _ h => h) (Or.inl ⟨by rfl, ?_⟩) ?_ ?_
     rotate_left
     · intro w'
       go_simp
       with_reducible rfl
     rotate_left
     · simp only [Act.put, s1, s2, s3, i64_w, i32_w]
       rfl
     refine pure_ (i := 13) (N := some 146) (v := ?_) (a' := ?_) #[true, true, true, true, true, true, true, true, true, true, true, true, false, true, false, false, false, false, false, false, false] rfl rfl (any_of HT_.out (by kernel_rfl)) (fun _ _ _ h => h) (Or.inl ⟨by rfl, ?_⟩) ?_ ?_
     rotate_left
     · intro w'
       go_simp
       with_reducible rfl
     rotate_left
     · simp only [Act.put, s1, s2, s3, i64_w, i32_w]
       rfl
     refine pure_ (i := 14) (N := some 147) (v := ?_) (a' := ?_) #[true, true, true, true, true, true, true, true, true, true, true, true, false, true, true, false, false, false, false, false, false] rfl rfl (any_of HT_.out (by kernel_rfl)) (fun _ _ _ h => h) (Or.inl ⟨by rfl, ?_⟩) ?_ ?_
     rotate_left
     · intro w'
       go_simp
       with_reducible rfl
     rotate_left
     · simp only [Act.put, s1, s2, s3, i64_w, i32_w]
       rfl
     refine pure_ (i := 15) (N := some 148) (v := ?_) (a' := ?_) #[true, true, true, true, true, true, true, true, true, true, true, true, false, true, true, true, false, false, false, false, false] rfl rfl (any_of HT_.out (by kernel_rfl)) (fun _ _ _ h => h) (Or.inl ⟨by rfl, ?_⟩) ?_ ?_
     rotate_left
     · intro w'
       go_simp
       with_reducible rfl
     rotate_left
     · simp only [Act.put, s1, s2, s3, i64_w, i32_w]
       rfl
     refine take_ (i := 12) (N := some 145) (v := ?_) (a' := ?_) #[true, true, true, true, true, true, true, true, true, true, true, true, true, true, true, true, false, false, false, false, false] rfl rfl (take_ofW HT_.out HW_.out (by kernel_rfl)) (fun _ _ _ h => h) (Or.inl ⟨by rfl, ?_⟩) hHeld ?_ ?_
     rotate_left
     · rintro w' ⟨s0, s1, s2⟩
       go_simp
       with_reducible rfl
     rotate_left
     · simp only [Act.put, s1, s2, s3, i64_w, i32_w]
       rfl
     refine take_ (i := 16) (N := some 149) (v := ?_) (a' := ?_) #[true, true, true, true, true, true, true, true, true, true, true, true, true, true, true, true, true, false, false, false, false] rfl rfl (take_ofW HT_.out HW_.out (by kernel_rfl)) (fun _ _ _ h => h) (Or.inl ⟨by rfl, ?_⟩) hHeld ?_ ?_
     rotate_left
     · rintro w' ⟨s0, s1, s2⟩
       go_simp
       with_reducible rfl
     rotate_left
     · simp only [Act.put, s1, s2, s3, i64_w, i32_w]
       rfl
     refine pure_ (i := 17) (N := some 150) (v := ?_) (a' := ?_) #[true, true, true, true, true, true, true, true, true, true, true, true, true, true, true, true, true, true, false, false, false] rfl rfl (any_of HT_.out (by kernel_rfl)) (fun _ _ _ h => h) (Or.inl ⟨by rfl, ?_⟩) ?_ ?_
     rotate_left
     · intro w'
       go_simp
       with_reducible rfl
     rotate_left
     · simp only [Act.put, s1, s2, s3, i64_w, i32_w]
       rfl
     refine pure_ (i := 18) (N := some 151) (v := ?_) (a' := ?_) #[true, true, true, true, true, true, true, true, true, true, true, true, true, true, true, true, true, true, true, false, false] rfl rfl (any_of HT_.out (by kernel_rfl)) (fun _ _ _ h => h) (Or.inl ⟨by rfl, ?_⟩) ?_ ?_
     rotate_left
     · intro w'
       go_simp
       with_reducible rfl
     rotate_left
     · simp only [Act.put, s1, s2, s3, i64_w, i32_w]
       rfl
     refine one_ (i := 19) (N := some 152) #[true, true, true, true, true, true, true, true, true, true, true, true, true, true, true, true, true, true, true, true, false] rfl rfl (one_of HT_.out (by kernel_rfl)) (by decide) (fun K hK => ?_)
     refine goes_ Try.func53 (by kernel_rfl) rfl #[.int .i64 (rd x3_7 x8_5), .int .i64 (wrap64 ((ji88) - 1))] (by rfl) rfl rfl (by (try simp only [List.map_toArray, List.map_cons, List.map_nil]); first | done | (simp only [hji88]; rfl) | rfl | (simp only [List.length_drop, List.length_take]; rfl)) ?_
     with_reducible refine (herbariumref0_Num.calls (rd x3_7 x8_5) (wrap64 ((ji88) - 1)) t700 _ A89.out).mono ?_
     rintro e w' ⟨rfl, ⟨nd, rfl⟩⟩
     refine ⟨_, rfl, ?_⟩
     refine hK.out _ _ ⟨hHeld.1, hHeld.2.1, hHeld.2.2⟩ (fun hHeld => ?_)
     clear hK K
     refine norm_ (a' := ?_) ?_ ?_
     rotate_left
     · show Act.put _ (some 152) _ = _
       simp only [Act.put, s1, s2, s3, i64_w, i32_w]
       rfl
     refine pure_ (i := 20) (N := some 153) (v := ?_) (a' := ?_) #[true, true, true, true, true, true, true, true, true, true, true, true, true, true, true, true, true, true, true, true, true] rfl rfl (any_of HT_.out (by kernel_rfl)) (fun _ _ _ h => h) (Or.inl ⟨by rfl, ?_⟩) ?_ ?_
     rotate_left
     · intro w'
       go_simp
       with_reducible rfl
     rotate_left
     · simp only [Act.put, s1, s2, s3, i64_w, i32_w]
       rfl
     refine done_ (done_of HT_.out (by kernel_rfl)) ?_
     try go_wp2
     go_meet
     case rel => exact ⟨_, (t700), (by first | rfl | (simp; done) | (simp [*]; done)), H', ⟨by have := HJ7.out; have := HK2.out; have := HJ19.out; have := HJ30.out; have := HK5.out; have := HJ46.out; have := HJ54.out; have := HJ62.out; have := HK9.out; first | omega | exact Nat.le_refl _⟩, ⟨ur <| HO_3.out⟩, ⟨ur <| HO_7.out⟩, ⟨ub BK661.out⟩, ⟨ub BK674.out⟩, ⟨ub BK694.out⟩, ⟨ub BK695.out⟩, ⟨by repeat with_reducible first | exact HB.out | apply b1 | apply b2 | apply b3 | refine b4 ?_ GE661.out | refine b4 ?_ GE674.out | refine b4 ?_ GE694.out | refine b4 ?_ GE695.out⟩⟩
   clear HC72
   try clear HA
   try clear HJ71
   try clear HO_3
   try clear HO_7
   try clear BK661
   try clear BK674
   try clear BK694
   try clear BK695
   try clear HB
   obtain ⟨kq, x153_71, rfl, HA, HJ71, HO_3, HO_7, BK661, BK674, BK694, BK695, HB⟩ := hcut
   rename_i z8_1 z8_2 z8_3 z8_4 z8_5 z8_6 z8_7 z8_8 z8_9 z8_10 z8_11 z8_12 z8_13 z8_14 z8_15 z8_16 z8_17 z8_18 z8_19 z8_20 z8_21 z8_22 z8_23 z8_24 z8_25 z8_26 z8_27 z8_28 z8_29 z8_30 z8_31 z8_32
   revert k c0_0 l0_0 A0_1 c0_1 l0_1 w hu25 hu27 HC0_0 HR0_1 HC0_1 A2 y663 Ny663 LMc7 y666 Ny666 z1_1 gb661 w9 GW661 GE661 w11 z1_2 v664 w12 w15 Ao16 co16 HO668 z3_1 u40 u41 u42 x3_7 kj7 HJ7 z2_1 z2_2 z4_1 z4_2 u5 u6 z3_2 u8 z4_3 z4_4 z4_5 z4_6 z4_7 z4_8 z4_9 z4_10 z4_11 z4_12 z4_13 z4_14 z4_15 z4_16 z4_17 z4_18 z4_19 z4_20 u27 u28 u29 u30 u31 z3_3 z3_4 z3_5 z3_6 z3_7 z3_8 z3_9 z3_10 u51 u52 u53 u54 u55 u56 u57 u58 u59 u60 u61 u62 u63 u64 u65 u66 z3_11 z3_12 z3_13 z4_21 z4_22 z4_23 z4_24 z4_25 z4_26 z4_27 z4_28 z4_29 z4_30 z4_31 z4_32 z4_33 z4_34 z4_35 z4_36 z4_37 z4_38 z4_39 z4_40 z4_41 z4_42 z4_43 z4_44 z4_45 z4_46 z4_47 z4_48 z4_49 z4_50 z4_51 z4_52 z4_53 z4_54 z4_55 z4_56 z4_57 z4_58 z4_59 z4_60 z4_61 z4_62 z4_63 z4_64 z4_65 z4_66 z4_67 z4_68 z4_69 z4_70 z4_71 z4_72 z4_73 z4_74 z4_75 z4_76 z4_77 z4_78 z4_79 z4_80 z4_81 z4_82 z4_83 z4_84 z4_85 z4_86 z4_87 z4_88 z4_89 z4_90 z4_91 z4_92 z4_93 z4_94 z4_95 z4_96 z4_97 z4_98 z4_99 z4_100 z4_101 z4_102 z4_103 z4_104 z4_105 z4_106 z4_107 z4_108 z4_109 z4_110 z4_111 z4_112 z4_113 z4_114 z4_115 z4_116 z4_117 z4_118 z4_119 z4_120 z4_121 z4_122 z4_123 z4_124 z4_125 z4_126 z4_127 z4_128 z4_129 z4_130 z4_131 z4_132 z4_133 z4_134 z4_135 z4_136 z4_137 z4_138 z4_139 z4_140 z4_141 z4_142 z4_143 z4_144 z4_145 z4_146 z4_147 z4_148 z4_149 z4_150 z4_151 z4_152 z4_153 z4_154 z4_155 z4_156 z4_157 z4_158 z4_159 z4_160 z4_161 z4_162 z4_163 z4_164 z4_165 z4_166 z4_167 z4_168 z4_169 z4_170 z4_171 z4_172 z4_173 z4_174 z4_175 z4_176 z4_177 z4_178 z4_179 z4_180 z4_181 z4_182 z4_183 z4_184 z4_185 z4_186 z4_187 z4_188 z4_189 z4_190 z4_191 z4_192 z4_193 z4_194 z4_195 z4_196 z4_197 z4_198 z4_199 z4_200 z4_201 z4_202 z4_203 z4_204 z4_205 z4_206 z4_207 z4_208 z4_209 z4_210 z4_211 z4_212 z4_213 z4_214 z4_215 z4_216 z4_217 z4_218 z4_219 z4_220 z4_221 z4_222 z4_223 z4_224 z4_225 z4_226 z4_227 z4_228 z4_229 z4_230 z4_231 z4_232 z4_233 z4_234 z4_235 z4_236 z4_237 z4_238 z4_239 z4_240 z4_241 z4_242 z4_243 z4_244 z4_245 z4_246 z4_247 z4_248 z4_249 z4_250 z4_251 z4_252 z4_253 z4_254 z4_255 z4_256 z4_257 z4_258 z4_259 z4_260 z4_261 z4_262 z4_263 z4_264 z4_265 z4_266 u316 u317 u318 u319 u320 u321 u322 u323 u324 u325 u326 u327 u328 u329 u330 u331 u332 u333 u334 u335 u336 u337 u338 u339 u340 u341 u342 u343 u344 u345 u346 u347 u348 u349 u350 u351 u352 u353 u354 u355 u356 u357 u358 u359 u360 u361 u362 u363 u364 u365 u366 u367 u368 u369 u370 u371 u372 u373 u374 u375 u376 z2_3 z2_4 x4_2 k2 z2_6 HK2 z3_14 u43 u44 u45 u46 u47 u48 u49 u50 kj19 HJ19 t675 A27 t676 A28 t677 A29 ad673 HR0_0 z3_15 z3_16 gb674 w33 GW674 GE674 NB661_674 NB674_661 hnb34 hnc34 w36 w38 nd z5_1 u7 u67 u68 u69 x7_30 kj30 HJ30 z4_267 z4_268 z7_1 z7_2 u9 u10 u11 u12 z6_1 u14 z7_3 z7_4 z7_5 z7_6 z7_7 z7_8 z7_9 z7_10 z7_11 z7_12 z7_13 z7_14 u70 u71 u72 u73 u74 u75 u76 u77 u78 u79 u80 u81 u82 u83 u84 z5_2 z5_3 z5_4 z5_5 z5_6 z5_7 z5_8 z5_9 z5_10 z6_2 z6_3 z6_4 z6_5 z6_6 z6_7 z6_8 z6_9 z6_10 z6_11 z6_12 z6_13 z6_14 z6_15 z6_16 z6_17 z6_18 z6_19 u112 z7_15 z7_16 z7_17 z7_18 z7_19 z7_20 z7_21 z7_22 z7_23 z7_24 z7_25 z7_26 z7_27 z7_28 z7_29 z7_30 z7_31 z7_32 z7_33 z7_34 z7_35 z7_36 z7_37 z7_38 z7_39 z7_40 z7_41 z7_42 z7_43 z7_44 z7_45 z7_46 z7_47 z7_48 z7_49 z7_50 z7_51 z7_52 z7_53 z7_54 z7_55 z7_56 z7_57 z7_58 z7_59 z7_60 z7_61 z7_62 z7_63 z7_64 z7_65 z7_66 z7_67 z7_68 z7_69 z7_70 z7_71 z7_72 z7_73 z7_74 z7_75 z7_76 z7_77 z7_78 z7_79 z7_80 z7_81 z7_82 z7_83 z7_84 z7_85 z7_86 z7_87 z7_88 z7_89 z7_90 z7_91 z7_92 z7_93 z7_94 z7_95 z7_96 z7_97 z7_98 z7_99 z7_100 z7_101 z7_102 z7_103 z7_104 z7_105 z7_106 z7_107 z7_108 z7_109 z7_110 z7_111 z7_112 z7_113 z7_114 z7_115 z7_116 z7_117 z7_118 z7_119 z7_120 z7_121 z7_122 z7_123 z7_124 z7_125 z7_126 z7_127 z7_128 z7_129 z7_130 z7_131 z7_132 z7_133 z7_134 z7_135 z7_136 z7_137 z7_138 z7_139 z7_140 z7_141 z7_142 z7_143 z7_144 z7_145 z7_146 z7_147 z7_148 z7_149 z7_150 z7_151 z7_152 z7_153 z7_154 z7_155 z7_156 z7_157 z7_158 z7_159 z7_160 z7_161 z7_162 z7_163 z7_164 z7_165 z7_166 z7_167 z7_168 z7_169 z7_170 z7_171 z7_172 z7_173 z7_174 z7_175 z7_176 z7_177 z7_178 z7_179 z7_180 z7_181 z7_182 z7_183 z7_184 z7_185 z7_186 z7_187 z7_188 z7_189 z7_190 z7_191 z7_192 z7_193 z7_194 z7_195 z7_196 z7_197 z7_198 z7_199 z7_200 z7_201 z7_202 z7_203 z7_204 z7_205 z7_206 z7_207 z7_208 z7_209 z7_210 z7_211 z7_212 z7_213 z7_214 z7_215 z7_216 z7_217 z4_269 z4_270 x8_5 k5 z4_272 HK5 t682 t683 A46 co48 z5_11 z5_12 ad681 z2_5 z4_271 z8_1 z8_2 w49 z5_13 w50 HS2_ z8_3 z6_20 u85 u86 u87 u88 u89 u90 u91 u92 u93 x94_46 kj46 HJ46 z6_21 u13 u94 u95 u96 u97 u98 u99 u100 u101 u102 u103 x11_54 x12_54 kj54 HJ54 z8_4 u104 u105 u106 u107 u108 u109 u110 u111 kj62 HJ62 wr u2 u15 u16 u17 u18 u19 u20 u21 u22 u23 u24 u25 u26 u113 u114 u115 u116 u117 u118 u119 u120 u121 u122 u123 u124 u125 u126 u127 u128 u129 u130 u131 u132 z8_5 z8_6 z8_7 z8_8 z8_9 z8_10 z8_11 z8_12 z8_13 z8_14 z8_15 z8_16 z8_17 z8_18 z8_19 z8_20 z8_21 z8_22 z8_23 z8_24 u153 u154 u155 u156 u157 u158 u159 u160 u161 u162 u163 u164 u165 u166 u167 u168 u169 u170 u171 u172 u173 u174 u175 u176 u177 u178 u179 u180 u181 u182 u183 u184 u185 u186 u187 u188 u189 u190 u191 u192 u193 u194 u195 u196 u197 u198 u199 u200 u201 u202 u203 u204 u205 u206 u207 u208 u209 u210 u211 u212 u213 u214 u215 u216 u217 u218 u219 u220 u221 u222 u223 u224 u225 u226 u227 u228 u229 u230 u231 u232 u233 u234 u235 u236 u237 u238 u239 u240 u241 u242 u243 u244 u245 u246 u247 u248 u249 u250 u251 u252 u253 u254 u255 u256 u257 u258 u259 u260 u261 u262 u263 u264 u265 u266 u267 u268 u269 u270 u271 u272 u273 u274 u275 u276 u277 u278 u279 u280 u281 u282 u283 u284 u285 u286 u287 u288 u289 u290 u291 u292 u293 u294 u295 u296 u297 u298 u299 u300 u301 u302 u303 u304 u305 u306 u307 u308 u309 u310 u311 u312 u313 u314 u315 z7_218 z7_219 z7_220 x14_9 k9 z7_221 HK9 c67b0 c68b0 c69b0 c70b0 t691 t692 t693 A71 z8_25 z8_26 e689 p689 q689 e690 p690 q690 HT_ HW_ w73 hx689_0 hx690_0 z8_27 gb694 w76 hS_ GW694 GE694 NB661_694 NB694_661 NB674_694 NB694_674 z8_28 hs77 hfs77 hns77_0 hns77_1 hms77_0 hms77_1 hs78 hfs78 hns78_0 hns78_1 hms78_0 hms78_1 hHeld gb695 w79 GW695 GE695 NB661_695 NB695_661 NB674_695 NB695_674 NB694_695 NB695_694 hnb80 hnc80 hnb81 hnc81 hnb82 hnc82 hcz83_0 hcz83_1 hfz83_0 hfz83_1 z8_29 z8_30 z8_31 z8_32 wc u133 u134 u135 u136 u137 u138 u139 u140 u141 u142 u143 u144 u145 u146 u147 u148 u149 u150 u151 u152 kq x153_71 HA HJ71 HO_3 HO_7 BK661 BK674 BK694 BK695 HB
   exact hP_.out
end Go.Proofs.Ytnpghcikhpglkaa.Q
namespace Go.Proofs.Ytnpghcikhpglkaa.Q
open Go.RowKit Go.Proofs.YtnpghcikhpglkaaW.PrintWords Go.Proofs.YtnpghcikhpglkaaW.PrintLast Go.Proofs.YtnpghcikhpglkaaW.PrintMore
attribute [local go_sem] max2_int min2_int max_two min_two max_three min_three max_four min_four   -- for this text's walks alone
set_option linter.unusedVariables false
set_option linter.unusedSimpArgs false
attribute [local go_sem high] eqA27
set_option maxHeartbeats 8000000 in
set_option maxRecDepth 100000 in
noncomputable def herbariumlaw1_BitsExact.p9 : PSigma fun P_ : Prop => Later P_ → herbariumlaw1_BitsExact.p8.1 := by
  refine' ⟨_, fun hP_ => ?_⟩
  rotate_left
  focus
   intro k c0_0 l0_0 A0_1 c0_1 l0_1 w hu25 hu27 HC0_0 HR0_1 HC0_1 A2 y663 Ny663 LMc7 y666 Ny666 z1_1 gb661 w9 GW661 GE661 w11 z1_2 v664 w12 w15 Ao16 co16 HO668 z3_1 u40 u41 u42 x3_7 kj7 HJ7 z2_1 z2_2 z4_1 z4_2 u5 u6 z3_2 u8 z4_3 z4_4 z4_5 z4_6 z4_7 z4_8 z4_9 z4_10 z4_11 z4_12 z4_13 z4_14 z4_15 z4_16 z4_17 z4_18 z4_19 z4_20 u27 u28 u29 u30 u31 z3_3 z3_4 z3_5 z3_6 z3_7 z3_8 z3_9 z3_10 u51 u52 u53 u54 u55 u56 u57 u58 u59 u60 u61 u62 u63 u64 u65 u66 z3_11 z3_12 z3_13 z4_21 z4_22 z4_23 z4_24 z4_25 z4_26 z4_27 z4_28 z4_29 z4_30 z4_31 z4_32 z4_33 z4_34 z4_35 z4_36 z4_37 z4_38 z4_39 z4_40 z4_41 z4_42 z4_43 z4_44 z4_45 z4_46 z4_47 z4_48 z4_49 z4_50 z4_51 z4_52 z4_53 z4_54 z4_55 z4_56 z4_57 z4_58 z4_59 z4_60 z4_61 z4_62 z4_63 z4_64 z4_65 z4_66 z4_67 z4_68 z4_69 z4_70 z4_71 z4_72 z4_73 z4_74 z4_75 z4_76 z4_77 z4_78 z4_79 z4_80 z4_81 z4_82 z4_83 z4_84 z4_85 z4_86 z4_87 z4_88 z4_89 z4_90 z4_91 z4_92 z4_93 z4_94 z4_95 z4_96 z4_97 z4_98 z4_99 z4_100 z4_101 z4_102 z4_103 z4_104 z4_105 z4_106 z4_107 z4_108 z4_109 z4_110 z4_111 z4_112 z4_113 z4_114 z4_115 z4_116 z4_117 z4_118 z4_119 z4_120 z4_121 z4_122 z4_123 z4_124
   intro z4_125 z4_126 z4_127 z4_128 z4_129 z4_130 z4_131 z4_132 z4_133 z4_134 z4_135 z4_136 z4_137 z4_138 z4_139 z4_140 z4_141 z4_142 z4_143 z4_144 z4_145 z4_146 z4_147 z4_148 z4_149 z4_150 z4_151 z4_152 z4_153 z4_154 z4_155 z4_156 z4_157 z4_158 z4_159 z4_160 z4_161 z4_162 z4_163 z4_164 z4_165 z4_166 z4_167 z4_168 z4_169 z4_170 z4_171 z4_172 z4_173 z4_174 z4_175 z4_176 z4_177 z4_178 z4_179 z4_180 z4_181 z4_182 z4_183 z4_184 z4_185 z4_186 z4_187 z4_188 z4_189 z4_190 z4_191 z4_192 z4_193 z4_194 z4_195 z4_196 z4_197 z4_198 z4_199 z4_200 z4_201 z4_202 z4_203 z4_204 z4_205 z4_206 z4_207 z4_208 z4_209 z4_210 z4_211 z4_212 z4_213 z4_214 z4_215 z4_216 z4_217 z4_218 z4_219 z4_220 z4_221 z4_222 z4_223 z4_224 z4_225 z4_226 z4_227 z4_228 z4_229 z4_230 z4_231 z4_232 z4_233 z4_234 z4_235 z4_236 z4_237 z4_238 z4_239 z4_240 z4_241 z4_242 z4_243 z4_244 z4_245 z4_246 z4_247 z4_248 z4_249 z4_250 z4_251 z4_252 z4_253 z4_254 z4_255 z4_256 z4_257 z4_258 z4_259 z4_260 z4_261 z4_262 z4_263 z4_264 z4_265 z4_266 u316 u317 u318 u319 u320 u321 u322 u323 u324 u325 u326 u327 u328 u329 u330 u331 u332 u333 u334 u335 u336 u337 u338 u339 u340 u341 u342 u343 u344 u345 u346 u347 u348 u349 u350 u351 u352 u353 u354 u355 u356 u357 u358 u359 u360 u361 u362 u363 u364 u365 u366 u367 u368 u369 u370 u371 u372 u373
   intro u374 u375 u376 z2_3 z2_4 x4_2 k2 z2_6 HK2 z3_14 u43 u44 u45 u46 u47 u48 u49 u50 kj19 HJ19 t675 A27 t676 A28 t677 A29 ad673 HR0_0 z3_15 z3_16 gb674 w33 GW674 GE674 NB661_674 NB674_661 hnb34 hnc34 w36 w38 nd z5_1 u7 u67 u68 u69 x7_30 kj30 HJ30 z4_267 z4_268 z7_1 z7_2 u9 u10 u11 u12 z6_1 u14 z7_3 z7_4 z7_5 z7_6 z7_7 z7_8 z7_9 z7_10 z7_11 z7_12 z7_13 z7_14 u70 u71 u72 u73 u74 u75 u76 u77 u78 u79 u80 u81 u82 u83 u84 z5_2 z5_3 z5_4 z5_5 z5_6 z5_7 z5_8 z5_9 z5_10 z6_2 z6_3 z6_4 z6_5 z6_6 z6_7 z6_8 z6_9 z6_10 z6_11 z6_12 z6_13 z6_14 z6_15 z6_16 z6_17 z6_18 z6_19 u112 z7_15 z7_16 z7_17 z7_18 z7_19 z7_20 z7_21 z7_22 z7_23 z7_24 z7_25 z7_26 z7_27 z7_28 z7_29 z7_30 z7_31 z7_32 z7_33 z7_34 z7_35 z7_36 z7_37 z7_38 z7_39 z7_40 z7_41 z7_42 z7_43 z7_44 z7_45 z7_46 z7_47 z7_48 z7_49 z7_50 z7_51 z7_52 z7_53 z7_54 z7_55 z7_56 z7_57 z7_58 z7_59 z7_60 z7_61 z7_62 z7_63 z7_64 z7_65 z7_66 z7_67 z7_68 z7_69 z7_70 z7_71 z7_72 z7_73 z7_74 z7_75 z7_76 z7_77 z7_78 z7_79 z7_80 z7_81 z7_82 z7_83 z7_84 z7_85 z7_86 z7_87 z7_88 z7_89 z7_90 z7_91 z7_92 z7_93 z7_94 z7_95 z7_96 z7_97 z7_98 z7_99 z7_100
   intro z7_101 z7_102 z7_103 z7_104 z7_105 z7_106 z7_107 z7_108 z7_109 z7_110 z7_111 z7_112 z7_113 z7_114 z7_115 z7_116 z7_117 z7_118 z7_119 z7_120 z7_121 z7_122 z7_123 z7_124 z7_125 z7_126 z7_127 z7_128 z7_129 z7_130 z7_131 z7_132 z7_133 z7_134 z7_135 z7_136 z7_137 z7_138 z7_139 z7_140 z7_141 z7_142 z7_143 z7_144 z7_145 z7_146 z7_147 z7_148 z7_149 z7_150 z7_151 z7_152 z7_153 z7_154 z7_155 z7_156 z7_157 z7_158 z7_159 z7_160 z7_161 z7_162 z7_163 z7_164 z7_165 z7_166 z7_167 z7_168 z7_169 z7_170 z7_171 z7_172 z7_173 z7_174 z7_175 z7_176 z7_177 z7_178 z7_179 z7_180 z7_181 z7_182 z7_183 z7_184 z7_185 z7_186 z7_187 z7_188 z7_189 z7_190 z7_191 z7_192 z7_193 z7_194 z7_195 z7_196 z7_197 z7_198 z7_199 z7_200 z7_201 z7_202 z7_203 z7_204 z7_205 z7_206 z7_207 z7_208 z7_209 z7_210 z7_211 z7_212 z7_213 z7_214 z7_215 z7_216 z7_217 z4_269 z4_270 x8_5 k5 z4_272 HK5 t682 t683 A46 co48 z5_11 z5_12 ad681 z2_5 z4_271 z8_1 z8_2 w49 z5_13 w50 HS2_ z8_3 z6_20 u85 u86 u87 u88 u89 u90 u91 u92 u93 x94_46 kj46 HJ46 z6_21 u13 u94 u95 u96 u97 u98 u99 u100 u101 u102 u103 x11_54 x12_54 kj54 HJ54 z8_4 u104 u105 u106 u107 u108 u109 u110 u111 kj62 HJ62 wr u2 u15 u16 u17 u18 u19 u20 u21 u22 u23 u24 u25 u26 u113 u114 u115 u116 u117 u118 u119
   intro u120 u121 u122 u123 u124 u125 u126 u127 u128 u129 u130 u131 u132 z8_5 z8_6 z8_7 z8_8 z8_9 z8_10 z8_11 z8_12 z8_13 z8_14 z8_15 z8_16 z8_17 z8_18 z8_19 z8_20 z8_21 z8_22 z8_23 z8_24 u153 u154 u155 u156 u157 u158 u159 u160 u161 u162 u163 u164 u165 u166 u167 u168 u169 u170 u171 u172 u173 u174 u175 u176 u177 u178 u179 u180 u181 u182 u183 u184 u185 u186 u187 u188 u189 u190 u191 u192 u193 u194 u195 u196 u197 u198 u199 u200 u201 u202 u203 u204 u205 u206 u207 u208 u209 u210 u211 u212 u213 u214 u215 u216 u217 u218 u219 u220 u221 u222 u223 u224 u225 u226 u227 u228 u229 u230 u231 u232 u233 u234 u235 u236 u237 u238 u239 u240 u241 u242 u243 u244 u245 u246 u247 u248 u249 u250 u251 u252 u253 u254 u255 u256 u257 u258 u259 u260 u261 u262 u263 u264 u265 u266 u267 u268 u269 u270 u271 u272 u273 u274 u275 u276 u277 u278 u279 u280 u281 u282 u283 u284 u285 u286 u287 u288 u289 u290 u291 u292 u293 u294 u295 u296 u297 u298 u299 u300 u301 u302 u303 u304 u305 u306 u307 u308 u309 u310 u311 u312 u313 u314 u315 z7_218 z7_219 z7_220 x14_9
   intro k9 z7_221 HK9 c67b0 c68b0 c69b0 c70b0 t691 t692 t693 A71 z8_25 z8_26 e689 p689 q689 e690 p690 q690 HT_ HW_ w73 hx689_0 hx690_0 z8_27 gb694 w76 hS_ GW694 GE694 NB661_694 NB694_661 NB674_694 NB694_674 z8_28 hs77 hfs77 hns77_0 hns77_1 hms77_0 hms77_1 hs78 hfs78 hns78_0 hns78_1 hms78_0 hms78_1 hHeld gb695 w79 GW695 GE695 NB661_695 NB695_661 NB674_695 NB695_674 NB694_695 NB695_694 hnb80 hnc80 hnb81 hnc81 hnb82 hnc82 hcz83_0 hcz83_1 hfz83_0 hfz83_1 z8_29 z8_30 z8_31 z8_32 wc u133 u134 u135 u136 u137 u138 u139 u140 u141 u142 u143 u144 u145 u146 u147 u148 u149 u150 u151 u152 kq x153_71 HA HJ71 HO_3 HO_7 BK661 BK674 BK694 BK695 HB
   cases kq with
   | zero => exact absurd HA.out (by simp [herbariumlaw1_BitsExact.j9])
   | succ kj71 => ?_
   have H := HA.out
   clear HA
   simp only [herbariumlaw1_BitsExact.j9] at H
   have HC96 := ak H
   clear H
   go_upto_if 153 with (fail)
   go_cut [17] from 153 to 153 (fun v17 wc => ∃ (kq : Nat) (x17_95 : Int) (x696000_95 : ByteArray) (x696001_95 : Int), v17 = .int .i64 x17_95 ∧ Aside0 (herbariumlaw1_BitsExact.j10 kq x3_7 x4_2 t675 x7_30 x8_5 x14_9 t693 x17_95 l0_0 l0_1 ((rd_T27 l0_0 x4_2).f0) ((rd_T27 l0_0 x4_2).f1) t691 t692 x696000_95 x696001_95 = some true) ∧ Aside0 (kq ≤ kj71) ∧ Aside0 (Kd.R (Kd.int .i64) 3 wc w.heap.size (fun _ => True) (.slice (some ad681) x3_7.length co48) x3_7) ∧ Aside0 (Kd.R (Kd.int .u8) 5 wc w.heap.size (fun _ => True) u7 x7_30) ∧ Aside0 (wc.heap[gb661]? = some (.cells #[(.slice (some ad673) l0_0.length c0_0), (.slice A0_1 l0_1.length c0_1)] 25 (0, 0))) ∧ Aside0 (wc.heap[gb674]? = some (.cells #[.string ((rd_T27 l0_0 x4_2).f0), .int .i64 ((rd_T27 l0_0 x4_2).f1)] 27 (0, 0))) ∧ Aside0 (wc.heap[gb694]? = some (.cells #[.string t691, .int .i64 t692] 27 (0, 0))) ∧ Aside0 (wc.heap[gb695]? = some (.cells #[.string x696000_95, .int .i64 x696001_95] 27 (0, 0))) ∧ Aside0 (Below w.heap.size w wc))
   case first =>
     have H := HC96.out
     clear HC96
     by_cases c97 : x153_71 = true
     rotate_left
     · replace c97 := Bool.eq_false_iff.mpr c97
       subst c97
       have H1 : (herbariumlaw1_BitsExact.j10 kj71 x3_7 x4_2 t675 x7_30 x8_5 x14_9 t693 1 l0_0 l0_1 ((rd_T27 l0_0 x4_2).f0) ((rd_T27 l0_0 x4_2).f1) t691 t692 (⟨#[]⟩ : ByteArray) 0) = some true := by rw [if_neg (show ¬ (false = true) by decide)] at H; exact H
       clear H
       have H := H1
       clear H1
       have H' := ak H
       clear H
       go_wp2
       go_meet
       case rel => exact ⟨_, (1), ((⟨#[]⟩ : ByteArray)), (0), (by first | rfl | (simp; done) | (simp [*]; done)), H', ⟨by have := HJ7.out; have := HK2.out; have := HJ19.out; have := HJ30.out; have := HK5.out; have := HJ46.out; have := HJ54.out; have := HJ62.out; have := HK9.out; have := HJ71.out; first | omega | exact Nat.le_refl _⟩, ⟨ur <| HO_3.out⟩, ⟨ur <| HO_7.out⟩, ⟨ub BK661.out⟩, ⟨ub BK674.out⟩, ⟨ub BK694.out⟩, ⟨ub BK695.out⟩, ⟨by repeat with_reducible first | exact HB.out | apply b1 | apply b2 | apply b3 | refine b4 ?_ GE661.out | refine b4 ?_ GE674.out | refine b4 ?_ GE694.out | refine b4 ?_ GE695.out⟩⟩
     subst c97
     have H1 : (if 0 ≤ x14_9 then (if x14_9 < (x3_7.length : Int) then (if (wrap64 (((rd_T27 l0_0 x4_2).f1) + (rd x3_7 x14_9))) ≤ 6000 then ((some (([] : List Int) : List Int)).bind fun y702 => (if y702.length + x7_30.length < 140737488355328 then (if 0 ≤ x8_5 then (if x8_5 < (x3_7.length : Int) then ((herbariumref1_List_Put.f kj71 (y702 ++ x7_30) (rd x3_7 x8_5) (rd x3_7 x14_9)).bind fun t710 => ((herbariumref1_List_Pack.f kj71 t710).bind fun bt713 => (herbariumlaw1_BitsExact.j10 kj71 x3_7 x4_2 t675 x7_30 x8_5 x14_9 t693 0 l0_0 l0_1 ((rd_T27 l0_0 x4_2).f0) ((rd_T27 l0_0 x4_2).f1) t691 t692 bt713.1 bt713.2))) else (none)) else (none)) else (none))) else (herbariumlaw1_BitsExact.j10 kj71 x3_7 x4_2 t675 x7_30 x8_5 x14_9 t693 2 l0_0 l0_1 ((rd_T27 l0_0 x4_2).f0) ((rd_T27 l0_0 x4_2).f1) t691 t692 (⟨#[]⟩ : ByteArray) 0)) else (none)) else (none)) = some true := by rw [if_pos rfl] at H; exact H
     clear H
     have H := H1
     clear H1
     by_cases c98 : 0 ≤ x14_9
     rotate_left
     · rw [if_neg c98] at H
       exact absurd H (by simp)
     rw [if_pos c98] at H
     have c98b0 : decide (0 ≤ x14_9) = true := decide_eq_true c98
     clear c98
     (first | rw [c98b0] | (simp only [i64_w, i32_w]; rw [c98b0]) | skip)
     by_cases c99 : x14_9 < (x3_7.length : Int)
     rotate_left
     · rw [if_neg c99] at H
       exact absurd H (by simp)
     rw [if_pos c99] at H
     have c99b0 : decide (x14_9 < (x3_7.length : Int)) = true := decide_eq_true c99
     clear c99
     by_cases c100 : (wrap64 (((rd_T27 l0_0 x4_2).f1) + (rd x3_7 x14_9))) ≤ 6000
     rotate_left
     · rw [if_neg c100] at H
       have c100b0 : decide ((wrap64 (((rd_T27 l0_0 x4_2).f1) + (rd x3_7 x14_9))) ≤ 6000) = false := decide_eq_false c100
       clear c100
       have H' := ak H
       clear H
       try go_wp2
       have n0_ := ak (Kd.R_drew HO_3.out)
       have n1_ := ak (Kd.R_drew HO_7.out)
       have n2_ := ak (blk_drew BK661.out)
       have n3_ := ak (blk_drew BK674.out)
       have n4_ := ak (blk_drew BK694.out)
       have n5_ := ak (blk_drew BK695.out)
       have n6_ := ak (below_drew1 HB.out)
       clear HO_3
       clear HO_7
       clear BK661
       clear BK674
       clear BK694
       clear BK695
       clear HB
       have HO_3 := n0_
       have HO_7 := n1_
       have BK661 := n2_
       have BK674 := n3_
       have BK694 := n4_
       have BK695 := n5_
       have HB := n6_
       clear n0_ n1_ n2_ n3_ n4_ n5_ n6_
       have p701 : 0 ≤ (x14_9 : Int) := of_decide_eq_true (by first | (with_reducible assumption) | assumption)
       have q701 : x14_9 < (x3_7.length : Int) := of_decide_eq_true (by first | (with_reducible assumption) | assumption)
       obtain ⟨ad701, e701, hx701_0⟩ := Kd.at_int (Kd.R_reads' HO_3.out).2.2 x14_9 p701 q701
       obtain rfl : ad681 = ad701 := (by injection e701)
       replace p701 := eq_true p701
       replace q701 := eq_true q701
       refine start_ (n := 8) (S := fun w' => w'.cell? ⟨gb674, 0, none⟩ = some (.string ((rd_T27 l0_0 x4_2).f0)) ∧ w'.cell? ⟨gb674, 1, none⟩ = some (.int .i64 ((rd_T27 l0_0 x4_2).f1)) ∧ w'.cell? (ad681.add (x14_9).toNat) = some (.int .i64 (rd x3_7 x14_9))) (ds := []) #[false, false, false, false, false, false, false, false] (by kernel_rfl) rfl rfl ⟨(blk_cell BK674.out 0).trans rfl, (blk_cell BK674.out 1).trans rfl, hx701_0⟩ (fun hHeld => ?_); refine with_tabW herbariumlaw1_BitsExact.tab35 herbariumlaw1_BitsExact.bits35 (fun HT_ HW_ => ?_)
       generalize wc.drew = w118 at HO_3 HO_7 BK661 BK674 BK694 BK695 HB hx701_0 hHeld ⊢
       refine pure_ (i := 0) (N := some 154) (v := ?_) (a' := ?_) #[true, false, false, false, false, false, false, false] rfl rfl (any_of HT_.out (by kernel_rfl)) (fun _ _ _ h => h) (Or.inl ⟨by rfl, ?_⟩) ?_ ?_
       rotate_left
       · intro w'
         go_simp
         with_reducible rfl
       rotate_left
       · simp only [Act.put, s1, s2, s3, i64_w, i32_w]
         rfl
       refine pure_ (i := 2) (N := some 156) (v := ?_) (a' := ?_) #[true, false, true, false, false, false, false, false] rfl rfl (any_of HT_.out (by kernel_rfl)) (fun _ _ _ h => h) (Or.inl ⟨by rfl, ?_⟩) ?_ ?_
       rotate_left
       · intro w'
         go_simp
         with_reducible rfl
       rotate_left
       · simp only [Act.put, s1, s2, s3, i64_w, i32_w]
         rfl
       refine pure_ (i := 3) (N := some 157) (v := ?_) (a' := ?_) #[true, false, true, true, false, false, false, false] rfl rfl (any_of HT_.out (by kernel_rfl)) (fun _ _ _ h => h) (Or.inl ⟨by rfl, ?_⟩) ?_ ?_
       rotate_left
       · intro w'
         go_simp
         with_reducible rfl
       rotate_left
       · simp only [Act.put, s1, s2, s3, i64_w, i32_w]
         rfl
       refine pure_ (i := 4) (N := some 158) (v := ?_) (a' := ?_) #[true, false, true, true, true, false, false, false] rfl rfl (any_of HT_.out (by kernel_rfl)) (fun _ _ _ h => h) (Or.inl ⟨by rfl, ?_⟩) ?_ ?_
       rotate_left
       · intro w'
         go_simp
         with_reducible rfl
       rotate_left
       · simp only [Act.put, s1, s2, s3, i64_w, i32_w]
         rfl
       refine take_ (i := 1) (N := some 155) (v := ?_) (a' := ?_) #[true, true, true, true, true, false, false, false] rfl rfl (take_ofW HT_.out HW_.out (by kernel_rfl)) (fun _ _ _ h => h) (Or.inl ⟨by rfl, ?_⟩) hHeld ?_ ?_
       rotate_left
       · rintro w' ⟨s0, s1, s2⟩
         go_simp
         with_reducible rfl
       rotate_left
       · simp only [Act.put, s1, s2, s3, i64_w, i32_w]
         rfl
       refine take_ (i := 5) (N := some 159) (v := ?_) (a' := ?_) #[true, true, true, true, true, true, false, false] rfl rfl (take_ofW HT_.out HW_.out (by kernel_rfl)) (fun _ _ _ h => h) (Or.inl ⟨by rfl, ?_⟩) hHeld ?_ ?_
       rotate_left
       · rintro w' ⟨s0, s1, s2⟩
         go_simp
         with_reducible rfl
       rotate_left
       · simp only [Act.put, s1, s2, s3, i64_w, i32_w]
         rfl
       refine pure_ (i := 6) (N := some 160) (v := ?_) (a' := ?_) #[true, true, true, true, true, true, true, false] rfl rfl (any_of HT_.out (by kernel_rfl)) (fun _ _ _ h => h) (Or.inl ⟨by rfl, ?_⟩) ?_ ?_
       rotate_left
       · intro w'
         go_simp
         with_reducible rfl
       rotate_left
       · simp only [Act.put, s1, s2, s3, i64_w, i32_w]
         rfl
       refine pure_ (i := 7) (N := some 161) (v := ?_) (a' := ?_) #[true, true, true, true, true, true, true, true] rfl rfl (any_of HT_.out (by kernel_rfl)) (fun _ _ _ h => h) (Or.inl ⟨by rfl, ?_⟩) ?_ ?_
       rotate_left
       · intro w'
         go_simp
         with_reducible rfl
       rotate_left
       · simp only [Act.put, s1, s2, s3, i64_w, i32_w]
         rfl
       refine done_ (done_of HT_.out (by kernel_rfl)) ?_
       try go_wp2
       go_meet
       case rel => exact ⟨_, (2), ((⟨#[]⟩ : ByteArray)), (0), (by first | rfl | (simp; done) | (simp [*]; done)), H', ⟨by have := HJ7.out; have := HK2.out; have := HJ19.out; have := HJ30.out; have := HK5.out; have := HJ46.out; have := HJ54.out; have := HJ62.out; have := HK9.out; have := HJ71.out; first | omega | exact Nat.le_refl _⟩, ⟨ur <| HO_3.out⟩, ⟨ur <| HO_7.out⟩, ⟨ub BK661.out⟩, ⟨ub BK674.out⟩, ⟨ub BK694.out⟩, ⟨ub BK695.out⟩, ⟨by repeat with_reducible first | exact HB.out | apply b1 | apply b2 | apply b3 | refine b4 ?_ GE661.out | refine b4 ?_ GE674.out | refine b4 ?_ GE694.out | refine b4 ?_ GE695.out⟩⟩
     rw [if_pos c100] at H
     have c100b0 : decide ((wrap64 (((rd_T27 l0_0 x4_2).f1) + (rd x3_7 x14_9))) ≤ 6000) = true := decide_eq_true c100
     clear c100
     obtain ⟨y702, hy702⟩ : ∃ y_ : List Int, y_ = (([] : List Int)) := ⟨_, rfl⟩
     replace H : (if y702.length + x7_30.length < 140737488355328 then (if 0 ≤ x8_5 then (if x8_5 < (x3_7.length : Int) then ((herbariumref1_List_Put.f kj71 (y702 ++ x7_30) (rd x3_7 x8_5) (rd x3_7 x14_9)).bind fun t710 => ((herbariumref1_List_Pack.f kj71 t710).bind fun bt713 => (herbariumlaw1_BitsExact.j10 kj71 x3_7 x4_2 t675 x7_30 x8_5 x14_9 t693 0 l0_0 l0_1 ((rd_T27 l0_0 x4_2).f0) ((rd_T27 l0_0 x4_2).f1) t691 t692 bt713.1 bt713.2))) else (none)) else (none)) else (none)) = some true := by first | (rw [hy702]; with_reducible exact H) | (have H2_ := (Option.bind_some _ _).symm.trans H; rw [hy702]; with_reducible exact H2_) | (have H2_ := (Option.bind_some _ _).symm.trans H; with_reducible exact H2_) | with_reducible exact H | (rw [hy702]; exact H) | exact H
     have Ny702 := ak hy702
     clear hy702
     by_cases c101 : y702.length + x7_30.length < 140737488355328
     rotate_left
     · rw [if_neg c101] at H
       exact absurd H (by simp)
     rw [if_pos c101] at H
     have LMc101 := ak c101
     clear c101
     obtain ⟨y705, hy705⟩ : ∃ y_ : List Int, y_ = (y702 ++ x7_30) := ⟨_, rfl⟩
     replace H : (if 0 ≤ x8_5 then (if x8_5 < (x3_7.length : Int) then ((herbariumref1_List_Put.f kj71 y705 (rd x3_7 x8_5) (rd x3_7 x14_9)).bind fun t710 => ((herbariumref1_List_Pack.f kj71 t710).bind fun bt713 => (herbariumlaw1_BitsExact.j10 kj71 x3_7 x4_2 t675 x7_30 x8_5 x14_9 t693 0 l0_0 l0_1 ((rd_T27 l0_0 x4_2).f0) ((rd_T27 l0_0 x4_2).f1) t691 t692 bt713.1 bt713.2))) else (none)) else (none)) = some true := by first | (rw [hy705]; with_reducible exact H) | (have H2_ := (Option.bind_some _ _).symm.trans H; rw [hy705]; with_reducible exact H2_) | (have H2_ := (Option.bind_some _ _).symm.trans H; with_reducible exact H2_) | with_reducible exact H | (rw [hy705]; exact H) | exact H
     have Ny705 := ak hy705
     clear hy705
     by_cases c102 : 0 ≤ x8_5
     rotate_left
     · rw [if_neg c102] at H
       exact absurd H (by simp)
     rw [if_pos c102] at H
     have c102b0 : decide (0 ≤ x8_5) = true := decide_eq_true c102
     clear c102
     by_cases c103 : x8_5 < (x3_7.length : Int)
     rotate_left
     · rw [if_neg c103] at H
       exact absurd H (by simp)
     rw [if_pos c103] at H
     have c103b0 : decide (x8_5 < (x3_7.length : Int)) = true := decide_eq_true c103
     clear c103
     replace H := Option.bind_eq_some_iff.mp H
     obtain ⟨t710, A1040, H⟩ := H
     try dsimp only at H
     have A104 := ak A1040
     clear A1040
     replace H := Option.bind_eq_some_iff.mp H
     obtain ⟨⟨t713, t714⟩, A1050, H⟩ := H
     try dsimp only at H
     have A105 := ak A1050
     clear A1050
     have H' := ak H
     clear H
     try go_wp2
     have n0_ := ak (Kd.R_drew HO_3.out)
     have n1_ := ak (Kd.R_drew HO_7.out)
     have n2_ := ak (blk_drew BK661.out)
     have n3_ := ak (blk_drew BK674.out)
     have n4_ := ak (blk_drew BK694.out)
     have n5_ := ak (blk_drew BK695.out)
     have n6_ := ak (below_drew1 HB.out)
     clear HO_3
     clear HO_7
     clear BK661
     clear BK674
     clear BK694
     clear BK695
     clear HB
     have HO_3 := n0_
     have HO_7 := n1_
     have BK661 := n2_
     have BK674 := n3_
     have BK694 := n4_
     have BK695 := n5_
     have HB := n6_
     clear n0_ n1_ n2_ n3_ n4_ n5_ n6_
     have p701 : 0 ≤ (x14_9 : Int) := of_decide_eq_true (by first | (with_reducible assumption) | assumption)
     have q701 : x14_9 < (x3_7.length : Int) := of_decide_eq_true (by first | (with_reducible assumption) | assumption)
     obtain ⟨ad701, e701, hx701_0⟩ := Kd.at_int (Kd.R_reads' HO_3.out).2.2 x14_9 p701 q701
     obtain rfl : ad681 = ad701 := (by injection e701)
     replace p701 := eq_true p701
     replace q701 := eq_true q701
     refine start_ (n := 8) (S := fun w' => w'.cell? ⟨gb674, 0, none⟩ = some (.string ((rd_T27 l0_0 x4_2).f0)) ∧ w'.cell? ⟨gb674, 1, none⟩ = some (.int .i64 ((rd_T27 l0_0 x4_2).f1)) ∧ w'.cell? (ad681.add (x14_9).toNat) = some (.int .i64 (rd x3_7 x14_9))) (ds := []) #[false, false, false, false, false, false, false, false] (by kernel_rfl) rfl rfl ⟨(blk_cell BK674.out 0).trans rfl, (blk_cell BK674.out 1).trans rfl, hx701_0⟩ (fun hHeld => ?_); refine with_tabW herbariumlaw1_BitsExact.tab35 herbariumlaw1_BitsExact.bits35 (fun HT_ HW_ => ?_)
     generalize wc.drew = w106 at HO_3 HO_7 BK661 BK674 BK694 BK695 HB hx701_0 hHeld ⊢
     refine pure_ (i := 0) (N := some 154) (v := ?_) (a' := ?_) #[true, false, false, false, false, false, false, false] rfl rfl (any_of HT_.out (by kernel_rfl)) (fun _ _ _ h => h) (Or.inl ⟨by rfl, ?_⟩) ?_ ?_
     rotate_left
     · intro w'
       go_simp
       with_reducible rfl
     rotate_left
     · simp only [Act.put, s1, s2, s3, i64_w, i32_w]
       rfl
     refine pure_ (i := 2) (N := some 156) (v := ?_) (a' := ?_) #[true, false, true, false, false, false, false, false] rfl rfl (any_of HT_.out (by kernel_rfl)) (fun _ _ _ h => h) (Or.inl ⟨by rfl, ?_⟩) ?_ ?_
     rotate_left
     · intro w'
       go_simp
       with_reducible rfl
     rotate_left
     · simp only [Act.put, s1, s2, s3, i64_w, i32_w]
       rfl
     refine pure_ (i := 3) (N := some 157) (v := ?_) (a' := ?_) #[true, false, true, true, false, false, false, false] rfl rfl (any_of HT_.out (by kernel_rfl)) (fun _ _ _ h => h) (Or.inl ⟨by rfl, ?_⟩) ?_ ?_
     rotate_left
     · intro w'
       go_simp
       with_reducible rfl
     rotate_left
     · simp only [Act.put, s1, s2, s3, i64_w, i32_w]
       rfl
     refine pure_ (i := 4) (N := some 158) (v := ?_) (a' := ?_) #[true, false, true, true, true, false, false, false] rfl rfl (any_of HT_.out (by kernel_rfl)) (fun _ _ _ h => h) (Or.inl ⟨by rfl, ?_⟩) ?_ ?_
     rotate_left
     · intro w'
       go_simp
       with_reducible rfl
     rotate_left
     · simp only [Act.put, s1, s2, s3, i64_w, i32_w]
       rfl
     refine take_ (i := 1) (N := some 155) (v := ?_) (a' := ?_) #[true, true, true, true, true, false, false, false] rfl rfl (take_ofW HT_.out HW_.out (by kernel_rfl)) (fun _ _ _ h => h) (Or.inl ⟨by rfl, ?_⟩) hHeld ?_ ?_
     rotate_left
     · rintro w' ⟨s0, s1, s2⟩
       go_simp
       with_reducible rfl
     rotate_left
     · simp only [Act.put, s1, s2, s3, i64_w, i32_w]
       rfl
     refine take_ (i := 5) (N := some 159) (v := ?_) (a' := ?_) #[true, true, true, true, true, true, false, false] rfl rfl (take_ofW HT_.out HW_.out (by kernel_rfl)) (fun _ _ _ h => h) (Or.inl ⟨by rfl, ?_⟩) hHeld ?_ ?_
     rotate_left
     · rintro w' ⟨s0, s1, s2⟩
       go_simp
       with_reducible rfl
     rotate_left
     · simp only [Act.put, s1, s2, s3, i64_w, i32_w]
       rfl
     refine pure_ (i := 6) (N := some 160) (v := ?_) (a' := ?_) #[true, true, true, true, true, true, true, false] rfl rfl (any_of HT_.out (by kernel_rfl)) (fun _ _ _ h => h) (Or.inl ⟨by rfl, ?_⟩) ?_ ?_
     rotate_left
     · intro w'
       go_simp
       with_reducible rfl
     rotate_left
     · simp only [Act.put, s1, s2, s3, i64_w, i32_w]
       rfl
     refine pure_ (i := 7) (N := some 161) (v := ?_) (a' := ?_) #[true, true, true, true, true, true, true, true] rfl rfl (any_of HT_.out (by kernel_rfl)) (fun _ _ _ h => h) (Or.inl ⟨by rfl, ?_⟩) ?_ ?_
     rotate_left
     · intro w'
       go_simp
       with_reducible rfl
     rotate_left
     · simp only [Act.put, s1, s2, s3, i64_w, i32_w]
       rfl
     refine done_ (done_of HT_.out (by kernel_rfl)) ?_
     try go_wp2
     have n0_ := ak (Kd.R_drew HO_3.out)
     have n1_ := ak (Kd.R_drew HO_7.out)
     have n2_ := ak (blk_drew BK661.out)
     have n3_ := ak (blk_drew BK674.out)
     have n4_ := ak (blk_drew BK694.out)
     have n5_ := ak (blk_drew BK695.out)
     have n6_ := ak (below_drew1 HB.out)
     clear HO_3
     clear HO_7
     clear BK661
     clear BK674
     clear BK694
     clear BK695
     clear HB
     have HO_3 := n0_
     have HO_7 := n1_
     have BK661 := n2_
     have BK674 := n3_
     have BK694 := n4_
     have BK695 := n5_
     have HB := n6_
     clear n0_ n1_ n2_ n3_ n4_ n5_ n6_
     have p708 : 0 ≤ (x8_5 : Int) := of_decide_eq_true (by first | (with_reducible assumption) | assumption)
     have q708 : x8_5 < (x3_7.length : Int) := of_decide_eq_true (by first | (with_reducible assumption) | assumption)
     obtain ⟨ad708, e708, hx708_0⟩ := Kd.at_int (Kd.R_reads' HO_3.out).2.2 x8_5 p708 q708
     obtain rfl : ad681 = ad708 := (by injection e708)
     replace p708 := eq_true p708
     replace q708 := eq_true q708
     have p709 : 0 ≤ (x14_9 : Int) := of_decide_eq_true (by first | (with_reducible assumption) | assumption)
     have q709 : x14_9 < (x3_7.length : Int) := of_decide_eq_true (by first | (with_reducible assumption) | assumption)
     obtain ⟨ad709, e709, hx709_0⟩ := Kd.at_int (Kd.R_reads' HO_3.out).2.2 x14_9 p709 q709
     obtain rfl : ad681 = ad709 := (by injection e709)
     replace p709 := eq_true p709
     replace q709 := eq_true q709
     refine start_ (n := 15) (S := fun w' => w'.cell? (ad681.add (x8_5).toNat) = some (.int .i64 (rd x3_7 x8_5)) ∧ w'.cell? (ad681.add (x14_9).toNat) = some (.int .i64 (rd x3_7 x14_9))) (ds := []) #[false, false, false, false, false, false, false, false, false, false, false, false, false, false, false] (by kernel_rfl) rfl rfl ⟨hx708_0, hx709_0⟩ (fun hHeld => ?_); refine with_tabW herbariumlaw1_BitsExact.tab36 herbariumlaw1_BitsExact.bits36 (fun HT_ HW_ => ?_)
     generalize w106.drew = w107 at HO_3 HO_7 BK661 BK674 BK694 BK695 HB hx708_0 hx709_0 hHeld ⊢
     refine pure_ (i := 1) (N := some 163) (v := ?_) (a' := ?_) #[false, true, false, false, false, false, false, false, false, false, false, false, false, false, false] rfl rfl (any_of HT_.out (by kernel_rfl)) (fun _ _ _ h => h) (Or.inl ⟨by rfl, ?_⟩) ?_ ?_
     rotate_left
     · intro w'
       go_simp
       with_reducible rfl
     rotate_left
     · simp only [Act.put, s1, s2, s3, i64_w, i32_w]
       rfl
     refine pure_ (i := 3) (N := some 165) (v := ?_) (a' := ?_) #[false, true, false, true, false, false, false, false, false, false, false, false, false, false, false] rfl rfl (any_of HT_.out (by kernel_rfl)) (fun _ _ _ h => h) (Or.inl ⟨by rfl, ?_⟩) ?_ ?_
     rotate_left
     · intro w'
       go_simp
       with_reducible rfl
     rotate_left
     · simp only [Act.put, s1, s2, s3, i64_w, i32_w]
       rfl
     refine pure_ (i := 4) (N := some 166) (v := ?_) (a' := ?_) #[false, true, false, true, true, false, false, false, false, false, false, false, false, false, false] rfl rfl (any_of HT_.out (by kernel_rfl)) (fun _ _ _ h => h) (Or.inl ⟨by rfl, ?_⟩) ?_ ?_
     rotate_left
     · intro w'
       go_simp
       with_reducible rfl
     rotate_left
     · simp only [Act.put, s1, s2, s3, i64_w, i32_w]
       rfl
     refine pure_ (i := 5) (N := some 167) (v := ?_) (a' := ?_) #[false, true, false, true, true, true, false, false, false, false, false, false, false, false, false] rfl rfl (any_of HT_.out (by kernel_rfl)) (fun _ _ _ h => h) (Or.inl ⟨by rfl, ?_⟩) ?_ ?_
     rotate_left
     · intro w'
       go_simp
       with_reducible rfl
     rotate_left
     · simp only [Act.put, s1, s2, s3, i64_w, i32_w]
       rfl
     refine pure_ (i := 7) (N := some 169) (v := ?_) (a' := ?_) #[false, true, false, true, true, true, false, true, false, false, false, false, false, false, false] rfl rfl (any_of HT_.out (by kernel_rfl)) (fun _ _ _ h => h) (Or.inl ⟨by rfl, ?_⟩) ?_ ?_
     rotate_left
     · intro w'
       go_simp
       with_reducible rfl
     rotate_left
     · simp only [Act.put, s1, s2, s3, i64_w, i32_w]
       rfl
     refine pure_ (i := 8) (N := some 170) (v := ?_) (a' := ?_) #[false, true, false, true, true, true, false, true, true, false, false, false, false, false, false] rfl rfl (any_of HT_.out (by kernel_rfl)) (fun _ _ _ h => h) (Or.inl ⟨by rfl, ?_⟩) ?_ ?_
     rotate_left
     · intro w'
       go_simp
       with_reducible rfl
     rotate_left
     · simp only [Act.put, s1, s2, s3, i64_w, i32_w]
       rfl
     refine pure_ (i := 9) (N := some 171) (v := ?_) (a' := ?_) #[false, true, false, true, true, true, false, true, true, true, false, false, false, false, false] rfl rfl (any_of HT_.out (by kernel_rfl)) (fun _ _ _ h => h) (Or.inl ⟨by rfl, ?_⟩) ?_ ?_
     rotate_left
     · intro w'
       go_simp
       with_reducible rfl
     rotate_left
     · simp only [Act.put, s1, s2, s3, i64_w, i32_w]
       rfl
     refine take_ (i := 6) (N := some 168) (v := ?_) (a' := ?_) #[false, true, false, true, true, true, true, true, true, true, false, false, false, false, false] rfl rfl (take_ofW HT_.out HW_.out (by kernel_rfl)) (fun _ _ _ h => h) (Or.inl ⟨by rfl, ?_⟩) hHeld ?_ ?_
     rotate_left
     · rintro w' ⟨s0, s1⟩
       go_simp
       with_reducible rfl
     rotate_left
     · simp only [Act.put, s1, s2, s3, i64_w, i32_w]
       rfl
     refine take_ (i := 10) (N := some 172) (v := ?_) (a' := ?_) #[false, true, false, true, true, true, true, true, true, true, true, false, false, false, false] rfl rfl (take_ofW HT_.out HW_.out (by kernel_rfl)) (fun _ _ _ h => h) (Or.inl ⟨by rfl, ?_⟩) hHeld ?_ ?_
     rotate_left
     · rintro w' ⟨s0, s1⟩
       go_simp
       with_reducible rfl
     rotate_left
     · simp only [Act.put, s1, s2, s3, i64_w, i32_w]
       rfl
     refine one_ (i := 0) (N := some 162) #[true, true, false, true, true, true, true, true, true, true, true, false, false, false, false] rfl rfl (one_of HT_.out (by kernel_rfl)) (by decide) (fun K hK => ?_)
     refine Kd.R_lit_step (Kd.int .u8) _ 5 ?hg (N := 162) ?hd (xs := ([] : List Int)) (inner := []) (ok := fun _ => True) (okp := fun _ => True) ?hr ?hp (fun _ hk => hk) trivial (Below.refl _ _) (Nat.le_refl _) (by simp) ?_; (case hd => rfl); (case hg => rfl); (case hr => first | (go_simp; done) | (go_simp; rfl)); (case hp => exact (Reps.none _ _))
     intro v703 w108 ho109 hb hg_ hnew_
     have HS0_ := (hb.cell (World.block_lt_of_cell? _ _ (hHeld.1))).trans (hHeld.1)
     have HS1_ := (hb.cell (World.block_lt_of_cell? _ _ (hHeld.2))).trans (hHeld.2)
     clear hg_ hnew_
     (first | rw [← Ny702.out] at ho109 | (simp only [Int.reduceToNat] at ho109; rw [← Ny702.out] at ho109))
     have n0_ := ak (Kd.R_below (ur <| HO_3.out) hb)
     have n1_ := ak (Kd.R_elder' (ur <| HO_7.out) (Kd.R_base ho109) hb)
     have n2_ := ak (Kd.R_lower (Kd.R_new' ho109 (Kd.R_lt (ur <| HO_7.out))) (below_size (by repeat with_reducible first | exact HB.out | apply b1 | apply b2 | apply b3 | refine b4 ?_ GE661.out | refine b4 ?_ GE674.out | refine b4 ?_ GE694.out | refine b4 ?_ GE695.out)))
     have n3_ := ak (blk_below (g := gb661) (o := .cells #[.slice (some ad673) l0_0.length c0_0, .slice A0_1 l0_1.length c0_1] 25 (0, 0)) (ub BK661.out) hb)
     have n4_ := ak (blk_below (g := gb674) (o := .cells #[.string ((rd_T27 l0_0 x4_2).f0), .int .i64 ((rd_T27 l0_0 x4_2).f1)] 27 (0, 0)) (ub BK674.out) hb)
     have n5_ := ak (blk_below (g := gb694) (o := .cells #[.string t691, .int .i64 t692] 27 (0, 0)) (ub BK694.out) hb)
     have n6_ := ak (blk_below (g := gb695) (o := .cells #[.string (⟨#[]⟩ : ByteArray), .int .i64 0] 27 (0, 0)) (ub BK695.out) hb)
     have n7_ := ak (below_step (by repeat with_reducible first | exact HB.out | apply b1 | apply b2 | apply b3 | refine b4 ?_ GE661.out | refine b4 ?_ GE674.out | refine b4 ?_ GE694.out | refine b4 ?_ GE695.out) hb)
     clear HO_3
     clear HO_7
     clear BK661
     clear BK674
     clear BK694
     clear BK695
     clear HB
     have HO_3 := n0_
     have HO_7 := n1_
     have HO704 := n2_
     have BK661 := n3_
     have BK674 := n4_
     have BK694 := n5_
     have BK695 := n6_
     have HB := n7_
     clear n0_ n1_ n2_ n3_ n4_ n5_ n6_ n7_
     clear hb ho109
     obtain ⟨Ao111, co111, eo111⟩ := Kd.R_slice HO_7.out
     (first | subst eo111 | (injection eo111 with f1_ f2_ f3_; have f4_ := f1_.symm; have f5_ := f3_.symm; clear f1_ f2_ f3_; subst f4_; subst f5_))
     refine hK.out _ _ ⟨HS0_, HS1_⟩ (fun hHeld => ?_)
     clear hK K
     refine norm_ (a' := ?_) ?_ ?_
     rotate_left
     · show Act.put _ (some 162) _ = _
       simp only [Act.put, s1, s2, s3, i64_w, i32_w]
       rfl
     refine one_ (i := 2) (N := some 164) #[true, true, true, true, true, true, true, true, true, true, true, false, false, false, false] rfl rfl (one_of HT_.out (by kernel_rfl)) (by decide) (fun K hK => ?_)
     refine Kd.R_append_rows_step (Kd.int .u8) (w0 := w) w.heap.size (by rfl) (.tmp 162) (.tmp 163) 64 5 (.int .u8 0) 1 rfl Try.underlying64 info5 rfl (by decide) (by omega) v703 y702 x7_30 _ _ _ (fun k_ => some k_ ≠ (.slice Ao111 x7_30.length co111 : Value).ownBlock) (fun _ => False) rfl rfl ?aO ?aR (fun _ _ h => h) (fun _ h => h.elim) ?aF ?aB ?aS ?aL ?_
     (case aR => exact uc (Kd.R_reads' HO_7.out).2.2)
     (case aB => exact (by repeat with_reducible first | exact HB.out | apply b1 | apply b2 | apply b3 | refine b4 ?_ GE661.out | refine b4 ?_ GE674.out | refine b4 ?_ GE694.out | refine b4 ?_ GE695.out))
     (case aF => exact (fun k_ hk => Kd.fresh' (Kd.R_lt (ur <| HO_7.out)) k_ hk))
     (case aO => exact (ur <| Kd.R_mono HO704.out (fun _ hk => hk.2)))
     (case aS => exact (below_size (by repeat with_reducible first | exact HB.out | apply b1 | apply b2 | apply b3 | refine b4 ?_ GE661.out | refine b4 ?_ GE674.out | refine b4 ?_ GE694.out | refine b4 ?_ GE695.out)))
     (case aL => have := LMc101.out; omega)
     intro v706 w110 ho hb hg hat
     rw [← Ny705.out] at ho
     have n0_ := ak (Kd.R_over' (ur <| HO_3.out) (Kd.R_typed (ur <| HO704.out)) (by decide) hg)
     have n1_ := ak (Kd.R_after (ok := (fun _ => True)) (ur <| HO_7.out) hg hat)
     have n2_ := ak (blk_grown (g := gb661) (o := .cells #[.slice (some ad673) l0_0.length c0_0, .slice A0_1 l0_1.length c0_1] 25 (0, 0)) (ub BK661.out) hg (Kd.R_ne HO704.out BK661.out (by decide)))
     have n3_ := ak (blk_grown (g := gb674) (o := .cells #[.string ((rd_T27 l0_0 x4_2).f0), .int .i64 ((rd_T27 l0_0 x4_2).f1)] 27 (0, 0)) (ub BK674.out) hg (Kd.R_ne HO704.out BK674.out (by decide)))
     have n4_ := ak (blk_grown (g := gb694) (o := .cells #[.string t691, .int .i64 t692] 27 (0, 0)) (ub BK694.out) hg (Kd.R_ne HO704.out BK694.out (by decide)))
     have n5_ := ak (blk_grown (g := gb695) (o := .cells #[.string (⟨#[]⟩ : ByteArray), .int .i64 0] 27 (0, 0)) (ub BK695.out) hg (Kd.R_ne HO704.out BK695.out (by decide)))
     have n6_ := ak (hb)
     have n7_ := ak (ho)
     clear HO_3
     clear HO_7
     clear BK661
     clear BK674
     clear BK694
     clear BK695
     clear HB
     clear HO704
     have HO_3 := n0_
     have HO_7 := n1_
     have BK661 := n2_
     have BK674 := n3_
     have BK694 := n4_
     have BK695 := n5_
     have HB := n6_
     have HO707 := n7_
     clear n0_ n1_ n2_ n3_ n4_ n5_ n6_ n7_
     clear ho hb hg hat
     obtain ⟨Ao112, co112, eo112⟩ := Kd.R_slice HO707.out
     (first | subst eo112 | (injection eo112 with f1_ f2_ f3_; have f4_ := f1_.symm; have f5_ := f3_.symm; clear f1_ f2_ f3_; subst f4_; subst f5_))
     obtain ⟨adh0, eh0, HS0_⟩ := Kd.at_int (Kd.R_reads' HO_3.out).2.2 x8_5 (of_eq_true p708) (of_eq_true q708); obtain rfl : ad681 = adh0 := (by injection eh0)
     obtain ⟨adh1, eh1, HS1_⟩ := Kd.at_int (Kd.R_reads' HO_3.out).2.2 x14_9 (of_eq_true p709) (of_eq_true q709); obtain rfl : ad681 = adh1 := (by injection eh1)
     refine hK.out _ _ ⟨HS0_, HS1_⟩ (fun hHeld => ?_)
     clear hK K
     refine norm_ (a' := ?_) ?_ ?_
     rotate_left
     · show Act.put _ (some 164) _ = _
       simp only [Act.put, s1, s2, s3, i64_w, i32_w]
       rfl
     refine one_ (i := 11) (N := some 173) #[true, true, true, true, true, true, true, true, true, true, true, true, false, false, false] rfl rfl (one_of HT_.out (by kernel_rfl)) (by decide) (fun K hK => ?_)
     refine goes_ Try.func55 (by kernel_rfl) rfl #[.slice Ao112 y705.length co112, .int .i64 (rd x3_7 x8_5), .int .i64 (rd x3_7 x14_9)] (by rfl) rfl rfl (by (try simp only [List.map_toArray, List.map_cons, List.map_nil]); first | done | rfl | (simp only [List.length_drop, List.length_take]; rfl)) ?_
     with_reducible refine (herbariumref1_List_Put.calls kj71 (fun k_ => some k_ = (.slice Ao112 y705.length co112 : Value).ownBlock) (.slice Ao112 y705.length co112) y705 (rd x3_7 x8_5) (rd x3_7 x14_9) t710 w _ ?side1 ?side2 A104.out).mono ?_
     (case side1 => repeat (first | (with_reducible first | exact HB.out | apply below_alloc | apply pw_below_drewN | apply below_drew1 | refine below_set ?_ GE661.out | refine below_set ?_ GE674.out | refine below_set ?_ GE694.out | refine below_set ?_ GE695.out) | exact HB.out))
     (case side2 => exact Kd.R_tight rfl HO707.out)
     rintro e w113 ⟨v711, rfl, ho0, hb, hkp⟩
     have HS0_ := cell_kept (hHeld.1) hkp (by first | (rw [add_block]; exact (fun hs_ => ((((Kd.R_apart' HO_3.out (Kd.R_typed HO707.out) (by decide))).1 _ rfl).2) hs_)) | (show ¬ _; simp only [add_block]; exact (fun hs_ => ((((Kd.R_apart' HO_3.out (Kd.R_typed HO707.out) (by decide))).1 _ rfl).2) hs_)) | exact (fun hs_ => ((((Kd.R_apart' HO_3.out (Kd.R_typed HO707.out) (by decide))).1 _ rfl).2) hs_))
     have HS1_ := cell_kept (hHeld.2) hkp (by first | (rw [add_block]; exact (fun hs_ => ((((Kd.R_apart' HO_3.out (Kd.R_typed HO707.out) (by decide))).1 _ rfl).2) hs_)) | (show ¬ _; simp only [add_block]; exact (fun hs_ => ((((Kd.R_apart' HO_3.out (Kd.R_typed HO707.out) (by decide))).1 _ rfl).2) hs_)) | exact (fun hs_ => ((((Kd.R_apart' HO_3.out (Kd.R_typed HO707.out) (by decide))).1 _ rfl).2) hs_))
     refine ⟨_, rfl, ?_⟩
     have n0_ := ak (Kd.R_mono (ok' := fun k_ => True) (Kd.R_keptB ((Kd.R_apart' HO_3.out (Kd.R_typed HO707.out) (by decide))) hkp (fun k_ hk_ hs_ => (hk_.2) hs_)) (fun k_ hk_ => trivial))
     have n1_ := ak (Kd.R_mono (ok' := fun k_ => some k_ ≠ (v711 : Value).ownBlock) (Kd.R_keptB (HO_7.out) hkp (fun k_ hk_ hs_ => (hk_.2) hs_)) (fun k_ hk_ => fun e_ => Or.elim (ho0.1 k_ e_.symm) (fun hs_ => hk_.2.1 hs_) (fun hn_ => Nat.not_le.2 hk_.2.2 hn_)))
     have n2_ := ak (blk_kept (g := gb661) (o := .cells #[.slice (some ad673) l0_0.length c0_0, .slice A0_1 l0_1.length c0_1] 25 (0, 0)) (ub BK661.out) hkp (fun hs_ => (fun e_ => (Kd.R_ne HO707.out BK661.out (by decide)) e_) hs_))
     have n3_ := ak (blk_kept (g := gb674) (o := .cells #[.string ((rd_T27 l0_0 x4_2).f0), .int .i64 ((rd_T27 l0_0 x4_2).f1)] 27 (0, 0)) (ub BK674.out) hkp (fun hs_ => (fun e_ => (Kd.R_ne HO707.out BK674.out (by decide)) e_) hs_))
     have n4_ := ak (blk_kept (g := gb694) (o := .cells #[.string t691, .int .i64 t692] 27 (0, 0)) (ub BK694.out) hkp (fun hs_ => (fun e_ => (Kd.R_ne HO707.out BK694.out (by decide)) e_) hs_))
     have n5_ := ak (blk_kept (g := gb695) (o := .cells #[.string (⟨#[]⟩ : ByteArray), .int .i64 0] 27 (0, 0)) (ub BK695.out) hkp (fun hs_ => (fun e_ => (Kd.R_ne HO707.out BK695.out (by decide)) e_) hs_))
     have n6_ := ak (Kd.R_mono (ok' := fun k_ => some k_ ≠ (.slice Ao111 x7_30.length co111 : Value).ownBlock) ho0 (fun k_ hk_ => Or.elim hk_ (fun hs_ => fun e_ => (((HO_7.out).1 k_ e_.symm).2) hs_) (fun hn_ => (Kd.fresh' (Kd.R_lt (ur <| HO_7.out)) k_ hn_))))
     have n7_ := ak (hb)
     clear HO_3
     clear HO_7
     clear BK661
     clear BK674
     clear BK694
     clear BK695
     clear HB
     clear HO707
     have HO_3 := n0_
     have HO_7 := n1_
     have BK661 := n2_
     have BK674 := n3_
     have BK694 := n4_
     have BK695 := n5_
     have HO712 := n6_
     have HB := n7_
     clear n0_ n1_ n2_ n3_ n4_ n5_ n6_ n7_
     (try clear hb)
     (try clear hkp)
     (try clear ho0)
     obtain ⟨Ao114, co114, eo114⟩ := Kd.R_slice HO712.out
     (first | subst eo114 | (injection eo114 with f1_ f2_ f3_; have f4_ := f1_.symm; have f5_ := f3_.symm; clear f1_ f2_ f3_; subst f4_; subst f5_))
     refine hK.out _ _ ⟨HS0_, HS1_⟩ (fun hHeld => ?_)
     clear hK K
     refine norm_ (a' := ?_) ?_ ?_
     rotate_left
     · show Act.put _ (some 173) _ = _
       simp only [Act.put, s1, s2, s3, i64_w, i32_w]
       rfl
     refine one_ (i := 12) (N := some 174) #[true, true, true, true, true, true, true, true, true, true, true, true, true, false, false] rfl rfl (one_of HT_.out (by kernel_rfl)) (by decide) (fun K hK => ?_)
     refine goes_ Try.func56 (by kernel_rfl) rfl #[.slice Ao114 t710.length co114] (by rfl) rfl rfl (by (try simp only [List.map_toArray, List.map_cons, List.map_nil]); first | done | rfl | (simp only [List.length_drop, List.length_take]; rfl)) ?_
     with_reducible refine (herbariumref1_List_Pack.calls kj71 _ _ t710 t713 t714 _ ?side1 ?side2 A105.out).mono ?_
     (case side1 => exact uc (Kd.R_reads' HO712.out).2.2)
     (case side2 => exact (Kd.R_reads' HO712.out).2.1)
     rintro e w115 ⟨rfl, hb⟩
     have HS0_ := (hb.cell (World.block_lt_of_cell? _ _ (hHeld.1))).trans (hHeld.1)
     have HS1_ := (hb.cell (World.block_lt_of_cell? _ _ (hHeld.2))).trans (hHeld.2)
     refine ⟨_, rfl, ?_⟩
     have n0_ := ak (Kd.R_below (ur <| HO_3.out) hb)
     have n1_ := ak (Kd.R_below (ur <| HO_7.out) hb)
     have n2_ := ak (Kd.R_below (ur <| HO712.out) hb)
     have n3_ := ak (blk_below (g := gb661) (o := .cells #[.slice (some ad673) l0_0.length c0_0, .slice A0_1 l0_1.length c0_1] 25 (0, 0)) (ub BK661.out) hb)
     have n4_ := ak (blk_below (g := gb674) (o := .cells #[.string ((rd_T27 l0_0 x4_2).f0), .int .i64 ((rd_T27 l0_0 x4_2).f1)] 27 (0, 0)) (ub BK674.out) hb)
     have n5_ := ak (blk_below (g := gb694) (o := .cells #[.string t691, .int .i64 t692] 27 (0, 0)) (ub BK694.out) hb)
     have n6_ := ak (blk_below (g := gb695) (o := .cells #[.string (⟨#[]⟩ : ByteArray), .int .i64 0] 27 (0, 0)) (ub BK695.out) hb)
     have n7_ := ak (below_step (by repeat with_reducible first | exact HB.out | apply b1 | apply b2 | apply b3 | refine b4 ?_ GE661.out | refine b4 ?_ GE674.out | refine b4 ?_ GE694.out | refine b4 ?_ GE695.out) hb)
     clear HO_3
     clear HO_7
     clear HO712
     clear BK661
     clear BK674
     clear BK694
     clear BK695
     clear HB
     have HO_3 := n0_
     have HO_7 := n1_
     have HO712 := n2_
     have BK661 := n3_
     have BK674 := n4_
     have BK694 := n5_
     have BK695 := n6_
     have HB := n7_
     clear n0_ n1_ n2_ n3_ n4_ n5_ n6_ n7_
     (try clear hb)
     (try clear hb2)
     (try clear hk)
     (try clear hi)
     refine hK.out _ _ ⟨HS0_, HS1_⟩ (fun hHeld => ?_)
     clear hK K
     refine norm_ (a' := ?_) ?_ ?_
     rotate_left
     · show Act.put _ (some 174) _ = _
       simp only [Act.put, s1, s2, s3, i64_w, i32_w]
       rfl
     refine pure_ (i := 13) (N := some 17) (v := ?_) (a' := ?_) #[true, true, true, true, true, true, true, true, true, true, true, true, true, true, false] rfl rfl (any_of HT_.out (by kernel_rfl)) (fun _ _ _ h => h) (Or.inl ⟨by rfl, ?_⟩) ?_ ?_
     rotate_left
     · intro w'
       go_simp
       with_reducible rfl
     rotate_left
     · simp only [Act.put, s1, s2, s3, i64_w, i32_w]
       rfl
     refine one_ (i := 14) (N := none) #[true, true, true, true, true, true, true, true, true, true, true, true, true, true, true] rfl rfl (one_of HT_.out (by kernel_rfl)) (by decide) (fun K hK => ?_)
     have hs116 : w115.cell? ⟨gb695, 0, none⟩ = some (.string (⟨#[]⟩ : ByteArray)) := (blk_cell BK695.out 0).trans rfl
     have hfs116 := blk_frozen BK695.out 0
     have hns116_0 := NB661_695.out
     have hns116_1 := NB674_695.out
     have hns116_2 := NB694_695.out
     have hms116_0 := NB695_661.out
     have hms116_1 := NB695_674.out
     have hms116_2 := NB695_694.out
     have hs117 : w115.cell? ⟨gb695, 1, none⟩ = some (.int .i64 0) := (blk_cell BK695.out 1).trans rfl
     have hfs117 := blk_frozen BK695.out 1
     have hns117_0 := NB661_695.out
     have hns117_1 := NB674_695.out
     have hns117_2 := NB694_695.out
     have hms117_0 := NB695_661.out
     have hms117_1 := NB695_674.out
     have hms117_2 := NB695_694.out
     refine skip_ (w1 := ?_) (by rfl) rfl ?_ ?_
     rotate_left
     · go_simp
       rfl
     refine hK.out _ _ ⟨((cell_far (p := ⟨gb695, _, none⟩) (by first | exact Kd.own_blk (Kd.R_ne HO_3.out BK695.out (by decide)) | (rw [add_block]; exact Kd.own_blk (Kd.R_ne HO_3.out BK695.out (by decide))) | (show (Addr.add _ _).block ≠ _; rw [add_block]; exact Kd.own_blk (Kd.R_ne HO_3.out BK695.out (by decide))) | (dsimp only; exact Kd.own_blk (Kd.R_ne HO_3.out BK695.out (by decide)))) _).trans (((cell_far (p := ⟨gb695, _, none⟩) (by first | exact Kd.own_blk (Kd.R_ne HO_3.out BK695.out (by decide)) | (rw [add_block]; exact Kd.own_blk (Kd.R_ne HO_3.out BK695.out (by decide))) | (show (Addr.add _ _).block ≠ _; rw [add_block]; exact Kd.own_blk (Kd.R_ne HO_3.out BK695.out (by decide))) | (dsimp only; exact Kd.own_blk (Kd.R_ne HO_3.out BK695.out (by decide)))) _).trans (hHeld.1)))), ((cell_far (p := ⟨gb695, _, none⟩) (by first | exact Kd.own_blk (Kd.R_ne HO_3.out BK695.out (by decide)) | (rw [add_block]; exact Kd.own_blk (Kd.R_ne HO_3.out BK695.out (by decide))) | (show (Addr.add _ _).block ≠ _; rw [add_block]; exact Kd.own_blk (Kd.R_ne HO_3.out BK695.out (by decide))) | (dsimp only; exact Kd.own_blk (Kd.R_ne HO_3.out BK695.out (by decide)))) _).trans (((cell_far (p := ⟨gb695, _, none⟩) (by first | exact Kd.own_blk (Kd.R_ne HO_3.out BK695.out (by decide)) | (rw [add_block]; exact Kd.own_blk (Kd.R_ne HO_3.out BK695.out (by decide))) | (show (Addr.add _ _).block ≠ _; rw [add_block]; exact Kd.own_blk (Kd.R_ne HO_3.out BK695.out (by decide))) | (dsimp only; exact Kd.own_blk (Kd.R_ne HO_3.out BK695.out (by decide)))) _).trans (hHeld.2))))⟩ (fun hHeld => ?_)
     clear hK K
     refine done_ (done_of HT_.out (by kernel_rfl)) ?_
     try go_wp2
     go_meet
     case rel => exact ⟨_, (0), (t713), (t714), (by first | rfl | (simp; done) | (simp [*]; done)), H', ⟨by have := HJ7.out; have := HK2.out; have := HJ19.out; have := HJ30.out; have := HK5.out; have := HJ46.out; have := HJ54.out; have := HJ62.out; have := HK9.out; have := HJ71.out; first | omega | exact Nat.le_refl _⟩, ⟨ur <| Kd.R_mono (Kd.R_far (p := ⟨gb695, 1, none⟩) (Kd.R_far (p := ⟨gb695, 0, none⟩) (Kd.R_types HO_3.out BK695.out (by decide)) (fun _ hk => hk.2) (.string t713)) (fun _ hk => hk.2) (.int .i64 t714)) (fun _ hk => trivial)⟩, ⟨ur <| Kd.R_mono (Kd.R_far (p := ⟨gb695, 1, none⟩) (Kd.R_far (p := ⟨gb695, 0, none⟩) (Kd.R_types HO_7.out BK695.out (by decide)) (fun _ hk => hk.2) (.string t713)) (fun _ hk => hk.2) (.int .i64 t714)) (fun _ hk => trivial)⟩, ⟨by (with_reducible repeat (first | refine blk_drewN ?_ _ | refine blk_drew ?_ | refine blk_alloc ?_ _)); refine blk_far ?_ NB661_695.out _; (with_reducible repeat (first | refine blk_drewN ?_ _ | refine blk_drew ?_ | refine blk_alloc ?_ _)); refine blk_far ?_ NB661_695.out _; (with_reducible repeat (first | refine blk_drewN ?_ _ | refine blk_drew ?_ | refine blk_alloc ?_ _)); exact BK661.out⟩, ⟨by (with_reducible repeat (first | refine blk_drewN ?_ _ | refine blk_drew ?_ | refine blk_alloc ?_ _)); refine blk_far ?_ NB674_695.out _; (with_reducible repeat (first | refine blk_drewN ?_ _ | refine blk_drew ?_ | refine blk_alloc ?_ _)); refine blk_far ?_ NB674_695.out _; (with_reducible repeat (first | refine blk_drewN ?_ _ | refine blk_drew ?_ | refine blk_alloc ?_ _)); exact BK674.out⟩, ⟨by (with_reducible repeat (first | refine blk_drewN ?_ _ | refine blk_drew ?_ | refine blk_alloc ?_ _)); refine blk_far ?_ NB694_695.out _; (with_reducible repeat (first | refine blk_drewN ?_ _ | refine blk_drew ?_ | refine blk_alloc ?_ _)); refine blk_far ?_ NB694_695.out _; (with_reducible repeat (first | refine blk_drewN ?_ _ | refine blk_drew ?_ | refine blk_alloc ?_ _)); exact BK694.out⟩, ⟨by (with_reducible repeat (first | refine blk_drewN ?_ _ | refine blk_drew ?_ | refine blk_alloc ?_ _)); refine blk_put (cs := #[.string t713, .int .i64 0]) ?_ 1 _ rfl; (with_reducible repeat (first | refine blk_drewN ?_ _ | refine blk_drew ?_ | refine blk_alloc ?_ _)); refine blk_put (cs := #[.string (⟨#[]⟩ : ByteArray), .int .i64 0]) ?_ 0 _ rfl; (with_reducible repeat (first | refine blk_drewN ?_ _ | refine blk_drew ?_ | refine blk_alloc ?_ _)); exact BK695.out⟩, ⟨by repeat with_reducible first | exact HB.out | apply b1 | apply b2 | apply b3 | refine b4 ?_ GE661.out | refine b4 ?_ GE674.out | refine b4 ?_ GE694.out | refine b4 ?_ GE695.out⟩⟩
   clear HC96
   try clear HA
   try clear HJ95
   try clear HO_3
   try clear HO_7
   try clear BK661
   try clear BK674
   try clear BK694
   try clear BK695
   try clear HB
   obtain ⟨kq, x17_95, x696000_95, x696001_95, rfl, HA, HJ95, HO_3, HO_7, BK661, BK674, BK694, BK695, HB⟩ := hcut
   rename_i z9_1 z9_2 z9_3 z9_4 z9_5 z9_6 z9_7 z9_8 z9_9 z9_10 z9_11 z9_12 z9_13 z9_14 z9_15 z9_16 z9_17 z9_18 z9_19 z9_20 z9_21 z9_22 z9_23
   revert k c0_0 l0_0 A0_1 c0_1 l0_1 w hu25 hu27 HC0_0 HR0_1 HC0_1 A2 y663 Ny663 LMc7 y666 Ny666 z1_1 gb661 w9 GW661 GE661 w11 z1_2 v664 w12 w15 Ao16 co16 HO668 z3_1 u40 u41 u42 x3_7 kj7 HJ7 z2_1 z2_2 z4_1 z4_2 u5 u6 z3_2 u8 z4_3 z4_4 z4_5 z4_6 z4_7 z4_8 z4_9 z4_10 z4_11 z4_12 z4_13 z4_14 z4_15 z4_16 z4_17 z4_18 z4_19 z4_20 u27 u28 u29 u30 u31 z3_3 z3_4 z3_5 z3_6 z3_7 z3_8 z3_9 z3_10 u51 u52 u53 u54 u55 u56 u57 u58 u59 u60 u61 u62 u63 u64 u65 u66 z3_11 z3_12 z3_13 z4_21 z4_22 z4_23 z4_24 z4_25 z4_26 z4_27 z4_28 z4_29 z4_30 z4_31 z4_32 z4_33 z4_34 z4_35 z4_36 z4_37 z4_38 z4_39 z4_40 z4_41 z4_42 z4_43 z4_44 z4_45 z4_46 z4_47 z4_48 z4_49 z4_50 z4_51 z4_52 z4_53 z4_54 z4_55 z4_56 z4_57 z4_58 z4_59 z4_60 z4_61 z4_62 z4_63 z4_64 z4_65 z4_66 z4_67 z4_68 z4_69 z4_70 z4_71 z4_72 z4_73 z4_74 z4_75 z4_76 z4_77 z4_78 z4_79 z4_80 z4_81 z4_82 z4_83 z4_84 z4_85 z4_86 z4_87 z4_88 z4_89 z4_90 z4_91 z4_92 z4_93 z4_94 z4_95 z4_96 z4_97 z4_98 z4_99 z4_100 z4_101 z4_102 z4_103 z4_104 z4_105 z4_106 z4_107 z4_108 z4_109 z4_110 z4_111 z4_112 z4_113 z4_114 z4_115 z4_116 z4_117 z4_118 z4_119 z4_120 z4_121 z4_122 z4_123 z4_124 z4_125 z4_126 z4_127 z4_128 z4_129 z4_130 z4_131 z4_132 z4_133 z4_134 z4_135 z4_136 z4_137 z4_138 z4_139 z4_140 z4_141 z4_142 z4_143 z4_144 z4_145 z4_146 z4_147 z4_148 z4_149 z4_150 z4_151 z4_152 z4_153 z4_154 z4_155 z4_156 z4_157 z4_158 z4_159 z4_160 z4_161 z4_162 z4_163 z4_164 z4_165 z4_166 z4_167 z4_168 z4_169 z4_170 z4_171 z4_172 z4_173 z4_174 z4_175 z4_176 z4_177 z4_178 z4_179 z4_180 z4_181 z4_182 z4_183 z4_184 z4_185 z4_186 z4_187 z4_188 z4_189 z4_190 z4_191 z4_192 z4_193 z4_194 z4_195 z4_196 z4_197 z4_198 z4_199 z4_200 z4_201 z4_202 z4_203 z4_204 z4_205 z4_206 z4_207 z4_208 z4_209 z4_210 z4_211 z4_212 z4_213 z4_214 z4_215 z4_216 z4_217 z4_218 z4_219 z4_220 z4_221 z4_222 z4_223 z4_224 z4_225 z4_226 z4_227 z4_228 z4_229 z4_230 z4_231 z4_232 z4_233 z4_234 z4_235 z4_236 z4_237 z4_238 z4_239 z4_240 z4_241 z4_242 z4_243 z4_244 z4_245 z4_246 z4_247 z4_248 z4_249 z4_250 z4_251 z4_252 z4_253 z4_254 z4_255 z4_256 z4_257 z4_258 z4_259 z4_260 z4_261 z4_262 z4_263 z4_264 z4_265 z4_266 u316 u317 u318 u319 u320 u321 u322 u323 u324 u325 u326 u327 u328 u329 u330 u331 u332 u333 u334 u335 u336 u337 u338 u339 u340 u341 u342 u343 u344 u345 u346 u347 u348 u349 u350 u351 u352 u353 u354 u355 u356 u357 u358 u359 u360 u361 u362 u363 u364 u365 u366 u367 u368 u369 u370 u371 u372 u373 u374 u375 u376 z2_3 z2_4 x4_2 k2 z2_6 HK2 z3_14 u43 u44 u45 u46 u47 u48 u49 u50 kj19 HJ19 t675 A27 t676 A28 t677 A29 ad673 HR0_0 z3_15 z3_16 gb674 w33 GW674 GE674 NB661_674 NB674_661 hnb34 hnc34 w36 w38 nd z5_1 u7 u67 u68 u69 x7_30 kj30 HJ30 z4_267 z4_268 z7_1 z7_2 u9 u10 u11 u12 z6_1 u14 z7_3 z7_4 z7_5 z7_6 z7_7 z7_8 z7_9 z7_10 z7_11 z7_12 z7_13 z7_14 u70 u71 u72 u73 u74 u75 u76 u77 u78 u79 u80 u81 u82 u83 u84 z5_2 z5_3 z5_4 z5_5 z5_6 z5_7 z5_8 z5_9 z5_10 z6_2 z6_3 z6_4 z6_5 z6_6 z6_7 z6_8 z6_9 z6_10 z6_11 z6_12 z6_13 z6_14 z6_15 z6_16 z6_17 z6_18 z6_19 u112 z7_15 z7_16 z7_17 z7_18 z7_19 z7_20 z7_21 z7_22 z7_23 z7_24 z7_25 z7_26 z7_27 z7_28 z7_29 z7_30 z7_31 z7_32 z7_33 z7_34 z7_35 z7_36 z7_37 z7_38 z7_39 z7_40 z7_41 z7_42 z7_43 z7_44 z7_45 z7_46 z7_47 z7_48 z7_49 z7_50 z7_51 z7_52 z7_53 z7_54 z7_55 z7_56 z7_57 z7_58 z7_59 z7_60 z7_61 z7_62 z7_63 z7_64 z7_65 z7_66 z7_67 z7_68 z7_69 z7_70 z7_71 z7_72 z7_73 z7_74 z7_75 z7_76 z7_77 z7_78 z7_79 z7_80 z7_81 z7_82 z7_83 z7_84 z7_85 z7_86 z7_87 z7_88 z7_89 z7_90 z7_91 z7_92 z7_93 z7_94 z7_95 z7_96 z7_97 z7_98 z7_99 z7_100 z7_101 z7_102 z7_103 z7_104 z7_105 z7_106 z7_107 z7_108 z7_109 z7_110 z7_111 z7_112 z7_113 z7_114 z7_115 z7_116 z7_117 z7_118 z7_119 z7_120 z7_121 z7_122 z7_123 z7_124 z7_125 z7_126 z7_127 z7_128 z7_129 z7_130 z7_131 z7_132 z7_133 z7_134 z7_135 z7_136 z7_137 z7_138 z7_139 z7_140 z7_141 z7_142 z7_143 z7_144 z7_145 z7_146 z7_147 z7_148 z7_149 z7_150 z7_151 z7_152 z7_153 z7_154 z7_155 z7_156 z7_157 z7_158 z7_159 z7_160 z7_161 z7_162 z7_163 z7_164 z7_165 z7_166 z7_167 z7_168 z7_169 z7_170 z7_171 z7_172 z7_173 z7_174 z7_175 z7_176 z7_177 z7_178 z7_179 z7_180 z7_181 z7_182 z7_183 z7_184 z7_185 z7_186 z7_187 z7_188 z7_189 z7_190 z7_191 z7_192 z7_193 z7_194 z7_195 z7_196 z7_197 z7_198 z7_199 z7_200 z7_201 z7_202 z7_203 z7_204 z7_205 z7_206 z7_207 z7_208 z7_209 z7_210 z7_211 z7_212 z7_213 z7_214 z7_215 z7_216 z7_217 z4_269 z4_270 x8_5 k5 z4_272 HK5 t682 t683 A46 co48 z5_11 z5_12 ad681 z2_5 z4_271 z8_1 z8_2 w49 z5_13 w50 HS2_ z8_3 z6_20 u85 u86 u87 u88 u89 u90 u91 u92 u93 x94_46 kj46 HJ46 z6_21 u13 u94 u95 u96 u97 u98 u99 u100 u101 u102 u103 x11_54 x12_54 kj54 HJ54 z8_4 u104 u105 u106 u107 u108 u109 u110 u111 kj62 HJ62 wr u2 u15 u16 u17 u18 u19 u20 u21 u22 u23 u24 u25 u26 u113 u114 u115 u116 u117 u118 u119 u120 u121 u122 u123 u124 u125 u126 u127 u128 u129 u130 u131 u132 z8_5 z8_6 z8_7 z8_8 z8_9 z8_10 z8_11 z8_12 z8_13 z8_14 z8_15 z8_16 z8_17 z8_18 z8_19 z8_20 z8_21 z8_22 z8_23 z8_24 z9_1 z9_2 z9_3 z9_4 z9_5 z9_6 z9_7 z9_8 z9_9 z9_10 z9_11 z9_12 z9_13 z9_14 z9_15 z9_16 z9_17 z9_18 z9_19 z9_20 z9_21 z9_22 u175 u176 u177 u178 u179 u180 u181 u182 u183 u184 u185 u186 u187 u188 u189 u190 u191 u192 u193 u194 u195 u196 u197 u198 u199 u200 u201 u202 u203 u204 u205 u206 u207 u208 u209 u210 u211 u212 u213 u214 u215 u216 u217 u218 u219 u220 u221 u222 u223 u224 u225 u226 u227 u228 u229 u230 u231 u232 u233 u234 u235 u236 u237 u238 u239 u240 u241 u242 u243 u244 u245 u246 u247 u248 u249 u250 u251 u252 u253 u254 u255 u256 u257 u258 u259 u260 u261 u262 u263 u264 u265 u266 u267 u268 u269 u270 u271 u272 u273 u274 u275 u276 u277 u278 u279 u280 u281 u282 u283 u284 u285 u286 u287 u288 u289 u290 u291 u292 u293 u294 u295 u296 u297 u298 u299 u300 u301 u302 u303 u304 u305 u306 u307 u308 u309 u310 u311 u312 u313 u314 u315 z7_218 z7_219 z7_220 x14_9 k9 z7_221 HK9 c67b0 c68b0 c69b0 c70b0 t691 t692 t693 A71 z8_25 z8_26 e689 p689 q689 e690 p690 q690 HT_ HW_ w73 hx689_0 hx690_0 z8_27 gb694 w76 hS_ GW694 GE694 NB661_694 NB694_661 NB674_694 NB694_674 z8_28 hs77 hfs77 hns77_0 hns77_1 hms77_0 hms77_1 hs78 hfs78 hns78_0 hns78_1 hms78_0 hms78_1 hHeld gb695 w79 GW695 GE695 NB661_695 NB695_661 NB674_695 NB695_674 NB694_695 NB695_694 hnb80 hnc80 hnb81 hnc81 hnb82 hnc82 hcz83_0 hcz83_1 hfz83_0 hfz83_1 z8_29 z8_30 z9_23 u133 u134 u135 u136 u137 u138 u139 u140 u141 u142 u143 u144 u145 u146 u147 u148 u149 u150 u151 u152 x153_71 kj71 HJ71 wc u153 u154 u155 u156 u157 u158 u159 u160 u161 u162 u163 u164 u165 u166 u167 u168 u169 u170 u171 u172 u173 u174 kq x17_95 x696000_95 x696001_95 HA HJ95 HO_3 HO_7 BK661 BK674 BK694 BK695 HB
   exact hP_.out
end Go.Proofs.Ytnpghcikhpglkaa.Q
namespace Go.Proofs.Ytnpghcikhpglkaa.Q
open Go.RowKit Go.Proofs.YtnpghcikhpglkaaW.PrintWords Go.Proofs.YtnpghcikhpglkaaW.PrintLast Go.Proofs.YtnpghcikhpglkaaW.PrintMore
attribute [local go_sem] max2_int min2_int max_two min_two max_three min_three max_four min_four   -- for this text's walks alone
set_option linter.unusedVariables false
set_option linter.unusedSimpArgs false
attribute [local go_sem high] eqA27
set_option maxHeartbeats 8000000 in
set_option maxRecDepth 100000 in
noncomputable def herbariumlaw1_BitsExact.p10 : PSigma fun P_ : Prop => Later P_ → herbariumlaw1_BitsExact.p9.1 := by
  refine' ⟨_, fun hP_ => ?_⟩
  rotate_left
  focus
   intro k c0_0 l0_0 A0_1 c0_1 l0_1 w hu25 hu27 HC0_0 HR0_1 HC0_1 A2 y663 Ny663 LMc7 y666 Ny666 z1_1 gb661 w9 GW661 GE661 w11 z1_2 v664 w12 w15 Ao16 co16 HO668 z3_1 u40 u41 u42 x3_7 kj7 HJ7 z2_1 z2_2 z4_1 z4_2 u5 u6 z3_2 u8 z4_3 z4_4 z4_5 z4_6 z4_7 z4_8 z4_9 z4_10 z4_11 z4_12 z4_13 z4_14 z4_15 z4_16 z4_17 z4_18 z4_19 z4_20 u27 u28 u29 u30 u31 z3_3 z3_4 z3_5 z3_6 z3_7 z3_8 z3_9 z3_10 u51 u52 u53 u54 u55 u56 u57 u58 u59 u60 u61 u62 u63 u64 u65 u66 z3_11 z3_12 z3_13 z4_21 z4_22 z4_23 z4_24 z4_25 z4_26 z4_27 z4_28 z4_29 z4_30 z4_31 z4_32 z4_33 z4_34 z4_35 z4_36 z4_37 z4_38 z4_39 z4_40 z4_41 z4_42 z4_43 z4_44 z4_45 z4_46 z4_47 z4_48 z4_49 z4_50 z4_51 z4_52 z4_53 z4_54 z4_55 z4_56 z4_57 z4_58 z4_59 z4_60 z4_61 z4_62 z4_63 z4_64 z4_65 z4_66 z4_67 z4_68 z4_69 z4_70 z4_71 z4_72 z4_73 z4_74 z4_75 z4_76 z4_77 z4_78 z4_79 z4_80 z4_81 z4_82 z4_83 z4_84 z4_85 z4_86 z4_87 z4_88 z4_89 z4_90 z4_91 z4_92 z4_93 z4_94 z4_95 z4_96 z4_97 z4_98 z4_99 z4_100 z4_101 z4_102 z4_103 z4_104 z4_105 z4_106 z4_107 z4_108 z4_109 z4_110 z4_111 z4_112 z4_113 z4_114 z4_115 z4_116 z4_117 z4_118 z4_119 z4_120 z4_121 z4_122 z4_123 z4_124
   intro z4_125 z4_126 z4_127 z4_128 z4_129 z4_130 z4_131 z4_132 z4_133 z4_134 z4_135 z4_136 z4_137 z4_138 z4_139 z4_140 z4_141 z4_142 z4_143 z4_144 z4_145 z4_146 z4_147 z4_148 z4_149 z4_150 z4_151 z4_152 z4_153 z4_154 z4_155 z4_156 z4_157 z4_158 z4_159 z4_160 z4_161 z4_162 z4_163 z4_164 z4_165 z4_166 z4_167 z4_168 z4_169 z4_170 z4_171 z4_172 z4_173 z4_174 z4_175 z4_176 z4_177 z4_178 z4_179 z4_180 z4_181 z4_182 z4_183 z4_184 z4_185 z4_186 z4_187 z4_188 z4_189 z4_190 z4_191 z4_192 z4_193 z4_194 z4_195 z4_196 z4_197 z4_198 z4_199 z4_200 z4_201 z4_202 z4_203 z4_204 z4_205 z4_206 z4_207 z4_208 z4_209 z4_210 z4_211 z4_212 z4_213 z4_214 z4_215 z4_216 z4_217 z4_218 z4_219 z4_220 z4_221 z4_222 z4_223 z4_224 z4_225 z4_226 z4_227 z4_228 z4_229 z4_230 z4_231 z4_232 z4_233 z4_234 z4_235 z4_236 z4_237 z4_238 z4_239 z4_240 z4_241 z4_242 z4_243 z4_244 z4_245 z4_246 z4_247 z4_248 z4_249 z4_250 z4_251 z4_252 z4_253 z4_254 z4_255 z4_256 z4_257 z4_258 z4_259 z4_260 z4_261 z4_262 z4_263 z4_264 z4_265 z4_266 u316 u317 u318 u319 u320 u321 u322 u323 u324 u325 u326 u327 u328 u329 u330 u331 u332 u333 u334 u335 u336 u337 u338 u339 u340 u341 u342 u343 u344 u345 u346 u347 u348 u349 u350 u351 u352 u353 u354 u355 u356 u357 u358 u359 u360 u361 u362 u363 u364 u365 u366 u367 u368 u369 u370 u371 u372 u373
   intro u374 u375 u376 z2_3 z2_4 x4_2 k2 z2_6 HK2 z3_14 u43 u44 u45 u46 u47 u48 u49 u50 kj19 HJ19 t675 A27 t676 A28 t677 A29 ad673 HR0_0 z3_15 z3_16 gb674 w33 GW674 GE674 NB661_674 NB674_661 hnb34 hnc34 w36 w38 nd z5_1 u7 u67 u68 u69 x7_30 kj30 HJ30 z4_267 z4_268 z7_1 z7_2 u9 u10 u11 u12 z6_1 u14 z7_3 z7_4 z7_5 z7_6 z7_7 z7_8 z7_9 z7_10 z7_11 z7_12 z7_13 z7_14 u70 u71 u72 u73 u74 u75 u76 u77 u78 u79 u80 u81 u82 u83 u84 z5_2 z5_3 z5_4 z5_5 z5_6 z5_7 z5_8 z5_9 z5_10 z6_2 z6_3 z6_4 z6_5 z6_6 z6_7 z6_8 z6_9 z6_10 z6_11 z6_12 z6_13 z6_14 z6_15 z6_16 z6_17 z6_18 z6_19 u112 z7_15 z7_16 z7_17 z7_18 z7_19 z7_20 z7_21 z7_22 z7_23 z7_24 z7_25 z7_26 z7_27 z7_28 z7_29 z7_30 z7_31 z7_32 z7_33 z7_34 z7_35 z7_36 z7_37 z7_38 z7_39 z7_40 z7_41 z7_42 z7_43 z7_44 z7_45 z7_46 z7_47 z7_48 z7_49 z7_50 z7_51 z7_52 z7_53 z7_54 z7_55 z7_56 z7_57 z7_58 z7_59 z7_60 z7_61 z7_62 z7_63 z7_64 z7_65 z7_66 z7_67 z7_68 z7_69 z7_70 z7_71 z7_72 z7_73 z7_74 z7_75 z7_76 z7_77 z7_78 z7_79 z7_80 z7_81 z7_82 z7_83 z7_84 z7_85 z7_86 z7_87 z7_88 z7_89 z7_90 z7_91 z7_92 z7_93 z7_94 z7_95 z7_96 z7_97 z7_98 z7_99 z7_100
   intro z7_101 z7_102 z7_103 z7_104 z7_105 z7_106 z7_107 z7_108 z7_109 z7_110 z7_111 z7_112 z7_113 z7_114 z7_115 z7_116 z7_117 z7_118 z7_119 z7_120 z7_121 z7_122 z7_123 z7_124 z7_125 z7_126 z7_127 z7_128 z7_129 z7_130 z7_131 z7_132 z7_133 z7_134 z7_135 z7_136 z7_137 z7_138 z7_139 z7_140 z7_141 z7_142 z7_143 z7_144 z7_145 z7_146 z7_147 z7_148 z7_149 z7_150 z7_151 z7_152 z7_153 z7_154 z7_155 z7_156 z7_157 z7_158 z7_159 z7_160 z7_161 z7_162 z7_163 z7_164 z7_165 z7_166 z7_167 z7_168 z7_169 z7_170 z7_171 z7_172 z7_173 z7_174 z7_175 z7_176 z7_177 z7_178 z7_179 z7_180 z7_181 z7_182 z7_183 z7_184 z7_185 z7_186 z7_187 z7_188 z7_189 z7_190 z7_191 z7_192 z7_193 z7_194 z7_195 z7_196 z7_197 z7_198 z7_199 z7_200 z7_201 z7_202 z7_203 z7_204 z7_205 z7_206 z7_207 z7_208 z7_209 z7_210 z7_211 z7_212 z7_213 z7_214 z7_215 z7_216 z7_217 z4_269 z4_270 x8_5 k5 z4_272 HK5 t682 t683 A46 co48 z5_11 z5_12 ad681 z2_5 z4_271 z8_1 z8_2 w49 z5_13 w50 HS2_ z8_3 z6_20 u85 u86 u87 u88 u89 u90 u91 u92 u93 x94_46 kj46 HJ46 z6_21 u13 u94 u95 u96 u97 u98 u99 u100 u101 u102 u103 x11_54 x12_54 kj54 HJ54 z8_4 u104 u105 u106 u107 u108 u109 u110 u111 kj62 HJ62 wr u2 u15 u16 u17 u18 u19 u20 u21 u22 u23 u24 u25 u26 u113 u114 u115 u116 u117 u118 u119
   intro u120 u121 u122 u123 u124 u125 u126 u127 u128 u129 u130 u131 u132 z8_5 z8_6 z8_7 z8_8 z8_9 z8_10 z8_11 z8_12 z8_13 z8_14 z8_15 z8_16 z8_17 z8_18 z8_19 z8_20 z8_21 z8_22 z8_23 z8_24 z9_1 z9_2 z9_3 z9_4 z9_5 z9_6 z9_7 z9_8 z9_9 z9_10 z9_11 z9_12 z9_13 z9_14 z9_15 z9_16 z9_17 z9_18 z9_19 z9_20 z9_21 z9_22 u175 u176 u177 u178 u179 u180 u181 u182 u183 u184 u185 u186 u187 u188 u189 u190 u191 u192 u193 u194 u195 u196 u197 u198 u199 u200 u201 u202 u203 u204 u205 u206 u207 u208 u209 u210 u211 u212 u213 u214 u215 u216 u217 u218 u219 u220 u221 u222 u223 u224 u225 u226 u227 u228 u229 u230 u231 u232 u233 u234 u235 u236 u237 u238 u239 u240 u241 u242 u243 u244 u245 u246 u247 u248 u249 u250 u251 u252 u253 u254 u255 u256 u257 u258 u259 u260 u261 u262 u263 u264 u265 u266 u267 u268 u269 u270 u271 u272 u273 u274 u275 u276 u277 u278 u279 u280 u281 u282 u283 u284 u285 u286 u287 u288 u289 u290 u291 u292 u293 u294 u295 u296 u297 u298 u299 u300 u301 u302 u303 u304 u305 u306 u307 u308 u309 u310 u311 u312 u313 u314 u315 z7_218 z7_219 z7_220 x14_9
   intro k9 z7_221 HK9 c67b0 c68b0 c69b0 c70b0 t691 t692 t693 A71 z8_25 z8_26 e689 p689 q689 e690 p690 q690 HT_ HW_ w73 hx689_0 hx690_0 z8_27 gb694 w76 hS_ GW694 GE694 NB661_694 NB694_661 NB674_694 NB694_674 z8_28 hs77 hfs77 hns77_0 hns77_1 hms77_0 hms77_1 hs78 hfs78 hns78_0 hns78_1 hms78_0 hms78_1 hHeld gb695 w79 GW695 GE695 NB661_695 NB695_661 NB674_695 NB695_674 NB694_695 NB695_694 hnb80 hnc80 hnb81 hnc81 hnb82 hnc82 hcz83_0 hcz83_1 hfz83_0 hfz83_1 z8_29 z8_30 z9_23 u133 u134 u135 u136 u137 u138 u139 u140 u141 u142 u143 u144 u145 u146 u147 u148 u149 u150 u151 u152 x153_71 kj71 HJ71 wc u153 u154 u155 u156 u157 u158 u159 u160 u161 u162 u163 u164 u165 u166 u167 u168 u169 u170 u171 u172 u173 u174 kq x17_95 x696000_95 x696001_95 HA HJ95 HO_3 HO_7 BK661 BK674 BK694 BK695 HB
   cases kq with
   | zero => exact absurd HA.out (by simp [herbariumlaw1_BitsExact.j10])
   | succ kj95 => ?_
   have H := HA.out
   clear HA
   simp only [herbariumlaw1_BitsExact.j10] at H
   have HC119 := ak H
   clear H
   go_upto_region 37 with (fail)
   go_cut [183] from 9999 to 0 (fun v183 wc => ∃ (kq : Nat) (x183_118 : Bool), v183 = .bool x183_118 ∧ Aside0 (herbariumlaw1_BitsExact.j11 kq x3_7 x4_2 t675 x7_30 x8_5 x14_9 x183_118 l0_0 l0_1 ((rd_T27 l0_0 x4_2).f0) ((rd_T27 l0_0 x4_2).f1) = some true) ∧ Aside0 (kq ≤ kj95) ∧ Aside0 (Kd.R (Kd.int .i64) 3 wc w.heap.size (fun _ => True) (.slice (some ad681) x3_7.length co48) x3_7) ∧ Aside0 (Kd.R (Kd.int .u8) 5 wc w.heap.size (fun _ => True) u7 x7_30) ∧ Aside0 (wc.heap[gb661]? = some (.cells #[(.slice (some ad673) l0_0.length c0_0), (.slice A0_1 l0_1.length c0_1)] 25 (0, 0))) ∧ Aside0 (wc.heap[gb674]? = some (.cells #[.string ((rd_T27 l0_0 x4_2).f0), .int .i64 ((rd_T27 l0_0 x4_2).f1)] 27 (0, 0))) ∧ Aside0 (wc.heap[gb694]? = some (.cells #[.string t691, .int .i64 t692] 27 (0, 0))) ∧ Aside0 (wc.heap[gb695]? = some (.cells #[.string x696000_95, .int .i64 x696001_95] 27 (0, 0))) ∧ Aside0 (Below w.heap.size w wc))
   case first =>
     have H := HC119.out
     clear HC119
     replace H := Option.bind_eq_some_iff.mp H
     obtain ⟨t715, A1200, H⟩ := H
     try dsimp only at H
     have A120 := ak A1200
     clear A1200
     by_cases c121 : t715 = x17_95
     rotate_left
     · rw [if_neg c121] at H
       have c121b0 : (t715 == x17_95) = false := beq_eq_false_iff_ne.mpr c121
       have c121b1 : (t715 != x17_95) = true := bne_iff_ne.mpr c121
       (first | rw [c121b0] | (simp only [i64_w, i32_w]; rw [c121b0]) | skip)
       exact absurd H (herbariumlaw1_BitsExact.j11_no _ _ _ _ _ _ _ _ _ _ _)
     rw [if_pos c121] at H
     have c121b0 : (t715 == x17_95) = true := beq_iff_eq.mpr c121
     have c121b1 : (t715 != x17_95) = false := bne_eq_false_iff_eq.mpr c121
     clear c121
     (first | rw [c121b0] | (simp only [i64_w, i32_w]; rw [c121b0]) | skip)
     have H' := ak H
     clear H
     go_wp2_with (first | ((with_reducible refine gate_callee (f := 26) rfl ?_); refine goesL_ (some 176) rfl rfl Try.func26 (by kernel_rfl) rfl #[.int .i64 t693] rfl (by (try simp only [List.map_toArray, List.map_cons, List.map_nil]); first | done | rfl | (simp only [List.length_drop, List.length_take]; rfl)) ?_; (with_reducible refine (herbariumlaw1_num.calls t693 t715 _ A120.out).mono ?_); rintro e w' ⟨rfl, ⟨nd, rfl⟩⟩; refine ⟨_, rfl, ?_⟩; have hnb122 := NB694_661.out; have hnc122 := NB661_694.out; have hnb123 := NB694_674.out; have hnc123 := NB674_694.out; have hnb124 := NB694_695.out; have hnc124 := NB695_694.out; have hcz125_0 : wc.cell? ⟨gb694, 0, none⟩ = some (.string t691) := (blk_cell BK694.out 0).trans rfl; have hcz125_1 : wc.cell? ⟨gb694, 1, none⟩ = some (.int .i64 t692) := (blk_cell BK694.out 1).trans rfl; have hfz125_0 := blk_frozen BK694.out 0; have hfz125_1 := blk_frozen BK694.out 1; have hnb126 := NB695_661.out; have hnc126 := NB661_695.out; have hnb127 := NB695_674.out; have hnc127 := NB674_695.out; have hcz128_0 : wc.cell? ⟨gb695, 0, none⟩ = some (.string x696000_95) := (blk_cell BK695.out 0).trans rfl; have hcz128_1 : wc.cell? ⟨gb695, 1, none⟩ = some (.int .i64 x696001_95) := (blk_cell BK695.out 1).trans rfl; have hfz128_0 := blk_frozen BK695.out 0; have hfz128_1 := blk_frozen BK695.out 1))
     go_meet
     case rel => exact ⟨_, ((!(t691.toList == x696000_95.toList) || (!(t692 == x696001_95)))), (by first | rfl | (simp; done) | (simp [*]; done)), H', ⟨by have := HJ7.out; have := HK2.out; have := HJ19.out; have := HJ30.out; have := HK5.out; have := HJ46.out; have := HJ54.out; have := HJ62.out; have := HK9.out; have := HJ71.out; have := HJ95.out; first | omega | exact Nat.le_refl _⟩, ⟨ur <| HO_3.out⟩, ⟨ur <| HO_7.out⟩, ⟨ub BK661.out⟩, ⟨ub BK674.out⟩, ⟨ub BK694.out⟩, ⟨ub BK695.out⟩, ⟨by repeat with_reducible first | exact HB.out | apply b1 | apply b2 | apply b3 | refine b4 ?_ GE661.out | refine b4 ?_ GE674.out | refine b4 ?_ GE694.out | refine b4 ?_ GE695.out⟩⟩
   clear HC119
   try clear c26
   try clear HA
   try clear HJ118
   try clear HO_3
   try clear HO_7
   try clear BK661
   try clear BK674
   try clear BK694
   try clear BK695
   try clear HB
   obtain ⟨kq, x183_118, rfl, HA, HJ118, HO_3, HO_7, BK661, BK674, BK694, BK695, HB⟩ := hcut
   cases kq with
   | zero => exact absurd HA.out (by simp [herbariumlaw1_BitsExact.j11])
   | succ kj118 => ?_
   have H := HA.out
   clear HA
   simp only [herbariumlaw1_BitsExact.j11] at H
   by_cases c129 : x183_118 = true
   · subst c129
     have H1 : (some false) = some true := by rw [if_pos rfl] at H; exact H
     clear H
     have H := H1
     clear H1
     exact absurd (Option.some.inj H) (by decide)
   replace c129 := Bool.eq_false_iff.mpr c129
   subst c129
   have H1 : (if 0 ≤ x8_5 then (if x8_5 < (x3_7.length : Int) then (if 0 ≤ x14_9 then (if x14_9 < (x3_7.length : Int) then ((bits_Get.f kj118 ((rd_T27 l0_0 x4_2).f0) ((rd_T27 l0_0 x4_2).f1) (rd x3_7 x8_5) (rd x3_7 x14_9)).bind fun bt718 => (if t675 = true then (if (rd x3_7 x8_5) ≥ 0 then ((herbariumref0_Num.f (rd x3_7 x14_9) 30).bind fun t722 => (herbariumlaw1_BitsExact.j12 kj118 x3_7 x4_2 t675 x7_30 x8_5 x14_9 bt718.1 bt718.2 1 0 t722 l0_0 l0_1 ((rd_T27 l0_0 x4_2).f0) ((rd_T27 l0_0 x4_2).f1))) else (herbariumlaw1_BitsExact.j12 kj118 x3_7 x4_2 t675 x7_30 x8_5 x14_9 bt718.1 bt718.2 1 0 false l0_0 l0_1 ((rd_T27 l0_0 x4_2).f0) ((rd_T27 l0_0 x4_2).f1))) else (herbariumlaw1_BitsExact.j12 kj118 x3_7 x4_2 t675 x7_30 x8_5 x14_9 bt718.1 bt718.2 1 0 false l0_0 l0_1 ((rd_T27 l0_0 x4_2).f0) ((rd_T27 l0_0 x4_2).f1)))) else (none)) else (none)) else (none)) else (none)) = some true := by rw [if_neg (show ¬ (false = true) by decide)] at H; exact H
   clear H
   have H := H1
   clear H1
   by_cases c130 : 0 ≤ x8_5
   rotate_left
   · rw [if_neg c130] at H
     exact absurd H (by simp)
   rw [if_pos c130] at H
   have c130b0 : decide (0 ≤ x8_5) = true := decide_eq_true c130
   clear c130
   by_cases c131 : x8_5 < (x3_7.length : Int)
   rotate_left
   · rw [if_neg c131] at H
     exact absurd H (by simp)
   rw [if_pos c131] at H
   have c131b0 : decide (x8_5 < (x3_7.length : Int)) = true := decide_eq_true c131
   clear c131
   by_cases c132 : 0 ≤ x14_9
   rotate_left
   · rw [if_neg c132] at H
     exact absurd H (by simp)
   rw [if_pos c132] at H
   have c132b0 : decide (0 ≤ x14_9) = true := decide_eq_true c132
   clear c132
   by_cases c133 : x14_9 < (x3_7.length : Int)
   rotate_left
   · rw [if_neg c133] at H
     exact absurd H (by simp)
   rw [if_pos c133] at H
   have c133b0 : decide (x14_9 < (x3_7.length : Int)) = true := decide_eq_true c133
   clear c133
   replace H := Option.bind_eq_some_iff.mp H
   obtain ⟨⟨t718, t719⟩, A1340, H⟩ := H
   try dsimp only at H
   have A134 := ak A1340
   clear A1340
   have HC135 := ak H
   clear H
   try go_wp2
   have n0_ := ak (Kd.R_drew HO_3.out)
   have n1_ := ak (Kd.R_drew HO_7.out)
   have n2_ := ak (blk_drew BK661.out)
   have n3_ := ak (blk_drew BK674.out)
   have n4_ := ak (blk_drew BK694.out)
   have n5_ := ak (blk_drew BK695.out)
   have n6_ := ak (below_drew1 HB.out)
   clear HO_3
   clear HO_7
   clear BK661
   clear BK674
   clear BK694
   clear BK695
   clear HB
   have HO_3 := n0_
   have HO_7 := n1_
   have BK661 := n2_
   have BK674 := n3_
   have BK694 := n4_
   have BK695 := n5_
   have HB := n6_
   clear n0_ n1_ n2_ n3_ n4_ n5_ n6_
   have p716 : 0 ≤ (x8_5 : Int) := of_decide_eq_true (by first | (with_reducible assumption) | assumption)
   have q716 : x8_5 < (x3_7.length : Int) := of_decide_eq_true (by first | (with_reducible assumption) | assumption)
   obtain ⟨ad716, e716, hx716_0⟩ := Kd.at_int (Kd.R_reads' HO_3.out).2.2 x8_5 p716 q716
   obtain rfl : ad681 = ad716 := (by injection e716)
   replace p716 := eq_true p716
   replace q716 := eq_true q716
   have p717 : 0 ≤ (x14_9 : Int) := of_decide_eq_true (by first | (with_reducible assumption) | assumption)
   have q717 : x14_9 < (x3_7.length : Int) := of_decide_eq_true (by first | (with_reducible assumption) | assumption)
   obtain ⟨ad717, e717, hx717_0⟩ := Kd.at_int (Kd.R_reads' HO_3.out).2.2 x14_9 p717 q717
   obtain rfl : ad681 = ad717 := (by injection e717)
   replace p717 := eq_true p717
   replace q717 := eq_true q717
   refine start_ (n := 15) (S := fun w' => w'.cell? ⟨gb674, 0, none⟩ = some (.string ((rd_T27 l0_0 x4_2).f0)) ∧ w'.cell? ⟨gb674, 1, none⟩ = some (.int .i64 ((rd_T27 l0_0 x4_2).f1)) ∧ w'.cell? (ad681.add (x8_5).toNat) = some (.int .i64 (rd x3_7 x8_5)) ∧ w'.cell? (ad681.add (x14_9).toNat) = some (.int .i64 (rd x3_7 x14_9))) (ds := []) #[false, false, false, false, false, false, false, false, false, false, false, false, false, false, false] (by kernel_rfl) rfl rfl ⟨(blk_cell BK674.out 0).trans rfl, (blk_cell BK674.out 1).trans rfl, hx716_0, hx717_0⟩ (fun hHeld => ?_); refine with_tabW herbariumlaw1_BitsExact.tab39 herbariumlaw1_BitsExact.bits39 (fun HT_ HW_ => ?_)
   generalize wc.drew = w136 at HO_3 HO_7 BK661 BK674 BK694 BK695 HB hx716_0 hx717_0 hHeld ⊢
   refine pure_ (i := 1) (N := some 186) (v := ?_) (a' := ?_) #[false, true, false, false, false, false, false, false, false, false, false, false, false, false, false] rfl rfl (any_of HT_.out (by kernel_rfl)) (fun _ _ _ h => h) (Or.inl ⟨by rfl, ?_⟩) ?_ ?_
   rotate_left
   · intro w'
     go_simp
     with_reducible rfl
   rotate_left
   · simp only [Act.put, s1, s2, s3, i64_w, i32_w]
     rfl
   refine pure_ (i := 2) (N := some 187) (v := ?_) (a' := ?_) #[false, true, true, false, false, false, false, false, false, false, false, false, false, false, false] rfl rfl (any_of HT_.out (by kernel_rfl)) (fun _ _ _ h => h) (Or.inl ⟨by rfl, ?_⟩) ?_ ?_
   rotate_left
   · intro w'
     go_simp
     with_reducible rfl
   rotate_left
   · simp only [Act.put, s1, s2, s3, i64_w, i32_w]
     rfl
   refine pure_ (i := 3) (N := some 188) (v := ?_) (a' := ?_) #[false, true, true, true, false, false, false, false, false, false, false, false, false, false, false] rfl rfl (any_of HT_.out (by kernel_rfl)) (fun _ _ _ h => h) (Or.inl ⟨by rfl, ?_⟩) ?_ ?_
   rotate_left
   · intro w'
     go_simp
     with_reducible rfl
   rotate_left
   · simp only [Act.put, s1, s2, s3, i64_w, i32_w]
     rfl
   refine pure_ (i := 5) (N := some 190) (v := ?_) (a' := ?_) #[false, true, true, true, false, true, false, false, false, false, false, false, false, false, false] rfl rfl (any_of HT_.out (by kernel_rfl)) (fun _ _ _ h => h) (Or.inl ⟨by rfl, ?_⟩) ?_ ?_
   rotate_left
   · intro w'
     go_simp
     with_reducible rfl
   rotate_left
   · simp only [Act.put, s1, s2, s3, i64_w, i32_w]
     rfl
   refine pure_ (i := 6) (N := some 191) (v := ?_) (a' := ?_) #[false, true, true, true, false, true, true, false, false, false, false, false, false, false, false] rfl rfl (any_of HT_.out (by kernel_rfl)) (fun _ _ _ h => h) (Or.inl ⟨by rfl, ?_⟩) ?_ ?_
   rotate_left
   · intro w'
     go_simp
     with_reducible rfl
   rotate_left
   · simp only [Act.put, s1, s2, s3, i64_w, i32_w]
     rfl
   refine pure_ (i := 7) (N := some 192) (v := ?_) (a' := ?_) #[false, true, true, true, false, true, true, true, false, false, false, false, false, false, false] rfl rfl (any_of HT_.out (by kernel_rfl)) (fun _ _ _ h => h) (Or.inl ⟨by rfl, ?_⟩) ?_ ?_
   rotate_left
   · intro w'
     go_simp
     with_reducible rfl
   rotate_left
   · simp only [Act.put, s1, s2, s3, i64_w, i32_w]
     rfl
   refine take_ (i := 0) (N := some 185) (v := ?_) (a' := ?_) #[true, true, true, true, false, true, true, true, false, false, false, false, false, false, false] rfl rfl (take_ofW HT_.out HW_.out (by kernel_rfl)) (fun _ _ _ h => h) (Or.inl ⟨by rfl, ?_⟩) hHeld ?_ ?_
   rotate_left
   · rintro w' ⟨s0, s1, s2, s3⟩
     go_simp
     with_reducible rfl
   rotate_left
   · simp only [Act.put, s1, s2, s3, i64_w, i32_w]
     rfl
   refine take_ (i := 4) (N := some 189) (v := ?_) (a' := ?_) #[true, true, true, true, true, true, true, true, false, false, false, false, false, false, false] rfl rfl (take_ofW HT_.out HW_.out (by kernel_rfl)) (fun _ _ _ h => h) (Or.inl ⟨by rfl, ?_⟩) hHeld ?_ ?_
   rotate_left
   · rintro w' ⟨s0, s1, s2, s3⟩
     go_simp
     with_reducible rfl
   rotate_left
   · simp only [Act.put, s1, s2, s3, i64_w, i32_w]
     rfl
   refine take_ (i := 8) (N := some 193) (v := ?_) (a' := ?_) #[true, true, true, true, true, true, true, true, true, false, false, false, false, false, false] rfl rfl (take_ofW HT_.out HW_.out (by kernel_rfl)) (fun _ _ _ h => h) (Or.inl ⟨by rfl, ?_⟩) hHeld ?_ ?_
   rotate_left
   · rintro w' ⟨s0, s1, s2, s3⟩
     go_simp
     with_reducible rfl
   rotate_left
   · simp only [Act.put, s1, s2, s3, i64_w, i32_w]
     rfl
   refine one_ (i := 9) (N := some 194) #[true, true, true, true, true, true, true, true, true, true, false, false, false, false, false] rfl rfl (one_of HT_.out (by kernel_rfl)) (by decide) (fun K hK => ?_)
   refine goes_ Try.func25 (by kernel_rfl) rfl #[.agg #[.string ((rd_T27 l0_0 x4_2).f0), .int .i64 ((rd_T27 l0_0 x4_2).f1)], .int .i64 (rd x3_7 x8_5), .int .i64 (rd x3_7 x14_9)] (by rfl) rfl rfl (by (try simp only [List.map_toArray, List.map_cons, List.map_nil]); first | done | rfl | (simp only [List.length_drop, List.length_take]; rfl)) ?_
   with_reducible refine (bits_Get.calls kj118 ((rd_T27 l0_0 x4_2).f0) ((rd_T27 l0_0 x4_2).f1) (rd x3_7 x8_5) (rd x3_7 x14_9) t718 t719 _ A134.out).mono ?_
   rintro e w137 ⟨rfl, hb⟩
   have HS2_ := (hb.cell (World.block_lt_of_cell? _ _ (hHeld.2.2.1))).trans (hHeld.2.2.1)
   have HS3_ := (hb.cell (World.block_lt_of_cell? _ _ (hHeld.2.2.2))).trans (hHeld.2.2.2)
   refine ⟨_, rfl, ?_⟩
   have n0_ := ak (Kd.R_below (ur <| HO_3.out) hb)
   have n1_ := ak (Kd.R_below (ur <| HO_7.out) hb)
   have n2_ := ak (blk_below (g := gb661) (o := .cells #[.slice (some ad673) l0_0.length c0_0, .slice A0_1 l0_1.length c0_1] 25 (0, 0)) (ub BK661.out) hb)
   have n3_ := ak (blk_below (g := gb674) (o := .cells #[.string ((rd_T27 l0_0 x4_2).f0), .int .i64 ((rd_T27 l0_0 x4_2).f1)] 27 (0, 0)) (ub BK674.out) hb)
   have n4_ := ak (blk_below (g := gb694) (o := .cells #[.string t691, .int .i64 t692] 27 (0, 0)) (ub BK694.out) hb)
   have n5_ := ak (blk_below (g := gb695) (o := .cells #[.string x696000_95, .int .i64 x696001_95] 27 (0, 0)) (ub BK695.out) hb)
   have n6_ := ak (below_step (by repeat with_reducible first | exact HB.out | apply b1 | apply b2 | apply b3 | refine b4 ?_ GE661.out | refine b4 ?_ GE674.out | refine b4 ?_ GE694.out | refine b4 ?_ GE695.out) hb)
   clear HO_3
   clear HO_7
   clear BK661
   clear BK674
   clear BK694
   clear BK695
   clear HB
   have HO_3 := n0_
   have HO_7 := n1_
   have BK661 := n2_
   have BK674 := n3_
   have BK694 := n4_
   have BK695 := n5_
   have HB := n6_
   clear n0_ n1_ n2_ n3_ n4_ n5_ n6_
   (try clear hb)
   (try clear hb2)
   (try clear hk)
   (try clear hi)
   refine hK.out _ _ ⟨(blk_cell BK674.out 0).trans rfl, (blk_cell BK674.out 1).trans rfl, HS2_, HS3_⟩ (fun hHeld => ?_)
   clear hK K
   refine norm_ (a' := ?_) ?_ ?_
   rotate_left
   · show Act.put _ (some 194) _ = _
     simp only [Act.put, s1, s2, s3, i64_w, i32_w]
     rfl
   refine pure_ (i := 10) (N := some 184) (v := ?_) (a' := ?_) #[true, true, true, true, true, true, true, true, true, true, true, false, false, false, false] rfl rfl (any_of HT_.out (by kernel_rfl)) (fun _ _ _ h => h) (Or.inl ⟨by rfl, ?_⟩) ?_ ?_
   rotate_left
   · intro w'
     go_simp
     with_reducible rfl
   rotate_left
   · simp only [Act.put, s1, s2, s3, i64_w, i32_w]
     rfl
   refine pure_ (i := 11) (N := some 195) (v := ?_) (a' := ?_) #[true, true, true, true, true, true, true, true, true, true, true, true, false, false, false] rfl rfl (any_of HT_.out (by kernel_rfl)) (fun _ _ _ h => h) (Or.inl ⟨by rfl, ?_⟩) ?_ ?_
   rotate_left
   · intro w'
     go_simp
     with_reducible rfl
   rotate_left
   · simp only [Act.put, s1, s2, s3, i64_w, i32_w]
     rfl
   refine pure_ (i := 12) (N := some 196) (v := ?_) (a' := ?_) #[true, true, true, true, true, true, true, true, true, true, true, true, true, false, false] rfl rfl (any_of HT_.out (by kernel_rfl)) (fun _ _ _ h => h) (Or.inl ⟨by rfl, ?_⟩) ?_ ?_
   rotate_left
   · intro w'
     go_simp
     with_reducible rfl
   rotate_left
   · simp only [Act.put, s1, s2, s3, i64_w, i32_w]
     rfl
   refine pure_ (i := 13) (N := some 19) (v := ?_) (a' := ?_) #[true, true, true, true, true, true, true, true, true, true, true, true, true, true, false] rfl rfl (any_of HT_.out (by kernel_rfl)) (fun _ _ _ h => h) (Or.inl ⟨by rfl, ?_⟩) ?_ ?_
   rotate_left
   · intro w'
     go_simp
     with_reducible rfl
   rotate_left
   · simp only [Act.put, s1, s2, s3, i64_w, i32_w]
     rfl
   refine pure_ (i := 14) (N := some 20) (v := ?_) (a' := ?_) #[true, true, true, true, true, true, true, true, true, true, true, true, true, true, true] rfl rfl (any_of HT_.out (by kernel_rfl)) (fun _ _ _ h => h) (Or.inl ⟨by rfl, ?_⟩) ?_ ?_
   rotate_left
   · intro w'
     go_simp
     with_reducible rfl
   rotate_left
   · simp only [Act.put, s1, s2, s3, i64_w, i32_w]
     rfl
   refine done_ (done_of HT_.out (by kernel_rfl)) ?_
   go_upto_region 41 with (fail)
   go_cut [211] from 9999 to 0 (fun v211 wc => ∃ (kq : Nat) (x211_134 : Bool), v211 = .bool x211_134 ∧ Aside0 (herbariumlaw1_BitsExact.j12 kq x3_7 x4_2 t675 x7_30 x8_5 x14_9 t718 t719 1 0 x211_134 l0_0 l0_1 ((rd_T27 l0_0 x4_2).f0) ((rd_T27 l0_0 x4_2).f1) = some true) ∧ Aside0 (kq ≤ kj118) ∧ Aside0 (Kd.R (Kd.int .i64) 3 wc w.heap.size (fun _ => True) (.slice (some ad681) x3_7.length co48) x3_7) ∧ Aside0 (Kd.R (Kd.int .u8) 5 wc w.heap.size (fun _ => True) u7 x7_30) ∧ Aside0 (wc.heap[gb661]? = some (.cells #[(.slice (some ad673) l0_0.length c0_0), (.slice A0_1 l0_1.length c0_1)] 25 (0, 0))) ∧ Aside0 (wc.heap[gb674]? = some (.cells #[.string ((rd_T27 l0_0 x4_2).f0), .int .i64 ((rd_T27 l0_0 x4_2).f1)] 27 (0, 0))) ∧ Aside0 (wc.heap[gb694]? = some (.cells #[.string t691, .int .i64 t692] 27 (0, 0))) ∧ Aside0 (wc.heap[gb695]? = some (.cells #[.string x696000_95, .int .i64 x696001_95] 27 (0, 0))) ∧ Aside0 (Below w.heap.size w wc))
   case first =>
     have H := HC135.out
     clear HC135
     by_cases c138 : t675 = true
     rotate_left
     · replace c138 := Bool.eq_false_iff.mpr c138
       subst c138
       have H1 : (herbariumlaw1_BitsExact.j12 kj118 x3_7 x4_2 false x7_30 x8_5 x14_9 t718 t719 1 0 false l0_0 l0_1 ((rd_T27 l0_0 x4_2).f0) ((rd_T27 l0_0 x4_2).f1)) = some true := by rw [if_neg (show ¬ (false = true) by decide)] at H; exact H
       clear H
       have H := H1
       clear H1
       have H' := ak H
       clear H
       go_wp2
       go_meet
       case rel => exact ⟨_, (false), (by first | rfl | (simp; done) | (simp [*]; done)), H', ⟨by have := HJ7.out; have := HK2.out; have := HJ19.out; have := HJ30.out; have := HK5.out; have := HJ46.out; have := HJ54.out; have := HJ62.out; have := HK9.out; have := HJ71.out; have := HJ95.out; have := HJ118.out; first | omega | exact Nat.le_refl _⟩, ⟨ur <| HO_3.out⟩, ⟨ur <| HO_7.out⟩, ⟨ub BK661.out⟩, ⟨ub BK674.out⟩, ⟨ub BK694.out⟩, ⟨ub BK695.out⟩, ⟨by repeat with_reducible first | exact HB.out | apply b1 | apply b2 | apply b3 | refine b4 ?_ GE661.out | refine b4 ?_ GE674.out | refine b4 ?_ GE694.out | refine b4 ?_ GE695.out⟩⟩
     subst c138
     have H1 : (if (rd x3_7 x8_5) ≥ 0 then ((herbariumref0_Num.f (rd x3_7 x14_9) 30).bind fun t722 => (herbariumlaw1_BitsExact.j12 kj118 x3_7 x4_2 true x7_30 x8_5 x14_9 t718 t719 1 0 t722 l0_0 l0_1 ((rd_T27 l0_0 x4_2).f0) ((rd_T27 l0_0 x4_2).f1))) else (herbariumlaw1_BitsExact.j12 kj118 x3_7 x4_2 true x7_30 x8_5 x14_9 t718 t719 1 0 false l0_0 l0_1 ((rd_T27 l0_0 x4_2).f0) ((rd_T27 l0_0 x4_2).f1))) = some true := by rw [if_pos rfl] at H; exact H
     clear H
     have H := H1
     clear H1
     by_cases c139 : (rd x3_7 x8_5) ≥ 0
     rotate_left
     · rw [if_neg c139] at H
       have c139b0 : decide (0 ≤ (rd x3_7 x8_5)) = false := decide_eq_false c139
       clear c139
       (first | rw [c139b0] | (simp only [i64_w, i32_w]; rw [c139b0]) | skip)
       have H' := ak H
       clear H
       have p720 : 0 ≤ (x8_5 : Int) := of_decide_eq_true (by first | (with_reducible assumption) | assumption)
       have q720 : x8_5 < (x3_7.length : Int) := of_decide_eq_true (by first | (with_reducible assumption) | assumption)
       obtain ⟨ad720, e720, hx720_0⟩ := Kd.at_int (Kd.R_reads' HO_3.out).2.2 x8_5 p720 q720
       obtain rfl : ad681 = ad720 := (by injection e720)
       replace p720 := eq_true p720
       replace q720 := eq_true q720
       go_wp2
       go_meet
       case rel => exact ⟨_, (false), (by first | rfl | (simp; done) | (simp [*]; done)), H', ⟨by have := HJ7.out; have := HK2.out; have := HJ19.out; have := HJ30.out; have := HK5.out; have := HJ46.out; have := HJ54.out; have := HJ62.out; have := HK9.out; have := HJ71.out; have := HJ95.out; have := HJ118.out; first | omega | exact Nat.le_refl _⟩, ⟨ur <| HO_3.out⟩, ⟨ur <| HO_7.out⟩, ⟨ub BK661.out⟩, ⟨ub BK674.out⟩, ⟨ub BK694.out⟩, ⟨ub BK695.out⟩, ⟨by repeat with_reducible first | exact HB.out | apply b1 | apply b2 | apply b3 | refine b4 ?_ GE661.out | refine b4 ?_ GE674.out | refine b4 ?_ GE694.out | refine b4 ?_ GE695.out⟩⟩
     rw [if_pos c139] at H
     have c139b0 : decide (0 ≤ (rd x3_7 x8_5)) = true := decide_eq_true c139
     clear c139
     (first | rw [c139b0] | (simp only [i64_w, i32_w]; rw [c139b0]) | skip)
     replace H := Option.bind_eq_some_iff.mp H
     obtain ⟨t722, A1400, H⟩ := H
     try dsimp only at H
     have A140 := ak A1400
     clear A1400
     have H' := ak H
     clear H
     have p720 : 0 ≤ (x8_5 : Int) := of_decide_eq_true (by first | (with_reducible assumption) | assumption)
     have q720 : x8_5 < (x3_7.length : Int) := of_decide_eq_true (by first | (with_reducible assumption) | assumption)
     obtain ⟨ad720, e720, hx720_0⟩ := Kd.at_int (Kd.R_reads' HO_3.out).2.2 x8_5 p720 q720
     obtain rfl : ad681 = ad720 := (by injection e720)
     replace p720 := eq_true p720
     replace q720 := eq_true q720
     have p721 : 0 ≤ (x14_9 : Int) := of_decide_eq_true (by first | (with_reducible assumption) | assumption)
     have q721 : x14_9 < (x3_7.length : Int) := of_decide_eq_true (by first | (with_reducible assumption) | assumption)
     obtain ⟨ad721, e721, hx721_0⟩ := Kd.at_int (Kd.R_reads' HO_3.out).2.2 x14_9 p721 q721
     obtain rfl : ad681 = ad721 := (by injection e721)
     replace p721 := eq_true p721
     replace q721 := eq_true q721
     go_wp2_with (first | (go_at_call 53; (with_reducible refine (herbariumref0_Num.calls (rd x3_7 x14_9) 30 t722 _ A140.out).mono ?_); rintro e w' ⟨rfl, ⟨nd, rfl⟩⟩))
     go_meet
     case rel => exact ⟨_, (t722), (by first | rfl | (simp; done) | (simp [*]; done)), H', ⟨by have := HJ7.out; have := HK2.out; have := HJ19.out; have := HJ30.out; have := HK5.out; have := HJ46.out; have := HJ54.out; have := HJ62.out; have := HK9.out; have := HJ71.out; have := HJ95.out; have := HJ118.out; first | omega | exact Nat.le_refl _⟩, ⟨ur <| HO_3.out⟩, ⟨ur <| HO_7.out⟩, ⟨ub BK661.out⟩, ⟨ub BK674.out⟩, ⟨ub BK694.out⟩, ⟨ub BK695.out⟩, ⟨by repeat with_reducible first | exact HB.out | apply b1 | apply b2 | apply b3 | refine b4 ?_ GE661.out | refine b4 ?_ GE674.out | refine b4 ?_ GE694.out | refine b4 ?_ GE695.out⟩⟩
   clear HC135
   try clear c25
   try clear c26
   try clear c129
   try clear c130
   try clear c130b0
   try clear c131
   try clear c131b0
   try clear c132
   try clear c132b0
   try clear c133
   try clear c133b0
   try clear hx716_0
   try clear hx717_0
   try clear p716
   try clear p717
   try clear q716
   try clear q717
   try clear HA
   try clear HJ134
   try clear HO_3
   try clear HO_7
   try clear BK661
   try clear BK674
   try clear BK694
   try clear BK695
   try clear HB
   obtain ⟨kq, x211_134, rfl, HA, HJ134, HO_3, HO_7, BK661, BK674, BK694, BK695, HB⟩ := hcut
   rename_i z10_1 z10_2 z10_3 z10_4 z10_5 z10_6 z10_7 z10_8 z10_9 z10_10 z10_11 z10_12 z10_13 z10_14 z10_15 z10_16 z10_17 z10_18 z10_19 z10_20 z10_21 z10_22 z10_23 z10_24 z10_25 z10_26 z10_27 z10_28 z10_29 z10_30 z10_31 z10_32 z10_33
   revert k c0_0 l0_0 A0_1 c0_1 l0_1 w hu25 hu27 HC0_0 HR0_1 HC0_1 A2 y663 Ny663 LMc7 y666 Ny666 z1_1 gb661 w9 GW661 GE661 w11 z1_2 v664 w12 w15 Ao16 co16 HO668 z3_1 u40 u41 u42 x3_7 kj7 HJ7 z2_1 z2_2 z4_1 z4_2 u5 u6 z3_2 u8 z4_3 z4_4 z4_5 z4_6 z4_7 z4_8 z4_9 z4_10 z4_11 z4_12 z4_13 z4_14 z4_15 z4_16 z4_17 z4_18 z4_19 z4_20 u27 u28 u29 u30 u31 z3_3 z3_4 z3_5 z3_6 z3_7 z3_8 z3_9 z3_10 u51 u52 u53 u54 u55 u56 u57 u58 u59 u60 u61 u62 u63 u64 u65 u66 z3_11 z3_12 z3_13 z4_21 z4_22 z4_23 z4_24 z4_25 z4_26 z4_27 z4_28 z4_29 z4_30 z4_31 z4_32 z4_33 z4_34 z4_35 z4_36 z4_37 z4_38 z4_39 z4_40 z4_41 z4_42 z4_43 z4_44 z4_45 z4_46 z4_47 z4_48 z4_49 z4_50 z4_51 z4_52 z4_53 z4_54 z4_55 z4_56 z4_57 z4_58 z4_59 z4_60 z4_61 z4_62 z4_63 z4_64 z4_65 z4_66 z4_67 z4_68 z4_69 z4_70 z4_71 z4_72 z4_73 z4_74 z4_75 z4_76 z4_77 z4_78 z4_79 z4_80 z4_81 z4_82 z4_83 z4_84 z4_85 z4_86 z4_87 z4_88 z4_89 z4_90 z4_91 z4_92 z4_93 z4_94 z4_95 z4_96 z4_97 z4_98 z4_99 z4_100 z4_101 z4_102 z4_103 z4_104 z4_105 z4_106 z4_107 z4_108 z4_109 z4_110 z4_111 z4_112 z4_113 z4_114 z4_115 z4_116 z4_117 z4_118 z4_119 z4_120 z4_121 z4_122 z4_123 z4_124 z4_125 z4_126 z4_127 z4_128 z4_129 z4_130 z4_131 z4_132 z4_133 z4_134 z4_135 z4_136 z4_137 z4_138 z4_139 z4_140 z4_141 z4_142 z4_143 z4_144 z4_145 z4_146 z4_147 z4_148 z4_149 z4_150 z4_151 z4_152 z4_153 z4_154 z4_155 z4_156 z4_157 z4_158 z4_159 z4_160 z4_161 z4_162 z4_163 z4_164 z4_165 z4_166 z4_167 z4_168 z4_169 z4_170 z4_171 z4_172 z4_173 z4_174 z4_175 z4_176 z4_177 z4_178 z4_179 z4_180 z4_181 z4_182 z4_183 z4_184 z4_185 z4_186 z4_187 z4_188 z4_189 z4_190 z4_191 z4_192 z4_193 z4_194 z4_195 z4_196 z4_197 z4_198 z4_199 z4_200 z4_201 z4_202 z4_203 z4_204 z4_205 z4_206 z4_207 z4_208 z4_209 z4_210 z4_211 z4_212 z4_213 z4_214 z4_215 z4_216 z4_217 z4_218 z4_219 z4_220 z4_221 z4_222 z4_223 z4_224 z4_225 z4_226 z4_227 z4_228 z4_229 z4_230 z4_231 z4_232 z4_233 z4_234 z4_235 z4_236 z4_237 z4_238 z4_239 z4_240 z4_241 z4_242 z4_243 z4_244 z4_245 z4_246 z4_247 z4_248 z4_249 z4_250 z4_251 z4_252 z4_253 z4_254 z4_255 z4_256 z4_257 z4_258 z4_259 z4_260 z4_261 z4_262 z4_263 z4_264 z4_265 z4_266 u316 u317 u318 u319 u320 u321 u322 u323 u324 u325 u326 u327 u328 u329 u330 u331 u332 u333 u334 u335 u336 u337 u338 u339 u340 u341 u342 u343 u344 u345 u346 u347 u348 u349 u350 u351 u352 u353 u354 u355 u356 u357 u358 u359 u360 u361 u362 u363 u364 u365 u366 u367 u368 u369 u370 u371 u372 u373 u374 u375 u376 z2_3 z2_4 x4_2 k2 z2_6 HK2 z3_14 u43 u44 u45 u46 u47 u48 u49 u50 kj19 HJ19 t675 A27 t676 A28 t677 A29 ad673 HR0_0 z3_15 z3_16 gb674 w33 GW674 GE674 NB661_674 NB674_661 hnb34 hnc34 w36 w38 nd z5_1 u7 u67 u68 u69 x7_30 kj30 HJ30 z4_267 z4_268 z7_1 z7_2 u9 u10 u11 u12 z6_1 u14 z7_3 z7_4 z7_5 z7_6 z7_7 z7_8 z7_9 z7_10 z7_11 z7_12 z7_13 z7_14 u70 u71 u72 u73 u74 u75 u76 u77 u78 u79 u80 u81 u82 u83 u84 z5_2 z5_3 z5_4 z5_5 z5_6 z5_7 z5_8 z5_9 z5_10 z6_2 z6_3 z6_4 z6_5 z6_6 z6_7 z6_8 z6_9 z6_10 z6_11 z6_12 z6_13 z6_14 z6_15 z6_16 z6_17 z6_18 z6_19 u112 z7_15 z7_16 z7_17 z7_18 z7_19 z7_20 z7_21 z7_22 z7_23 z7_24 z7_25 z7_26 z7_27 z7_28 z7_29 z7_30 z7_31 z7_32 z7_33 z7_34 z7_35 z7_36 z7_37 z7_38 z7_39 z7_40 z7_41 z7_42 z7_43 z7_44 z7_45 z7_46 z7_47 z7_48 z7_49 z7_50 z7_51 z7_52 z7_53 z7_54 z7_55 z7_56 z7_57 z7_58 z7_59 z7_60 z7_61 z7_62 z7_63 z7_64 z7_65 z7_66 z7_67 z7_68 z7_69 z7_70 z7_71 z7_72 z7_73 z7_74 z7_75 z7_76 z7_77 z7_78 z7_79 z7_80 z7_81 z7_82 z7_83 z7_84 z7_85 z7_86 z7_87 z7_88 z7_89 z7_90 z7_91 z7_92 z7_93 z7_94 z7_95 z7_96 z7_97 z7_98 z7_99 z7_100 z7_101 z7_102 z7_103 z7_104 z7_105 z7_106 z7_107 z7_108 z7_109 z7_110 z7_111 z7_112 z7_113 z7_114 z7_115 z7_116 z7_117 z7_118 z7_119 z7_120 z7_121 z7_122 z7_123 z7_124 z7_125 z7_126 z7_127 z7_128 z7_129 z7_130 z7_131 z7_132 z7_133 z7_134 z7_135 z7_136 z7_137 z7_138 z7_139 z7_140 z7_141 z7_142 z7_143 z7_144 z7_145 z7_146 z7_147 z7_148 z7_149 z7_150 z7_151 z7_152 z7_153 z7_154 z7_155 z7_156 z7_157 z7_158 z7_159 z7_160 z7_161 z7_162 z7_163 z7_164 z7_165 z7_166 z7_167 z7_168 z7_169 z7_170 z7_171 z7_172 z7_173 z7_174 z7_175 z7_176 z7_177 z7_178 z7_179 z7_180 z7_181 z7_182 z7_183 z7_184 z7_185 z7_186 z7_187 z7_188 z7_189 z7_190 z7_191 z7_192 z7_193 z7_194 z7_195 z7_196 z7_197 z7_198 z7_199 z7_200 z7_201 z7_202 z7_203 z7_204 z7_205 z7_206 z7_207 z7_208 z7_209 z7_210 z7_211 z7_212 z7_213 z7_214 z7_215 z7_216 z7_217 z4_269 z4_270 x8_5 k5 z4_272 HK5 t682 t683 A46 co48 z5_11 z5_12 ad681 z2_5 z4_271 z8_1 z8_2 w49 z5_13 w50 z10_1 z8_3 z6_20 u85 u86 u87 u88 u89 u90 u91 u92 u93 x94_46 kj46 HJ46 z6_21 u13 u94 u95 u96 u97 u98 u99 u100 u101 u102 u103 x11_54 x12_54 kj54 HJ54 z8_4 u104 u105 u106 u107 u108 u109 u110 u111 kj62 HJ62 wr u2 u15 u16 u17 u18 u19 u20 u21 u22 u23 u24 u25 u26 u113 u114 u115 u116 u117 u118 u119 u120 u121 u122 u123 u124 u125 u126 u127 u128 u129 u130 u131 u132 z8_5 z8_6 z8_7 z8_8 z8_9 z8_10 z8_11 z8_12 z8_13 z8_14 z8_15 z8_16 z8_17 z8_18 z8_19 z8_20 z8_21 z8_22 z8_23 z8_24 z9_1 z9_2 z9_3 z9_4 z9_5 z9_6 z9_7 z9_8 z9_9 z9_10 z9_11 z9_12 z9_13 z9_14 z9_15 z9_16 z9_17 z9_18 z9_19 z9_20 z9_21 z9_22 z10_2 z10_3 z10_4 z10_5 z10_6 z10_7 z10_8 z10_9 u183 u184 u185 u186 u187 u188 u189 u190 u191 u192 u193 u194 u195 u196 z10_10 z10_11 z10_12 z10_13 z10_14 z10_15 z10_16 z10_17 z10_18 z10_19 z10_20 z10_21 z10_22 z10_23 u211 u212 u213 u214 u215 u216 u217 u218 u219 u220 u221 u222 u223 u224 u225 u226 u227 u228 u229 u230 u231 u232 u233 u234 u235 u236 u237 u238 u239 u240 u241 u242 u243 u244 u245 u246 u247 u248 u249 u250 u251 u252 u253 u254 u255 u256 u257 u258 u259 u260 u261 u262 u263 u264 u265 u266 u267 u268 u269 u270 u271 u272 u273 u274 u275 u276 u277 u278 u279 u280 u281 u282 u283 u284 u285 u286 u287 u288 u289 u290 u291 u292 u293 u294 u295 u296 u297 u298 u299 u300 u301 u302 u303 u304 u305 u306 u307 u308 u309 u310 u311 u312 u313 u314 u315 z7_218 z7_219 z7_220 x14_9 k9 z7_221 HK9 c67b0 c68b0 c69b0 c70b0 t691 t692 t693 A71 z8_25 z8_26 p689 q689 p690 q690 z10_24 z10_25 w73 hx689_0 hx690_0 z8_27 gb694 w76 hS_ GW694 GE694 NB661_694 NB694_661 NB674_694 NB694_674 z8_28 hs77 hfs77 hns77_0 hns77_1 hms77_0 hms77_1 hs78 hfs78 hns78_0 hns78_1 hms78_0 hms78_1 z10_26 gb695 w79 GW695 GE695 NB661_695 NB695_661 NB674_695 NB695_674 NB694_695 NB695_694 hnb80 hnc80 hnb81 hnc81 hnb82 hnc82 hcz83_0 hcz83_1 hfz83_0 hfz83_1 z9_23 u133 u134 u135 u136 u137 u138 u139 u140 u141 u142 u143 u144 u145 u146 u147 u148 u149 u150 u151 u152 x153_71 kj71 HJ71 z10_27 u153 u154 u155 u156 u157 u158 u159 u160 u161 u162 u163 u164 u165 u166 u167 u168 u169 u170 u171 u172 u173 u174 x17_95 x696000_95 x696001_95 kj95 HJ95 z10_28 u175 u176 u177 u178 u179 u180 u181 u182 kj118 HJ118 t718 t719 A134 e689 e690 e716 e717 HT_ HW_ w136 z10_29 w137 HS2_ HS3_ hHeld z10_30 z10_31 z10_32 z10_33 wc u197 u198 u199 u200 u201 u202 u203 u204 u205 u206 u207 u208 u209 u210 kq x211_134 HA HJ134 HO_3 HO_7 BK661 BK674 BK694 BK695 HB
   exact hP_.out
end Go.Proofs.Ytnpghcikhpglkaa.Q
