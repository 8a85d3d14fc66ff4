/- A part of the proof: texts of this seat joined (printed and by hand), without what is not used. -/
import Derived.Test.YtojnnfhalpefmaaBExa8
set_option linter.unusedVariables false
set_option linter.unusedSimpArgs false
set_option linter.unusedSectionVars false
section
namespace Go.Proofs.Ytojnnfhalpefmaa.M
open Go.RowKit Go.Proofs.YtojnnfhalpefmaaW.PrintWords Go.Proofs.YtojnnfhalpefmaaW.PrintLast Go.Proofs.YtojnnfhalpefmaaW.PrintMore
attribute [local go_sem] max2_int min2_int max_two min_two max_three min_three max_four min_four
set_option maxHeartbeats 8000000 in
set_option maxRecDepth 100000 in
theorem exRound2 (w : World) (r : Bool) (k : Nat) (y183 : List S45) (y186 : List (List S45)) (y219 : List S68) (v187 : Value) (Ao9 Ao42 : Option Addr) (co9 co42 : Nat) (wr : World) (hrt : r = true) (k1 : Nat) (x113_1 : Int) {t224} {t227} {t228} {t231} {t232} {t233} {t236} {t237} {t238} {t239} {t242} {t243} {t249} {t250} {t253} {t254} {t255} {t263} {t264} {t270} {t271} {t276} {y246 : List (List (S45))} {y260 : List (List (S45))} {y267 : List (List (S45))} (c43b0 : decide (x113_1 < (y219.length : Int)) = true) (c44b0 : decide (0 ≤ x113_1) = true) (c45b0 : decide (x113_1 < (y219.length : Int)) = true) (A46 : As (column_Add.f k1 ((rd_T68 y219 x113_1).f0) ((rd_T68 y219 x113_1).f1) 1 ([] : List (S45)) = some (t224, t227))) (A47 : As (column_Add.f k1 ((rd_T68 y219 x113_1).f0) ([] : List (S45)) 0 ((rd_T68 y219 x113_1).f1) = some (t228, t231))) (A48 : As (column_Scale.f k1 ((rd_T68 y219 x113_1).f0) ((rd_T68 y219 x113_1).f1) 0 = some (t232, t233))) (A49 : As (column_Dot.f k1 ((rd_T68 y219 x113_1).f0) ((rd_T68 y219 x113_1).f1) ((rd_T68 y219 x113_1).f1) = some (t236, t237))) (A50 : As (column_Dense.f k1 ((rd_T68 y219 x113_1).f0) ((rd_T68 y219 x113_1).f1) 1024 = some (t238, t239))) (A51 : As (column_Combine.f k1 ((rd_T68 y219 x113_1).f0) ([] : List (List (S45))) ((rd_T68 y219 x113_1).f1) = some (t242, t243))) (Ny246 : As (y246 = (([(rd_T68 y219 x113_1).f1] : List (List (S45)))))) (A52 : As (column_Combine.f k1 ((rd_T68 y219 x113_1).f0) y246 ([] : List (S45)) = some (t249, t250))) (A53 : As (column_Rest.f k1 ((rd_T68 y219 x113_1).f0) ([] : List (List (S45))) ((rd_T68 y219 x113_1).f1) = some (t253, t254, t255))) (Ny260 : As (y260 = (([(rd_T68 y219 x113_1).f1] : List (List (S45)))))) (A54 : As (column_Basis.f k1 ((rd_T68 y219 x113_1).f0) y260 = some (t263, t264))) (Ny267 : As (y267 = (([[], (rd_T68 y219 x113_1).f1] : List (List (S45)))))) (A55 : As (column_KernelB.f k1 ((rd_T68 y219 x113_1).f0) y267 = some (t270, t271))) (c56b0 : (((rd_T68 y219 x113_1).f2) == 0) = false) (c56b1 : (((rd_T68 y219 x113_1).f2) != 0) = true) (A922 : As (column_Check.f k1 ((rd_T68 y219 x113_1).f0) ((rd_T68 y219 x113_1).f1) = some t276)) (c923b0 : (t276 == ((rd_T68 y219 x113_1).f2)) = true) (c923b1 : (t276 != ((rd_T68 y219 x113_1).f2)) = false) (c924b0 : (t227 == ((rd_T68 y219 x113_1).f2)) = true) (c924b1 : (t227 != ((rd_T68 y219 x113_1).f2)) = false) (c925b0 : (t231 == ((rd_T68 y219 x113_1).f2)) = true) (c925b1 : (t231 != ((rd_T68 y219 x113_1).f2)) = false) (c926b0 : (t233 == ((rd_T68 y219 x113_1).f2)) = true) (c926b1 : (t233 != ((rd_T68 y219 x113_1).f2)) = false) (c927b0 : (t237 == ((rd_T68 y219 x113_1).f2)) = true) (c927b1 : (t237 != ((rd_T68 y219 x113_1).f2)) = false) (c928b0 : (t239 == ((rd_T68 y219 x113_1).f2)) = true) (c928b1 : (t239 != ((rd_T68 y219 x113_1).f2)) = false) (c929b0 : (t243 == ((rd_T68 y219 x113_1).f2)) = true) (c929b1 : (t243 != ((rd_T68 y219 x113_1).f2)) = false) (c930b0 : (t250 == ((rd_T68 y219 x113_1).f2)) = true) (c930b1 : (t250 != ((rd_T68 y219 x113_1).f2)) = false) (c931b0 : (t255 == ((rd_T68 y219 x113_1).f2)) = true) (c931b1 : (t255 != ((rd_T68 y219 x113_1).f2)) = false) (c932b0 : (t264 == ((rd_T68 y219 x113_1).f2)) = true) (c932b1 : (t264 != ((rd_T68 y219 x113_1).f2)) = false) (c933b0 : (t271 == ((rd_T68 y219 x113_1).f2)) = true) (c933b1 : (t271 != ((rd_T68 y219 x113_1).f2)) = false) (H' : As (cE.l0 k1 y183 y186 y219 (y219.length : Int) (wrap64 (x113_1 + 1)) = some r)) (HK1 : As (k1 + 1 ≤ k)) (HO_1 : As (Kd.R k45 45 wr w.heap.size (fun _ => True) (.slice Ao9 y183.length co9) y183)) (HO_2 : As (Kd.N (Kd.slice 45 k45) 22 wr w.heap.size (fun k_ => some k_ ≠ ((.slice Ao9 y183.length co9) : Value).ownBlock ∧ some k_ ≠ ((.slice Ao42 y219.length co42) : Value).ownBlock) v187 y186)) (HO_111 : As (Kd.N k68 68 wr w.heap.size (fun k_ => some k_ ≠ (v187 : Value).ownBlock) (.slice Ao42 y219.length co42) y219)) (HB : As (Below w.heap.size w wr)) {u0 u3 u4 u5 u6 u7 u8 u9 u10 u11 u12 u13 u14 u15 u16 u17 u18 u19 u20 u21 u22 u23 u24 u25 u26 u27 u28 u29 u30 u31 u32 u33 u34 u35 u36 u37 u38 u39 u40 u41 u42 u43 u44 u45 u46 u47 u48 u49 u50 u51 u52 u53 u54 u55 u56 u57 u58 u59 u60 u61 u62 u63 u64 u65 u66 u67 u68 u69 u70 u71 u72 u73 u74 u75 u76 u77 u78 u79 u80 u81 u82 u83 u84 u85 u86 u87 u88 u89 u90 u91 u92 u93 u94 u95 u96 u97 u98 u99 u100 u101 u102 u103 u104 u105 u106 u107 u108 u109 u110 u114 u115 u116 u117 u118 u119 u120 u121 u122 u123 u124 u125 u126 u127 u128 u129 u130 u131 u132 u133 u134 u135 u136 u137 u138 u139 u140 u141 u142 u143 u144 u145 u146 u147 u148 u149 u150 u151 u152 u153 u154 u155 u156 u157 u158 u159 u160 u161 u162 u163 u164 u165 u166 u167 u168 u169 u170 u171 u172 u173 u174 u175 u176 u177 u178 u179 u180 u181 u182 u183 u184 u185 u186 u187 u188 u189 u190 u191 u192 u193 u194 u195 u196 u197 u198 u199 u200 u201 u202 u203 u204 u205 u206 u207 u208 u209 u210 u211 u212 u213 u214 u215 u216 u217 u218 u219 u220 u221 u222 u223 u224 u225 u226 u227 u228 u229 u230 u231 u232 u233 u234 u235 u236 u237 u238 u239 u240 u241 u242 u243 u244 u245 u246 u247 u248 u249 u250 u251 u252 u253 u254 u255 u256 u257 u258 u259 u260 u261 u262 u263 u264 u265 u266 u267 u268 u269 u270 u271 u272 u273 u274 u275 u276 u277 u278 u279 u280 u281 u282 u283 u284 u285 u286 u287 u288 u289 u290 u291 u292 u293 u294 u295 u296 u297 u298 u299 u300 u301 u302 u303 u304 u305 u306 u307 u308 u309 u310 u311 u312 u313 u314 u315 u316 u317 u318 u319 u320 u321 u322 u323 u324 u325 u326 u327 u328 u329 u330 u331 u332 u333 u334 u335 u336 u337 u338 u339 u340 u341 u342 u343 u344 u345 u346 u347 u348 u349 u350 u351 u352 u353 u354 u355 u356 u357 u358 u359 u360 u361 u362 u363 u364 u365 u366 u367 u368 u369 u370 u371 u372 u373 u374 u375 u376 u377 u378 u379 u380 u381 u382 u383 u384 u385 u386 u387 u388 u389 u390 u391 u392 u393 u394 u395 u396 u397 u398 u399 u400 u401 u402 u403 u404 u405 u406 u407 u408 u409 u410 u411 u412 u413 u414 u415 u416 u417 u418 u419 u420 u421 u422 u423 u424 u425 u426 u427 u428 u429 u430 u431 u432 u433 u434 u435 u436 u437 u438 u439 u440 u441 u442 u443 u444 u445 u446 u447 u448 u449 u450 u451 u452 u453 u454 u455 u456 u457 u458 u459 u460 u461 u462 u463 u464 u465 u466 u467 u468 u469 u470 u471 u472 u473 u474 u475 u476 u477 u478 u479 u480 u481 u482 u483 u484 u485 u486 u487 u488 u489 u490 u491 u492 u493 u494 u495 : Value} (K K1 : Act → World → Prop)
  (HKK : As (∀ (q0 q4 q5 q6 q7 q8 q9 q10 q11 q12 q13 q14 q15 q16 q17 q18 q19 q20 q21 q22 q23 q24 q25 q26 q113 q114 q115 q116 q117 q118 q119 q120 q121 q122 q123 q124 q125 q126 q127 q128 q129 q130 q131 q132 q133 q134 q135 q136 q137 q138 q139 q140 q141 q142 q143 q144 q145 q146 q147 q148 q149 q150 q151 q152 q153 q154 q155 q156 q157 q158 q159 q160 q161 q162 q163 q164 q165 q166 q167 q168 q169 q170 q171 q172 q173 q174 q175 q176 q177 q178 q179 q180 q181 q182 q183 q184 q185 q186 q187 q188 q189 q190 q191 q192 q193 q194 q195 q196 q197 q198 q199 q200 q201 q202 q203 q204 q205 q206 q207 q208 q209 q210 q211 q212 q213 q214 q215 q216 q217 q218 q219 q220 q221 q222 q223 q224 q225 q226 q227 q228 q229 q230 q231 q232 q233 q234 q235 q236 q237 q238 q239 q240 q241 q242 q243 q244 q245 q246 q247 q248 q249 q250 q251 q252 q253 q254 q255 q256 q257 q258 q259 q260 q261 q262 q263 q264 q265 q266 q267 q268 q269 q270 q271 q272 q273 q274 q275 q276 q277 q278 q279 q280 q281 : Value) (w' : World), ExRel w r k y183 y186 y219 v187 Ao9 Ao42 co9 co42 k1 q113 w' → K (Act.mk (List.toArray [q0, (.slice Ao9 y183.length co9), v187, u3, q4, q5, q6, q7, q8, q9, q10, q11, q12, q13, q14, q15, q16, q17, q18, q19, q20, q21, q22, q23, q24, q25, q26, u27, u28, u29, u30, u31, u32, u33, u34, u35, u36, u37, u38, u39, u40, u41, u42, u43, u44, u45, u46, u47, u48, u49, u50, u51, u52, u53, u54, u55, u56, u57, u58, u59, u60, u61, u62, u63, u64, u65, u66, u67, u68, u69, u70, u71, u72, u73, u74, u75, u76, u77, u78, u79, u80, u81, u82, u83, u84, u85, u86, u87, u88, u89, u90, u91, u92, u93, u94, u95, u96, u97, u98, u99, u100, u101, u102, u103, u104, u105, u106, u107, u108, u109, u110, (.slice Ao42 y219.length co42), (.int .i64 (y219.length : Int)), q113, q114, q115, q116, q117, q118, q119, q120, q121, q122, q123, q124, q125, q126, q127, q128, q129, q130, q131, q132, q133, q134, q135, q136, q137, q138, q139, q140, q141, q142, q143, q144, q145, q146, q147, q148, q149, q150, q151, q152, q153, q154, q155, q156, q157, q158, q159, q160, q161, q162, q163, q164, q165, q166, q167, q168, q169, q170, q171, q172, q173, q174, q175, q176, q177, q178, q179, q180, q181, q182, q183, q184, q185, q186, q187, q188, q189, q190, q191, q192, q193, q194, q195, q196, q197, q198, q199, q200, q201, q202, q203, q204, q205, q206, q207, q208, q209, q210, q211, q212, q213, q214, q215, q216, q217, q218, q219, q220, q221, q222, q223, q224, q225, q226, q227, q228, q229, q230, q231, q232, q233, q234, q235, q236, q237, q238, q239, q240, q241, q242, q243, q244, q245, q246, q247, q248, q249, q250, q251, q252, q253, q254, q255, q256, q257, q258, q259, q260, q261, q262, q263, q264, q265, q266, q267, q268, q269, q270, q271, q272, q273, q274, q275, q276, q277, q278, q279, q280, q281, u282, u283, u284, u285, u286, u287, u288, u289, u290, u291, u292, u293, u294, u295, u296, u297, u298, u299, u300, u301, u302, u303, u304, u305, u306, u307, u308, u309, u310, u311, u312, u313, u314, u315, u316, u317, u318, u319, u320, u321, u322, u323, u324, u325, u326, u327, u328, u329, u330, u331, u332, u333, u334, u335, u336, u337, u338, u339, u340, u341, u342, u343, u344, u345, u346, u347, u348, u349, u350, u351, u352, u353, u354, u355, u356, u357, u358, u359, u360, u361, u362, u363, u364, u365, u366, u367, u368, u369, u370, u371, u372, u373, u374, u375, u376, u377, u378, u379, u380, u381, u382, u383, u384, u385, u386, u387, u388, u389, u390, u391, u392, u393, u394, u395, u396, u397, u398, u399, u400, u401, u402, u403, u404, u405, u406, u407, u408, u409, u410, u411, u412, u413, u414, u415, u416, u417, u418, u419, u420, u421, u422, u423, u424, u425, u426, u427, u428, u429, u430, u431, u432, u433, u434, u435, u436, u437, u438, u439, u440, u441, u442, u443, u444, u445, u446, u447, u448, u449, u450, u451, u452, u453, u454, u455, u456, u457, u458, u459, u460, u461, u462, u463, u464, u465, u466, u467, u468, u469, u470, u471, u472, u473, u474, u475, u476, u477, u478, u479, u480, u481, u482, u483, u484, u485, u486, u487, u488, u489, u490, u491, u492, u493, u494, u495]) []) w')) : WpC [1, 1, 1, 1, 0, 1, 2, 2] (Exit.then K (Exit.inBlock 0 (Exit.then K1 (bodyPost Try.prog Try.f11 fun e w' => e = .returned (.bool r) ∧ Below w.heap.size w w')))) (Act.mk (List.toArray [u0, (.slice Ao9 y183.length co9), v187, u3, u4, u5, u6, u7, u8, u9, u10, u11, u12, u13, u14, u15, u16, u17, u18, u19, u20, u21, u22, u23, u24, u25, u26, u27, u28, u29, u30, u31, u32, u33, u34, u35, u36, u37, u38, u39, u40, u41, u42, u43, u44, u45, u46, u47, u48, u49, u50, u51, u52, u53, u54, u55, u56, u57, u58, u59, u60, u61, u62, u63, u64, u65, u66, u67, u68, u69, u70, u71, u72, u73, u74, u75, u76, u77, u78, u79, u80, u81, u82, u83, u84, u85, u86, u87, u88, u89, u90, u91, u92, u93, u94, u95, u96, u97, u98, u99, u100, u101, u102, u103, u104, u105, u106, u107, u108, u109, u110, (.slice Ao42 y219.length co42), (.int .i64 (y219.length : Int)), (.int .i64 x113_1), u114, u115, u116, u117, u118, u119, u120, u121, u122, u123, u124, u125, u126, u127, u128, u129, u130, u131, u132, u133, u134, u135, u136, u137, u138, u139, u140, u141, u142, u143, u144, u145, u146, u147, u148, u149, u150, u151, u152, u153, u154, u155, u156, u157, u158, u159, u160, u161, u162, u163, u164, u165, u166, u167, u168, u169, u170, u171, u172, u173, u174, u175, u176, u177, u178, u179, u180, u181, u182, u183, u184, u185, u186, u187, u188, u189, u190, u191, u192, u193, u194, u195, u196, u197, u198, u199, u200, u201, u202, u203, u204, u205, u206, u207, u208, u209, u210, u211, u212, u213, u214, u215, u216, u217, u218, u219, u220, u221, u222, u223, u224, u225, u226, u227, u228, u229, u230, u231, u232, u233, u234, u235, u236, u237, u238, u239, u240, u241, u242, u243, u244, u245, u246, u247, u248, u249, u250, u251, u252, u253, u254, u255, u256, u257, u258, u259, u260, u261, u262, u263, u264, u265, u266, u267, u268, u269, u270, u271, u272, u273, u274, u275, u276, u277, u278, u279, u280, u281, u282, u283, u284, u285, u286, u287, u288, u289, u290, u291, u292, u293, u294, u295, u296, u297, u298, u299, u300, u301, u302, u303, u304, u305, u306, u307, u308, u309, u310, u311, u312, u313, u314, u315, u316, u317, u318, u319, u320, u321, u322, u323, u324, u325, u326, u327, u328, u329, u330, u331, u332, u333, u334, u335, u336, u337, u338, u339, u340, u341, u342, u343, u344, u345, u346, u347, u348, u349, u350, u351, u352, u353, u354, u355, u356, u357, u358, u359, u360, u361, u362, u363, u364, u365, u366, u367, u368, u369, u370, u371, u372, u373, u374, u375, u376, u377, u378, u379, u380, u381, u382, u383, u384, u385, u386, u387, u388, u389, u390, u391, u392, u393, u394, u395, u396, u397, u398, u399, u400, u401, u402, u403, u404, u405, u406, u407, u408, u409, u410, u411, u412, u413, u414, u415, u416, u417, u418, u419, u420, u421, u422, u423, u424, u425, u426, u427, u428, u429, u430, u431, u432, u433, u434, u435, u436, u437, u438, u439, u440, u441, u442, u443, u444, u445, u446, u447, u448, u449, u450, u451, u452, u453, u454, u455, u456, u457, u458, u459, u460, u461, u462, u463, u464, u465, u466, u467, u468, u469, u470, u471, u472, u473, u474, u475, u476, u477, u478, u479, u480, u481, u482, u483, u484, u485, u486, u487, u488, u489, u490, u491, u492, u493, u494, u495]) []) wr := by
 refine wpC_mk rfl ?_
 have hu45 := Try.underlying45
 have hu68 := Try.underlying68
 have p222 : 0 ≤ (x113_1 : Int) := of_decide_eq_true (by first | (with_reducible assumption) | assumption)
 have q222 : x113_1 < (y219.length : Int) := of_decide_eq_true (by first | (with_reducible assumption) | assumption)
 obtain ⟨ad222, A222_1, c222_1, e222, hx222_0, hx222_1, hx222_2, hl222_1, hi222_1⟩ := at_T68 (Kd.N_reads' HO_111.out).2.2 x113_1 p222 q222
 cases e222
 obtain ⟨ce222, hce222, hMe222, hcc222⟩ := Kd.N_get HO_111.out z68 x113_1 p222 (by first | exact q222 | exact of_decide_eq_true (by first | (with_reducible assumption) | assumption) | (have e_ := (Kd.N_reads' HO_111.out).1; omega))
 obtain ⟨ua222_1, uc222_1, rfl, ul222_1, ge222_1⟩ := k68_openF hMe222
 have hv222_1 := hcc222 1 _ rfl
 rw [add_field _ _ 1 (by omega)] at hv222_1
 replace hv222_1 := Option.some.inj (hv222_1.symm.trans hx222_1)
 injection hv222_1 with hva_ hvn_ hvc_
 rw [hva_] at ge222_1
 rw [hvc_] at ul222_1
 have HL222_1 := As.mk (show Kd.V k45 45 _ w.heap.size _ _ ((rd_T68 y219 x113_1).f1) from Kd.V_mk ul222_1 ge222_1)
 clear hva_ hvn_ hvc_ ge222_1 ul222_1
 clear hcc222 hce222
 have HR222_1 := As.mk hi222_1
 have HC222_1 := As.mk hl222_1
 clear hi222_1 hl222_1
 replace p222 := eq_true p222
 replace q222 := eq_true q222
 try go_wp2_with (first | ((with_reducible refine gate_dst (N := 4) rfl ?_); (try (refine gate_guard (by rfl) ?_; dsimp only)); refine box_event ?hg (N := 4) ?hd (cs := #[.int .i64 0, .slice none 0 0, .int .i64 0]) (t := 68) ?hr ?_; (case hd => rfl); (case hg => rfl); (case hr => first | (go_simp; done) | (go_simp; rfl)); intro gb223 hg w934 hbox hb; have n0_ := As.mk (Kd.R_below (rup HO_1.out) hb); have n1_ := As.mk (Kd.N_below (Kd.N_elderB (nup HO_2.out) gb223 (Nat.le_of_eq hg.symm)) hb); have n2_ := As.mk (Kd.N_below (Kd.N_elderB (nup HO_111.out) gb223 (Nat.le_of_eq hg.symm)) hb); have n3_ := As.mk (Kd.V_below (Kd.V_elderB (vup HL222_1.out) gb223 (Nat.le_of_eq hg.symm)) hb); have n4_ := As.mk (Kd.C_below (cup HR222_1.out) hb); have n5_ := As.mk (below_step (hup0 HB.out) hb); have n6_ := As.mk (hbox); have n7_ := As.mk ((by rw [hg]; exact (below_size (hup0 HB.out)) : w.heap.size ≤ gb223)); have n8_ := As.mk ((by rw [hg]; exact (below_size (hup0 HB.out)) : w.heap.size ≤ gb223)); clear HO_1 HO_2; clear HO_111 HL222_1; clear HR222_1 HB; have HO_1 := n0_; have HO_2 := n1_; have HO_111 := n2_; have HL222_1 := n3_; have HR222_1 := n4_; have HB := n5_; have BK223 := n6_; have GW223 := n7_; have GE223 := n8_; clear n0_ n1_ n2_ n3_ n4_ n5_ n6_ n7_ n8_; clear hb hbox hg; have hcz935_0 : w934.cell? ⟨gb223, 0, none⟩ = some (.int .i64 0) := (blk_cell BK223.out 0).trans rfl; have hcz935_1 : w934.cell? ⟨gb223, 1, none⟩ = some (.slice none 0 0) := (blk_cell BK223.out 1).trans rfl; have hcz935_2 : w934.cell? ⟨gb223, 2, none⟩ = some (.int .i64 0) := (blk_cell BK223.out 2).trans rfl; have hfz935_0 := blk_frozen BK223.out 0; have hfz935_1 := blk_frozen BK223.out 1; have hfz935_2 := blk_frozen BK223.out 2) | ((with_reducible refine gate_store (t := 68) (p := 4) rfl ?_); refine store_event (t := 68) (p := 4) (v := ?vo_w936) (w1 := (((w934.setCell ⟨gb223, 0, none⟩ (.int .i64 ((rd_T68 y219 x113_1).f0))).setCell ⟨gb223, 1, none⟩ (.slice A222_1 ((rd_T68 y219 x113_1).f1).length c222_1)).setCell ⟨gb223, 2, none⟩ (.int .i64 ((rd_T68 y219 x113_1).f2)))) ?hg ?ho ?hn ?hr ?_; (case ho => rfl); (case hg => rfl); (case hn => rfl); (case hr => first | (go_simp; done) | (go_simp; rfl)); intro w936 hw; have n0_ : As (Kd.R k45 45 w936 w.heap.size (fun _ => True) (.slice Ao9 y183.length co9) y183) := ⟨(by rw [hw]; exact (by (with_reducible repeat (first | apply Kd.R_alloc | apply Kd.R_drewN | apply Kd.R_drew)); exact Kd.R_mono (Kd.R_far (p := ⟨gb223, 2, none⟩) (Kd.R_far (p := ⟨gb223, 1, none⟩) (Kd.R_far (p := ⟨gb223, 0, none⟩) (Kd.R_types HO_1.out BK223.out (by decide)) (fun _ hk => hk.2) (.int .i64 ((rd_T68 y219 x113_1).f0))) (fun _ hk => hk.2) (.slice A222_1 ((rd_T68 y219 x113_1).f1).length c222_1)) (fun _ hk => hk.2) (.int .i64 ((rd_T68 y219 x113_1).f2))) (fun _ hk => trivial)))⟩; have n1_ : As (Kd.N (Kd.slice 45 k45) 22 w936 w.heap.size (fun k_ => some k_ ≠ (.slice Ao9 y183.length co9 : Value).ownBlock ∧ some k_ ≠ (.slice (some ad222) y219.length co42 : Value).ownBlock ∧ k_ ≠ gb223) v187 y186) := ⟨(by rw [hw]; exact (by (with_reducible repeat (first | apply Kd.N_alloc | apply Kd.N_drewN | apply Kd.N_drew)); exact Kd.N_mono (Kd.N_far (p := ⟨gb223, 2, none⟩) (Kd.N_far (p := ⟨gb223, 1, none⟩) (Kd.N_far (p := ⟨gb223, 0, none⟩) (Kd.N_mono HO_2.out (fun k_ hk => (⟨hk, hk.2⟩ : _ ∧ k_ ≠ gb223))) (fun _ hk => hk.2) (.int .i64 ((rd_T68 y219 x113_1).f0))) (fun _ hk => hk.2) (.slice A222_1 ((rd_T68 y219 x113_1).f1).length c222_1)) (fun _ hk => hk.2) (.int .i64 ((rd_T68 y219 x113_1).f2))) (fun _ hk => ⟨hk.1.1.1, ⟨hk.1.1.2, hk.1.2⟩⟩)))⟩; have n2_ : As (Kd.N k68 68 w936 w.heap.size (fun k_ => some k_ ≠ (v187 : Value).ownBlock ∧ k_ ≠ gb223) (.slice (some ad222) y219.length co42) y219) := ⟨(by rw [hw]; exact (by (with_reducible repeat (first | apply Kd.N_alloc | apply Kd.N_drewN | apply Kd.N_drew)); exact Kd.N_mono (Kd.N_far (p := ⟨gb223, 2, none⟩) (Kd.N_far (p := ⟨gb223, 1, none⟩) (Kd.N_far (p := ⟨gb223, 0, none⟩) (Kd.N_mono HO_111.out (fun k_ hk => (⟨hk, hk.2⟩ : _ ∧ k_ ≠ gb223))) (fun _ hk => hk.2) (.int .i64 ((rd_T68 y219 x113_1).f0))) (fun _ hk => hk.2) (.slice A222_1 ((rd_T68 y219 x113_1).f1).length c222_1)) (fun _ hk => hk.2) (.int .i64 ((rd_T68 y219 x113_1).f2))) (fun _ hk => ⟨hk.1.1, hk.1.2⟩)))⟩; have n3_ : As (Kd.V k45 45 w936 w.heap.size (fun k_ => some k_ ≠ (v187 : Value).ownBlock ∧ some k_ ≠ (.slice (some ad222) y219.length co42 : Value).ownBlock ∧ k_ ≠ gb223) (.slice A222_1 ((rd_T68 y219 x113_1).f1).length c222_1) ((rd_T68 y219 x113_1).f1)) := ⟨(by rw [hw]; exact (by (with_reducible repeat (first | apply Kd.V_alloc | apply Kd.V_drewN | apply Kd.V_drew)); exact Kd.V_mono (Kd.V_far (p := ⟨gb223, 2, none⟩) (Kd.V_far (p := ⟨gb223, 1, none⟩) (Kd.V_far (p := ⟨gb223, 0, none⟩) (Kd.V_mono HL222_1.out (fun k_ hk => (⟨hk, hk.2⟩ : _ ∧ k_ ≠ gb223))) (fun _ hk => hk.2) (.int .i64 ((rd_T68 y219 x113_1).f0))) (fun _ hk => hk.2) (.slice A222_1 ((rd_T68 y219 x113_1).f1).length c222_1)) (fun _ hk => hk.2) (.int .i64 ((rd_T68 y219 x113_1).f2))) (fun _ hk => ⟨hk.1.1.1, ⟨hk.1.1.2, hk.1.2⟩⟩)))⟩; have n4_ : As (w936.heap[gb223]? = some (.cells #[.int .i64 ((rd_T68 y219 x113_1).f0), .slice A222_1 ((rd_T68 y219 x113_1).f1).length c222_1, .int .i64 ((rd_T68 y219 x113_1).f2)] 68 (0, 0))) := ⟨(by rw [hw]; exact (by (with_reducible repeat (first | refine blk_drewN ?_ _ | refine blk_drew ?_ | refine blk_alloc ?_ _)); refine blk_put (cs := #[.int .i64 ((rd_T68 y219 x113_1).f0), .slice A222_1 ((rd_T68 y219 x113_1).f1).length c222_1, .int .i64 0]) ?_ 2 _ rfl; (with_reducible repeat (first | refine blk_drewN ?_ _ | refine blk_drew ?_ | refine blk_alloc ?_ _)); refine blk_put (cs := #[.int .i64 ((rd_T68 y219 x113_1).f0), .slice none 0 0, .int .i64 0]) ?_ 1 _ rfl; (with_reducible repeat (first | refine blk_drewN ?_ _ | refine blk_drew ?_ | refine blk_alloc ?_ _)); refine blk_put (cs := #[.int .i64 0, .slice none 0 0, .int .i64 0]) ?_ 0 _ rfl; (with_reducible repeat (first | refine blk_drewN ?_ _ | refine blk_drew ?_ | refine blk_alloc ?_ _)); exact BK223.out))⟩; have n5_ : As (Below w.heap.size w w936) := ⟨(by rw [hw]; exact (hup1 HB.out GE223.out))⟩; clear hw; clear HO_1 HO_2; clear HO_111 HL222_1; clear BK223 HB; have HO_1 := n0_; have HO_2 := n1_; have HO_111 := n2_; have HL222_1 := n3_; have BK223 := n4_; have HB := n5_; clear HR222_1; have HR222_1 := As.mk (Kd.V_reads' HL222_1.out).2.2; clear n0_ n1_ n2_ n3_ n4_ n5_; have hcz937_0 : w936.cell? ⟨gb223, 0, none⟩ = some (.int .i64 ((rd_T68 y219 x113_1).f0)) := (blk_cell BK223.out 0).trans rfl; have hcz937_1 : w936.cell? ⟨gb223, 1, none⟩ = some (.slice A222_1 ((rd_T68 y219 x113_1).f1).length c222_1) := (blk_cell BK223.out 1).trans rfl; have hcz937_2 : w936.cell? ⟨gb223, 2, none⟩ = some (.int .i64 ((rd_T68 y219 x113_1).f2)) := (blk_cell BK223.out 2).trans rfl; have hfz937_0 := blk_frozen BK223.out 0; have hfz937_1 := blk_frozen BK223.out 1; have hfz937_2 := blk_frozen BK223.out 2) | ((with_reducible refine gate_callee (f := 28) rfl ?_); refine goesL_ (some 122) rfl rfl Try.func28 (by kernel_rfl) rfl #[.int .i64 ((rd_T68 y219 x113_1).f0), .slice A222_1 ((rd_T68 y219 x113_1).f1).length c222_1, .int .i64 1, .slice none 0 0] rfl (by (try simp only [List.map_toArray, List.map_cons, List.map_nil]); first | done | rfl | (simp only [List.length_drop, List.length_take]; rfl)) ?_; (with_reducible refine (column_Add.calls_r k1 ((rd_T68 y219 x113_1).f0) (fun k_ => (some k_ ≠ (v187 : Value).ownBlock ∧ (some k_ ≠ (.slice (some ad222) y219.length co42 : Value).ownBlock ∧ k_ ≠ gb223))) _ _ ((rd_T68 y219 x113_1).f1) 1 t224 t227 _ ?side1 A46.out).mono ?_); (case side1 => exact HL222_1.out); rintro e w938 ⟨v225, rfl, ho0, hb⟩; refine ⟨_, rfl, ?_⟩; have n0_ := As.mk (Kd.R_elder' (rup HO_1.out) (Kd.R_base ho0) hb); have n1_ := As.mk (Kd.N_elder' (nup HO_2.out) (Kd.R_base ho0) hb); have n2_ := As.mk (Kd.N_elder' (nup HO_111.out) (Kd.R_base ho0) hb); have n3_ := As.mk (Kd.V_elder' (vup HL222_1.out) (Kd.R_base ho0) hb); have n4_ := As.mk (Kd.R_lower (Kd.R_new' (Kd.R_mono (ok' := fun k_ => True) ho0 (fun _ hk_ => trivial)) (Kd.R_lt (rup HO_1.out))) (below_size (hup1 HB.out GE223.out))); have n5_ := As.mk (Kd.C_below (cup HR222_1.out) hb); have n6_ := As.mk (blk_below (g := gb223) (o := .cells #[.int .i64 ((rd_T68 y219 x113_1).f0), .slice A222_1 ((rd_T68 y219 x113_1).f1).length c222_1, .int .i64 ((rd_T68 y219 x113_1).f2)] 68 (0, 0)) (bup BK223.out) hb); have n7_ := As.mk (below_step (hup1 HB.out GE223.out) hb); clear HO_1 HO_2; clear HO_111 HL222_1; clear HR222_1 BK223 HB; have HO_1 := n0_; have HO_2 := n1_; have HO_111 := n2_; have HL222_1 := n3_; have HO226 := n4_; have HR222_1 := n5_; have BK223 := n6_; have HB := n7_; clear n0_ n1_ n2_ n3_ n4_ n5_ n6_ n7_; (try clear hb); (try clear hb2); (try clear hk); (try clear hi); (try clear ho0); have hcz939_0 : w938.cell? ⟨gb223, 0, none⟩ = some (.int .i64 ((rd_T68 y219 x113_1).f0)) := (blk_cell BK223.out 0).trans rfl; have hcz939_1 : w938.cell? ⟨gb223, 1, none⟩ = some (.slice A222_1 ((rd_T68 y219 x113_1).f1).length c222_1) := (blk_cell BK223.out 1).trans rfl; have hcz939_2 : w938.cell? ⟨gb223, 2, none⟩ = some (.int .i64 ((rd_T68 y219 x113_1).f2)) := (blk_cell BK223.out 2).trans rfl; have hfz939_0 := blk_frozen BK223.out 0; have hfz939_1 := blk_frozen BK223.out 1; have hfz939_2 := blk_frozen BK223.out 2) | ((with_reducible refine gate_callee (f := 28) rfl ?_); refine goesL_ (some 130) rfl rfl Try.func28 (by kernel_rfl) rfl #[.int .i64 ((rd_T68 y219 x113_1).f0), .slice none 0 0, .int .i64 0, .slice A222_1 ((rd_T68 y219 x113_1).f1).length c222_1] rfl (by (try simp only [List.map_toArray, List.map_cons, List.map_nil]); first | done | rfl | (simp only [List.length_drop, List.length_take]; rfl)) ?_; (with_reducible refine (column_Add.calls_l k1 ((rd_T68 y219 x113_1).f0) 0 (fun k_ => ((some k_ ≠ (v187 : Value).ownBlock ∧ (some k_ ≠ (.slice (some ad222) y219.length co42 : Value).ownBlock ∧ k_ ≠ gb223)) ∧ some k_ ≠ (v225 : Value).ownBlock)) _ _ ((rd_T68 y219 x113_1).f1) t228 t231 _ ?side1 A47.out).mono ?_); (case side1 => exact HL222_1.out); rintro e w940 ⟨v229, rfl, ho0, hb⟩; refine ⟨_, rfl, ?_⟩; have n0_ := As.mk (Kd.R_elder' (rup HO_1.out) (Kd.R_base ho0) hb); have n1_ := As.mk (Kd.N_elder' (nup HO_2.out) (Kd.R_base ho0) hb); have n2_ := As.mk (Kd.N_elder' (nup HO_111.out) (Kd.R_base ho0) hb); have n3_ := As.mk (Kd.V_elder' (vup HL222_1.out) (Kd.R_base ho0) hb); have n4_ := As.mk (Kd.R_elder' (rup HO226.out) (Kd.R_base ho0) hb); have n5_ := As.mk (Kd.R_lower (Kd.R_new' (Kd.R_new' (Kd.R_mono (ok' := fun k_ => True) ho0 (fun _ hk_ => trivial)) (Kd.R_lt (rup HO_1.out))) (Kd.R_lt (rup HO226.out))) (below_size (hup1 HB.out GE223.out))); have n6_ := As.mk (Kd.C_below (cup HR222_1.out) hb); have n7_ := As.mk (blk_below (g := gb223) (o := .cells #[.int .i64 ((rd_T68 y219 x113_1).f0), .slice A222_1 ((rd_T68 y219 x113_1).f1).length c222_1, .int .i64 ((rd_T68 y219 x113_1).f2)] 68 (0, 0)) (bup BK223.out) hb); have n8_ := As.mk (below_step (hup1 HB.out GE223.out) hb); clear HO_1 HO_2; clear HO_111 HL222_1; clear HO226 HR222_1; clear BK223 HB; have HO_1 := n0_; have HO_2 := n1_; have HO_111 := n2_; have HL222_1 := n3_; have HO226 := n4_; have HO230 := n5_; have HR222_1 := n6_; have BK223 := n7_; have HB := n8_; clear n0_ n1_ n2_ n3_ n4_ n5_ n6_ n7_ n8_; (try clear hb); (try clear hb2); (try clear hk); (try clear hi); (try clear ho0); have hcz941_0 : w940.cell? ⟨gb223, 0, none⟩ = some (.int .i64 ((rd_T68 y219 x113_1).f0)) := (blk_cell BK223.out 0).trans rfl; have hcz941_1 : w940.cell? ⟨gb223, 1, none⟩ = some (.slice A222_1 ((rd_T68 y219 x113_1).f1).length c222_1) := (blk_cell BK223.out 1).trans rfl; have hcz941_2 : w940.cell? ⟨gb223, 2, none⟩ = some (.int .i64 ((rd_T68 y219 x113_1).f2)) := (blk_cell BK223.out 2).trans rfl; have hfz941_0 := blk_frozen BK223.out 0; have hfz941_1 := blk_frozen BK223.out 1; have hfz941_2 := blk_frozen BK223.out 2) | ((with_reducible refine gate_callee (f := 17) rfl ?_); refine goesL_ (some 138) rfl rfl Try.func17 (by kernel_rfl) rfl #[.int .i64 ((rd_T68 y219 x113_1).f0), .slice A222_1 ((rd_T68 y219 x113_1).f1).length c222_1, .int .i64 0] rfl (by (try simp only [List.map_toArray, List.map_cons, List.map_nil]); first | done | rfl | (simp only [List.length_drop, List.length_take]; rfl)) ?_; (with_reducible refine (column_Scale.calls k1 ((rd_T68 y219 x113_1).f0) _ _ ((rd_T68 y219 x113_1).f1) 0 t232 t233 _ ?side1 ?side2 A48.out).mono ?_); (case side1 => repeat (first | exact (cup HR222_1.out) | (with_reducible refine Kd.C_alloc ?_ _) | (with_reducible refine Kd.C_drewN ?_ _) | (with_reducible refine Kd.C_drew ?_))); (case side2 => exact HC222_1.out); rintro e w942 ⟨v234, rfl, ho0, hb⟩; refine ⟨_, rfl, ?_⟩; have n0_ := As.mk (Kd.R_elder' (rup HO_1.out) (Kd.R_base ho0) hb); have n1_ := As.mk (Kd.N_elder' (nup HO_2.out) (Kd.R_base ho0) hb); have n2_ := As.mk (Kd.N_elder' (nup HO_111.out) (Kd.R_base ho0) hb); have n3_ := As.mk (Kd.V_elder' (vup HL222_1.out) (Kd.R_base ho0) hb); have n4_ := As.mk (Kd.R_elder' (rup HO226.out) (Kd.R_base ho0) hb); have n5_ := As.mk (Kd.R_elder' (rup HO230.out) (Kd.R_base ho0) hb); have n6_ := As.mk (Kd.R_lower (Kd.R_new' (Kd.R_new' (Kd.R_new' ho0 (Kd.R_lt (rup HO_1.out))) (Kd.R_lt (rup HO226.out))) (Kd.R_lt (rup HO230.out))) (below_size (hup1 HB.out GE223.out))); have n7_ := As.mk (Kd.C_below (cup HR222_1.out) hb); have n8_ := As.mk (blk_below (g := gb223) (o := .cells #[.int .i64 ((rd_T68 y219 x113_1).f0), .slice A222_1 ((rd_T68 y219 x113_1).f1).length c222_1, .int .i64 ((rd_T68 y219 x113_1).f2)] 68 (0, 0)) (bup BK223.out) hb); have n9_ := As.mk (below_step (hup1 HB.out GE223.out) hb); clear HO_1 HO_2; clear HO_111 HL222_1; clear HO226 HO230; clear HR222_1 BK223 HB; have HO_1 := n0_; have HO_2 := n1_; have HO_111 := n2_; have HL222_1 := n3_; have HO226 := n4_; have HO230 := n5_; have HO235 := n6_; have HR222_1 := n7_; have BK223 := n8_; have HB := n9_; clear n0_ n1_ n2_ n3_ n4_ n5_ n6_ n7_ n8_ n9_; (try clear hb); (try clear hb2); (try clear hk); (try clear hi); (try clear ho0); have hcz943_0 : w942.cell? ⟨gb223, 0, none⟩ = some (.int .i64 ((rd_T68 y219 x113_1).f0)) := (blk_cell BK223.out 0).trans rfl; have hcz943_1 : w942.cell? ⟨gb223, 1, none⟩ = some (.slice A222_1 ((rd_T68 y219 x113_1).f1).length c222_1) := (blk_cell BK223.out 1).trans rfl; have hcz943_2 : w942.cell? ⟨gb223, 2, none⟩ = some (.int .i64 ((rd_T68 y219 x113_1).f2)) := (blk_cell BK223.out 2).trans rfl; have hfz943_0 := blk_frozen BK223.out 0; have hfz943_1 := blk_frozen BK223.out 1; have hfz943_2 := blk_frozen BK223.out 2) | ((with_reducible refine gate_callee (f := 18) rfl ?_); refine goesL_ (some 148) rfl rfl Try.func18 (by kernel_rfl) rfl #[.int .i64 ((rd_T68 y219 x113_1).f0), .slice A222_1 ((rd_T68 y219 x113_1).f1).length c222_1, .slice A222_1 ((rd_T68 y219 x113_1).f1).length c222_1] rfl (by (try simp only [List.map_toArray, List.map_cons, List.map_nil]); first | done | rfl | (simp only [List.length_drop, List.length_take]; rfl)) ?_; (with_reducible refine (column_Dot.calls k1 ((rd_T68 y219 x113_1).f0) _ _ ((rd_T68 y219 x113_1).f1) _ _ ((rd_T68 y219 x113_1).f1) t236 t237 _ ?side1 ?side2 ?side3 ?side4 A49.out).mono ?_); (case side1 => repeat (first | exact (cup HR222_1.out) | (with_reducible refine Kd.C_alloc ?_ _) | (with_reducible refine Kd.C_drewN ?_ _) | (with_reducible refine Kd.C_drew ?_))); (case side2 => exact HC222_1.out); (case side3 => repeat (first | exact (cup HR222_1.out) | (with_reducible refine Kd.C_alloc ?_ _) | (with_reducible refine Kd.C_drewN ?_ _) | (with_reducible refine Kd.C_drew ?_))); (case side4 => exact HC222_1.out); rintro e w944 ⟨rfl, hb⟩; refine ⟨_, rfl, ?_⟩; have n0_ := As.mk (Kd.R_below (rup HO_1.out) hb); have n1_ := As.mk (Kd.N_below (nup HO_2.out) hb); have n2_ := As.mk (Kd.N_below (nup HO_111.out) hb); have n3_ := As.mk (Kd.V_below (vup HL222_1.out) hb); have n4_ := As.mk (Kd.R_below (rup HO226.out) hb); have n5_ := As.mk (Kd.R_below (rup HO230.out) hb); have n6_ := As.mk (Kd.R_below (rup HO235.out) hb); have n7_ := As.mk (Kd.C_below (cup HR222_1.out) hb); have n8_ := As.mk (blk_below (g := gb223) (o := .cells #[.int .i64 ((rd_T68 y219 x113_1).f0), .slice A222_1 ((rd_T68 y219 x113_1).f1).length c222_1, .int .i64 ((rd_T68 y219 x113_1).f2)] 68 (0, 0)) (bup BK223.out) hb); have n9_ := As.mk (below_step (hup1 HB.out GE223.out) hb); clear HO_1 HO_2; clear HO_111 HL222_1; clear HO226 HO230; clear HO235 HR222_1; clear BK223 HB; have HO_1 := n0_; have HO_2 := n1_; have HO_111 := n2_; have HL222_1 := n3_; have HO226 := n4_; have HO230 := n5_; have HO235 := n6_; have HR222_1 := n7_; have BK223 := n8_; have HB := n9_; clear n0_ n1_ n2_ n3_ n4_ n5_ n6_ n7_ n8_ n9_; (try clear hb); (try clear hb2); (try clear hk); (try clear hi); have hcz945_0 : w944.cell? ⟨gb223, 0, none⟩ = some (.int .i64 ((rd_T68 y219 x113_1).f0)) := (blk_cell BK223.out 0).trans rfl; have hcz945_1 : w944.cell? ⟨gb223, 1, none⟩ = some (.slice A222_1 ((rd_T68 y219 x113_1).f1).length c222_1) := (blk_cell BK223.out 1).trans rfl; have hcz945_2 : w944.cell? ⟨gb223, 2, none⟩ = some (.int .i64 ((rd_T68 y219 x113_1).f2)) := (blk_cell BK223.out 2).trans rfl; have hfz945_0 := blk_frozen BK223.out 0; have hfz945_1 := blk_frozen BK223.out 1; have hfz945_2 := blk_frozen BK223.out 2) | ((with_reducible refine gate_callee (f := 34) rfl ?_); refine goesL_ (some 156) rfl rfl Try.func34 (by kernel_rfl) rfl #[.int .i64 ((rd_T68 y219 x113_1).f0), .slice A222_1 ((rd_T68 y219 x113_1).f1).length c222_1, .int .i64 1024] rfl (by (try simp only [List.map_toArray, List.map_cons, List.map_nil]); first | done | rfl | (simp only [List.length_drop, List.length_take]; rfl)) ?_; (with_reducible refine (column_Dense.calls k1 ((rd_T68 y219 x113_1).f0) _ _ ((rd_T68 y219 x113_1).f1) 1024 t238 t239 _ ?side1 ?side2 A50.out).mono ?_); (case side1 => repeat (first | exact (cup HR222_1.out) | (with_reducible refine Kd.C_alloc ?_ _) | (with_reducible refine Kd.C_drewN ?_ _) | (with_reducible refine Kd.C_drew ?_))); (case side2 => exact HC222_1.out); rintro e w946 ⟨v240, rfl, ho0, hb⟩; refine ⟨_, rfl, ?_⟩; have n0_ := As.mk (Kd.R_below (rup HO_1.out) hb); have n1_ := As.mk (Kd.N_elder' (nup HO_2.out) (Kd.R_base ho0) hb); have n2_ := As.mk (Kd.N_elder' (nup HO_111.out) (Kd.R_base ho0) hb); have n3_ := As.mk (Kd.V_elder' (vup HL222_1.out) (Kd.R_base ho0) hb); have n4_ := As.mk (Kd.R_below (rup HO226.out) hb); have n5_ := As.mk (Kd.R_below (rup HO230.out) hb); have n6_ := As.mk (Kd.R_below (rup HO235.out) hb); have n7_ := As.mk (Kd.R_lower ho0 (below_size (hup1 HB.out GE223.out))); have n8_ := As.mk (Kd.C_below (cup HR222_1.out) hb); have n9_ := As.mk (blk_below (g := gb223) (o := .cells #[.int .i64 ((rd_T68 y219 x113_1).f0), .slice A222_1 ((rd_T68 y219 x113_1).f1).length c222_1, .int .i64 ((rd_T68 y219 x113_1).f2)] 68 (0, 0)) (bup BK223.out) hb); have n10_ := As.mk (below_step (hup1 HB.out GE223.out) hb); clear HO_1 HO_2; clear HO_111 HL222_1; clear HO226 HO230; clear HO235 HR222_1; clear BK223 HB; have HO_1 := n0_; have HO_2 := n1_; have HO_111 := n2_; have HL222_1 := n3_; have HO226 := n4_; have HO230 := n5_; have HO235 := n6_; have HO241 := n7_; have HR222_1 := n8_; have BK223 := n9_; have HB := n10_; clear n0_ n1_ n2_ n3_ n4_ n5_ n6_ n7_ n8_ n9_ n10_; (try clear hb); (try clear hb2); (try clear hk); (try clear hi); (try clear ho0); have hcz947_0 : w946.cell? ⟨gb223, 0, none⟩ = some (.int .i64 ((rd_T68 y219 x113_1).f0)) := (blk_cell BK223.out 0).trans rfl; have hcz947_1 : w946.cell? ⟨gb223, 1, none⟩ = some (.slice A222_1 ((rd_T68 y219 x113_1).f1).length c222_1) := (blk_cell BK223.out 1).trans rfl; have hcz947_2 : w946.cell? ⟨gb223, 2, none⟩ = some (.int .i64 ((rd_T68 y219 x113_1).f2)) := (blk_cell BK223.out 2).trans rfl; have hfz947_0 := blk_frozen BK223.out 0; have hfz947_1 := blk_frozen BK223.out 1; have hfz947_2 := blk_frozen BK223.out 2) | ((with_reducible refine gate_callee (f := 43) rfl ?_); refine goesL_ (some 164) rfl rfl Try.func43 (by kernel_rfl) rfl #[.int .i64 ((rd_T68 y219 x113_1).f0), .slice none 0 0, .slice A222_1 ((rd_T68 y219 x113_1).f1).length c222_1] rfl (by (try simp only [List.map_toArray, List.map_cons, List.map_nil]); first | done | rfl | (simp only [List.length_drop, List.length_take]; rfl)) ?_; (with_reducible refine (column_Combine.calls_l k1 ((rd_T68 y219 x113_1).f0) _ _ ((rd_T68 y219 x113_1).f1) t242 t243 _ ?side1 ?side2 A51.out).mono ?_); (case side1 => repeat (first | exact (cup HR222_1.out) | (with_reducible refine Kd.C_alloc ?_ _) | (with_reducible refine Kd.C_drewN ?_ _) | (with_reducible refine Kd.C_drew ?_))); (case side2 => exact HC222_1.out); rintro e w948 ⟨v244, rfl, ho0, hb⟩; refine ⟨_, rfl, ?_⟩; have n0_ := As.mk (Kd.R_elder' (rup HO_1.out) (Kd.R_base ho0) hb); have n1_ := As.mk (Kd.N_elder' (nup HO_2.out) (Kd.R_base ho0) hb); have n2_ := As.mk (Kd.N_elder' (nup HO_111.out) (Kd.R_base ho0) hb); have n3_ := As.mk (Kd.V_elder' (vup HL222_1.out) (Kd.R_base ho0) hb); have n4_ := As.mk (Kd.R_elder' (rup HO226.out) (Kd.R_base ho0) hb); have n5_ := As.mk (Kd.R_elder' (rup HO230.out) (Kd.R_base ho0) hb); have n6_ := As.mk (Kd.R_elder' (rup HO235.out) (Kd.R_base ho0) hb); have n7_ := As.mk (Kd.R_below (rup HO241.out) hb); have n8_ := As.mk (Kd.R_lower (Kd.R_new' (Kd.R_new' (Kd.R_new' (Kd.R_new' ho0 (Kd.R_lt (rup HO_1.out))) (Kd.R_lt (rup HO226.out))) (Kd.R_lt (rup HO230.out))) (Kd.R_lt (rup HO235.out))) (below_size (hup1 HB.out GE223.out))); have n9_ := As.mk (Kd.C_below (cup HR222_1.out) hb); have n10_ := As.mk (blk_below (g := gb223) (o := .cells #[.int .i64 ((rd_T68 y219 x113_1).f0), .slice A222_1 ((rd_T68 y219 x113_1).f1).length c222_1, .int .i64 ((rd_T68 y219 x113_1).f2)] 68 (0, 0)) (bup BK223.out) hb); have n11_ := As.mk (below_step (hup1 HB.out GE223.out) hb); clear HO_1 HO_2; clear HO_111 HL222_1; clear HO226 HO230; clear HO235 HO241; clear HR222_1 BK223 HB; have HO_1 := n0_; have HO_2 := n1_; have HO_111 := n2_; have HL222_1 := n3_; have HO226 := n4_; have HO230 := n5_; have HO235 := n6_; have HO241 := n7_; have HO245 := n8_; have HR222_1 := n9_; have BK223 := n10_; have HB := n11_; clear n0_ n1_ n2_ n3_ n4_ n5_ n6_ n7_ n8_ n9_ n10_ n11_; (try clear hb); (try clear hb2); (try clear hk); (try clear hi); (try clear ho0); have hcz949_0 : w948.cell? ⟨gb223, 0, none⟩ = some (.int .i64 ((rd_T68 y219 x113_1).f0)) := (blk_cell BK223.out 0).trans rfl; have hcz949_1 : w948.cell? ⟨gb223, 1, none⟩ = some (.slice A222_1 ((rd_T68 y219 x113_1).f1).length c222_1) := (blk_cell BK223.out 1).trans rfl; have hcz949_2 : w948.cell? ⟨gb223, 2, none⟩ = some (.int .i64 ((rd_T68 y219 x113_1).f2)) := (blk_cell BK223.out 2).trans rfl; have hfz949_0 := blk_frozen BK223.out 0; have hfz949_1 := blk_frozen BK223.out 1; have hfz949_2 := blk_frozen BK223.out 2) | ((with_reducible refine gate_dst (N := 172) rfl ?_); (try (refine gate_guard (by rfl) ?_; dsimp only)); refine Kd.N_lit (Kd.slice 45 k45) _ 22 ?hg (N' := 172) ?hd (xs := ([(rd_T68 y219 x113_1).f1] : List (List (S45)))) (inner := [.slice A222_1 ((rd_T68 y219 x113_1).f1).length c222_1]) (ok := (fun k_ => some k_ ≠ (v187 : Value).ownBlock ∧ some k_ ≠ (.slice (some ad222) y219.length co42 : Value).ownBlock ∧ some k_ ≠ (v225 : Value).ownBlock ∧ some k_ ≠ (v229 : Value).ownBlock ∧ some k_ ≠ (v234 : Value).ownBlock ∧ some k_ ≠ (v240 : Value).ownBlock ∧ some k_ ≠ (v244 : Value).ownBlock ∧ k_ ≠ gb223)) (okp := (fun k_ => some k_ ≠ (v187 : Value).ownBlock ∧ some k_ ≠ (.slice (some ad222) y219.length co42 : Value).ownBlock ∧ some k_ ≠ (v225 : Value).ownBlock ∧ some k_ ≠ (v229 : Value).ownBlock ∧ some k_ ≠ (v234 : Value).ownBlock ∧ some k_ ≠ (v240 : Value).ownBlock ∧ some k_ ≠ (v244 : Value).ownBlock ∧ k_ ≠ gb223)) ?hr ?hp (fun _ hk => hk) ((show ∀ k_, w948.heap.size ≤ k_ → (fun k_ => some k_ ≠ (v187 : Value).ownBlock ∧ some k_ ≠ (.slice (some ad222) y219.length co42 : Value).ownBlock ∧ some k_ ≠ (v225 : Value).ownBlock ∧ some k_ ≠ (v229 : Value).ownBlock ∧ some k_ ≠ (v234 : Value).ownBlock ∧ some k_ ≠ (v240 : Value).ownBlock ∧ some k_ ≠ (v244 : Value).ownBlock ∧ k_ ≠ gb223) k_ from fun k_ hk => ⟨Kd.fresh' (Kd.N_lt (nup HO_2.out)) k_ hk, Kd.fresh' (Kd.N_lt (nup HO_111.out)) k_ hk, Kd.fresh' (Kd.R_lt (rup HO226.out)) k_ hk, Kd.fresh' (Kd.R_lt (rup HO230.out)) k_ hk, Kd.fresh' (Kd.R_lt (rup HO235.out)) k_ hk, Kd.fresh' (Kd.R_lt (rup HO241.out)) k_ hk, Kd.fresh' (Kd.R_lt (rup HO245.out)) k_ hk, Kd.freshB (g := gb223) (o := .cells #[.int .i64 ((rd_T68 y219 x113_1).f0), .slice A222_1 ((rd_T68 y219 x113_1).f1).length c222_1, .int .i64 ((rd_T68 y219 x113_1).f2)] 68 (0, 0)) (bup BK223.out) k_ hk⟩) _ (Nat.le_refl _)) (Below.refl _ _) (Nat.le_refl _) (by simp) ?_; (case hd => rfl); (case hg => rfl); (case hr => first | (go_simp; done) | (go_simp; rfl)); (case hp => exact (Reps.one (show Kd.FK (Kd.slice 45 k45) _ _ ((rd_T68 y219 x113_1).f1) [.slice A222_1 ((rd_T68 y219 x113_1).f1).length c222_1] from (Kd.FK_slice_mk (Kd.V_reads' (Kd.V_mono (ok' := (fun k_ => some k_ ≠ (v187 : Value).ownBlock ∧ some k_ ≠ (.slice (some ad222) y219.length co42 : Value).ownBlock ∧ some k_ ≠ (v225 : Value).ownBlock ∧ some k_ ≠ (v229 : Value).ownBlock ∧ some k_ ≠ (v234 : Value).ownBlock ∧ some k_ ≠ (v240 : Value).ownBlock ∧ some k_ ≠ (v244 : Value).ownBlock ∧ k_ ≠ gb223)) (HL222_1.out) (fun k_ hk => ⟨hk.1.1.1.1.1.1, ⟨hk.1.1.1.1.1.2.1, ⟨hk.1.1.1.1.2, ⟨hk.1.1.1.2, ⟨hk.1.1.2, ⟨hk.1.2, ⟨hk.2, hk.1.1.1.1.1.2.2⟩⟩⟩⟩⟩⟩⟩))).2.1 (Kd.V_F (Kd.V_mono (ok' := (fun k_ => some k_ ≠ (v187 : Value).ownBlock ∧ some k_ ≠ (.slice (some ad222) y219.length co42 : Value).ownBlock ∧ some k_ ≠ (v225 : Value).ownBlock ∧ some k_ ≠ (v229 : Value).ownBlock ∧ some k_ ≠ (v234 : Value).ownBlock ∧ some k_ ≠ (v240 : Value).ownBlock ∧ some k_ ≠ (v244 : Value).ownBlock ∧ k_ ≠ gb223)) (HL222_1.out) (fun k_ hk => ⟨hk.1.1.1.1.1.1, ⟨hk.1.1.1.1.1.2.1, ⟨hk.1.1.1.1.2, ⟨hk.1.1.1.2, ⟨hk.1.1.2, ⟨hk.1.2, ⟨hk.2, hk.1.1.1.1.1.2.2⟩⟩⟩⟩⟩⟩⟩))))) (Reps.none _ _))); intro v247 w950 ho951 hb hg_ hnew_; clear hg_ hnew_; (first | rw [← Ny246.out] at ho951 | (simp only [Int.reduceToNat] at ho951; rw [← Ny246.out] at ho951)); have n0_ := As.mk (Kd.R_below (rup HO_1.out) hb); have n1_ := As.mk (Kd.N_elder' (nup HO_2.out) (by first | exact Kd.S_base ho951 | exact Kd.R_base ho951 | exact Kd.N_base ho951) hb); have n2_ := As.mk (Kd.N_elder' (nup HO_111.out) (by first | exact Kd.S_base ho951 | exact Kd.R_base ho951 | exact Kd.N_base ho951) hb); have n3_ := As.mk (Kd.V_elder' (vup HL222_1.out) (by first | exact Kd.S_base ho951 | exact Kd.R_base ho951 | exact Kd.N_base ho951) hb); have n4_ := As.mk (Kd.R_below (rup HO226.out) hb); have n5_ := As.mk (Kd.R_below (rup HO230.out) hb); have n6_ := As.mk (Kd.R_below (rup HO235.out) hb); have n7_ := As.mk (Kd.R_below (rup HO241.out) hb); have n8_ := As.mk (Kd.R_below (rup HO245.out) hb); have n9_ := As.mk (Kd.N_lower ho951 (below_size (hup1 HB.out GE223.out))); have n10_ := As.mk (Kd.C_below (cup HR222_1.out) hb); have n11_ := As.mk (blk_below (g := gb223) (o := .cells #[.int .i64 ((rd_T68 y219 x113_1).f0), .slice A222_1 ((rd_T68 y219 x113_1).f1).length c222_1, .int .i64 ((rd_T68 y219 x113_1).f2)] 68 (0, 0)) (bup BK223.out) hb); have n12_ := As.mk (below_step (hup1 HB.out GE223.out) hb); clear HO_1 HO_2; clear HO_111 HL222_1; clear HO226 HO230; clear HO235 HO241; clear HO245 HR222_1; clear BK223 HB; have HO_1 := n0_; have HO_2 := n1_; have HO_111 := n2_; have HL222_1 := n3_; have HO226 := n4_; have HO230 := n5_; have HO235 := n6_; have HO241 := n7_; have HO245 := n8_; have HO248 := n9_; have HR222_1 := n10_; have BK223 := n11_; have HB := n12_; clear n0_ n1_ n2_ n3_ n4_ n5_ n6_ n7_ n8_ n9_ n10_ n11_ n12_; clear hb ho951; obtain ⟨Ao952, co952, eo952⟩ := Kd.N_slice HO248.out; subst eo952) | ((with_reducible refine gate_callee (f := 43) rfl ?_); refine goesL_ (some 173) rfl rfl Try.func43 (by kernel_rfl) rfl #[.int .i64 ((rd_T68 y219 x113_1).f0), .slice Ao952 y246.length co952, .slice none 0 0] rfl (by (try simp only [List.map_toArray, List.map_cons, List.map_nil]); first | done | rfl | (simp only [List.length_drop, List.length_take]; rfl)) ?_; (with_reducible refine (column_Combine.calls_r k1 ((rd_T68 y219 x113_1).f0) _ _ y246 t249 t250 _ ?side1 ?side2 A52.out).mono ?_); (case side1 => exact cup (Kd.N_reads' HO248.out).2.2); (case side2 => exact (Kd.N_reads' HO248.out).2.1); rintro e w953 ⟨v251, rfl, ho0, hb⟩; refine ⟨_, rfl, ?_⟩; have n0_ := As.mk (Kd.R_elder' (rup HO_1.out) (Kd.R_base ho0) hb); have n1_ := As.mk (Kd.N_elder' (nup HO_2.out) (Kd.R_base ho0) hb); have n2_ := As.mk (Kd.N_elder' (nup HO_111.out) (Kd.R_base ho0) hb); have n3_ := As.mk (Kd.V_elder' (vup HL222_1.out) (Kd.R_base ho0) hb); have n4_ := As.mk (Kd.R_elder' (rup HO226.out) (Kd.R_base ho0) hb); have n5_ := As.mk (Kd.R_elder' (rup HO230.out) (Kd.R_base ho0) hb); have n6_ := As.mk (Kd.R_elder' (rup HO235.out) (Kd.R_base ho0) hb); have n7_ := As.mk (Kd.R_below (rup HO241.out) hb); have n8_ := As.mk (Kd.R_elder' (rup HO245.out) (Kd.R_base ho0) hb); have n9_ := As.mk (Kd.N_elder' (nup HO248.out) (Kd.R_base ho0) hb); have n10_ := As.mk (Kd.R_lower (Kd.R_new' (Kd.R_new' (Kd.R_new' (Kd.R_new' (Kd.R_new' ho0 (Kd.R_lt (rup HO_1.out))) (Kd.R_lt (rup HO226.out))) (Kd.R_lt (rup HO230.out))) (Kd.R_lt (rup HO235.out))) (Kd.R_lt (rup HO245.out))) (below_size (hup1 HB.out GE223.out))); have n11_ := As.mk (Kd.C_below (cup HR222_1.out) hb); have n12_ := As.mk (blk_below (g := gb223) (o := .cells #[.int .i64 ((rd_T68 y219 x113_1).f0), .slice A222_1 ((rd_T68 y219 x113_1).f1).length c222_1, .int .i64 ((rd_T68 y219 x113_1).f2)] 68 (0, 0)) (bup BK223.out) hb); have n13_ := As.mk (below_step (hup1 HB.out GE223.out) hb); clear HO_1 HO_2; clear HO_111 HL222_1; clear HO226 HO230; clear HO235 HO241; clear HO245 HO248; clear HR222_1 BK223 HB; have HO_1 := n0_; have HO_2 := n1_; have HO_111 := n2_; have HL222_1 := n3_; have HO226 := n4_; have HO230 := n5_; have HO235 := n6_; have HO241 := n7_; have HO245 := n8_; have HO248 := n9_; have HO252 := n10_; have HR222_1 := n11_; have BK223 := n12_; have HB := n13_; clear n0_ n1_ n2_ n3_ n4_ n5_ n6_ n7_ n8_ n9_ n10_ n11_ n12_ n13_; (try clear hb); (try clear hb2); (try clear hk); (try clear hi); (try clear ho0); have hcz954_0 : w953.cell? ⟨gb223, 0, none⟩ = some (.int .i64 ((rd_T68 y219 x113_1).f0)) := (blk_cell BK223.out 0).trans rfl; have hcz954_1 : w953.cell? ⟨gb223, 1, none⟩ = some (.slice A222_1 ((rd_T68 y219 x113_1).f1).length c222_1) := (blk_cell BK223.out 1).trans rfl; have hcz954_2 : w953.cell? ⟨gb223, 2, none⟩ = some (.int .i64 ((rd_T68 y219 x113_1).f2)) := (blk_cell BK223.out 2).trans rfl; have hfz954_0 := blk_frozen BK223.out 0; have hfz954_1 := blk_frozen BK223.out 1; have hfz954_2 := blk_frozen BK223.out 2) | ((with_reducible refine gate_callee (f := 45) rfl ?_); refine goesL_ (some 181) rfl rfl Try.func45 (by kernel_rfl) rfl #[.int .i64 ((rd_T68 y219 x113_1).f0), .slice none 0 0, .slice A222_1 ((rd_T68 y219 x113_1).f1).length c222_1] rfl (by (try simp only [List.map_toArray, List.map_cons, List.map_nil]); first | done | rfl | (simp only [List.length_drop, List.length_take]; rfl)) ?_; (with_reducible refine (column_Rest.calls_l k1 ((rd_T68 y219 x113_1).f0) _ _ ((rd_T68 y219 x113_1).f1) t253 t254 t255 _ ?side1 ?side2 A53.out).mono ?_); (case side1 => repeat (first | exact (cup HR222_1.out) | (with_reducible refine Kd.C_alloc ?_ _) | (with_reducible refine Kd.C_drewN ?_ _) | (with_reducible refine Kd.C_drew ?_))); (case side2 => exact HC222_1.out); rintro e w955 ⟨v256, v258, rfl, ho0, ho1, hb⟩; refine ⟨_, rfl, ?_⟩; have n0_ := As.mk (Kd.R_mono (Kd.R_told (Kd.R_told (Kd.R_old (rup HO_1.out) hb) (Kd.R_base ho0)) (Kd.R_base ho1)) (fun _ h_ => h_.1)); have n1_ := As.mk (Kd.N_mono (Kd.N_told (Kd.N_told (Kd.N_old (nup HO_2.out) hb) (Kd.R_base ho0)) (Kd.R_base ho1)) (fun _ h_ => h_.1)); have n2_ := As.mk (Kd.N_mono (Kd.N_told (Kd.N_told (Kd.N_old (nup HO_111.out) hb) (Kd.R_base ho0)) (Kd.R_base ho1)) (fun _ h_ => h_.1)); have n3_ := As.mk (Kd.V_mono (Kd.V_told (Kd.V_told (Kd.V_old (vup HL222_1.out) hb) (Kd.R_base ho0)) (Kd.R_base ho1)) (fun _ h_ => h_.1)); have n4_ := As.mk (Kd.R_mono (Kd.R_told (Kd.R_told (Kd.R_old (rup HO226.out) hb) (Kd.R_base ho0)) (Kd.R_base ho1)) (fun _ h_ => h_.1)); have n5_ := As.mk (Kd.R_mono (Kd.R_told (Kd.R_told (Kd.R_old (rup HO230.out) hb) (Kd.R_base ho0)) (Kd.R_base ho1)) (fun _ h_ => h_.1)); have n6_ := As.mk (Kd.R_mono (Kd.R_told (Kd.R_told (Kd.R_old (rup HO235.out) hb) (Kd.R_base ho0)) (Kd.R_base ho1)) (fun _ h_ => h_.1)); have n7_ := As.mk (Kd.R_below (rup HO241.out) hb); have n8_ := As.mk (Kd.R_mono (Kd.R_told (Kd.R_told (Kd.R_old (rup HO245.out) hb) (Kd.R_base ho0)) (Kd.R_base ho1)) (fun _ h_ => h_.1)); have n9_ := As.mk (Kd.N_mono (Kd.N_told (Kd.N_told (Kd.N_old (nup HO248.out) hb) (Kd.R_base ho0)) (Kd.R_base ho1)) (fun _ h_ => h_.1)); have n10_ := As.mk (Kd.R_mono (Kd.R_told (Kd.R_told (Kd.R_old (rup HO252.out) hb) (Kd.R_base ho0)) (Kd.R_base ho1)) (fun _ h_ => h_.1)); have n11_ := As.mk (Kd.R_lower (Kd.R_new' (Kd.R_new' (Kd.R_new' (Kd.R_new' (Kd.R_new' (Kd.R_new' ho0 (Kd.R_lt (rup HO_1.out))) (Kd.R_lt (rup HO226.out))) (Kd.R_lt (rup HO230.out))) (Kd.R_lt (rup HO235.out))) (Kd.R_lt (rup HO245.out))) (Kd.R_lt (rup HO252.out))) (below_size (hup1 HB.out GE223.out))); have n12_ := As.mk (Kd.R_lower (Kd.R_new' (Kd.R_new' (Kd.R_new' (Kd.R_new' (Kd.R_new' (Kd.R_new' ho1 (Kd.R_lt (rup HO_1.out))) (Kd.R_lt (rup HO226.out))) (Kd.R_lt (rup HO230.out))) (Kd.R_lt (rup HO235.out))) (Kd.R_lt (rup HO245.out))) (Kd.R_lt (rup HO252.out))) (below_size (hup1 HB.out GE223.out))); have n13_ := As.mk (Kd.C_below (cup HR222_1.out) hb); have n14_ := As.mk (blk_below (g := gb223) (o := .cells #[.int .i64 ((rd_T68 y219 x113_1).f0), .slice A222_1 ((rd_T68 y219 x113_1).f1).length c222_1, .int .i64 ((rd_T68 y219 x113_1).f2)] 68 (0, 0)) (bup BK223.out) hb); have n15_ := As.mk (below_step (hup1 HB.out GE223.out) hb); clear HO_1 HO_2; clear HO_111 HL222_1; clear HO226 HO230; clear HO235 HO241; clear HO245 HO248; clear HO252 HR222_1; clear BK223 HB; have HO_1 := n0_; have HO_2 := n1_; have HO_111 := n2_; have HL222_1 := n3_; have HO226 := n4_; have HO230 := n5_; have HO235 := n6_; have HO241 := n7_; have HO245 := n8_; have HO248 := n9_; have HO252 := n10_; have HO257 := n11_; have HO259 := n12_; have HR222_1 := n13_; have BK223 := n14_; have HB := n15_; clear n0_ n1_ n2_ n3_ n4_ n5_ n6_ n7_ n8_ n9_ n10_ n11_ n12_ n13_ n14_ n15_; (try clear hb); (try clear hb2); (try clear hk); (try clear hi); (try clear ho0); (try clear ho1); have hcz956_0 : w955.cell? ⟨gb223, 0, none⟩ = some (.int .i64 ((rd_T68 y219 x113_1).f0)) := (blk_cell BK223.out 0).trans rfl; have hcz956_1 : w955.cell? ⟨gb223, 1, none⟩ = some (.slice A222_1 ((rd_T68 y219 x113_1).f1).length c222_1) := (blk_cell BK223.out 1).trans rfl; have hcz956_2 : w955.cell? ⟨gb223, 2, none⟩ = some (.int .i64 ((rd_T68 y219 x113_1).f2)) := (blk_cell BK223.out 2).trans rfl; have hfz956_0 := blk_frozen BK223.out 0; have hfz956_1 := blk_frozen BK223.out 1; have hfz956_2 := blk_frozen BK223.out 2) | ((with_reducible refine gate_dst (N := 190) rfl ?_); (try (refine gate_guard (by rfl) ?_; dsimp only)); refine Kd.N_lit (Kd.slice 45 k45) _ 22 ?hg (N' := 190) ?hd (xs := ([(rd_T68 y219 x113_1).f1] : List (List (S45)))) (inner := [.slice A222_1 ((rd_T68 y219 x113_1).f1).length c222_1]) (ok := (fun k_ => some k_ ≠ (v187 : Value).ownBlock ∧ some k_ ≠ (.slice (some ad222) y219.length co42 : Value).ownBlock ∧ some k_ ≠ (v225 : Value).ownBlock ∧ some k_ ≠ (v229 : Value).ownBlock ∧ some k_ ≠ (v234 : Value).ownBlock ∧ some k_ ≠ (v240 : Value).ownBlock ∧ some k_ ≠ (v244 : Value).ownBlock ∧ some k_ ≠ (.slice Ao952 y246.length co952 : Value).ownBlock ∧ some k_ ≠ (v251 : Value).ownBlock ∧ some k_ ≠ (v256 : Value).ownBlock ∧ some k_ ≠ (v258 : Value).ownBlock ∧ k_ ≠ gb223)) (okp := (fun k_ => some k_ ≠ (v187 : Value).ownBlock ∧ some k_ ≠ (.slice (some ad222) y219.length co42 : Value).ownBlock ∧ some k_ ≠ (v225 : Value).ownBlock ∧ some k_ ≠ (v229 : Value).ownBlock ∧ some k_ ≠ (v234 : Value).ownBlock ∧ some k_ ≠ (v240 : Value).ownBlock ∧ some k_ ≠ (v244 : Value).ownBlock ∧ some k_ ≠ (.slice Ao952 y246.length co952 : Value).ownBlock ∧ some k_ ≠ (v251 : Value).ownBlock ∧ some k_ ≠ (v256 : Value).ownBlock ∧ some k_ ≠ (v258 : Value).ownBlock ∧ k_ ≠ gb223)) ?hr ?hp (fun _ hk => hk) ((show ∀ k_, w955.heap.size ≤ k_ → (fun k_ => some k_ ≠ (v187 : Value).ownBlock ∧ some k_ ≠ (.slice (some ad222) y219.length co42 : Value).ownBlock ∧ some k_ ≠ (v225 : Value).ownBlock ∧ some k_ ≠ (v229 : Value).ownBlock ∧ some k_ ≠ (v234 : Value).ownBlock ∧ some k_ ≠ (v240 : Value).ownBlock ∧ some k_ ≠ (v244 : Value).ownBlock ∧ some k_ ≠ (.slice Ao952 y246.length co952 : Value).ownBlock ∧ some k_ ≠ (v251 : Value).ownBlock ∧ some k_ ≠ (v256 : Value).ownBlock ∧ some k_ ≠ (v258 : Value).ownBlock ∧ k_ ≠ gb223) k_ from fun k_ hk => ⟨Kd.fresh' (Kd.N_lt (nup HO_2.out)) k_ hk, Kd.fresh' (Kd.N_lt (nup HO_111.out)) k_ hk, Kd.fresh' (Kd.R_lt (rup HO226.out)) k_ hk, Kd.fresh' (Kd.R_lt (rup HO230.out)) k_ hk, Kd.fresh' (Kd.R_lt (rup HO235.out)) k_ hk, Kd.fresh' (Kd.R_lt (rup HO241.out)) k_ hk, Kd.fresh' (Kd.R_lt (rup HO245.out)) k_ hk, Kd.fresh' (Kd.N_lt (nup HO248.out)) k_ hk, Kd.fresh' (Kd.R_lt (rup HO252.out)) k_ hk, Kd.fresh' (Kd.R_lt (rup HO257.out)) k_ hk, Kd.fresh' (Kd.R_lt (rup HO259.out)) k_ hk, Kd.freshB (g := gb223) (o := .cells #[.int .i64 ((rd_T68 y219 x113_1).f0), .slice A222_1 ((rd_T68 y219 x113_1).f1).length c222_1, .int .i64 ((rd_T68 y219 x113_1).f2)] 68 (0, 0)) (bup BK223.out) k_ hk⟩) _ (Nat.le_refl _)) (Below.refl _ _) (Nat.le_refl _) (by simp) ?_; (case hd => rfl); (case hg => rfl); (case hr => first | (go_simp; done) | (go_simp; rfl)); (case hp => exact (Reps.one (show Kd.FK (Kd.slice 45 k45) _ _ ((rd_T68 y219 x113_1).f1) [.slice A222_1 ((rd_T68 y219 x113_1).f1).length c222_1] from (Kd.FK_slice_mk (Kd.V_reads' (Kd.V_mono (ok' := (fun k_ => some k_ ≠ (v187 : Value).ownBlock ∧ some k_ ≠ (.slice (some ad222) y219.length co42 : Value).ownBlock ∧ some k_ ≠ (v225 : Value).ownBlock ∧ some k_ ≠ (v229 : Value).ownBlock ∧ some k_ ≠ (v234 : Value).ownBlock ∧ some k_ ≠ (v240 : Value).ownBlock ∧ some k_ ≠ (v244 : Value).ownBlock ∧ some k_ ≠ (.slice Ao952 y246.length co952 : Value).ownBlock ∧ some k_ ≠ (v251 : Value).ownBlock ∧ some k_ ≠ (v256 : Value).ownBlock ∧ some k_ ≠ (v258 : Value).ownBlock ∧ k_ ≠ gb223)) (HL222_1.out) (fun k_ hk => ⟨hk.1.1.1.1.1.1.1.1.1.1, ⟨hk.1.1.1.1.1.1.1.1.1.2.1, ⟨hk.1.1.1.1.1.1.1.1.2, ⟨hk.1.1.1.1.1.1.1.2, ⟨hk.1.1.1.1.1.1.2, ⟨hk.1.1.1.1.1.2, ⟨hk.1.1.1.1.2, ⟨hk.1.1.1.2, ⟨hk.1.1.2, ⟨hk.1.2, ⟨hk.2, hk.1.1.1.1.1.1.1.1.1.2.2⟩⟩⟩⟩⟩⟩⟩⟩⟩⟩⟩))).2.1 (Kd.V_F (Kd.V_mono (ok' := (fun k_ => some k_ ≠ (v187 : Value).ownBlock ∧ some k_ ≠ (.slice (some ad222) y219.length co42 : Value).ownBlock ∧ some k_ ≠ (v225 : Value).ownBlock ∧ some k_ ≠ (v229 : Value).ownBlock ∧ some k_ ≠ (v234 : Value).ownBlock ∧ some k_ ≠ (v240 : Value).ownBlock ∧ some k_ ≠ (v244 : Value).ownBlock ∧ some k_ ≠ (.slice Ao952 y246.length co952 : Value).ownBlock ∧ some k_ ≠ (v251 : Value).ownBlock ∧ some k_ ≠ (v256 : Value).ownBlock ∧ some k_ ≠ (v258 : Value).ownBlock ∧ k_ ≠ gb223)) (HL222_1.out) (fun k_ hk => ⟨hk.1.1.1.1.1.1.1.1.1.1, ⟨hk.1.1.1.1.1.1.1.1.1.2.1, ⟨hk.1.1.1.1.1.1.1.1.2, ⟨hk.1.1.1.1.1.1.1.2, ⟨hk.1.1.1.1.1.1.2, ⟨hk.1.1.1.1.1.2, ⟨hk.1.1.1.1.2, ⟨hk.1.1.1.2, ⟨hk.1.1.2, ⟨hk.1.2, ⟨hk.2, hk.1.1.1.1.1.1.1.1.1.2.2⟩⟩⟩⟩⟩⟩⟩⟩⟩⟩⟩))))) (Reps.none _ _))); intro v261 w957 ho958 hb hg_ hnew_; clear hg_ hnew_; (first | rw [← Ny260.out] at ho958 | (simp only [Int.reduceToNat] at ho958; rw [← Ny260.out] at ho958)); have n0_ := As.mk (Kd.R_below (rup HO_1.out) hb); have n1_ := As.mk (Kd.N_elder' (nup HO_2.out) (by first | exact Kd.S_base ho958 | exact Kd.R_base ho958 | exact Kd.N_base ho958) hb); have n2_ := As.mk (Kd.N_elder' (nup HO_111.out) (by first | exact Kd.S_base ho958 | exact Kd.R_base ho958 | exact Kd.N_base ho958) hb); have n3_ := As.mk (Kd.V_elder' (vup HL222_1.out) (by first | exact Kd.S_base ho958 | exact Kd.R_base ho958 | exact Kd.N_base ho958) hb); have n4_ := As.mk (Kd.R_below (rup HO226.out) hb); have n5_ := As.mk (Kd.R_below (rup HO230.out) hb); have n6_ := As.mk (Kd.R_below (rup HO235.out) hb); have n7_ := As.mk (Kd.R_below (rup HO241.out) hb); have n8_ := As.mk (Kd.R_below (rup HO245.out) hb); have n9_ := As.mk (Kd.N_elder' (nup HO248.out) (by first | exact Kd.S_base ho958 | exact Kd.R_base ho958 | exact Kd.N_base ho958) hb); have n10_ := As.mk (Kd.R_below (rup HO252.out) hb); have n11_ := As.mk (Kd.R_below (rup HO257.out) hb); have n12_ := As.mk (Kd.R_below (rup HO259.out) hb); have n13_ := As.mk (Kd.N_lower ho958 (below_size (hup1 HB.out GE223.out))); have n14_ := As.mk (Kd.C_below (cup HR222_1.out) hb); have n15_ := As.mk (blk_below (g := gb223) (o := .cells #[.int .i64 ((rd_T68 y219 x113_1).f0), .slice A222_1 ((rd_T68 y219 x113_1).f1).length c222_1, .int .i64 ((rd_T68 y219 x113_1).f2)] 68 (0, 0)) (bup BK223.out) hb); have n16_ := As.mk (below_step (hup1 HB.out GE223.out) hb); clear HO_1 HO_2; clear HO_111 HL222_1; clear HO226 HO230; clear HO235 HO241; clear HO245 HO248; clear HO252 HO257; clear HO259 HR222_1; clear BK223 HB; have HO_1 := n0_; have HO_2 := n1_; have HO_111 := n2_; have HL222_1 := n3_; have HO226 := n4_; have HO230 := n5_; have HO235 := n6_; have HO241 := n7_; have HO245 := n8_; have HO248 := n9_; have HO252 := n10_; have HO257 := n11_; have HO259 := n12_; have HO262 := n13_; have HR222_1 := n14_; have BK223 := n15_; have HB := n16_; clear n0_ n1_ n2_ n3_ n4_ n5_ n6_ n7_ n8_ n9_ n10_ n11_ n12_ n13_ n14_ n15_ n16_; clear hb ho958; obtain ⟨Ao959, co959, eo959⟩ := Kd.N_slice HO262.out; subst eo959) | ((with_reducible refine gate_callee (f := 38) rfl ?_); refine goesL_ (some 191) rfl rfl Try.func38 (by kernel_rfl) rfl #[.int .i64 ((rd_T68 y219 x113_1).f0), .slice Ao959 y260.length co959] rfl (by (try simp only [List.map_toArray, List.map_cons, List.map_nil]); first | done | rfl | (simp only [List.length_drop, List.length_take]; rfl)) ?_; (with_reducible refine (column_Basis.calls k1 ((rd_T68 y219 x113_1).f0) _ _ y260 t263 t264 _ ?side1 ?side2 A54.out).mono ?_); (case side1 => exact cup (Kd.N_reads' HO262.out).2.2); (case side2 => exact (Kd.N_reads' HO262.out).2.1); rintro e w960 ⟨v265, rfl, ho0, hb⟩; refine ⟨_, rfl, ?_⟩; have n0_ := As.mk (Kd.R_below (rup HO_1.out) hb); have n1_ := As.mk (Kd.N_elder' (nup HO_2.out) (by first | exact Kd.S_base ho0 | exact Kd.R_base ho0 | exact Kd.N_base ho0) hb); have n2_ := As.mk (Kd.N_elder' (nup HO_111.out) (by first | exact Kd.S_base ho0 | exact Kd.R_base ho0 | exact Kd.N_base ho0) hb); have n3_ := As.mk (Kd.V_elder' (vup HL222_1.out) (by first | exact Kd.S_base ho0 | exact Kd.R_base ho0 | exact Kd.N_base ho0) hb); have n4_ := As.mk (Kd.R_below (rup HO226.out) hb); have n5_ := As.mk (Kd.R_below (rup HO230.out) hb); have n6_ := As.mk (Kd.R_below (rup HO235.out) hb); have n7_ := As.mk (Kd.R_below (rup HO241.out) hb); have n8_ := As.mk (Kd.R_below (rup HO245.out) hb); have n9_ := As.mk (Kd.N_elder' (nup HO248.out) (by first | exact Kd.S_base ho0 | exact Kd.R_base ho0 | exact Kd.N_base ho0) hb); have n10_ := As.mk (Kd.R_below (rup HO252.out) hb); have n11_ := As.mk (Kd.R_below (rup HO257.out) hb); have n12_ := As.mk (Kd.R_below (rup HO259.out) hb); have n13_ := As.mk (Kd.N_elder' (nup HO262.out) (by first | exact Kd.S_base ho0 | exact Kd.R_base ho0 | exact Kd.N_base ho0) hb); have n14_ := As.mk (Kd.N_lower (Kd.N_mono (ok' := fun k_ => some k_ ≠ (.slice Ao9 y183.length co9 : Value).ownBlock ∧ some k_ ≠ (v187 : Value).ownBlock ∧ some k_ ≠ (.slice (some ad222) y219.length co42 : Value).ownBlock ∧ some k_ ≠ (v225 : Value).ownBlock ∧ some k_ ≠ (v229 : Value).ownBlock ∧ some k_ ≠ (v234 : Value).ownBlock ∧ some k_ ≠ (v240 : Value).ownBlock ∧ some k_ ≠ (v244 : Value).ownBlock ∧ some k_ ≠ (.slice Ao952 y246.length co952 : Value).ownBlock ∧ some k_ ≠ (v251 : Value).ownBlock ∧ some k_ ≠ (v256 : Value).ownBlock ∧ some k_ ≠ (v258 : Value).ownBlock ∧ some k_ ≠ (.slice Ao959 y260.length co959 : Value).ownBlock ∧ k_ ≠ gb223) (Kd.S_N (Kd.S_bound ho0)) (fun k_ hk_ => ⟨(Kd.fresh' (Kd.R_lt (rup HO_1.out)) k_ hk_.2.1), (Kd.fresh' (Kd.N_lt (nup HO_2.out)) k_ hk_.2.1), (Kd.fresh' (Kd.N_lt (nup HO_111.out)) k_ hk_.2.1), (Kd.fresh' (Kd.R_lt (rup HO226.out)) k_ hk_.2.1), (Kd.fresh' (Kd.R_lt (rup HO230.out)) k_ hk_.2.1), (Kd.fresh' (Kd.R_lt (rup HO235.out)) k_ hk_.2.1), (Kd.fresh' (Kd.R_lt (rup HO241.out)) k_ hk_.2.1), (Kd.fresh' (Kd.R_lt (rup HO245.out)) k_ hk_.2.1), (Kd.fresh' (Kd.N_lt (nup HO248.out)) k_ hk_.2.1), (Kd.fresh' (Kd.R_lt (rup HO252.out)) k_ hk_.2.1), (Kd.fresh' (Kd.R_lt (rup HO257.out)) k_ hk_.2.1), (Kd.fresh' (Kd.R_lt (rup HO259.out)) k_ hk_.2.1), (Kd.fresh' (Kd.N_lt (nup HO262.out)) k_ hk_.2.1), (Kd.freshB (g := gb223) (o := .cells #[.int .i64 ((rd_T68 y219 x113_1).f0), .slice A222_1 ((rd_T68 y219 x113_1).f1).length c222_1, .int .i64 ((rd_T68 y219 x113_1).f2)] 68 (0, 0)) (bup BK223.out) k_ hk_.2.1)⟩)) (below_size (hup1 HB.out GE223.out))); have n15_ := As.mk (Kd.C_below (cup HR222_1.out) hb); have n16_ := As.mk (blk_below (g := gb223) (o := .cells #[.int .i64 ((rd_T68 y219 x113_1).f0), .slice A222_1 ((rd_T68 y219 x113_1).f1).length c222_1, .int .i64 ((rd_T68 y219 x113_1).f2)] 68 (0, 0)) (bup BK223.out) hb); have n17_ := As.mk (below_step (hup1 HB.out GE223.out) hb); clear HO_1 HO_2; clear HO_111 HL222_1; clear HO226 HO230; clear HO235 HO241; clear HO245 HO248; clear HO252 HO257; clear HO259 HO262; clear HR222_1 BK223 HB; have HO_1 := n0_; have HO_2 := n1_; have HO_111 := n2_; have HL222_1 := n3_; have HO226 := n4_; have HO230 := n5_; have HO235 := n6_; have HO241 := n7_; have HO245 := n8_; have HO248 := n9_; have HO252 := n10_; have HO257 := n11_; have HO259 := n12_; have HO262 := n13_; have HO266 := n14_; have HR222_1 := n15_; have BK223 := n16_; have HB := n17_; clear n0_ n1_ n2_ n3_ n4_ n5_ n6_ n7_ n8_ n9_ n10_ n11_ n12_ n13_ n14_ n15_ n16_ n17_; (try clear hb); (try clear hb2); (try clear hk); (try clear hi); (try clear ho0); have hcz961_0 : w960.cell? ⟨gb223, 0, none⟩ = some (.int .i64 ((rd_T68 y219 x113_1).f0)) := (blk_cell BK223.out 0).trans rfl; have hcz961_1 : w960.cell? ⟨gb223, 1, none⟩ = some (.slice A222_1 ((rd_T68 y219 x113_1).f1).length c222_1) := (blk_cell BK223.out 1).trans rfl; have hcz961_2 : w960.cell? ⟨gb223, 2, none⟩ = some (.int .i64 ((rd_T68 y219 x113_1).f2)) := (blk_cell BK223.out 2).trans rfl; have hfz961_0 := blk_frozen BK223.out 0; have hfz961_1 := blk_frozen BK223.out 1; have hfz961_2 := blk_frozen BK223.out 2) | ((with_reducible refine gate_dst (N := 199) rfl ?_); (try (refine gate_guard (by rfl) ?_; dsimp only)); refine Kd.N_lit (Kd.slice 45 k45) _ 22 ?hg (N' := 199) ?hd (xs := ([[], (rd_T68 y219 x113_1).f1] : List (List (S45)))) (inner := [.slice none 0 0, .slice A222_1 ((rd_T68 y219 x113_1).f1).length c222_1]) (ok := (fun k_ => some k_ ≠ (v187 : Value).ownBlock ∧ some k_ ≠ (.slice (some ad222) y219.length co42 : Value).ownBlock ∧ some k_ ≠ (v225 : Value).ownBlock ∧ some k_ ≠ (v229 : Value).ownBlock ∧ some k_ ≠ (v234 : Value).ownBlock ∧ some k_ ≠ (v240 : Value).ownBlock ∧ some k_ ≠ (v244 : Value).ownBlock ∧ some k_ ≠ (.slice Ao952 y246.length co952 : Value).ownBlock ∧ some k_ ≠ (v251 : Value).ownBlock ∧ some k_ ≠ (v256 : Value).ownBlock ∧ some k_ ≠ (v258 : Value).ownBlock ∧ some k_ ≠ (.slice Ao959 y260.length co959 : Value).ownBlock ∧ some k_ ≠ (v265 : Value).ownBlock ∧ k_ ≠ gb223)) (okp := (fun k_ => some k_ ≠ (v187 : Value).ownBlock ∧ some k_ ≠ (.slice (some ad222) y219.length co42 : Value).ownBlock ∧ some k_ ≠ (v225 : Value).ownBlock ∧ some k_ ≠ (v229 : Value).ownBlock ∧ some k_ ≠ (v234 : Value).ownBlock ∧ some k_ ≠ (v240 : Value).ownBlock ∧ some k_ ≠ (v244 : Value).ownBlock ∧ some k_ ≠ (.slice Ao952 y246.length co952 : Value).ownBlock ∧ some k_ ≠ (v251 : Value).ownBlock ∧ some k_ ≠ (v256 : Value).ownBlock ∧ some k_ ≠ (v258 : Value).ownBlock ∧ some k_ ≠ (.slice Ao959 y260.length co959 : Value).ownBlock ∧ some k_ ≠ (v265 : Value).ownBlock ∧ k_ ≠ gb223)) ?hr ?hp (fun _ hk => hk) ((show ∀ k_, w960.heap.size ≤ k_ → (fun k_ => some k_ ≠ (v187 : Value).ownBlock ∧ some k_ ≠ (.slice (some ad222) y219.length co42 : Value).ownBlock ∧ some k_ ≠ (v225 : Value).ownBlock ∧ some k_ ≠ (v229 : Value).ownBlock ∧ some k_ ≠ (v234 : Value).ownBlock ∧ some k_ ≠ (v240 : Value).ownBlock ∧ some k_ ≠ (v244 : Value).ownBlock ∧ some k_ ≠ (.slice Ao952 y246.length co952 : Value).ownBlock ∧ some k_ ≠ (v251 : Value).ownBlock ∧ some k_ ≠ (v256 : Value).ownBlock ∧ some k_ ≠ (v258 : Value).ownBlock ∧ some k_ ≠ (.slice Ao959 y260.length co959 : Value).ownBlock ∧ some k_ ≠ (v265 : Value).ownBlock ∧ k_ ≠ gb223) k_ from fun k_ hk => ⟨Kd.fresh' (Kd.N_lt (nup HO_2.out)) k_ hk, Kd.fresh' (Kd.N_lt (nup HO_111.out)) k_ hk, Kd.fresh' (Kd.R_lt (rup HO226.out)) k_ hk, Kd.fresh' (Kd.R_lt (rup HO230.out)) k_ hk, Kd.fresh' (Kd.R_lt (rup HO235.out)) k_ hk, Kd.fresh' (Kd.R_lt (rup HO241.out)) k_ hk, Kd.fresh' (Kd.R_lt (rup HO245.out)) k_ hk, Kd.fresh' (Kd.N_lt (nup HO248.out)) k_ hk, Kd.fresh' (Kd.R_lt (rup HO252.out)) k_ hk, Kd.fresh' (Kd.R_lt (rup HO257.out)) k_ hk, Kd.fresh' (Kd.R_lt (rup HO259.out)) k_ hk, Kd.fresh' (Kd.N_lt (nup HO262.out)) k_ hk, Kd.fresh' (Kd.N_lt (nup HO266.out)) k_ hk, Kd.freshB (g := gb223) (o := .cells #[.int .i64 ((rd_T68 y219 x113_1).f0), .slice A222_1 ((rd_T68 y219 x113_1).f1).length c222_1, .int .i64 ((rd_T68 y219 x113_1).f2)] 68 (0, 0)) (bup BK223.out) k_ hk⟩) _ (Nat.le_refl _)) (Below.refl _ _) (Nat.le_refl _) (by simp) ?_; (case hd => rfl); (case hg => rfl); (case hr => first | (go_simp; done) | (go_simp; rfl)); (case hp => exact (Reps.one (show Kd.FK (Kd.slice 45 k45) _ _ [] [.slice none 0 0] from (Kd.FK_slice_mk (Nat.le_refl _) (Kd.F_nil _ _ _))) (Reps.one (show Kd.FK (Kd.slice 45 k45) _ _ ((rd_T68 y219 x113_1).f1) [.slice A222_1 ((rd_T68 y219 x113_1).f1).length c222_1] from (Kd.FK_slice_mk (Kd.V_reads' (Kd.V_mono (ok' := (fun k_ => some k_ ≠ (v187 : Value).ownBlock ∧ some k_ ≠ (.slice (some ad222) y219.length co42 : Value).ownBlock ∧ some k_ ≠ (v225 : Value).ownBlock ∧ some k_ ≠ (v229 : Value).ownBlock ∧ some k_ ≠ (v234 : Value).ownBlock ∧ some k_ ≠ (v240 : Value).ownBlock ∧ some k_ ≠ (v244 : Value).ownBlock ∧ some k_ ≠ (.slice Ao952 y246.length co952 : Value).ownBlock ∧ some k_ ≠ (v251 : Value).ownBlock ∧ some k_ ≠ (v256 : Value).ownBlock ∧ some k_ ≠ (v258 : Value).ownBlock ∧ some k_ ≠ (.slice Ao959 y260.length co959 : Value).ownBlock ∧ some k_ ≠ (v265 : Value).ownBlock ∧ k_ ≠ gb223)) (HL222_1.out) (fun k_ hk => ⟨hk.1.1.1.1.1.1.1.1.1.1.1.1, ⟨hk.1.1.1.1.1.1.1.1.1.1.1.2.1, ⟨hk.1.1.1.1.1.1.1.1.1.1.2, ⟨hk.1.1.1.1.1.1.1.1.1.2, ⟨hk.1.1.1.1.1.1.1.1.2, ⟨hk.1.1.1.1.1.1.1.2, ⟨hk.1.1.1.1.1.1.2, ⟨hk.1.1.1.1.1.2, ⟨hk.1.1.1.1.2, ⟨hk.1.1.1.2, ⟨hk.1.1.2, ⟨hk.1.2, ⟨hk.2, hk.1.1.1.1.1.1.1.1.1.1.1.2.2⟩⟩⟩⟩⟩⟩⟩⟩⟩⟩⟩⟩⟩))).2.1 (Kd.V_F (Kd.V_mono (ok' := (fun k_ => some k_ ≠ (v187 : Value).ownBlock ∧ some k_ ≠ (.slice (some ad222) y219.length co42 : Value).ownBlock ∧ some k_ ≠ (v225 : Value).ownBlock ∧ some k_ ≠ (v229 : Value).ownBlock ∧ some k_ ≠ (v234 : Value).ownBlock ∧ some k_ ≠ (v240 : Value).ownBlock ∧ some k_ ≠ (v244 : Value).ownBlock ∧ some k_ ≠ (.slice Ao952 y246.length co952 : Value).ownBlock ∧ some k_ ≠ (v251 : Value).ownBlock ∧ some k_ ≠ (v256 : Value).ownBlock ∧ some k_ ≠ (v258 : Value).ownBlock ∧ some k_ ≠ (.slice Ao959 y260.length co959 : Value).ownBlock ∧ some k_ ≠ (v265 : Value).ownBlock ∧ k_ ≠ gb223)) (HL222_1.out) (fun k_ hk => ⟨hk.1.1.1.1.1.1.1.1.1.1.1.1, ⟨hk.1.1.1.1.1.1.1.1.1.1.1.2.1, ⟨hk.1.1.1.1.1.1.1.1.1.1.2, ⟨hk.1.1.1.1.1.1.1.1.1.2, ⟨hk.1.1.1.1.1.1.1.1.2, ⟨hk.1.1.1.1.1.1.1.2, ⟨hk.1.1.1.1.1.1.2, ⟨hk.1.1.1.1.1.2, ⟨hk.1.1.1.1.2, ⟨hk.1.1.1.2, ⟨hk.1.1.2, ⟨hk.1.2, ⟨hk.2, hk.1.1.1.1.1.1.1.1.1.1.1.2.2⟩⟩⟩⟩⟩⟩⟩⟩⟩⟩⟩⟩⟩))))) (Reps.none _ _)))); intro v268 w962 ho963 hb hg_ hnew_; clear hg_ hnew_; (first | rw [← Ny267.out] at ho963 | (simp only [Int.reduceToNat] at ho963; rw [← Ny267.out] at ho963)); have n0_ := As.mk (Kd.R_below (rup HO_1.out) hb); have n1_ := As.mk (Kd.N_elder' (nup HO_2.out) (by first | exact Kd.S_base ho963 | exact Kd.R_base ho963 | exact Kd.N_base ho963) hb); have n2_ := As.mk (Kd.N_elder' (nup HO_111.out) (by first | exact Kd.S_base ho963 | exact Kd.R_base ho963 | exact Kd.N_base ho963) hb); have n3_ := As.mk (Kd.V_elder' (vup HL222_1.out) (by first | exact Kd.S_base ho963 | exact Kd.R_base ho963 | exact Kd.N_base ho963) hb); have n4_ := As.mk (Kd.R_below (rup HO226.out) hb); have n5_ := As.mk (Kd.R_below (rup HO230.out) hb); have n6_ := As.mk (Kd.R_below (rup HO235.out) hb); have n7_ := As.mk (Kd.R_below (rup HO241.out) hb); have n8_ := As.mk (Kd.R_below (rup HO245.out) hb); have n9_ := As.mk (Kd.N_elder' (nup HO248.out) (by first | exact Kd.S_base ho963 | exact Kd.R_base ho963 | exact Kd.N_base ho963) hb); have n10_ := As.mk (Kd.R_below (rup HO252.out) hb); have n11_ := As.mk (Kd.R_below (rup HO257.out) hb); have n12_ := As.mk (Kd.R_below (rup HO259.out) hb); have n13_ := As.mk (Kd.N_elder' (nup HO262.out) (by first | exact Kd.S_base ho963 | exact Kd.R_base ho963 | exact Kd.N_base ho963) hb); have n14_ := As.mk (Kd.N_elder' (nup HO266.out) (by first | exact Kd.S_base ho963 | exact Kd.R_base ho963 | exact Kd.N_base ho963) hb); have n15_ := As.mk (Kd.N_lower ho963 (below_size (hup1 HB.out GE223.out))); have n16_ := As.mk (Kd.C_below (cup HR222_1.out) hb); have n17_ := As.mk (blk_below (g := gb223) (o := .cells #[.int .i64 ((rd_T68 y219 x113_1).f0), .slice A222_1 ((rd_T68 y219 x113_1).f1).length c222_1, .int .i64 ((rd_T68 y219 x113_1).f2)] 68 (0, 0)) (bup BK223.out) hb); have n18_ := As.mk (below_step (hup1 HB.out GE223.out) hb); clear HO_1 HO_2; clear HO_111 HL222_1; clear HO226 HO230; clear HO235 HO241; clear HO245 HO248; clear HO252 HO257; clear HO259 HO262; clear HO266 HR222_1; clear BK223 HB; have HO_1 := n0_; have HO_2 := n1_; have HO_111 := n2_; have HL222_1 := n3_; have HO226 := n4_; have HO230 := n5_; have HO235 := n6_; have HO241 := n7_; have HO245 := n8_; have HO248 := n9_; have HO252 := n10_; have HO257 := n11_; have HO259 := n12_; have HO262 := n13_; have HO266 := n14_; have HO269 := n15_; have HR222_1 := n16_; have BK223 := n17_; have HB := n18_; clear n0_ n1_ n2_ n3_ n4_ n5_ n6_ n7_ n8_ n9_ n10_ n11_ n12_ n13_ n14_ n15_ n16_ n17_ n18_; clear hb ho963; obtain ⟨Ao964, co964, eo964⟩ := Kd.N_slice HO269.out; subst eo964) | ((with_reducible refine gate_callee (f := 48) rfl ?_); refine goesL_ (some 200) rfl rfl Try.func48 (by kernel_rfl) rfl #[.int .i64 ((rd_T68 y219 x113_1).f0), .slice Ao964 y267.length co964] rfl (by (try simp only [List.map_toArray, List.map_cons, List.map_nil]); first | done | rfl | (simp only [List.length_drop, List.length_take]; rfl)) ?_; (with_reducible refine (column_KernelB.calls k1 ((rd_T68 y219 x113_1).f0) _ _ y267 t270 t271 _ ?side1 ?side2 A55.out).mono ?_); (case side1 => exact cup (Kd.N_reads' HO269.out).2.2); (case side2 => exact (Kd.N_reads' HO269.out).2.1); rintro e w965 ⟨v272, rfl, ho0, hb⟩; refine ⟨_, rfl, ?_⟩; have n0_ := As.mk (Kd.R_below (rup HO_1.out) hb); have n1_ := As.mk (Kd.N_elder' (nup HO_2.out) (by first | exact Kd.S_base ho0 | exact Kd.R_base ho0 | exact Kd.N_base ho0) hb); have n2_ := As.mk (Kd.N_elder' (nup HO_111.out) (by first | exact Kd.S_base ho0 | exact Kd.R_base ho0 | exact Kd.N_base ho0) hb); have n3_ := As.mk (Kd.V_elder' (vup HL222_1.out) (by first | exact Kd.S_base ho0 | exact Kd.R_base ho0 | exact Kd.N_base ho0) hb); have n4_ := As.mk (Kd.R_below (rup HO226.out) hb); have n5_ := As.mk (Kd.R_below (rup HO230.out) hb); have n6_ := As.mk (Kd.R_below (rup HO235.out) hb); have n7_ := As.mk (Kd.R_below (rup HO241.out) hb); have n8_ := As.mk (Kd.R_below (rup HO245.out) hb); have n9_ := As.mk (Kd.N_elder' (nup HO248.out) (by first | exact Kd.S_base ho0 | exact Kd.R_base ho0 | exact Kd.N_base ho0) hb); have n10_ := As.mk (Kd.R_below (rup HO252.out) hb); have n11_ := As.mk (Kd.R_below (rup HO257.out) hb); have n12_ := As.mk (Kd.R_below (rup HO259.out) hb); have n13_ := As.mk (Kd.N_elder' (nup HO262.out) (by first | exact Kd.S_base ho0 | exact Kd.R_base ho0 | exact Kd.N_base ho0) hb); have n14_ := As.mk (Kd.N_elder' (nup HO266.out) (by first | exact Kd.S_base ho0 | exact Kd.R_base ho0 | exact Kd.N_base ho0) hb); have n15_ := As.mk (Kd.N_elder' (nup HO269.out) (by first | exact Kd.S_base ho0 | exact Kd.R_base ho0 | exact Kd.N_base ho0) hb); have n16_ := As.mk (Kd.N_lower (Kd.N_mono (ok' := fun k_ => some k_ ≠ (.slice Ao9 y183.length co9 : Value).ownBlock ∧ some k_ ≠ (v187 : Value).ownBlock ∧ some k_ ≠ (.slice (some ad222) y219.length co42 : Value).ownBlock ∧ some k_ ≠ (v225 : Value).ownBlock ∧ some k_ ≠ (v229 : Value).ownBlock ∧ some k_ ≠ (v234 : Value).ownBlock ∧ some k_ ≠ (v240 : Value).ownBlock ∧ some k_ ≠ (v244 : Value).ownBlock ∧ some k_ ≠ (.slice Ao952 y246.length co952 : Value).ownBlock ∧ some k_ ≠ (v251 : Value).ownBlock ∧ some k_ ≠ (v256 : Value).ownBlock ∧ some k_ ≠ (v258 : Value).ownBlock ∧ some k_ ≠ (.slice Ao959 y260.length co959 : Value).ownBlock ∧ some k_ ≠ (v265 : Value).ownBlock ∧ some k_ ≠ (.slice Ao964 y267.length co964 : Value).ownBlock ∧ k_ ≠ gb223) (Kd.S_N (Kd.S_bound ho0)) (fun k_ hk_ => ⟨(Kd.fresh' (Kd.R_lt (rup HO_1.out)) k_ hk_.2.1), (Kd.fresh' (Kd.N_lt (nup HO_2.out)) k_ hk_.2.1), (Kd.fresh' (Kd.N_lt (nup HO_111.out)) k_ hk_.2.1), (Kd.fresh' (Kd.R_lt (rup HO226.out)) k_ hk_.2.1), (Kd.fresh' (Kd.R_lt (rup HO230.out)) k_ hk_.2.1), (Kd.fresh' (Kd.R_lt (rup HO235.out)) k_ hk_.2.1), (Kd.fresh' (Kd.R_lt (rup HO241.out)) k_ hk_.2.1), (Kd.fresh' (Kd.R_lt (rup HO245.out)) k_ hk_.2.1), (Kd.fresh' (Kd.N_lt (nup HO248.out)) k_ hk_.2.1), (Kd.fresh' (Kd.R_lt (rup HO252.out)) k_ hk_.2.1), (Kd.fresh' (Kd.R_lt (rup HO257.out)) k_ hk_.2.1), (Kd.fresh' (Kd.R_lt (rup HO259.out)) k_ hk_.2.1), (Kd.fresh' (Kd.N_lt (nup HO262.out)) k_ hk_.2.1), (Kd.fresh' (Kd.N_lt (nup HO266.out)) k_ hk_.2.1), (Kd.fresh' (Kd.N_lt (nup HO269.out)) k_ hk_.2.1), (Kd.freshB (g := gb223) (o := .cells #[.int .i64 ((rd_T68 y219 x113_1).f0), .slice A222_1 ((rd_T68 y219 x113_1).f1).length c222_1, .int .i64 ((rd_T68 y219 x113_1).f2)] 68 (0, 0)) (bup BK223.out) k_ hk_.2.1)⟩)) (below_size (hup1 HB.out GE223.out))); have n17_ := As.mk (Kd.C_below (cup HR222_1.out) hb); have n18_ := As.mk (blk_below (g := gb223) (o := .cells #[.int .i64 ((rd_T68 y219 x113_1).f0), .slice A222_1 ((rd_T68 y219 x113_1).f1).length c222_1, .int .i64 ((rd_T68 y219 x113_1).f2)] 68 (0, 0)) (bup BK223.out) hb); have n19_ := As.mk (below_step (hup1 HB.out GE223.out) hb); clear HO_1 HO_2; clear HO_111 HL222_1; clear HO226 HO230; clear HO235 HO241; clear HO245 HO248; clear HO252 HO257; clear HO259 HO262; clear HO266 HO269; clear HR222_1 BK223 HB; have HO_1 := n0_; have HO_2 := n1_; have HO_111 := n2_; have HL222_1 := n3_; have HO226 := n4_; have HO230 := n5_; have HO235 := n6_; have HO241 := n7_; have HO245 := n8_; have HO248 := n9_; have HO252 := n10_; have HO257 := n11_; have HO259 := n12_; have HO262 := n13_; have HO266 := n14_; have HO269 := n15_; have HO273 := n16_; have HR222_1 := n17_; have BK223 := n18_; have HB := n19_; clear n0_ n1_ n2_ n3_ n4_ n5_ n6_ n7_ n8_ n9_ n10_ n11_ n12_ n13_ n14_ n15_ n16_ n17_ n18_ n19_; (try clear hb); (try clear hb2); (try clear hk); (try clear hi); (try clear ho0); have hcz966_0 : w965.cell? ⟨gb223, 0, none⟩ = some (.int .i64 ((rd_T68 y219 x113_1).f0)) := (blk_cell BK223.out 0).trans rfl; have hcz966_1 : w965.cell? ⟨gb223, 1, none⟩ = some (.slice A222_1 ((rd_T68 y219 x113_1).f1).length c222_1) := (blk_cell BK223.out 1).trans rfl; have hcz966_2 : w965.cell? ⟨gb223, 2, none⟩ = some (.int .i64 ((rd_T68 y219 x113_1).f2)) := (blk_cell BK223.out 2).trans rfl; have hfz966_0 := blk_frozen BK223.out 0; have hfz966_1 := blk_frozen BK223.out 1; have hfz966_2 := blk_frozen BK223.out 2))
 have n0_ := As.mk (Kd.R_drew HO_1.out)
 have n1_ := As.mk (Kd.N_drew HO_2.out)
 have n2_ := As.mk (Kd.N_drew HO_111.out)
 have n3_ := As.mk (Kd.V_drew HL222_1.out)
 have n4_ := As.mk (Kd.R_drew HO226.out)
 have n5_ := As.mk (Kd.R_drew HO230.out)
 have n6_ := As.mk (Kd.R_drew HO235.out)
 have n7_ := As.mk (Kd.R_drew HO241.out)
 have n8_ := As.mk (Kd.R_drew HO245.out)
 have n9_ := As.mk (Kd.N_drew HO248.out)
 have n10_ := As.mk (Kd.R_drew HO252.out)
 have n11_ := As.mk (Kd.R_drew HO257.out)
 have n12_ := As.mk (Kd.R_drew HO259.out)
 have n13_ := As.mk (Kd.N_drew HO262.out)
 have n14_ := As.mk (Kd.N_drew HO266.out)
 have n15_ := As.mk (Kd.N_drew HO269.out)
 have n16_ := As.mk (Kd.N_drew HO273.out)
 have n17_ := As.mk (blk_drew BK223.out)
 have n18_ := As.mk (Kd.C_drew HR222_1.out)
 have n19_ := As.mk (below_drew1 HB.out)
 clear HO_1
 clear HO_2
 clear HO_111
 clear HL222_1
 clear HO226
 clear HO230
 clear HO235
 clear HO241
 clear HO245
 clear HO248
 clear HO252
 clear HO257
 clear HO259
 clear HO262
 clear HO266
 clear HO269
 clear HO273
 clear BK223
 clear HR222_1
 clear HB
 have HO_1 := n0_
 have HO_2 := n1_
 have HO_111 := n2_
 have HL222_1 := n3_
 have HO226 := n4_
 have HO230 := n5_
 have HO235 := n6_
 have HO241 := n7_
 have HO245 := n8_
 have HO248 := n9_
 have HO252 := n10_
 have HO257 := n11_
 have HO259 := n12_
 have HO262 := n13_
 have HO266 := n14_
 have HO269 := n15_
 have HO273 := n16_
 have BK223 := n17_
 have HR222_1 := n18_
 have HB := n19_
 clear n0_ n1_ n2_ n3_ n4_ n5_ n6_ n7_ n8_ n9_ n10_ n11_ n12_ n13_ n14_ n15_ n16_ n17_ n18_ n19_
 refine start_ (n := 67) (S := fun w' => w'.cell? ⟨gb223, 0, none⟩ = some (.int .i64 ((rd_T68 y219 x113_1).f0)) ∧ w'.cell? ⟨gb223, 1, none⟩ = some (.slice A222_1 ((rd_T68 y219 x113_1).f1).length c222_1) ∧ w'.cell? ⟨gb223, 2, none⟩ = some (.int .i64 ((rd_T68 y219 x113_1).f2))) (ds := []) #[false, false, false, false, false, false, false, false, false, false, false, false, false, false, false, false, false, false, false, false, false, false, false, false, false, false, false, false, false, false, false, false, false, false, false, false, false, false, false, false, false, false, false, false, false, false, false, false, false, false, false, false, false, false, false, false, false, false, false, false, false, false, false, false, false, false, false] (by kernel_rfl) rfl rfl ⟨(blk_cell BK223.out 0).trans rfl, (blk_cell BK223.out 1).trans rfl, (blk_cell BK223.out 2).trans rfl⟩ (fun hHeld => ?_); refine with_tabW cE.tab21 cE.bits21 (fun HT_ HW_ => ?_)
 generalize w965.drew = w967 at HO_1 HO_2 HO_111 HL222_1 HO226 HO230 HO235 HO241 HO245 HO248 HO252 HO257 HO259 HO262 HO266 HO269 HO273 BK223 HR222_1 HB hHeld ⊢
 refine pure_ (i := 0) (N := some 214) (v := ?_) (a' := ?_) #[true, false, false, false, false, false, false, false, false, false, false, false, false, false, false, false, false, false, false, false, false, false, false, false, false, false, false, false, false, false, false, false, false, false, false, false, false, false, false, false, false, false, false, false, false, false, false, false, false, false, false, false, false, false, false, false, false, false, false, false, false, false, false, false, false, false, false] rfl rfl (any_of HT_.out (by kernel_rfl)) (fun _ _ _ h => h) (Or.inl ⟨by rfl, ?_⟩) ?_ ?_
 rotate_left
 ·intro w'
  go_simp
  with_reducible rfl
 rotate_left
 ·simp only [Act.put, List.setIfInBounds_toArray, List.set_cons_zero, List.set_cons_succ, i64_w, i32_w]
  rfl
 refine pure_ (i := 2) (N := some 216) (v := ?_) (a' := ?_) #[true, false, true, false, false, false, false, false, false, false, false, false, false, false, false, false, false, false, false, false, false, false, false, false, false, false, false, false, false, false, false, false, false, false, false, false, false, false, false, false, false, false, false, false, false, false, false, false, false, false, false, false, false, false, false, false, false, false, false, false, false, false, false, false, false, false, false] rfl rfl (any_of HT_.out (by kernel_rfl)) (fun _ _ _ h => h) (Or.inl ⟨by rfl, ?_⟩) ?_ ?_
 rotate_left
 ·intro w'
  go_simp
  with_reducible rfl
 rotate_left
 ·simp only [Act.put, List.setIfInBounds_toArray, List.set_cons_zero, List.set_cons_succ, i64_w, i32_w]
  rfl
 refine pure_ (i := 5) (N := some 219) (v := ?_) (a' := ?_) #[true, false, true, false, false, true, false, false, false, false, false, false, false, false, false, false, false, false, false, false, false, false, false, false, false, false, false, false, false, false, false, false, false, false, false, false, false, false, false, false, false, false, false, false, false, false, false, false, false, false, false, false, false, false, false, false, false, false, false, false, false, false, false, false, false, false, false] rfl rfl (any_of HT_.out (by kernel_rfl)) (fun _ _ _ h => h) (Or.inl ⟨by rfl, ?_⟩) ?_ ?_
 rotate_left
 ·intro w'
  go_simp
  with_reducible rfl
 rotate_left
 ·simp only [Act.put, List.setIfInBounds_toArray, List.set_cons_zero, List.set_cons_succ, i64_w, i32_w]
  rfl
 refine take_ (i := 1) (N := some 215) (v := ?_) (a' := ?_) #[true, true, true, false, false, true, false, false, false, false, false, false, false, false, false, false, false, false, false, false, false, false, false, false, false, false, false, false, false, false, false, false, false, false, false, false, false, false, false, false, false, false, false, false, false, false, false, false, false, false, false, false, false, false, false, false, false, false, false, false, false, false, false, false, false, false, false] rfl rfl (take_ofW HT_.out HW_.out (by kernel_rfl)) (fun _ _ _ h => h) (Or.inl ⟨by rfl, ?_⟩) hHeld ?_ ?_
 rotate_left
 ·rintro w' ⟨s0, s1, s2⟩
  go_simp
  with_reducible rfl
 rotate_left
 ·simp only [Act.put, List.setIfInBounds_toArray, List.set_cons_zero, List.set_cons_succ, i64_w, i32_w]
  rfl
 refine take_ (i := 3) (N := some 217) (v := ?_) (a' := ?_) #[true, true, true, true, false, true, false, false, false, false, false, false, false, false, false, false, false, false, false, false, false, false, false, false, false, false, false, false, false, false, false, false, false, false, false, false, false, false, false, false, false, false, false, false, false, false, false, false, false, false, false, false, false, false, false, false, false, false, false, false, false, false, false, false, false, false, false] rfl rfl (take_ofW HT_.out HW_.out (by kernel_rfl)) (fun _ _ _ h => h) (Or.inl ⟨by rfl, ?_⟩) hHeld ?_ ?_
 rotate_left
 ·rintro w' ⟨s0, s1, s2⟩
  go_simp
  with_reducible rfl
 rotate_left
 ·simp only [Act.put, List.setIfInBounds_toArray, List.set_cons_zero, List.set_cons_succ, i64_w, i32_w]
  rfl
 refine take_ (i := 6) (N := some 220) (v := ?_) (a' := ?_) #[true, true, true, true, false, true, true, false, false, false, false, false, false, false, false, false, false, false, false, false, false, false, false, false, false, false, false, false, false, false, false, false, false, false, false, false, false, false, false, false, false, false, false, false, false, false, false, false, false, false, false, false, false, false, false, false, false, false, false, false, false, false, false, false, false, false, false] rfl rfl (take_ofW HT_.out HW_.out (by kernel_rfl)) (fun _ _ _ h => h) (Or.inl ⟨by rfl, ?_⟩) hHeld ?_ ?_
 rotate_left
 ·rintro w' ⟨s0, s1, s2⟩
  go_simp
  with_reducible rfl
 rotate_left
 ·simp only [Act.put, List.setIfInBounds_toArray, List.set_cons_zero, List.set_cons_succ, i64_w, i32_w]
  rfl
 refine one_ (i := 4) (N := some 218) #[true, true, true, true, true, true, true, false, false, false, false, false, false, false, false, false, false, false, false, false, false, false, false, false, false, false, false, false, false, false, false, false, false, false, false, false, false, false, false, false, false, false, false, false, false, false, false, false, false, false, false, false, false, false, false, false, false, false, false, false, false, false, false, false, false, false, false] rfl rfl (one_of HT_.out (by kernel_rfl)) (by decide) (fun K hK => ?_)
 refine goes_ Try.func24 (by kernel_rfl) rfl #[.int .i64 ((rd_T68 y219 x113_1).f0), .slice A222_1 ((rd_T68 y219 x113_1).f1).length c222_1] (by rfl) rfl rfl (by (try simp only [List.map_toArray, List.map_cons, List.map_nil]); first | done | rfl | (simp only [List.length_drop, List.length_take]; rfl)) ?_
 with_reducible refine (column_Check.calls k1 ((rd_T68 y219 x113_1).f0) _ _ ((rd_T68 y219 x113_1).f1) t276 _ ?side1 ?side2 A922.out).mono ?_
 (case side1 => repeat (first | exact (cup HR222_1.out) | (with_reducible refine Kd.C_alloc ?_ _) | (with_reducible refine Kd.C_drewN ?_ _) | (with_reducible refine Kd.C_drew ?_)))
 (case side2 => exact HC222_1.out)
 rintro e w968 ⟨rfl, hb⟩
 refine ⟨_, rfl, ?_⟩
 have n0_ := As.mk (Kd.R_below (rup HO_1.out) hb)
 have n1_ := As.mk (Kd.N_below (nup HO_2.out) hb)
 have n2_ := As.mk (Kd.N_below (nup HO_111.out) hb)
 have n3_ := As.mk (Kd.V_below (vup HL222_1.out) hb)
 have n4_ := As.mk (Kd.R_below (rup HO226.out) hb)
 have n5_ := As.mk (Kd.R_below (rup HO230.out) hb)
 have n6_ := As.mk (Kd.R_below (rup HO235.out) hb)
 have n7_ := As.mk (Kd.R_below (rup HO241.out) hb)
 have n8_ := As.mk (Kd.R_below (rup HO245.out) hb)
 have n9_ := As.mk (Kd.N_below (nup HO248.out) hb)
 have n10_ := As.mk (Kd.R_below (rup HO252.out) hb)
 have n11_ := As.mk (Kd.R_below (rup HO257.out) hb)
 have n12_ := As.mk (Kd.R_below (rup HO259.out) hb)
 have n13_ := As.mk (Kd.N_below (nup HO262.out) hb)
 have n14_ := As.mk (Kd.N_below (nup HO266.out) hb)
 have n15_ := As.mk (Kd.N_below (nup HO269.out) hb)
 have n16_ := As.mk (Kd.N_below (nup HO273.out) hb)
 have n17_ := As.mk (Kd.C_below (cup HR222_1.out) hb)
 have n18_ := As.mk (blk_below (g := gb223) (o := .cells #[.int .i64 ((rd_T68 y219 x113_1).f0), .slice A222_1 ((rd_T68 y219 x113_1).f1).length c222_1, .int .i64 ((rd_T68 y219 x113_1).f2)] 68 (0, 0)) (bup BK223.out) hb)
 have n19_ := As.mk (below_step (hup1 HB.out GE223.out) hb)
 clear HO_1
 clear HO_2
 clear HO_111
 clear HL222_1
 clear HO226
 clear HO230
 clear HO235
 clear HO241
 clear HO245
 clear HO248
 clear HO252
 clear HO257
 clear HO259
 clear HO262
 clear HO266
 clear HO269
 clear HO273
 clear HR222_1
 clear BK223
 clear HB
 have HO_1 := n0_
 have HO_2 := n1_
 have HO_111 := n2_
 have HL222_1 := n3_
 have HO226 := n4_
 have HO230 := n5_
 have HO235 := n6_
 have HO241 := n7_
 have HO245 := n8_
 have HO248 := n9_
 have HO252 := n10_
 have HO257 := n11_
 have HO259 := n12_
 have HO262 := n13_
 have HO266 := n14_
 have HO269 := n15_
 have HO273 := n16_
 have HR222_1 := n17_
 have BK223 := n18_
 have HB := n19_
 clear n0_ n1_ n2_ n3_ n4_ n5_ n6_ n7_ n8_ n9_ n10_ n11_ n12_ n13_ n14_ n15_ n16_ n17_ n18_ n19_
 (try clear hb)
 (try clear hb2)
 (try clear hk)
 (try clear hi)
 refine hK.out _ _ ⟨(blk_cell BK223.out 0).trans rfl, (blk_cell BK223.out 1).trans rfl, (blk_cell BK223.out 2).trans rfl⟩ (fun hHeld => ?_)
 clear hK K
 refine norm_ (a' := ?_) ?_ ?_
 rotate_left
 ·show Act.put _ (some 218) _ = _
  simp only [Act.put, List.setIfInBounds_toArray, List.set_cons_zero, List.set_cons_succ, i64_w, i32_w]
  rfl
 refine pure_ (i := 7) (N := some 221) (v := ?_) (a' := ?_) #[true, true, true, true, true, true, true, true, false, false, false, false, false, false, false, false, false, false, false, false, false, false, false, false, false, false, false, false, false, false, false, false, false, false, false, false, false, false, false, false, false, false, false, false, false, false, false, false, false, false, false, false, false, false, false, false, false, false, false, false, false, false, false, false, false, false, false] rfl rfl (any_of HT_.out (by kernel_rfl)) (fun _ _ _ h => h) (Or.inl ⟨by rfl, ?_⟩) ?_ ?_
 rotate_left
 ·intro w'
  go_simp
  with_reducible rfl
 rotate_left
 ·simp only [Act.put, List.setIfInBounds_toArray, List.set_cons_zero, List.set_cons_succ, i64_w, i32_w]
  rfl
 refine pure_ (i := 8) (N := some 222) (v := ?_) (a' := ?_) #[true, true, true, true, true, true, true, true, true, false, false, false, false, false, false, false, false, false, false, false, false, false, false, false, false, false, false, false, false, false, false, false, false, false, false, false, false, false, false, false, false, false, false, false, false, false, false, false, false, false, false, false, false, false, false, false, false, false, false, false, false, false, false, false, false, false, false] rfl rfl (any_of HT_.out (by kernel_rfl)) (fun _ _ _ h => h) (Or.inl ⟨by rfl, ?_⟩) ?_ ?_
 rotate_left
 ·intro w'
  go_simp
  with_reducible rfl
 rotate_left
 ·simp only [Act.put, List.setIfInBounds_toArray, List.set_cons_zero, List.set_cons_succ, i64_w, i32_w]
  rfl
 refine pure_ (i := 9) (N := some 223) (v := ?_) (a' := ?_) #[true, true, true, true, true, true, true, true, true, true, false, false, false, false, false, false, false, false, false, false, false, false, false, false, false, false, false, false, false, false, false, false, false, false, false, false, false, false, false, false, false, false, false, false, false, false, false, false, false, false, false, false, false, false, false, false, false, false, false, false, false, false, false, false, false, false, false] rfl rfl (any_of HT_.out (by kernel_rfl)) (fun _ _ _ h => h) (Or.inl ⟨by rfl, ?_⟩) ?_ ?_
 rotate_left
 ·intro w'
  go_simp
  with_reducible rfl
 rotate_left
 ·simp only [Act.put, List.setIfInBounds_toArray, List.set_cons_zero, List.set_cons_succ, i64_w, i32_w]
  rfl
 refine pure_ (i := 10) (N := some 224) (v := ?_) (a' := ?_) #[true, true, true, true, true, true, true, true, true, true, true, false, false, false, false, false, false, false, false, false, false, false, false, false, false, false, false, false, false, false, false, false, false, false, false, false, false, false, false, false, false, false, false, false, false, false, false, false, false, false, false, false, false, false, false, false, false, false, false, false, false, false, false, false, false, false, false] rfl rfl (any_of HT_.out (by kernel_rfl)) (fun _ _ _ h => h) (Or.inl ⟨by rfl, ?_⟩) ?_ ?_
 rotate_left
 ·intro w'
  go_simp
  with_reducible rfl
 rotate_left
 ·simp only [Act.put, List.setIfInBounds_toArray, List.set_cons_zero, List.set_cons_succ, i64_w, i32_w]
  rfl
 refine take_ (i := 11) (N := some 225) (v := ?_) (a' := ?_) #[true, true, true, true, true, true, true, true, true, true, true, true, false, false, false, false, false, false, false, false, false, false, false, false, false, false, false, false, false, false, false, false, false, false, false, false, false, false, false, false, false, false, false, false, false, false, false, false, false, false, false, false, false, false, false, false, false, false, false, false, false, false, false, false, false, false, false] rfl rfl (take_ofW HT_.out HW_.out (by kernel_rfl)) (fun _ _ _ h => h) (Or.inl ⟨by rfl, ?_⟩) hHeld ?_ ?_
 rotate_left
 ·rintro w' ⟨s0, s1, s2⟩
  go_simp
  with_reducible rfl
 rotate_left
 ·simp only [Act.put, List.setIfInBounds_toArray, List.set_cons_zero, List.set_cons_succ, i64_w, i32_w]
  rfl
 refine pure_ (i := 12) (N := some 226) (v := ?_) (a' := ?_) #[true, true, true, true, true, true, true, true, true, true, true, true, true, false, false, false, false, false, false, false, false, false, false, false, false, false, false, false, false, false, false, false, false, false, false, false, false, false, false, false, false, false, false, false, false, false, false, false, false, false, false, false, false, false, false, false, false, false, false, false, false, false, false, false, false, false, false] rfl rfl (any_of HT_.out (by kernel_rfl)) (fun _ _ _ h => h) (Or.inl ⟨by rfl, ?_⟩) ?_ ?_
 rotate_left
 ·intro w'
  go_simp
  with_reducible rfl
 rotate_left
 ·simp only [Act.put, List.setIfInBounds_toArray, List.set_cons_zero, List.set_cons_succ, i64_w, i32_w]
  rfl
 refine pure_ (i := 13) (N := some 227) (v := ?_) (a' := ?_) #[true, true, true, true, true, true, true, true, true, true, true, true, true, true, false, false, false, false, false, false, false, false, false, false, false, false, false, false, false, false, false, false, false, false, false, false, false, false, false, false, false, false, false, false, false, false, false, false, false, false, false, false, false, false, false, false, false, false, false, false, false, false, false, false, false, false, false] rfl rfl (any_of HT_.out (by kernel_rfl)) (fun _ _ _ h => h) (Or.inl ⟨by rfl, ?_⟩) ?_ ?_
 rotate_left
 ·intro w'
  go_simp
  with_reducible rfl
 rotate_left
 ·simp only [Act.put, List.setIfInBounds_toArray, List.set_cons_zero, List.set_cons_succ, i64_w, i32_w]
  rfl
 refine pure_ (i := 14) (N := some 228) (v := ?_) (a' := ?_) #[true, true, true, true, true, true, true, true, true, true, true, true, true, true, true, false, false, false, false, false, false, false, false, false, false, false, false, false, false, false, false, false, false, false, false, false, false, false, false, false, false, false, false, false, false, false, false, false, false, false, false, false, false, false, false, false, false, false, false, false, false, false, false, false, false, false, false] rfl rfl (any_of HT_.out (by kernel_rfl)) (fun _ _ _ h => h) (Or.inl ⟨by rfl, ?_⟩) ?_ ?_
 rotate_left
 ·intro w'
  go_simp
  with_reducible rfl
 rotate_left
 ·simp only [Act.put, List.setIfInBounds_toArray, List.set_cons_zero, List.set_cons_succ, i64_w, i32_w]
  rfl
 refine pure_ (i := 15) (N := some 229) (v := ?_) (a' := ?_) #[true, true, true, true, true, true, true, true, true, true, true, true, true, true, true, true, false, false, false, false, false, false, false, false, false, false, false, false, false, false, false, false, false, false, false, false, false, false, false, false, false, false, false, false, false, false, false, false, false, false, false, false, false, false, false, false, false, false, false, false, false, false, false, false, false, false, false] rfl rfl (any_of HT_.out (by kernel_rfl)) (fun _ _ _ h => h) (Or.inl ⟨by rfl, ?_⟩) ?_ ?_
 rotate_left
 ·intro w'
  go_simp
  with_reducible rfl
 rotate_left
 ·simp only [Act.put, List.setIfInBounds_toArray, List.set_cons_zero, List.set_cons_succ, i64_w, i32_w]
  rfl
 refine pure_ (i := 16) (N := some 230) (v := ?_) (a' := ?_) #[true, true, true, true, true, true, true, true, true, true, true, true, true, true, true, true, true, false, false, false, false, false, false, false, false, false, false, false, false, false, false, false, false, false, false, false, false, false, false, false, false, false, false, false, false, false, false, false, false, false, false, false, false, false, false, false, false, false, false, false, false, false, false, false, false, false, false] rfl rfl (any_of HT_.out (by kernel_rfl)) (fun _ _ _ h => h) (Or.inl ⟨by rfl, ?_⟩) ?_ ?_
 rotate_left
 ·intro w'
  go_simp
  with_reducible rfl
 rotate_left
 ·simp only [Act.put, List.setIfInBounds_toArray, List.set_cons_zero, List.set_cons_succ, i64_w, i32_w]
  rfl
 refine take_ (i := 17) (N := some 231) (v := ?_) (a' := ?_) #[true, true, true, true, true, true, true, true, true, true, true, true, true, true, true, true, true, true, false, false, false, false, false, false, false, false, false, false, false, false, false, false, false, false, false, false, false, false, false, false, false, false, false, false, false, false, false, false, false, false, false, false, false, false, false, false, false, false, false, false, false, false, false, false, false, false, false] rfl rfl (take_ofW HT_.out HW_.out (by kernel_rfl)) (fun _ _ _ h => h) (Or.inl ⟨by rfl, ?_⟩) hHeld ?_ ?_
 rotate_left
 ·rintro w' ⟨s0, s1, s2⟩
  go_simp
  with_reducible rfl
 rotate_left
 ·simp only [Act.put, List.setIfInBounds_toArray, List.set_cons_zero, List.set_cons_succ, i64_w, i32_w]
  rfl
 refine pure_ (i := 18) (N := some 232) (v := ?_) (a' := ?_) #[true, true, true, true, true, true, true, true, true, true, true, true, true, true, true, true, true, true, true, false, false, false, false, false, false, false, false, false, false, false, false, false, false, false, false, false, false, false, false, false, false, false, false, false, false, false, false, false, false, false, false, false, false, false, false, false, false, false, false, false, false, false, false, false, false, false, false] rfl rfl (any_of HT_.out (by kernel_rfl)) (fun _ _ _ h => h) (Or.inl ⟨by rfl, ?_⟩) ?_ ?_
 rotate_left
 ·intro w'
  go_simp
  with_reducible rfl
 rotate_left
 ·simp only [Act.put, List.setIfInBounds_toArray, List.set_cons_zero, List.set_cons_succ, i64_w, i32_w]
  rfl
 refine pure_ (i := 19) (N := some 233) (v := ?_) (a' := ?_) #[true, true, true, true, true, true, true, true, true, true, true, true, true, true, true, true, true, true, true, true, false, false, false, false, false, false, false, false, false, false, false, false, false, false, false, false, false, false, false, false, false, false, false, false, false, false, false, false, false, false, false, false, false, false, false, false, false, false, false, false, false, false, false, false, false, false, false] rfl rfl (any_of HT_.out (by kernel_rfl)) (fun _ _ _ h => h) (Or.inl ⟨by rfl, ?_⟩) ?_ ?_
 rotate_left
 ·intro w'
  go_simp
  with_reducible rfl
 rotate_left
 ·simp only [Act.put, List.setIfInBounds_toArray, List.set_cons_zero, List.set_cons_succ, i64_w, i32_w]
  rfl
 refine pure_ (i := 20) (N := some 234) (v := ?_) (a' := ?_) #[true, true, true, true, true, true, true, true, true, true, true, true, true, true, true, true, true, true, true, true, true, false, false, false, false, false, false, false, false, false, false, false, false, false, false, false, false, false, false, false, false, false, false, false, false, false, false, false, false, false, false, false, false, false, false, false, false, false, false, false, false, false, false, false, false, false, false] rfl rfl (any_of HT_.out (by kernel_rfl)) (fun _ _ _ h => h) (Or.inl ⟨by rfl, ?_⟩) ?_ ?_
 rotate_left
 ·intro w'
  go_simp
  with_reducible rfl
 rotate_left
 ·simp only [Act.put, List.setIfInBounds_toArray, List.set_cons_zero, List.set_cons_succ, i64_w, i32_w]
  rfl
 refine pure_ (i := 21) (N := some 235) (v := ?_) (a' := ?_) #[true, true, true, true, true, true, true, true, true, true, true, true, true, true, true, true, true, true, true, true, true, true, false, false, false, false, false, false, false, false, false, false, false, false, false, false, false, false, false, false, false, false, false, false, false, false, false, false, false, false, false, false, false, false, false, false, false, false, false, false, false, false, false, false, false, false, false] rfl rfl (any_of HT_.out (by kernel_rfl)) (fun _ _ _ h => h) (Or.inl ⟨by rfl, ?_⟩) ?_ ?_
 rotate_left
 ·intro w'
  go_simp
  with_reducible rfl
 rotate_left
 ·simp only [Act.put, List.setIfInBounds_toArray, List.set_cons_zero, List.set_cons_succ, i64_w, i32_w]
  rfl
 refine pure_ (i := 22) (N := some 236) (v := ?_) (a' := ?_) #[true, true, true, true, true, true, true, true, true, true, true, true, true, true, true, true, true, true, true, true, true, true, true, false, false, false, false, false, false, false, false, false, false, false, false, false, false, false, false, false, false, false, false, false, false, false, false, false, false, false, false, false, false, false, false, false, false, false, false, false, false, false, false, false, false, false, false] rfl rfl (any_of HT_.out (by kernel_rfl)) (fun _ _ _ h => h) (Or.inl ⟨by rfl, ?_⟩) ?_ ?_
 rotate_left
 ·intro w'
  go_simp
  with_reducible rfl
 rotate_left
 ·simp only [Act.put, List.setIfInBounds_toArray, List.set_cons_zero, List.set_cons_succ, i64_w, i32_w]
  rfl
 refine take_ (i := 23) (N := some 237) (v := ?_) (a' := ?_) #[true, true, true, true, true, true, true, true, true, true, true, true, true, true, true, true, true, true, true, true, true, true, true, true, false, false, false, false, false, false, false, false, false, false, false, false, false, false, false, false, false, false, false, false, false, false, false, false, false, false, false, false, false, false, false, false, false, false, false, false, false, false, false, false, false, false, false] rfl rfl (take_ofW HT_.out HW_.out (by kernel_rfl)) (fun _ _ _ h => h) (Or.inl ⟨by rfl, ?_⟩) hHeld ?_ ?_
 rotate_left
 ·rintro w' ⟨s0, s1, s2⟩
  go_simp
  with_reducible rfl
 rotate_left
 ·simp only [Act.put, List.setIfInBounds_toArray, List.set_cons_zero, List.set_cons_succ, i64_w, i32_w]
  rfl
 refine pure_ (i := 24) (N := some 238) (v := ?_) (a' := ?_) #[true, true, true, true, true, true, true, true, true, true, true, true, true, true, true, true, true, true, true, true, true, true, true, true, true, false, false, false, false, false, false, false, false, false, false, false, false, false, false, false, false, false, false, false, false, false, false, false, false, false, false, false, false, false, false, false, false, false, false, false, false, false, false, false, false, false, false] rfl rfl (any_of HT_.out (by kernel_rfl)) (fun _ _ _ h => h) (Or.inl ⟨by rfl, ?_⟩) ?_ ?_
 rotate_left
 ·intro w'
  go_simp
  with_reducible rfl
 rotate_left
 ·simp only [Act.put, List.setIfInBounds_toArray, List.set_cons_zero, List.set_cons_succ, i64_w, i32_w]
  rfl
 refine pure_ (i := 25) (N := some 239) (v := ?_) (a' := ?_) #[true, true, true, true, true, true, true, true, true, true, true, true, true, true, true, true, true, true, true, true, true, true, true, true, true, true, false, false, false, false, false, false, false, false, false, false, false, false, false, false, false, false, false, false, false, false, false, false, false, false, false, false, false, false, false, false, false, false, false, false, false, false, false, false, false, false, false] rfl rfl (any_of HT_.out (by kernel_rfl)) (fun _ _ _ h => h) (Or.inl ⟨by rfl, ?_⟩) ?_ ?_
 rotate_left
 ·intro w'
  go_simp
  with_reducible rfl
 rotate_left
 ·simp only [Act.put, List.setIfInBounds_toArray, List.set_cons_zero, List.set_cons_succ, i64_w, i32_w]
  rfl
 refine pure_ (i := 26) (N := some 240) (v := ?_) (a' := ?_) #[true, true, true, true, true, true, true, true, true, true, true, true, true, true, true, true, true, true, true, true, true, true, true, true, true, true, true, false, false, false, false, false, false, false, false, false, false, false, false, false, false, false, false, false, false, false, false, false, false, false, false, false, false, false, false, false, false, false, false, false, false, false, false, false, false, false, false] rfl rfl (any_of HT_.out (by kernel_rfl)) (fun _ _ _ h => h) (Or.inl ⟨by rfl, ?_⟩) ?_ ?_
 rotate_left
 ·intro w'
  go_simp
  with_reducible rfl
 rotate_left
 ·simp only [Act.put, List.setIfInBounds_toArray, List.set_cons_zero, List.set_cons_succ, i64_w, i32_w]
  rfl
 refine pure_ (i := 27) (N := some 241) (v := ?_) (a' := ?_) #[true, true, true, true, true, true, true, true, true, true, true, true, true, true, true, true, true, true, true, true, true, true, true, true, true, true, true, true, false, false, false, false, false, false, false, false, false, false, false, false, false, false, false, false, false, false, false, false, false, false, false, false, false, false, false, false, false, false, false, false, false, false, false, false, false, false, false] rfl rfl (any_of HT_.out (by kernel_rfl)) (fun _ _ _ h => h) (Or.inl ⟨by rfl, ?_⟩) ?_ ?_
 rotate_left
 ·intro w'
  go_simp
  with_reducible rfl
 rotate_left
 ·simp only [Act.put, List.setIfInBounds_toArray, List.set_cons_zero, List.set_cons_succ, i64_w, i32_w]
  rfl
 refine pure_ (i := 28) (N := some 242) (v := ?_) (a' := ?_) #[true, true, true, true, true, true, true, true, true, true, true, true, true, true, true, true, true, true, true, true, true, true, true, true, true, true, true, true, true, false, false, false, false, false, false, false, false, false, false, false, false, false, false, false, false, false, false, false, false, false, false, false, false, false, false, false, false, false, false, false, false, false, false, false, false, false, false] rfl rfl (any_of HT_.out (by kernel_rfl)) (fun _ _ _ h => h) (Or.inl ⟨by rfl, ?_⟩) ?_ ?_
 rotate_left
 ·intro w'
  go_simp
  with_reducible rfl
 rotate_left
 ·simp only [Act.put, List.setIfInBounds_toArray, List.set_cons_zero, List.set_cons_succ, i64_w, i32_w]
  rfl
 refine take_ (i := 29) (N := some 243) (v := ?_) (a' := ?_) #[true, true, true, true, true, true, true, true, true, true, true, true, true, true, true, true, true, true, true, true, true, true, true, true, true, true, true, true, true, true, false, false, false, false, false, false, false, false, false, false, false, false, false, false, false, false, false, false, false, false, false, false, false, false, false, false, false, false, false, false, false, false, false, false, false, false, false] rfl rfl (take_ofW HT_.out HW_.out (by kernel_rfl)) (fun _ _ _ h => h) (Or.inl ⟨by rfl, ?_⟩) hHeld ?_ ?_
 rotate_left
 ·rintro w' ⟨s0, s1, s2⟩
  go_simp
  with_reducible rfl
 rotate_left
 ·simp only [Act.put, List.setIfInBounds_toArray, List.set_cons_zero, List.set_cons_succ, i64_w, i32_w]
  rfl
 refine pure_ (i := 30) (N := some 244) (v := ?_) (a' := ?_) #[true, true, true, true, true, true, true, true, true, true, true, true, true, true, true, true, true, true, true, true, true, true, true, true, true, true, true, true, true, true, true, false, false, false, false, false, false, false, false, false, false, false, false, false, false, false, false, false, false, false, false, false, false, false, false, false, false, false, false, false, false, false, false, false, false, false, false] rfl rfl (any_of HT_.out (by kernel_rfl)) (fun _ _ _ h => h) (Or.inl ⟨by rfl, ?_⟩) ?_ ?_
 rotate_left
 ·intro w'
  go_simp
  with_reducible rfl
 rotate_left
 ·simp only [Act.put, List.setIfInBounds_toArray, List.set_cons_zero, List.set_cons_succ, i64_w, i32_w]
  rfl
 refine pure_ (i := 31) (N := some 245) (v := ?_) (a' := ?_) #[true, true, true, true, true, true, true, true, true, true, true, true, true, true, true, true, true, true, true, true, true, true, true, true, true, true, true, true, true, true, true, true, false, false, false, false, false, false, false, false, false, false, false, false, false, false, false, false, false, false, false, false, false, false, false, false, false, false, false, false, false, false, false, false, false, false, false] rfl rfl (any_of HT_.out (by kernel_rfl)) (fun _ _ _ h => h) (Or.inl ⟨by rfl, ?_⟩) ?_ ?_
 rotate_left
 ·intro w'
  go_simp
  with_reducible rfl
 rotate_left
 ·simp only [Act.put, List.setIfInBounds_toArray, List.set_cons_zero, List.set_cons_succ, i64_w, i32_w]
  rfl
 refine pure_ (i := 32) (N := some 246) (v := ?_) (a' := ?_) #[true, true, true, true, true, true, true, true, true, true, true, true, true, true, true, true, true, true, true, true, true, true, true, true, true, true, true, true, true, true, true, true, true, false, false, false, false, false, false, false, false, false, false, false, false, false, false, false, false, false, false, false, false, false, false, false, false, false, false, false, false, false, false, false, false, false, false] rfl rfl (any_of HT_.out (by kernel_rfl)) (fun _ _ _ h => h) (Or.inl ⟨by rfl, ?_⟩) ?_ ?_
 rotate_left
 ·intro w'
  go_simp
  with_reducible rfl
 rotate_left
 ·simp only [Act.put, List.setIfInBounds_toArray, List.set_cons_zero, List.set_cons_succ, i64_w, i32_w]
  rfl
 refine pure_ (i := 33) (N := some 247) (v := ?_) (a' := ?_) #[true, true, true, true, true, true, true, true, true, true, true, true, true, true, true, true, true, true, true, true, true, true, true, true, true, true, true, true, true, true, true, true, true, true, false, false, false, false, false, false, false, false, false, false, false, false, false, false, false, false, false, false, false, false, false, false, false, false, false, false, false, false, false, false, false, false, false] rfl rfl (any_of HT_.out (by kernel_rfl)) (fun _ _ _ h => h) (Or.inl ⟨by rfl, ?_⟩) ?_ ?_
 rotate_left
 ·intro w'
  go_simp
  with_reducible rfl
 rotate_left
 ·simp only [Act.put, List.setIfInBounds_toArray, List.set_cons_zero, List.set_cons_succ, i64_w, i32_w]
  rfl
 refine pure_ (i := 34) (N := some 248) (v := ?_) (a' := ?_) #[true, true, true, true, true, true, true, true, true, true, true, true, true, true, true, true, true, true, true, true, true, true, true, true, true, true, true, true, true, true, true, true, true, true, true, false, false, false, false, false, false, false, false, false, false, false, false, false, false, false, false, false, false, false, false, false, false, false, false, false, false, false, false, false, false, false, false] rfl rfl (any_of HT_.out (by kernel_rfl)) (fun _ _ _ h => h) (Or.inl ⟨by rfl, ?_⟩) ?_ ?_
 rotate_left
 ·intro w'
  go_simp
  with_reducible rfl
 rotate_left
 ·simp only [Act.put, List.setIfInBounds_toArray, List.set_cons_zero, List.set_cons_succ, i64_w, i32_w]
  rfl
 refine take_ (i := 35) (N := some 249) (v := ?_) (a' := ?_) #[true, true, true, true, true, true, true, true, true, true, true, true, true, true, true, true, true, true, true, true, true, true, true, true, true, true, true, true, true, true, true, true, true, true, true, true, false, false, false, false, false, false, false, false, false, false, false, false, false, false, false, false, false, false, false, false, false, false, false, false, false, false, false, false, false, false, false] rfl rfl (take_ofW HT_.out HW_.out (by kernel_rfl)) (fun _ _ _ h => h) (Or.inl ⟨by rfl, ?_⟩) hHeld ?_ ?_
 rotate_left
 ·rintro w' ⟨s0, s1, s2⟩
  go_simp
  with_reducible rfl
 rotate_left
 ·simp only [Act.put, List.setIfInBounds_toArray, List.set_cons_zero, List.set_cons_succ, i64_w, i32_w]
  rfl
 refine pure_ (i := 36) (N := some 250) (v := ?_) (a' := ?_) #[true, true, true, true, true, true, true, true, true, true, true, true, true, true, true, true, true, true, true, true, true, true, true, true, true, true, true, true, true, true, true, true, true, true, true, true, true, false, false, false, false, false, false, false, false, false, false, false, false, false, false, false, false, false, false, false, false, false, false, false, false, false, false, false, false, false, false] rfl rfl (any_of HT_.out (by kernel_rfl)) (fun _ _ _ h => h) (Or.inl ⟨by rfl, ?_⟩) ?_ ?_
 rotate_left
 ·intro w'
  go_simp
  with_reducible rfl
 rotate_left
 ·simp only [Act.put, List.setIfInBounds_toArray, List.set_cons_zero, List.set_cons_succ, i64_w, i32_w]
  rfl
 refine pure_ (i := 37) (N := some 251) (v := ?_) (a' := ?_) #[true, true, true, true, true, true, true, true, true, true, true, true, true, true, true, true, true, true, true, true, true, true, true, true, true, true, true, true, true, true, true, true, true, true, true, true, true, true, false, false, false, false, false, false, false, false, false, false, false, false, false, false, false, false, false, false, false, false, false, false, false, false, false, false, false, false, false] rfl rfl (any_of HT_.out (by kernel_rfl)) (fun _ _ _ h => h) (Or.inl ⟨by rfl, ?_⟩) ?_ ?_
 rotate_left
 ·intro w'
  go_simp
  with_reducible rfl
 rotate_left
 ·simp only [Act.put, List.setIfInBounds_toArray, List.set_cons_zero, List.set_cons_succ, i64_w, i32_w]
  rfl
 refine pure_ (i := 38) (N := some 252) (v := ?_) (a' := ?_) #[true, true, true, true, true, true, true, true, true, true, true, true, true, true, true, true, true, true, true, true, true, true, true, true, true, true, true, true, true, true, true, true, true, true, true, true, true, true, true, false, false, false, false, false, false, false, false, false, false, false, false, false, false, false, false, false, false, false, false, false, false, false, false, false, false, false, false] rfl rfl (any_of HT_.out (by kernel_rfl)) (fun _ _ _ h => h) (Or.inl ⟨by rfl, ?_⟩) ?_ ?_
 rotate_left
 ·intro w'
  go_simp
  with_reducible rfl
 rotate_left
 ·simp only [Act.put, List.setIfInBounds_toArray, List.set_cons_zero, List.set_cons_succ, i64_w, i32_w]
  rfl
 refine pure_ (i := 39) (N := some 253) (v := ?_) (a' := ?_) #[true, true, true, true, true, true, true, true, true, true, true, true, true, true, true, true, true, true, true, true, true, true, true, true, true, true, true, true, true, true, true, true, true, true, true, true, true, true, true, true, false, false, false, false, false, false, false, false, false, false, false, false, false, false, false, false, false, false, false, false, false, false, false, false, false, false, false] rfl rfl (any_of HT_.out (by kernel_rfl)) (fun _ _ _ h => h) (Or.inl ⟨by rfl, ?_⟩) ?_ ?_
 rotate_left
 ·intro w'
  go_simp
  with_reducible rfl
 rotate_left
 ·simp only [Act.put, List.setIfInBounds_toArray, List.set_cons_zero, List.set_cons_succ, i64_w, i32_w]
  rfl
 refine pure_ (i := 40) (N := some 254) (v := ?_) (a' := ?_) #[true, true, true, true, true, true, true, true, true, true, true, true, true, true, true, true, true, true, true, true, true, true, true, true, true, true, true, true, true, true, true, true, true, true, true, true, true, true, true, true, true, false, false, false, false, false, false, false, false, false, false, false, false, false, false, false, false, false, false, false, false, false, false, false, false, false, false] rfl rfl (any_of HT_.out (by kernel_rfl)) (fun _ _ _ h => h) (Or.inl ⟨by rfl, ?_⟩) ?_ ?_
 rotate_left
 ·intro w'
  go_simp
  with_reducible rfl
 rotate_left
 ·simp only [Act.put, List.setIfInBounds_toArray, List.set_cons_zero, List.set_cons_succ, i64_w, i32_w]
  rfl
 refine pure_ (i := 41) (N := some 255) (v := ?_) (a' := ?_) #[true, true, true, true, true, true, true, true, true, true, true, true, true, true, true, true, true, true, true, true, true, true, true, true, true, true, true, true, true, true, true, true, true, true, true, true, true, true, true, true, true, true, false, false, false, false, false, false, false, false, false, false, false, false, false, false, false, false, false, false, false, false, false, false, false, false, false] rfl rfl (any_of HT_.out (by kernel_rfl)) (fun _ _ _ h => h) (Or.inl ⟨by rfl, ?_⟩) ?_ ?_
 rotate_left
 ·intro w'
  go_simp
  with_reducible rfl
 rotate_left
 ·simp only [Act.put, List.setIfInBounds_toArray, List.set_cons_zero, List.set_cons_succ, i64_w, i32_w]
  rfl
 refine pure_ (i := 42) (N := some 256) (v := ?_) (a' := ?_) #[true, true, true, true, true, true, true, true, true, true, true, true, true, true, true, true, true, true, true, true, true, true, true, true, true, true, true, true, true, true, true, true, true, true, true, true, true, true, true, true, true, true, true, false, false, false, false, false, false, false, false, false, false, false, false, false, false, false, false, false, false, false, false, false, false, false, false] rfl rfl (any_of HT_.out (by kernel_rfl)) (fun _ _ _ h => h) (Or.inl ⟨by rfl, ?_⟩) ?_ ?_
 rotate_left
 ·intro w'
  go_simp
  with_reducible rfl
 rotate_left
 ·simp only [Act.put, List.setIfInBounds_toArray, List.set_cons_zero, List.set_cons_succ, i64_w, i32_w]
  rfl
 refine pure_ (i := 43) (N := some 257) (v := ?_) (a' := ?_) #[true, true, true, true, true, true, true, true, true, true, true, true, true, true, true, true, true, true, true, true, true, true, true, true, true, true, true, true, true, true, true, true, true, true, true, true, true, true, true, true, true, true, true, true, false, false, false, false, false, false, false, false, false, false, false, false, false, false, false, false, false, false, false, false, false, false, false] rfl rfl (any_of HT_.out (by kernel_rfl)) (fun _ _ _ h => h) (Or.inl ⟨by rfl, ?_⟩) ?_ ?_
 rotate_left
 ·intro w'
  go_simp
  with_reducible rfl
 rotate_left
 ·simp only [Act.put, List.setIfInBounds_toArray, List.set_cons_zero, List.set_cons_succ, i64_w, i32_w]
  rfl
 refine pure_ (i := 44) (N := some 258) (v := ?_) (a' := ?_) #[true, true, true, true, true, true, true, true, true, true, true, true, true, true, true, true, true, true, true, true, true, true, true, true, true, true, true, true, true, true, true, true, true, true, true, true, true, true, true, true, true, true, true, true, true, false, false, false, false, false, false, false, false, false, false, false, false, false, false, false, false, false, false, false, false, false, false] rfl rfl (any_of HT_.out (by kernel_rfl)) (fun _ _ _ h => h) (Or.inl ⟨by rfl, ?_⟩) ?_ ?_
 rotate_left
 ·intro w'
  go_simp
  with_reducible rfl
 rotate_left
 ·simp only [Act.put, List.setIfInBounds_toArray, List.set_cons_zero, List.set_cons_succ, i64_w, i32_w]
  rfl
 refine pure_ (i := 45) (N := some 259) (v := ?_) (a' := ?_) #[true, true, true, true, true, true, true, true, true, true, true, true, true, true, true, true, true, true, true, true, true, true, true, true, true, true, true, true, true, true, true, true, true, true, true, true, true, true, true, true, true, true, true, true, true, true, false, false, false, false, false, false, false, false, false, false, false, false, false, false, false, false, false, false, false, false, false] rfl rfl (any_of HT_.out (by kernel_rfl)) (fun _ _ _ h => h) (Or.inl ⟨by rfl, ?_⟩) ?_ ?_
 rotate_left
 ·intro w'
  go_simp
  with_reducible rfl
 rotate_left
 ·simp only [Act.put, List.setIfInBounds_toArray, List.set_cons_zero, List.set_cons_succ, i64_w, i32_w]
  rfl
 refine take_ (i := 46) (N := some 260) (v := ?_) (a' := ?_) #[true, true, true, true, true, true, true, true, true, true, true, true, true, true, true, true, true, true, true, true, true, true, true, true, true, true, true, true, true, true, true, true, true, true, true, true, true, true, true, true, true, true, true, true, true, true, true, false, false, false, false, false, false, false, false, false, false, false, false, false, false, false, false, false, false, false, false] rfl rfl (take_ofW HT_.out HW_.out (by kernel_rfl)) (fun _ _ _ h => h) (Or.inl ⟨by rfl, ?_⟩) hHeld ?_ ?_
 rotate_left
 ·rintro w' ⟨s0, s1, s2⟩
  go_simp
  with_reducible rfl
 rotate_left
 ·simp only [Act.put, List.setIfInBounds_toArray, List.set_cons_zero, List.set_cons_succ, i64_w, i32_w]
  rfl
 refine pure_ (i := 47) (N := some 261) (v := ?_) (a' := ?_) #[true, true, true, true, true, true, true, true, true, true, true, true, true, true, true, true, true, true, true, true, true, true, true, true, true, true, true, true, true, true, true, true, true, true, true, true, true, true, true, true, true, true, true, true, true, true, true, true, false, false, false, false, false, false, false, false, false, false, false, false, false, false, false, false, false, false, false] rfl rfl (any_of HT_.out (by kernel_rfl)) (fun _ _ _ h => h) (Or.inl ⟨by rfl, ?_⟩) ?_ ?_
 rotate_left
 ·intro w'
  go_simp
  with_reducible rfl
 rotate_left
 ·simp only [Act.put, List.setIfInBounds_toArray, List.set_cons_zero, List.set_cons_succ, i64_w, i32_w]
  rfl
 refine pure_ (i := 48) (N := some 262) (v := ?_) (a' := ?_) #[true, true, true, true, true, true, true, true, true, true, true, true, true, true, true, true, true, true, true, true, true, true, true, true, true, true, true, true, true, true, true, true, true, true, true, true, true, true, true, true, true, true, true, true, true, true, true, true, true, false, false, false, false, false, false, false, false, false, false, false, false, false, false, false, false, false, false] rfl rfl (any_of HT_.out (by kernel_rfl)) (fun _ _ _ h => h) (Or.inl ⟨by rfl, ?_⟩) ?_ ?_
 rotate_left
 ·intro w'
  go_simp
  with_reducible rfl
 rotate_left
 ·simp only [Act.put, List.setIfInBounds_toArray, List.set_cons_zero, List.set_cons_succ, i64_w, i32_w]
  rfl
 refine pure_ (i := 49) (N := some 263) (v := ?_) (a' := ?_) #[true, true, true, true, true, true, true, true, true, true, true, true, true, true, true, true, true, true, true, true, true, true, true, true, true, true, true, true, true, true, true, true, true, true, true, true, true, true, true, true, true, true, true, true, true, true, true, true, true, true, false, false, false, false, false, false, false, false, false, false, false, false, false, false, false, false, false] rfl rfl (any_of HT_.out (by kernel_rfl)) (fun _ _ _ h => h) (Or.inl ⟨by rfl, ?_⟩) ?_ ?_
 rotate_left
 ·intro w'
  go_simp
  with_reducible rfl
 rotate_left
 ·simp only [Act.put, List.setIfInBounds_toArray, List.set_cons_zero, List.set_cons_succ, i64_w, i32_w]
  rfl
 refine pure_ (i := 50) (N := some 264) (v := ?_) (a' := ?_) #[true, true, true, true, true, true, true, true, true, true, true, true, true, true, true, true, true, true, true, true, true, true, true, true, true, true, true, true, true, true, true, true, true, true, true, true, true, true, true, true, true, true, true, true, true, true, true, true, true, true, true, false, false, false, false, false, false, false, false, false, false, false, false, false, false, false, false] rfl rfl (any_of HT_.out (by kernel_rfl)) (fun _ _ _ h => h) (Or.inl ⟨by rfl, ?_⟩) ?_ ?_
 rotate_left
 ·intro w'
  go_simp
  with_reducible rfl
 rotate_left
 ·simp only [Act.put, List.setIfInBounds_toArray, List.set_cons_zero, List.set_cons_succ, i64_w, i32_w]
  rfl
 refine pure_ (i := 51) (N := some 265) (v := ?_) (a' := ?_) #[true, true, true, true, true, true, true, true, true, true, true, true, true, true, true, true, true, true, true, true, true, true, true, true, true, true, true, true, true, true, true, true, true, true, true, true, true, true, true, true, true, true, true, true, true, true, true, true, true, true, true, true, false, false, false, false, false, false, false, false, false, false, false, false, false, false, false] rfl rfl (any_of HT_.out (by kernel_rfl)) (fun _ _ _ h => h) (Or.inl ⟨by rfl, ?_⟩) ?_ ?_
 rotate_left
 ·intro w'
  go_simp
  with_reducible rfl
 rotate_left
 ·simp only [Act.put, List.setIfInBounds_toArray, List.set_cons_zero, List.set_cons_succ, i64_w, i32_w]
  rfl
 refine take_ (i := 52) (N := some 266) (v := ?_) (a' := ?_) #[true, true, true, true, true, true, true, true, true, true, true, true, true, true, true, true, true, true, true, true, true, true, true, true, true, true, true, true, true, true, true, true, true, true, true, true, true, true, true, true, true, true, true, true, true, true, true, true, true, true, true, true, true, false, false, false, false, false, false, false, false, false, false, false, false, false, false] rfl rfl (take_ofW HT_.out HW_.out (by kernel_rfl)) (fun _ _ _ h => h) (Or.inl ⟨by rfl, ?_⟩) hHeld ?_ ?_
 rotate_left
 ·rintro w' ⟨s0, s1, s2⟩
  go_simp
  with_reducible rfl
 rotate_left
 ·simp only [Act.put, List.setIfInBounds_toArray, List.set_cons_zero, List.set_cons_succ, i64_w, i32_w]
  rfl
 refine pure_ (i := 53) (N := some 267) (v := ?_) (a' := ?_) #[true, true, true, true, true, true, true, true, true, true, true, true, true, true, true, true, true, true, true, true, true, true, true, true, true, true, true, true, true, true, true, true, true, true, true, true, true, true, true, true, true, true, true, true, true, true, true, true, true, true, true, true, true, true, false, false, false, false, false, false, false, false, false, false, false, false, false] rfl rfl (any_of HT_.out (by kernel_rfl)) (fun _ _ _ h => h) (Or.inl ⟨by rfl, ?_⟩) ?_ ?_
 rotate_left
 ·intro w'
  go_simp
  with_reducible rfl
 rotate_left
 ·simp only [Act.put, List.setIfInBounds_toArray, List.set_cons_zero, List.set_cons_succ, i64_w, i32_w]
  rfl
 refine pure_ (i := 54) (N := some 268) (v := ?_) (a' := ?_) #[true, true, true, true, true, true, true, true, true, true, true, true, true, true, true, true, true, true, true, true, true, true, true, true, true, true, true, true, true, true, true, true, true, true, true, true, true, true, true, true, true, true, true, true, true, true, true, true, true, true, true, true, true, true, true, false, false, false, false, false, false, false, false, false, false, false, false] rfl rfl (any_of HT_.out (by kernel_rfl)) (fun _ _ _ h => h) (Or.inl ⟨by rfl, ?_⟩) ?_ ?_
 rotate_left
 ·intro w'
  go_simp
  with_reducible rfl
 rotate_left
 ·simp only [Act.put, List.setIfInBounds_toArray, List.set_cons_zero, List.set_cons_succ, i64_w, i32_w]
  rfl
 refine pure_ (i := 55) (N := some 269) (v := ?_) (a' := ?_) #[true, true, true, true, true, true, true, true, true, true, true, true, true, true, true, true, true, true, true, true, true, true, true, true, true, true, true, true, true, true, true, true, true, true, true, true, true, true, true, true, true, true, true, true, true, true, true, true, true, true, true, true, true, true, true, true, false, false, false, false, false, false, false, false, false, false, false] rfl rfl (any_of HT_.out (by kernel_rfl)) (fun _ _ _ h => h) (Or.inl ⟨by rfl, ?_⟩) ?_ ?_
 rotate_left
 ·intro w'
  go_simp
  with_reducible rfl
 rotate_left
 ·simp only [Act.put, List.setIfInBounds_toArray, List.set_cons_zero, List.set_cons_succ, i64_w, i32_w]
  rfl
 refine pure_ (i := 56) (N := some 270) (v := ?_) (a' := ?_) #[true, true, true, true, true, true, true, true, true, true, true, true, true, true, true, true, true, true, true, true, true, true, true, true, true, true, true, true, true, true, true, true, true, true, true, true, true, true, true, true, true, true, true, true, true, true, true, true, true, true, true, true, true, true, true, true, true, false, false, false, false, false, false, false, false, false, false] rfl rfl (any_of HT_.out (by kernel_rfl)) (fun _ _ _ h => h) (Or.inl ⟨by rfl, ?_⟩) ?_ ?_
 rotate_left
 ·intro w'
  go_simp
  with_reducible rfl
 rotate_left
 ·simp only [Act.put, List.setIfInBounds_toArray, List.set_cons_zero, List.set_cons_succ, i64_w, i32_w]
  rfl
 refine pure_ (i := 57) (N := some 271) (v := ?_) (a' := ?_) #[true, true, true, true, true, true, true, true, true, true, true, true, true, true, true, true, true, true, true, true, true, true, true, true, true, true, true, true, true, true, true, true, true, true, true, true, true, true, true, true, true, true, true, true, true, true, true, true, true, true, true, true, true, true, true, true, true, true, false, false, false, false, false, false, false, false, false] rfl rfl (any_of HT_.out (by kernel_rfl)) (fun _ _ _ h => h) (Or.inl ⟨by rfl, ?_⟩) ?_ ?_
 rotate_left
 ·intro w'
  go_simp
  with_reducible rfl
 rotate_left
 ·simp only [Act.put, List.setIfInBounds_toArray, List.set_cons_zero, List.set_cons_succ, i64_w, i32_w]
  rfl
 refine take_ (i := 58) (N := some 272) (v := ?_) (a' := ?_) #[true, true, true, true, true, true, true, true, true, true, true, true, true, true, true, true, true, true, true, true, true, true, true, true, true, true, true, true, true, true, true, true, true, true, true, true, true, true, true, true, true, true, true, true, true, true, true, true, true, true, true, true, true, true, true, true, true, true, true, false, false, false, false, false, false, false, false] rfl rfl (take_ofW HT_.out HW_.out (by kernel_rfl)) (fun _ _ _ h => h) (Or.inl ⟨by rfl, ?_⟩) hHeld ?_ ?_
 rotate_left
 ·rintro w' ⟨s0, s1, s2⟩
  go_simp
  with_reducible rfl
 rotate_left
 ·simp only [Act.put, List.setIfInBounds_toArray, List.set_cons_zero, List.set_cons_succ, i64_w, i32_w]
  rfl
 refine pure_ (i := 59) (N := some 273) (v := ?_) (a' := ?_) #[true, true, true, true, true, true, true, true, true, true, true, true, true, true, true, true, true, true, true, true, true, true, true, true, true, true, true, true, true, true, true, true, true, true, true, true, true, true, true, true, true, true, true, true, true, true, true, true, true, true, true, true, true, true, true, true, true, true, true, true, false, false, false, false, false, false, false] rfl rfl (any_of HT_.out (by kernel_rfl)) (fun _ _ _ h => h) (Or.inl ⟨by rfl, ?_⟩) ?_ ?_
 rotate_left
 ·intro w'
  go_simp
  with_reducible rfl
 rotate_left
 ·simp only [Act.put, List.setIfInBounds_toArray, List.set_cons_zero, List.set_cons_succ, i64_w, i32_w]
  rfl
 refine pure_ (i := 60) (N := some 274) (v := ?_) (a' := ?_) #[true, true, true, true, true, true, true, true, true, true, true, true, true, true, true, true, true, true, true, true, true, true, true, true, true, true, true, true, true, true, true, true, true, true, true, true, true, true, true, true, true, true, true, true, true, true, true, true, true, true, true, true, true, true, true, true, true, true, true, true, true, false, false, false, false, false, false] rfl rfl (any_of HT_.out (by kernel_rfl)) (fun _ _ _ h => h) (Or.inl ⟨by rfl, ?_⟩) ?_ ?_
 rotate_left
 ·intro w'
  go_simp
  with_reducible rfl
 rotate_left
 ·simp only [Act.put, List.setIfInBounds_toArray, List.set_cons_zero, List.set_cons_succ, i64_w, i32_w]
  rfl
 refine pure_ (i := 61) (N := some 275) (v := ?_) (a' := ?_) #[true, true, true, true, true, true, true, true, true, true, true, true, true, true, true, true, true, true, true, true, true, true, true, true, true, true, true, true, true, true, true, true, true, true, true, true, true, true, true, true, true, true, true, true, true, true, true, true, true, true, true, true, true, true, true, true, true, true, true, true, true, true, false, false, false, false, false] rfl rfl (any_of HT_.out (by kernel_rfl)) (fun _ _ _ h => h) (Or.inl ⟨by rfl, ?_⟩) ?_ ?_
 rotate_left
 ·intro w'
  go_simp
  with_reducible rfl
 rotate_left
 ·simp only [Act.put, List.setIfInBounds_toArray, List.set_cons_zero, List.set_cons_succ, i64_w, i32_w]
  rfl
 refine pure_ (i := 62) (N := some 276) (v := ?_) (a' := ?_) #[true, true, true, true, true, true, true, true, true, true, true, true, true, true, true, true, true, true, true, true, true, true, true, true, true, true, true, true, true, true, true, true, true, true, true, true, true, true, true, true, true, true, true, true, true, true, true, true, true, true, true, true, true, true, true, true, true, true, true, true, true, true, true, false, false, false, false] rfl rfl (any_of HT_.out (by kernel_rfl)) (fun _ _ _ h => h) (Or.inl ⟨by rfl, ?_⟩) ?_ ?_
 rotate_left
 ·intro w'
  go_simp
  with_reducible rfl
 rotate_left
 ·simp only [Act.put, List.setIfInBounds_toArray, List.set_cons_zero, List.set_cons_succ, i64_w, i32_w]
  rfl
 refine pure_ (i := 63) (N := some 277) (v := ?_) (a' := ?_) #[true, true, true, true, true, true, true, true, true, true, true, true, true, true, true, true, true, true, true, true, true, true, true, true, true, true, true, true, true, true, true, true, true, true, true, true, true, true, true, true, true, true, true, true, true, true, true, true, true, true, true, true, true, true, true, true, true, true, true, true, true, true, true, true, false, false, false] rfl rfl (any_of HT_.out (by kernel_rfl)) (fun _ _ _ h => h) (Or.inl ⟨by rfl, ?_⟩) ?_ ?_
 rotate_left
 ·intro w'
  go_simp
  with_reducible rfl
 rotate_left
 ·simp only [Act.put, List.setIfInBounds_toArray, List.set_cons_zero, List.set_cons_succ, i64_w, i32_w]
  rfl
 refine take_ (i := 64) (N := some 278) (v := ?_) (a' := ?_) #[true, true, true, true, true, true, true, true, true, true, true, true, true, true, true, true, true, true, true, true, true, true, true, true, true, true, true, true, true, true, true, true, true, true, true, true, true, true, true, true, true, true, true, true, true, true, true, true, true, true, true, true, true, true, true, true, true, true, true, true, true, true, true, true, true, false, false] rfl rfl (take_ofW HT_.out HW_.out (by kernel_rfl)) (fun _ _ _ h => h) (Or.inl ⟨by rfl, ?_⟩) hHeld ?_ ?_
 rotate_left
 ·rintro w' ⟨s0, s1, s2⟩
  go_simp
  with_reducible rfl
 rotate_left
 ·simp only [Act.put, List.setIfInBounds_toArray, List.set_cons_zero, List.set_cons_succ, i64_w, i32_w]
  rfl
 refine pure_ (i := 65) (N := some 279) (v := ?_) (a' := ?_) #[true, true, true, true, true, true, true, true, true, true, true, true, true, true, true, true, true, true, true, true, true, true, true, true, true, true, true, true, true, true, true, true, true, true, true, true, true, true, true, true, true, true, true, true, true, true, true, true, true, true, true, true, true, true, true, true, true, true, true, true, true, true, true, true, true, true, false] rfl rfl (any_of HT_.out (by kernel_rfl)) (fun _ _ _ h => h) (Or.inl ⟨by rfl, ?_⟩) ?_ ?_
 rotate_left
 ·intro w'
  go_simp
  with_reducible rfl
 rotate_left
 ·simp only [Act.put, List.setIfInBounds_toArray, List.set_cons_zero, List.set_cons_succ, i64_w, i32_w]
  rfl
 refine pure_ (i := 66) (N := some 280) (v := ?_) (a' := ?_) #[true, true, true, true, true, true, true, true, true, true, true, true, true, true, true, true, true, true, true, true, true, true, true, true, true, true, true, true, true, true, true, true, true, true, true, true, true, true, true, true, true, true, true, true, true, true, true, true, true, true, true, true, true, true, true, true, true, true, true, true, true, true, true, true, true, true, true] rfl rfl (any_of HT_.out (by kernel_rfl)) (fun _ _ _ h => h) (Or.inl ⟨by rfl, ?_⟩) ?_ ?_
 rotate_left
 ·intro w'
  go_simp
  with_reducible rfl
 rotate_left
 ·simp only [Act.put, List.setIfInBounds_toArray, List.set_cons_zero, List.set_cons_succ, i64_w, i32_w]
  rfl
 refine done_ (done_of HT_.out (by kernel_rfl)) ?_
 try go_wp2
 refine HKK.out _ _ _ _ _ _ _ _ _ _ _ _ _ _ _ _ _ _ _ _ _ _ _ _ _ _ _ _ _ _ _ _ _ _ _ _ _ _ _ _ _ _ _ _ _ _ _ _ _ _ _ _ _ _ _ _ _ _ _ _ _ _ _ _ _ _ _ _ _ _ _ _ _ _ _ _ _ _ _ _ _ _ _ _ _ _ _ _ _ _ _ _ _ _ _ _ _ _ _ _ _ _ _ _ _ _ _ _ _ _ _ _ _ _ _ _ _ _ _ _ _ _ _ _ _ _ _ _ _ _ _ _ _ _ _ _ _ _ _ _ _ _ _ _ _ _ _ _ _ _ _ _ _ _ _ _ _ _ _ _ _ _ _ _ _ _ _ _ _ _ _ _ _ _ _ _ _ _ _ _ _ _ _ _ _ _ _ _ _ _ _ _ _ _ ?_
 exact ⟨(wrap64 (x113_1 + 1)), (by first | rfl | (simp; done) | (simp [*]; done)), H', ⟨by have := HK1.out; omega⟩, ⟨by (with_reducible repeat (first | apply Kd.R_alloc | apply Kd.R_drewN | apply Kd.R_drew)); exact Kd.R_mono HO_1.out (fun _ hk => trivial)⟩, ⟨by (with_reducible repeat (first | apply Kd.N_alloc | apply Kd.N_drewN | apply Kd.N_drew)); exact Kd.N_mono HO_2.out (fun _ hk => ⟨hk.1.1.1.1.1.1.1.1.1.1.1.1.1.1, hk.1.1.1.1.1.1.1.1.1.1.1.1.1.2.1⟩)⟩, ⟨by (with_reducible repeat (first | apply Kd.N_alloc | apply Kd.N_drewN | apply Kd.N_drew)); exact Kd.N_mono HO_111.out (fun _ hk => hk.1.1.1.1.1.1.1.1.1.1.1.1.1.1)⟩, ⟨by repeat (first | (with_reducible first | exact HB.out | apply below_alloc | apply pw_below_drewN | apply below_drew1 | refine below_set ?_ GE223.out) | exact HB.out)⟩⟩
end Go.Proofs.Ytojnnfhalpefmaa.M
end
