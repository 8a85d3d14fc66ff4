/- A part of the proof: texts of this seat joined (printed and by hand), without what is not used. -/
import Derived.Test.YtlleokhmgblfnaaBEx11
set_option linter.unusedVariables false
set_option linter.unusedSimpArgs false
set_option linter.unusedSectionVars false
section
namespace Go.Proofs.Ytlleokhmgblfnaa.M
open Go.RowKit Go.Proofs.YtlleokhmgblfnaaW.PrintWords Go.Proofs.YtlleokhmgblfnaaW.PrintLast Go.Proofs.YtlleokhmgblfnaaW.PrintMore
attribute [local go_sem] max2_int min2_int max_two min_two max_three min_three max_four min_four
set_option maxHeartbeats 8000000 in
set_option maxRecDepth 100000 in
theorem exD (w : World) (r : Bool) (hrt : r = true) (kj591 : Nat) (gb315 gb407 gb408 : Nat) {Ao596 Ao602 : Option Addr} {co596 co602 : Nat} (x408002_3 x409002_3 : List S40) (t446 : List Int) (v447 : Value) {wd : World} (HL : As ((if 1024 ≤ 281474976710656 then (mE.l2 kj591 (List.replicate 1024 false) t446 (t446.length : Int) 0) else (none)) = some r)) (HO_55 : As (Kd.R (Kd.int .i64) 3 wd w.heap.size (fun _ => True) v447 t446)) (HO_408002 : As (Kd.R k40 40 wd w.heap.size (fun k_ => some k_ ≠ ((.slice Ao602 x409002_3.length co602) : Value).ownBlock) (.slice Ao596 x408002_3.length co596) x408002_3)) (HO_409002 : As (Kd.R k40 40 wd w.heap.size (fun k_ => some k_ ≠ ((.slice Ao596 x408002_3.length co596) : Value).ownBlock) (.slice Ao602 x409002_3.length co602) x409002_3)) (BK315 : As (wd.heap[gb315]? = some (.cells #[.int .i64 0, .int .i64 0, (.slice none 0 0)] 33 (0, 0)))) (BK407 : As (wd.heap[gb407]? = some (.cells #[.int .i64 1024, .int .i64 1024, (.slice Ao596 x408002_3.length co596)] 33 (0, 0)))) (BK408 : As (wd.heap[gb408]? = some (.cells #[.int .i64 1024, .int .i64 1024, (.slice Ao602 x409002_3.length co602)] 33 (0, 0)))) (GE407 : As (w.heap.size ≤ gb407)) (GE408 : As (w.heap.size ≤ gb408)) (HB : As (Below w.heap.size w wd)) (a : Act) (ha : a = frameU (fun k => a.tmps.getD k undef)) (h55 : a.tmps.getD 55 undef = v447) (h458 : a.tmps.getD 458 undef = .bool false) : WpAt 22 (bodyPost Try.prog Try.f11 fun e w' => e = .returned (.bool r) ∧ Below w.heap.size w w') a wd := by
 refine wpAt_mk rfl (fun K hK => ?_)
 revert a
 refine frame_all ?_
 intro u0 u1 u2 u3 u4 u5 u6 u7 u8 u9 u10 u11 u12 u13 u14 u15 u16 u17 u18 u19 u20 u21 u22 u23 u24 u25 u26 u27 u28 u29 u30 u31 u32 u33 u34 u35 u36 u37 u38 u39 u40 u41 u42 u43 u44 u45 u46 u47 u48 u49 u50 u51 u52 u53 u54 u55 u56 u57 u58 u59 u60 u61 u62 u63 u64 u65 u66 u67 u68 u69 u70 u71 u72 u73 u74 u75 u76 u77 u78 u79 u80 u81 u82 u83 u84 u85 u86 u87 u88 u89 u90 u91 u92 u93 u94 u95 u96 u97 u98 u99 u100 u101 u102 u103 u104 u105 u106 u107 u108 u109 u110 u111 u112 u113 u114 u115 u116 u117 u118 u119 u120 u121 u122 u123 u124 u125 u126 u127 u128 u129 u130 u131 u132 u133 u134 u135 u136 u137 u138 u139 u140 u141 u142 u143 u144 u145 u146 u147 u148 u149 u150 u151 u152 u153 u154 u155 u156 u157 u158 u159 u160 u161 u162 u163 u164 u165 u166 u167 u168 u169 u170 u171 u172 u173 u174 u175 u176 u177 u178 u179 u180 u181 u182 u183 u184 u185 u186 u187 u188 u189 u190 u191 u192 u193 u194 u195 u196 u197 u198 u199 u200 u201 u202 u203 u204 u205 u206 u207 u208 u209 u210 u211 u212 u213 u214 u215 u216 u217 u218 u219 u220 u221 u222 u223 u224 u225 u226 u227 u228 u229 u230 u231 u232 u233 u234 u235 u236 u237 u238 u239 u240 u241 u242 u243 u244 u245 u246 u247 u248 u249 u250 u251 u252 u253 u254 u255 u256 u257 u258 u259 u260 u261 u262 u263 u264 u265 u266 u267 u268 u269 u270 u271 u272 u273 u274 u275 u276 u277 u278 u279 u280 u281 u282 u283 u284 u285 u286 u287 u288 u289 u290 u291 u292 u293 u294 u295 u296 u297 u298 u299 u300 u301 u302 u303 u304 u305 u306 u307 u308 u309 u310 u311 u312 u313 u314 u315 u316 u317 u318 u319 u320 u321 u322 u323 u324 u325 u326 u327 u328 u329 u330 u331 u332 u333 u334 u335 u336 u337 u338 u339 u340 u341 u342 u343 u344 u345 u346 u347 u348 u349 u350 u351 u352 u353 u354 u355 u356 u357 u358 u359 u360 u361 u362 u363 u364 u365 u366 u367 u368 u369 u370 u371 u372 u373 u374 u375 u376 u377 u378 u379 u380 u381 u382 u383 u384 u385 u386 u387 u388 u389 u390 u391 u392 u393 u394 u395 u396 u397 u398 u399 u400 u401 u402 u403 u404 u405 u406 u407 u408 u409 u410 u411 u412 u413 u414 u415 u416 u417 u418 u419 u420 u421 u422 u423 u424 u425 u426 u427 u428 u429 u430 u431 u432 u433 u434 u435 u436 u437 u438 u439 u440 u441 u442 u443 u444 u445 u446 u447 u448 u449 u450 u451 u452 u453 u454 u455 u456 u457 u458 u459 u460 u461 u462 u463 u464 u465 u466 u467 u468 u469 u470 u471 u472 u473 u474 u475 u476 u477 u478 u479 u480 u481 h55 h458
 replace h55 : u55 = v447 := h55
 replace h458 : u458 = .bool false := h458
 subst h55
 subst h458
 have hu33 := Try.underlying33
 have hu62 := Try.underlying62
 have hu40 := Try.underlying40
 have H := HL.out
 clear HL
 by_cases c658 : 1024 ≤ 281474976710656
 ·rw [if_pos c658] at H
  have c658b0 := eq_true c658
  have c658b1 : decide (1024 ≤ 281474976710656) = true := decide_eq_true c658
  clear c658
  obtain ⟨y455, hy455⟩ : ∃ y_ : List Bool, y_ = (List.replicate 1024 false) := ⟨_, rfl⟩
  replace H : (mE.l2 kj591 y455 t446 (t446.length : Int) 0) = some r := by first | (rw [hy455]; with_reducible exact H) | (have H2_ := (Option.bind_some _ _).symm.trans H; rw [hy455]; with_reducible exact H2_) | (have H2_ := (Option.bind_some _ _).symm.trans H; with_reducible exact H2_) | with_reducible exact H | (rw [hy455]; exact H) | exact H
  have Ny455 := As.mk hy455
  clear hy455
  have H' := As.mk H
  clear H
  go_wp2_with (first | ((with_reducible refine gate_dst (N := 459) rfl ?_); (try (refine gate_guard (by rfl) ?_; dsimp only)); refine Kd.R_make Kd.bool _ 4 rfl (N := 459) rfl 65 _ _ rfl 1024 rfl rfl Try.underlying65 (.bool false) 1 info4 rfl (by decide) (by omega) false (ok := fun _ => True) (okp := fun _ => True) rfl (fun _ hk => hk) trivial (by omega) (by omega) (Below.refl _ _) (Nat.le_refl _) ?_; intro v456 w659 ho660 hb hg_ hnew_; clear hg_ hnew_; (first | rw [← Ny455.out] at ho660 | (simp only [Int.reduceToNat] at ho660; rw [← Ny455.out] at ho660)); have n0_ := As.mk (Kd.R_below (rup HO_55.out) hb); have n1_ := As.mk (Kd.R_below (rup HO_408002.out) hb); have n2_ := As.mk (Kd.R_below (rup HO_409002.out) hb); have n3_ := As.mk (Kd.R_lower ho660 (below_size (hup2 HB.out GE407.out GE408.out))); have n4_ := As.mk (blk_below (g := gb315) (o := .cells #[.int .i64 0, .int .i64 0, .slice none 0 0] 33 (0, 0)) (bup BK315.out) hb); have n5_ := As.mk (blk_below (g := gb407) (o := .cells #[.int .i64 1024, .int .i64 1024, .slice Ao596 x408002_3.length co596] 33 (0, 0)) (bup BK407.out) hb); have n6_ := As.mk (blk_below (g := gb408) (o := .cells #[.int .i64 1024, .int .i64 1024, .slice Ao602 x409002_3.length co602] 33 (0, 0)) (bup BK408.out) hb); have n7_ := As.mk (below_step (hup2 HB.out GE407.out GE408.out) hb); clear HO_55; clear HO_408002; clear HO_409002; clear BK315; clear BK407; clear BK408; clear HB; have HO_55 := n0_; have HO_408002 := n1_; have HO_409002 := n2_; have HO457 := n3_; have BK315 := n4_; have BK407 := n5_; have BK408 := n6_; have HB := n7_; clear n0_ n1_ n2_ n3_ n4_ n5_ n6_ n7_; clear hb ho660; obtain ⟨Ao661, co661, eo661⟩ := Kd.R_slice HO_55.out; subst eo661))
  go_loopg [462] kj591 (fun kq v462 w' => ∃ (x57_5 : List Bool) (x462_5 : Int), v462 = .int .i64 x462_5 ∧ As (mE.l2 kq x57_5 t446 (t446.length : Int) x462_5 = some r) ∧ As (kq ≤ kj591) ∧ As (Kd.R Kd.bool 4 w' w.heap.size (fun _ => True) v456 x57_5) ∧ As (Kd.R (Kd.int .i64) 3 w' w.heap.size (fun _ => True) (.slice Ao661 t446.length co661) t446) ∧ As (Kd.R k40 40 w' w.heap.size (fun k_ => some k_ ≠ ((.slice Ao602 x409002_3.length co602) : Value).ownBlock) (.slice Ao596 x408002_3.length co596) x408002_3) ∧ As (Kd.R k40 40 w' w.heap.size (fun k_ => some k_ ≠ ((.slice Ao596 x408002_3.length co596) : Value).ownBlock) (.slice Ao602 x409002_3.length co602) x409002_3) ∧ As (w'.heap[gb315]? = some (.cells #[.int .i64 0, .int .i64 0, (.slice none 0 0)] 33 (0, 0))) ∧ As (w'.heap[gb407]? = some (.cells #[.int .i64 1024, .int .i64 1024, (.slice Ao596 x408002_3.length co596)] 33 (0, 0))) ∧ As (w'.heap[gb408]? = some (.cells #[.int .i64 1024, .int .i64 1024, (.slice Ao602 x409002_3.length co602)] 33 (0, 0))) ∧ As (Below w.heap.size w w'))
  case atStart => exact ⟨(y455), (0), (by first | rfl | (simp; done) | (simp [*]; done)), H', ⟨Nat.le_refl _⟩, ⟨by (with_reducible repeat (first | apply Kd.R_alloc | apply Kd.R_drewN | apply Kd.R_drew)); exact HO457.out⟩, ⟨by (with_reducible repeat (first | apply Kd.R_alloc | apply Kd.R_drewN | apply Kd.R_drew)); exact HO_55.out⟩, ⟨by (with_reducible repeat (first | apply Kd.R_alloc | apply Kd.R_drewN | apply Kd.R_drew)); exact HO_408002.out⟩, ⟨by (with_reducible repeat (first | apply Kd.R_alloc | apply Kd.R_drewN | apply Kd.R_drew)); exact HO_409002.out⟩, ⟨by (with_reducible repeat (first | refine blk_drewN ?_ _ | refine blk_drew ?_ | refine blk_alloc ?_ _)); exact BK315.out⟩, ⟨by (with_reducible repeat (first | refine blk_drewN ?_ _ | refine blk_drew ?_ | refine blk_alloc ?_ _)); exact BK407.out⟩, ⟨by (with_reducible repeat (first | refine blk_drewN ?_ _ | refine blk_drew ?_ | refine blk_alloc ?_ _)); exact BK408.out⟩, ⟨by repeat (first | (with_reducible first | exact HB.out | apply below_alloc | apply pw_below_drewN | apply below_drew1 | refine below_set ?_ GE315.out | refine below_set ?_ GE407.out | refine below_set ?_ GE408.out) | exact HB.out)⟩⟩
  case round =>
   clear H'
   try clear c1
   try clear c2
   try clear p2
   try clear c3
   try clear c4
   try clear p4
   try clear q4
   try clear hx4
   try clear qi4
   try clear c5
   try clear c6
   try clear p6
   try clear c13
   try clear c21
   try clear c25
   try clear c27
   try clear c29
   try clear c30
   try clear c32
   try clear c33
   try clear c34
   try clear c35
   try clear c38
   try clear c38b0
   try clear c39
   try clear c40
   try clear c43
   try clear p45
   try clear q45
   try clear hx45
   try clear qi45
   try clear c52
   try clear c53
   try clear c54
   try clear c55
   try clear c56
   try clear c57
   try clear c58
   try clear c59
   try clear c60
   try clear c61
   try clear p64
   try clear c65
   try clear c293
   try clear c293b0
   try clear c293b1
   try clear c293b2
   try clear c294
   try clear c294b0
   try clear c294b1
   try clear c295
   try clear c295b0
   try clear c295b1
   try clear c296
   try clear c296b0
   try clear c296b1
   try clear c296b2
   try clear c297
   try clear c297b0
   try clear c297b1
   try clear c299
   try clear c301
   try clear c302
   try clear c302b0
   try clear c302b1
   try clear c304
   try clear c305
   try clear c305b0
   try clear c305b1
   try clear c305b2
   try clear c306
   try clear c306b0
   try clear c306b1
   try clear c307
   try clear c308
   try clear c308b0
   try clear c308b1
   try clear c309
   try clear c325
   try clear c325b0
   try clear c325b1
   try clear c326
   try clear c342
   try clear c342b0
   try clear c342b1
   try clear c343
   try clear c359
   try clear c359b0
   try clear c359b1
   try clear p450
   try clear q450
   try clear hx450
   try clear qi450
   try clear c527
   try clear c530
   try clear c531
   try clear c533
   try clear c535
   try clear c535b0
   try clear c536
   try clear c536b0
   try clear c537
   try clear c538
   try clear c538b0
   try clear c539
   try clear c540
   try clear c541
   try clear c542
   try clear c550
   try clear c555
   try clear c556
   try clear c557
   try clear c562
   try clear c567
   try clear c567b0
   try clear c568
   try clear c569
   try clear c570
   try clear c571
   try clear c576
   try clear c581
   try clear c582
   try clear c583
   try clear c593
   try clear c594
   try clear c600
   try clear c606
   try clear c606b0
   try clear c606b1
   try clear c607
   try clear c607b0
   try clear c607b1
   try clear c608
   try clear c608b0
   try clear c608b1
   try clear c609
   try clear c609b0
   try clear c609b1
   try clear c610
   try clear c610b0
   try clear c610b1
   try clear c611
   try clear c611b0
   try clear c611b1
   try clear c612
   try clear c612b0
   try clear c612b1
   try clear c613
   try clear c613b0
   try clear c613b1
   try clear c613b2
   try clear c615
   try clear c616
   try clear c616b0
   try clear c616b1
   try clear c617
   try clear c617b0
   try clear c617b1
   try clear c657
   try clear c658
   try clear c658b0
   try clear c658b1
   try clear hcz255_0
   try clear hcz255_1
   try clear hcz255_2
   try clear hcz257_0
   try clear hcz257_1
   try clear hcz257_2
   try clear hcz259_0
   try clear hcz259_1
   try clear hcz259_2
   try clear hcz532_0
   try clear hcz532_1
   try clear hcz532_2
   try clear hcz534_0
   try clear hcz534_1
   try clear hcz534_2
   try clear hcz543_0
   try clear hcz543_1
   try clear hcz543_2
   try clear hcz546_0
   try clear hcz546_1
   try clear hcz546_2
   try clear hcz549_0
   try clear hcz549_1
   try clear hcz549_2
   try clear hcz551_0
   try clear hcz551_1
   try clear hcz551_2
   try clear hcz554_0
   try clear hcz554_1
   try clear hcz554_2
   try clear hcz558_0
   try clear hcz558_1
   try clear hcz558_2
   try clear hcz561_0
   try clear hcz561_1
   try clear hcz561_2
   try clear hcz563_0
   try clear hcz563_1
   try clear hcz563_2
   try clear hcz566_0
   try clear hcz566_1
   try clear hcz566_2
   try clear hcz572_0
   try clear hcz572_1
   try clear hcz572_2
   try clear hcz575_0
   try clear hcz575_1
   try clear hcz575_2
   try clear hcz577_0
   try clear hcz577_1
   try clear hcz577_2
   try clear hcz580_0
   try clear hcz580_1
   try clear hcz580_2
   try clear hcz584_0
   try clear hcz584_1
   try clear hcz584_2
   try clear hcz587_0
   try clear hcz587_1
   try clear hcz587_2
   try clear hcz595_0
   try clear hcz595_1
   try clear hcz595_2
   try clear hcz598_0
   try clear hcz598_1
   try clear hcz598_2
   try clear hcz601_0
   try clear hcz601_1
   try clear hcz601_2
   try clear hcz604_0
   try clear hcz604_1
   try clear hcz604_2
   try clear hfz255_0
   try clear hfz255_1
   try clear hfz255_2
   try clear hfz257_0
   try clear hfz257_1
   try clear hfz257_2
   try clear hfz259_0
   try clear hfz259_1
   try clear hfz259_2
   try clear hfz532_0
   try clear hfz532_1
   try clear hfz532_2
   try clear hfz534_0
   try clear hfz534_1
   try clear hfz534_2
   try clear hfz543_0
   try clear hfz543_1
   try clear hfz543_2
   try clear hfz546_0
   try clear hfz546_1
   try clear hfz546_2
   try clear hfz549_0
   try clear hfz549_1
   try clear hfz549_2
   try clear hfz551_0
   try clear hfz551_1
   try clear hfz551_2
   try clear hfz554_0
   try clear hfz554_1
   try clear hfz554_2
   try clear hfz558_0
   try clear hfz558_1
   try clear hfz558_2
   try clear hfz561_0
   try clear hfz561_1
   try clear hfz561_2
   try clear hfz563_0
   try clear hfz563_1
   try clear hfz563_2
   try clear hfz566_0
   try clear hfz566_1
   try clear hfz566_2
   try clear hfz572_0
   try clear hfz572_1
   try clear hfz572_2
   try clear hfz575_0
   try clear hfz575_1
   try clear hfz575_2
   try clear hfz577_0
   try clear hfz577_1
   try clear hfz577_2
   try clear hfz580_0
   try clear hfz580_1
   try clear hfz580_2
   try clear hfz584_0
   try clear hfz584_1
   try clear hfz584_2
   try clear hfz587_0
   try clear hfz587_1
   try clear hfz587_2
   try clear hfz595_0
   try clear hfz595_1
   try clear hfz595_2
   try clear hfz598_0
   try clear hfz598_1
   try clear hfz598_2
   try clear hfz601_0
   try clear hfz601_1
   try clear hfz601_2
   try clear hfz604_0
   try clear hfz604_1
   try clear hfz604_2
   try clear hx450_0
   try clear p2
   try clear p4
   try clear p45
   try clear p450
   try clear p6
   try clear p64
   try clear q4
   try clear q45
   try clear q450
   obtain ⟨x57_5, x462_5, rfl, HA, HK5, HO_57, HO_460, HO_408002, HO_409002, BK315, BK407, BK408, HB⟩ := hrel
   cases gk with
   | zero => exact absurd HA.out (by simp [mE.l2])
   | succ k5 =>
    have H := HA.out
    clear HA
    simp only [mE.l2] at H
    by_cases c662 : x462_5 < (t446.length : Int)
    ·rw [if_pos c662] at H
     have c662b0 : decide (x462_5 < (t446.length : Int)) = true := decide_eq_true c662
     clear c662
     by_cases c663 : 0 ≤ x462_5
     ·rw [if_pos c663] at H
      have c663b0 : decide (0 ≤ x462_5) = true := decide_eq_true c663
      clear c663
      by_cases c664 : x462_5 < (t446.length : Int)
      ·rw [if_pos c664] at H
       have c664b0 : decide (x462_5 < (t446.length : Int)) = true := decide_eq_true c664
       clear c664
       by_cases c665 : (rd t446 x462_5) < 0
       ·rw [if_pos c665] at H
        have c665b0 : decide ((rd t446 x462_5) < 0) = true := decide_eq_true c665
        clear c665
        exact absurd (Option.some.inj H) (by rw [hrt]; exact Bool.false_ne_true)
       ·rw [if_neg c665] at H
        have c665b0 : decide ((rd t446 x462_5) < 0) = false := decide_eq_false c665
        clear c665
        by_cases c666 : (rd t446 x462_5) ≥ 1024
        ·rw [if_pos c666] at H
         have c666b0 : decide (1024 ≤ (rd t446 x462_5)) = true := decide_eq_true c666
         clear c666
         exact absurd (Option.some.inj H) (by rw [hrt]; exact Bool.false_ne_true)
        ·rw [if_neg c666] at H
         have c666b0 : decide (1024 ≤ (rd t446 x462_5)) = false := decide_eq_false c666
         clear c666
         by_cases c667 : 0 ≤ (rd t446 x462_5)
         ·rw [if_pos c667] at H
          have c667b0 : decide (0 ≤ (rd t446 x462_5)) = true := decide_eq_true c667
          clear c667
          by_cases c668 : (rd t446 x462_5) < (x57_5.length : Int)
          ·rw [if_pos c668] at H
           have c668b0 : decide ((rd t446 x462_5) < (x57_5.length : Int)) = true := decide_eq_true c668
           clear c668
           obtain ⟨bq669, hbq669⟩ : ∃ b_ : Bool, b_ = (rdOf false x57_5 (rd t446 x462_5)) := ⟨_, rfl⟩
           replace H : (if bq669 = true then (some false) else (mE.l2 k5 (x57_5.set ((rd t446 x462_5) : Int).toNat true) t446 (t446.length : Int) (wrap64 (x462_5 + 1)))) = some r := by rw [← hbq669] at H; exact H
           have Nbq669 := As.mk hbq669
           clear hbq669
           by_cases c670 : bq669 = true
           ·subst c670
            have H1 : (some false) = some r := by rw [if_pos rfl] at H; exact H
            clear H
            have H := H1
            clear H1
            exact absurd (Option.some.inj H) (by rw [hrt]; exact Bool.false_ne_true)
           ·replace c670 := Bool.eq_false_iff.mpr c670
            subst c670
            have H1 : (mE.l2 k5 (x57_5.set ((rd t446 x462_5) : Int).toNat true) t446 (t446.length : Int) (wrap64 (x462_5 + 1))) = some r := by rw [if_neg (show ¬ (false = true) by decide)] at H; exact H
            clear H
            have H := H1
            clear H1
            obtain ⟨y460, hy460⟩ : ∃ y_ : List Bool, y_ = (x57_5.set ((rd t446 x462_5) : Int).toNat true) := ⟨_, rfl⟩
            replace H : (mE.l2 k5 y460 t446 (t446.length : Int) (wrap64 (x462_5 + 1))) = some r := by first | (rw [hy460]; with_reducible exact H) | (have H2_ := (Option.bind_some _ _).symm.trans H; rw [hy460]; with_reducible exact H2_) | (have H2_ := (Option.bind_some _ _).symm.trans H; with_reducible exact H2_) | with_reducible exact H | (rw [hy460]; exact H) | exact H
            have Ny460 := As.mk hy460
            clear hy460
            have H' := As.mk H
            clear H
            have p458 : 0 ≤ (x462_5 : Int) := of_decide_eq_true (by first | (with_reducible assumption) | assumption)
            have q458 : x462_5 < (t446.length : Int) := of_decide_eq_true (by first | (with_reducible assumption) | assumption)
            obtain ⟨ad458, e458, hx458_0⟩ := Kd.at_int (Kd.R_reads' HO_460.out).2.2 x462_5 p458 q458
            cases e458
            replace p458 := eq_true p458
            replace q458 := eq_true q458
            obtain ⟨Ao673, co673, eo673⟩ := Kd.R_slice HO_57.out
            subst eo673
            have p459 : 0 ≤ ((rd t446 x462_5) : Int) := of_decide_eq_true (by first | (with_reducible assumption) | assumption)
            have q459 : (rd t446 x462_5) < (x57_5.length : Int) := of_decide_eq_true (by first | (with_reducible assumption) | assumption)
            obtain ⟨ad459, e459, hx459_0⟩ := Kd.at_bool (Kd.R_reads' HO_57.out).2.2 (rd t446 x462_5) p459 q459
            (try rw [← Nbq669.out] at hx459_0)
            cases e459
            replace p459 := eq_true p459
            replace q459 := eq_true q459
            have p672 : 0 ≤ ((rd t446 x462_5) : Int) := of_decide_eq_true (by first | (with_reducible assumption) | assumption)
            have q672 : ((rd t446 x462_5) : Int) < ((x57_5.length : Int) : Int) := of_decide_eq_true (by first | (with_reducible assumption) | assumption)
            obtain ⟨go672, co672, eo672, gb672, gl672, cl672, HG672⟩ := Kd.R_form HO_57.out (by first | omega | (have e_ := (Kd.R_reads' HO_57.out).1; omega))
            (first | cases eo672 | (injection eo672 with ea_ en_ ec_; (first | subst ea_ | (injection ea_ with ea_; subst ea_)); subst ec_; clear en_))
            have GB672 := As.mk gb672
            have GG672 := As.mk HG672
            clear gb672 gl672 HG672
            (first | simp only [add_plain] at hx459_0 | skip)
            obtain ⟨hx672_0, hf672_0⟩ := Kd.R_celln false HO_57.out ((rd t446 x462_5) : Int) p672 q672
            replace p672 := eq_true p672
            replace q672 := eq_true q672
            have HP674 := Kd.R_putg HO_57.out ((rd t446 x462_5) : Int) true
            go_wp2_with (first | ((with_reducible refine gate_store (t := 4) (p := 480) rfl ?_); refine store_event (t := 4) (p := 480) (v := ?vo_w675) (w1 := (wr.setCell ⟨go672, ((rd t446 x462_5) : Int).toNat, none⟩ (.bool true))) ?hg ?ho ?hn ?hr ?_; (case ho => rfl); (case hg => rfl); (case hn => rfl); (case hr => first | (go_simp; done) | (go_simp; rfl)); intro w675 hw; have hg : wr.grownBy w675 (some go672) := (by rw [hw]; exact HP674.2); have hp_ : Kd.R Kd.bool 4 w675 w.heap.size (fun _ => True) (.slice (some ⟨go672, 0, none⟩) x57_5.length co673) y460 := (by rw [hw, Ny460.out]; exact HP674.1); clear HP674; have n0_ := As.mk (hp_); have n1_ := As.mk (Kd.R_over' (v := (.slice (some ⟨go672, 0, none⟩) x57_5.length co673)) (rup HO_460.out) (Kd.R_typed HO_57.out) (by decide) hg); have n2_ := As.mk (Kd.R_over' (v := (.slice (some ⟨go672, 0, none⟩) x57_5.length co673)) (rup HO_408002.out) (Kd.R_typed HO_57.out) (by decide) hg); have n3_ := As.mk (Kd.R_over' (v := (.slice (some ⟨go672, 0, none⟩) x57_5.length co673)) (rup HO_409002.out) (Kd.R_typed HO_57.out) (by decide) hg); have n4_ := As.mk (blk_grown (g := gb315) (o := .cells #[.int .i64 0, .int .i64 0, .slice none 0 0] 33 (0, 0)) (bup BK315.out) hg (Kd.R_ne HO_57.out BK315.out (by decide))); have n5_ := As.mk (blk_grown (g := gb407) (o := .cells #[.int .i64 1024, .int .i64 1024, .slice Ao596 x408002_3.length co596] 33 (0, 0)) (bup BK407.out) hg (Kd.R_ne HO_57.out BK407.out (by decide))); have n6_ := As.mk (blk_grown (g := gb408) (o := .cells #[.int .i64 1024, .int .i64 1024, .slice Ao602 x409002_3.length co602] 33 (0, 0)) (bup BK408.out) hg (Kd.R_ne HO_57.out BK408.out (by decide))); have n7_ := As.mk ((by rw [hw]; exact below_set (HB.out) GB672.out : Below w.heap.size w w675)); clear HO_57; clear HO_460; clear HO_408002; clear HO_409002; clear BK315; clear BK407; clear BK408; clear HB; have HO_57 := n0_; have HO_460 := n1_; have HO_408002 := n2_; have HO_409002 := n3_; have BK315 := n4_; have BK407 := n5_; have BK408 := n6_; have HB := n7_; clear n0_ n1_ n2_ n3_ n4_ n5_ n6_ n7_; clear hg hw hp_))
            go_roundg k5
            case measure => have := HK5.out; omega
            case rel => exact ⟨(y460), (wrap64 (x462_5 + 1)), (by first | rfl | (simp; done) | (simp [*]; done)), H', ⟨by have := HK5.out; omega⟩, ⟨by (with_reducible repeat (first | apply Kd.R_alloc | apply Kd.R_drewN | apply Kd.R_drew)); exact HO_57.out⟩, ⟨by (with_reducible repeat (first | apply Kd.R_alloc | apply Kd.R_drewN | apply Kd.R_drew)); exact HO_460.out⟩, ⟨by (with_reducible repeat (first | apply Kd.R_alloc | apply Kd.R_drewN | apply Kd.R_drew)); exact HO_408002.out⟩, ⟨by (with_reducible repeat (first | apply Kd.R_alloc | apply Kd.R_drewN | apply Kd.R_drew)); exact HO_409002.out⟩, ⟨by (with_reducible repeat (first | refine blk_drewN ?_ _ | refine blk_drew ?_ | refine blk_alloc ?_ _)); exact BK315.out⟩, ⟨by (with_reducible repeat (first | refine blk_drewN ?_ _ | refine blk_drew ?_ | refine blk_alloc ?_ _)); exact BK407.out⟩, ⟨by (with_reducible repeat (first | refine blk_drewN ?_ _ | refine blk_drew ?_ | refine blk_alloc ?_ _)); exact BK408.out⟩, ⟨by repeat (first | (with_reducible first | exact HB.out | apply below_alloc | apply pw_below_drewN | apply below_drew1 | refine below_set ?_ GE315.out | refine below_set ?_ GE407.out | refine below_set ?_ GE408.out) | exact HB.out)⟩⟩
          ·rw [if_neg c668] at H
           exact absurd H (by simp)
         ·rw [if_neg c667] at H
          exact absurd H (by simp)
      ·rw [if_neg c664] at H
       exact absurd H (by simp)
     ·rw [if_neg c663] at H
      exact absurd H (by simp)
    ·rw [if_neg c662] at H
     have c662b0 : decide (x462_5 < (t446.length : Int)) = false := decide_eq_false c662
     clear c662
     obtain rfl := Option.some.inj H
     go_wp2
     go_ret
     exact ⟨by first | rfl | (simp [errW_none, errW_some] <;> rfl) | (simp [*, errW_none, errW_some] <;> rfl), by repeat (first | (with_reducible first | exact HB.out | apply below_alloc | apply pw_below_drewN | apply below_drew1 | refine below_set ?_ GE315.out | refine below_set ?_ GE407.out | refine below_set ?_ GE408.out) | exact HB.out)⟩
 ·rw [if_neg c658] at H
  exact absurd H (by simp)
end Go.Proofs.Ytlleokhmgblfnaa.M
end

section
namespace Go.Proofs.Ytlleokhmgblfnaa.M
open Go.RowKit Go.Proofs.YtlleokhmgblfnaaW.PrintWords Go.Proofs.YtlleokhmgblfnaaW.PrintLast Go.Proofs.YtlleokhmgblfnaaW.PrintMore
attribute [local go_sem] max2_int min2_int max_two min_two max_three min_three max_four min_four
set_option maxHeartbeats 8000000 in
set_option maxRecDepth 100000 in
theorem exE (w : World) (r : Bool) (hrt : r = true) (k3 : Nat) (gb315 gb407 gb408 : Nat) (x46_3 : Int) (x408002_3 x409002_3 : List S40) (u408002 u409002 : Value) (c535 : ¬ x46_3 < 1024) {wr : World} (HL1 : As (mE.l1 (k3 + 1) x46_3 1024 1024 x408002_3 1024 1024 x409002_3 = some r)) (HO_408002 : As (Kd.R k40 40 wr w.heap.size (fun k_ => some k_ ≠ (u409002 : Value).ownBlock) u408002 x408002_3)) (HO_409002 : As (Kd.R k40 40 wr w.heap.size (fun k_ => some k_ ≠ (u408002 : Value).ownBlock) u409002 x409002_3)) (BK315 : As (wr.heap[gb315]? = some (.cells #[.int .i64 0, .int .i64 0, (.slice none 0 0)] 33 (0, 0)))) (BK407 : As (wr.heap[gb407]? = some (.cells #[.int .i64 1024, .int .i64 1024, u408002] 33 (0, 0)))) (BK408 : As (wr.heap[gb408]? = some (.cells #[.int .i64 1024, .int .i64 1024, u409002] 33 (0, 0)))) (GE407 : As (w.heap.size ≤ gb407)) (GE408 : As (w.heap.size ≤ gb408)) (NB315_407 : As (gb315 ≠ gb407)) (NB407_315 : As (gb407 ≠ gb315)) (NB315_408 : As (gb315 ≠ gb408)) (NB408_315 : As (gb408 ≠ gb315)) (NB407_408 : As (gb407 ≠ gb408)) (NB408_407 : As (gb408 ≠ gb407)) (HB : As (Below w.heap.size w wr)) (a : Act) (ha : a = frameU (fun k => a.tmps.getD k undef)) (h44 : a.tmps.getD 44 undef = .pointer (some ⟨gb407, 0, none⟩)) (h45 : a.tmps.getD 45 undef = .pointer (some ⟨gb408, 0, none⟩)) : WpAt 17 (bodyPost Try.prog Try.f11 fun e w' => e = .returned (.bool r) ∧ Below w.heap.size w w') a wr := by
 refine wpAt_mk rfl (fun K hK => ?_)
 revert a
 refine frame_all ?_
 intro u0 u1 u2 u3 u4 u5 u6 u7 u8 u9 u10 u11 u12 u13 u14 u15 u16 u17 u18 u19 u20 u21 u22 u23 u24 u25 u26 u27 u28 u29 u30 u31 u32 u33 u34 u35 u36 u37 u38 u39 u40 u41 u42 u43 u44 u45 u46 u47 u48 u49 u50 u51 u52 u53 u54 u55 u56 u57 u58 u59 u60 u61 u62 u63 u64 u65 u66 u67 u68 u69 u70 u71 u72 u73 u74 u75 u76 u77 u78 u79 u80 u81 u82 u83 u84 u85 u86 u87 u88 u89 u90 u91 u92 u93 u94 u95 u96 u97 u98 u99 u100 u101 u102 u103 u104 u105 u106 u107 u108 u109 u110 u111 u112 u113 u114 u115 u116 u117 u118 u119 u120 u121 u122 u123 u124 u125 u126 u127 u128 u129 u130 u131 u132 u133 u134 u135 u136 u137 u138 u139 u140 u141 u142 u143 u144 u145 u146 u147 u148 u149 u150 u151 u152 u153 u154 u155 u156 u157 u158 u159 u160 u161 u162 u163 u164 u165 u166 u167 u168 u169 u170 u171 u172 u173 u174 u175 u176 u177 u178 u179 u180 u181 u182 u183 u184 u185 u186 u187 u188 u189 u190 u191 u192 u193 u194 u195 u196 u197 u198 u199 u200 u201 u202 u203 u204 u205 u206 u207 u208 u209 u210 u211 u212 u213 u214 u215 u216 u217 u218 u219 u220 u221 u222 u223 u224 u225 u226 u227 u228 u229 u230 u231 u232 u233 u234 u235 u236 u237 u238 u239 u240 u241 u242 u243 u244 u245 u246 u247 u248 u249 u250 u251 u252 u253 u254 u255 u256 u257 u258 u259 u260 u261 u262 u263 u264 u265 u266 u267 u268 u269 u270 u271 u272 u273 u274 u275 u276 u277 u278 u279 u280 u281 u282 u283 u284 u285 u286 u287 u288 u289 u290 u291 u292 u293 u294 u295 u296 u297 u298 u299 u300 u301 u302 u303 u304 u305 u306 u307 u308 u309 u310 u311 u312 u313 u314 u315 u316 u317 u318 u319 u320 u321 u322 u323 u324 u325 u326 u327 u328 u329 u330 u331 u332 u333 u334 u335 u336 u337 u338 u339 u340 u341 u342 u343 u344 u345 u346 u347 u348 u349 u350 u351 u352 u353 u354 u355 u356 u357 u358 u359 u360 u361 u362 u363 u364 u365 u366 u367 u368 u369 u370 u371 u372 u373 u374 u375 u376 u377 u378 u379 u380 u381 u382 u383 u384 u385 u386 u387 u388 u389 u390 u391 u392 u393 u394 u395 u396 u397 u398 u399 u400 u401 u402 u403 u404 u405 u406 u407 u408 u409 u410 u411 u412 u413 u414 u415 u416 u417 u418 u419 u420 u421 u422 u423 u424 u425 u426 u427 u428 u429 u430 u431 u432 u433 u434 u435 u436 u437 u438 u439 u440 u441 u442 u443 u444 u445 u446 u447 u448 u449 u450 u451 u452 u453 u454 u455 u456 u457 u458 u459 u460 u461 u462 u463 u464 u465 u466 u467 u468 u469 u470 u471 u472 u473 u474 u475 u476 u477 u478 u479 u480 u481 h44 h45
 replace h44 : u44 = .pointer (some ⟨gb407, 0, none⟩) := h44
 replace h45 : u45 = .pointer (some ⟨gb408, 0, none⟩) := h45
 subst h44
 subst h45
 have hu33 := Try.underlying33
 have hu62 := Try.underlying62
 have hu40 := Try.underlying40
 have H := HL1.out
 clear HL1
 simp only [mE.l1] at H
 rw [if_neg c535] at H
 have c535b0 : decide (x46_3 < 1024) = false := decide_eq_false c535
 clear c535
 replace H := Option.bind_eq_some_iff.mp H
 obtain ⟨⟨t430, t431⟩, A5880, H⟩ := H
 replace H : ((match_Free.f k3 1024 1024 x408002_3).bind fun bt432 => ((match_Cover.f k3 1024 1024 x409002_3).bind fun bt439 => ((match_Colours.f 1024 1024 x409002_3).bind fun bt446 => (if t430 = 1023 then (if t431 = 0 then (if (bt432.1.length : Int) = 1024 then (if (bt432.2.1.length : Int) = 1 then (if 0 < (bt432.2.1.length : Int) then (if (rd bt432.2.1 0) = 1023 then (if bt432.2.2 = 0 then (if (bt439.1.length : Int) = 0 then ((torusref01_Same.f k3 bt439.2.1 (([0] : List Int))).bind fun t454 => (if t454 = true then (if bt439.2.2 = 0 then (if bt446.2 = 0 then (mE.j3 k3 bt446.1 ((bt446.1.length : Int) != 1024)) else (mE.j3 k3 bt446.1 true)) else (mE.j3 k3 bt446.1 true)) else (mE.j3 k3 bt446.1 true))) else (mE.j3 k3 bt446.1 true)) else (mE.j3 k3 bt446.1 true)) else (mE.j3 k3 bt446.1 true)) else (none)) else (mE.j3 k3 bt446.1 true)) else (mE.j3 k3 bt446.1 true)) else (mE.j3 k3 bt446.1 true)) else (mE.j3 k3 bt446.1 true))))) = some r := H
 have A588 := As.mk A5880
 clear A5880
 replace H := Option.bind_eq_some_iff.mp H
 obtain ⟨⟨t432, t435, t438⟩, A5890, H⟩ := H
 replace H : ((match_Cover.f k3 1024 1024 x409002_3).bind fun bt439 => ((match_Colours.f 1024 1024 x409002_3).bind fun bt446 => (if t430 = 1023 then (if t431 = 0 then (if (t432.length : Int) = 1024 then (if (t435.length : Int) = 1 then (if 0 < (t435.length : Int) then (if (rd t435 0) = 1023 then (if t438 = 0 then (if (bt439.1.length : Int) = 0 then ((torusref01_Same.f k3 bt439.2.1 (([0] : List Int))).bind fun t454 => (if t454 = true then (if bt439.2.2 = 0 then (if bt446.2 = 0 then (mE.j3 k3 bt446.1 ((bt446.1.length : Int) != 1024)) else (mE.j3 k3 bt446.1 true)) else (mE.j3 k3 bt446.1 true)) else (mE.j3 k3 bt446.1 true))) else (mE.j3 k3 bt446.1 true)) else (mE.j3 k3 bt446.1 true)) else (mE.j3 k3 bt446.1 true)) else (none)) else (mE.j3 k3 bt446.1 true)) else (mE.j3 k3 bt446.1 true)) else (mE.j3 k3 bt446.1 true)) else (mE.j3 k3 bt446.1 true)))) = some r := H
 have A589 := As.mk A5890
 clear A5890
 replace H := Option.bind_eq_some_iff.mp H
 obtain ⟨⟨t439, t442, t445⟩, A5900, H⟩ := H
 replace H : ((match_Colours.f 1024 1024 x409002_3).bind fun bt446 => (if t430 = 1023 then (if t431 = 0 then (if (t432.length : Int) = 1024 then (if (t435.length : Int) = 1 then (if 0 < (t435.length : Int) then (if (rd t435 0) = 1023 then (if t438 = 0 then (if (t439.length : Int) = 0 then ((torusref01_Same.f k3 t442 (([0] : List Int))).bind fun t454 => (if t454 = true then (if t445 = 0 then (if bt446.2 = 0 then (mE.j3 k3 bt446.1 ((bt446.1.length : Int) != 1024)) else (mE.j3 k3 bt446.1 true)) else (mE.j3 k3 bt446.1 true)) else (mE.j3 k3 bt446.1 true))) else (mE.j3 k3 bt446.1 true)) else (mE.j3 k3 bt446.1 true)) else (mE.j3 k3 bt446.1 true)) else (none)) else (mE.j3 k3 bt446.1 true)) else (mE.j3 k3 bt446.1 true)) else (mE.j3 k3 bt446.1 true)) else (mE.j3 k3 bt446.1 true))) = some r := H
 have A590 := As.mk A5900
 clear A5900
 replace H := Option.bind_eq_some_iff.mp H
 obtain ⟨⟨t446, t449⟩, A5910, H⟩ := H
 replace H : (if t430 = 1023 then (if t431 = 0 then (if (t432.length : Int) = 1024 then (if (t435.length : Int) = 1 then (if 0 < (t435.length : Int) then (if (rd t435 0) = 1023 then (if t438 = 0 then (if (t439.length : Int) = 0 then ((torusref01_Same.f k3 t442 (([0] : List Int))).bind fun t454 => (if t454 = true then (if t445 = 0 then (if t449 = 0 then (mE.j3 k3 t446 ((t446.length : Int) != 1024)) else (mE.j3 k3 t446 true)) else (mE.j3 k3 t446 true)) else (mE.j3 k3 t446 true))) else (mE.j3 k3 t446 true)) else (mE.j3 k3 t446 true)) else (mE.j3 k3 t446 true)) else (none)) else (mE.j3 k3 t446 true)) else (mE.j3 k3 t446 true)) else (mE.j3 k3 t446 true)) else (mE.j3 k3 t446 true)) = some r := H
 have A591 := As.mk A5910
 clear A5910
 have HC592 := As.mk H
 clear H
 have hnb593 := NB407_315.out
 have hnc593 := NB315_407.out
 have hnb594 := NB407_408.out
 have hnc594 := NB408_407.out
 have hcz595_0 : wr.cell? ⟨gb407, 0, none⟩ = some (.int .i64 1024) := (blk_cell BK407.out 0).trans rfl
 have hcz595_1 : wr.cell? ⟨gb407, 1, none⟩ = some (.int .i64 1024) := (blk_cell BK407.out 1).trans rfl
 have hcz595_2 : wr.cell? ⟨gb407, 2, none⟩ = some (u408002) := (blk_cell BK407.out 2).trans rfl
 have hfz595_0 := blk_frozen BK407.out 0
 have hfz595_1 := blk_frozen BK407.out 1
 have hfz595_2 := blk_frozen BK407.out 2
 obtain ⟨Ao596, co596, eo596⟩ := Kd.R_slice HO_408002.out
 subst eo596
 go_upto_region 42 with (first | ((with_reducible refine gate_callee (f := 21) rfl ?_); refine goesL_ (some 389) rfl rfl Try.func21 (by kernel_rfl) rfl #[.agg #[.int .i64 1024, .int .i64 1024, .slice Ao596 x408002_3.length co596]] rfl (by (try simp only [List.map_toArray, List.map_cons, List.map_nil]); first | done | rfl | (simp only [List.length_drop, List.length_take]; rfl)) ?_; (with_reducible refine (match_Size.calls k3 1024 1024 _ _ x408002_3 t430 t431 _ ?side1 ?side2 A588.out).mono ?_); (case side1 => repeat (first | exact (Kd.R_reads' HO_408002.out).2.2 | (with_reducible refine Kd.C_alloc ?_ _) | (with_reducible refine Kd.C_drewN ?_ _) | (with_reducible refine Kd.C_drew ?_))); (case side2 => exact (Kd.R_reads' HO_408002.out).2.1); rintro e w597 ⟨rfl, hb⟩; refine ⟨_, rfl, ?_⟩; have n0_ := As.mk (Kd.R_below (rup HO_408002.out) hb); have n1_ := As.mk (Kd.R_below (rup HO_409002.out) hb); have n2_ := As.mk (blk_below (g := gb315) (o := .cells #[.int .i64 0, .int .i64 0, .slice none 0 0] 33 (0, 0)) (bup BK315.out) hb); have n3_ := As.mk (blk_below (g := gb407) (o := .cells #[.int .i64 1024, .int .i64 1024, .slice Ao596 x408002_3.length co596] 33 (0, 0)) (bup BK407.out) hb); have n4_ := As.mk (blk_below (g := gb408) (o := .cells #[.int .i64 1024, .int .i64 1024, u409002] 33 (0, 0)) (bup BK408.out) hb); have n5_ := As.mk (below_step (hup2 HB.out GE407.out GE408.out) hb); clear HO_408002; clear HO_409002; clear BK315; clear BK407; clear BK408; clear HB; have HO_408002 := n0_; have HO_409002 := n1_; have BK315 := n2_; have BK407 := n3_; have BK408 := n4_; have HB := n5_; clear n0_ n1_ n2_ n3_ n4_ n5_; (try clear hb); (try clear hb2); (try clear hk); (try clear hi); have hcz598_0 : w597.cell? ⟨gb407, 0, none⟩ = some (.int .i64 1024) := (blk_cell BK407.out 0).trans rfl; have hcz598_1 : w597.cell? ⟨gb407, 1, none⟩ = some (.int .i64 1024) := (blk_cell BK407.out 1).trans rfl; have hcz598_2 : w597.cell? ⟨gb407, 2, none⟩ = some (.slice Ao596 x408002_3.length co596) := (blk_cell BK407.out 2).trans rfl; have hfz598_0 := blk_frozen BK407.out 0; have hfz598_1 := blk_frozen BK407.out 1; have hfz598_2 := blk_frozen BK407.out 2) | ((with_reducible refine gate_callee (f := 25) rfl ?_); refine goesL_ (some 394) rfl rfl Try.func25 (by kernel_rfl) rfl #[.agg #[.int .i64 1024, .int .i64 1024, .slice Ao596 x408002_3.length co596]] rfl (by (try simp only [List.map_toArray, List.map_cons, List.map_nil]); first | done | rfl | (simp only [List.length_drop, List.length_take]; rfl)) ?_; (with_reducible refine (match_Free.calls k3 1024 1024 _ _ x408002_3 t432 t435 t438 _ ?side1 ?side2 A589.out).mono ?_); (case side1 => repeat (first | exact (Kd.R_reads' HO_408002.out).2.2 | (with_reducible refine Kd.C_alloc ?_ _) | (with_reducible refine Kd.C_drewN ?_ _) | (with_reducible refine Kd.C_drew ?_))); (case side2 => exact (Kd.R_reads' HO_408002.out).2.1); rintro e w599 ⟨v433, v436, rfl, ho0, ho1, hb⟩; refine ⟨_, rfl, ?_⟩; have n0_ := As.mk (Kd.R_below (rup HO_408002.out) hb); have n1_ := As.mk (Kd.R_below (rup HO_409002.out) hb); have n2_ := As.mk (Kd.R_lower ho0 (below_size (hup2 HB.out GE407.out GE408.out))); have n3_ := As.mk (Kd.R_lower ho1 (below_size (hup2 HB.out GE407.out GE408.out))); have n4_ := As.mk (blk_below (g := gb315) (o := .cells #[.int .i64 0, .int .i64 0, .slice none 0 0] 33 (0, 0)) (bup BK315.out) hb); have n5_ := As.mk (blk_below (g := gb407) (o := .cells #[.int .i64 1024, .int .i64 1024, .slice Ao596 x408002_3.length co596] 33 (0, 0)) (bup BK407.out) hb); have n6_ := As.mk (blk_below (g := gb408) (o := .cells #[.int .i64 1024, .int .i64 1024, u409002] 33 (0, 0)) (bup BK408.out) hb); have n7_ := As.mk (below_step (hup2 HB.out GE407.out GE408.out) hb); clear HO_408002; clear HO_409002; clear BK315; clear BK407; clear BK408; clear HB; have HO_408002 := n0_; have HO_409002 := n1_; have HO434 := n2_; have HO437 := n3_; have BK315 := n4_; have BK407 := n5_; have BK408 := n6_; have HB := n7_; clear n0_ n1_ n2_ n3_ n4_ n5_ n6_ n7_; (try clear hb); (try clear hb2); (try clear hk); (try clear hi); (try clear ho0); (try clear ho1); have hnb600 := NB408_315.out; have hnc600 := NB315_408.out; have hcz601_0 : w599.cell? ⟨gb408, 0, none⟩ = some (.int .i64 1024) := (blk_cell BK408.out 0).trans rfl; have hcz601_1 : w599.cell? ⟨gb408, 1, none⟩ = some (.int .i64 1024) := (blk_cell BK408.out 1).trans rfl; have hcz601_2 : w599.cell? ⟨gb408, 2, none⟩ = some (u409002) := (blk_cell BK408.out 2).trans rfl; have hfz601_0 := blk_frozen BK408.out 0; have hfz601_1 := blk_frozen BK408.out 1; have hfz601_2 := blk_frozen BK408.out 2; obtain ⟨Ao602, co602, eo602⟩ := Kd.R_slice HO_409002.out; subst eo602) | ((with_reducible refine gate_callee (f := 27) rfl ?_); refine goesL_ (some 400) rfl rfl Try.func27 (by kernel_rfl) rfl #[.agg #[.int .i64 1024, .int .i64 1024, .slice Ao602 x409002_3.length co602]] rfl (by (try simp only [List.map_toArray, List.map_cons, List.map_nil]); first | done | rfl | (simp only [List.length_drop, List.length_take]; rfl)) ?_; (with_reducible refine (match_Cover.calls k3 1024 1024 _ _ x409002_3 t439 t442 t445 _ ?side1 ?side2 A590.out).mono ?_); (case side1 => repeat (first | exact (Kd.R_reads' HO_409002.out).2.2 | (with_reducible refine Kd.C_alloc ?_ _) | (with_reducible refine Kd.C_drewN ?_ _) | (with_reducible refine Kd.C_drew ?_))); (case side2 => exact (Kd.R_reads' HO_409002.out).2.1); rintro e w603 ⟨v440, v443, rfl, ho0, ho1, hb⟩; refine ⟨_, rfl, ?_⟩; have n0_ := As.mk (Kd.R_below (rup HO_408002.out) hb); have n1_ := As.mk (Kd.R_below (rup HO_409002.out) hb); have n2_ := As.mk (Kd.R_mono (Kd.R_told (Kd.R_told (Kd.R_old (rup HO434.out) hb) (Kd.R_base ho0)) (Kd.R_base ho1)) (fun _ h_ => h_.1)); have n3_ := As.mk (Kd.R_mono (Kd.R_told (Kd.R_told (Kd.R_old (rup HO437.out) hb) (Kd.R_base ho0)) (Kd.R_base ho1)) (fun _ h_ => h_.1)); have n4_ := As.mk (Kd.R_lower (Kd.R_new' (Kd.R_new' ho0 (Kd.R_lt (rup HO434.out))) (Kd.R_lt (rup HO437.out))) (below_size (hup2 HB.out GE407.out GE408.out))); have n5_ := As.mk (Kd.R_lower (Kd.R_new' (Kd.R_new' ho1 (Kd.R_lt (rup HO434.out))) (Kd.R_lt (rup HO437.out))) (below_size (hup2 HB.out GE407.out GE408.out))); have n6_ := As.mk (blk_below (g := gb315) (o := .cells #[.int .i64 0, .int .i64 0, .slice none 0 0] 33 (0, 0)) (bup BK315.out) hb); have n7_ := As.mk (blk_below (g := gb407) (o := .cells #[.int .i64 1024, .int .i64 1024, .slice Ao596 x408002_3.length co596] 33 (0, 0)) (bup BK407.out) hb); have n8_ := As.mk (blk_below (g := gb408) (o := .cells #[.int .i64 1024, .int .i64 1024, .slice Ao602 x409002_3.length co602] 33 (0, 0)) (bup BK408.out) hb); have n9_ := As.mk (below_step (hup2 HB.out GE407.out GE408.out) hb); clear HO_408002; clear HO_409002; clear HO434; clear HO437; clear BK315; clear BK407; clear BK408; clear HB; have HO_408002 := n0_; have HO_409002 := n1_; have HO434 := n2_; have HO437 := n3_; have HO441 := n4_; have HO444 := n5_; have BK315 := n6_; have BK407 := n7_; have BK408 := n8_; have HB := n9_; clear n0_ n1_ n2_ n3_ n4_ n5_ n6_ n7_ n8_ n9_; (try clear hb); (try clear hb2); (try clear hk); (try clear hi); (try clear ho0); (try clear ho1); have hcz604_0 : w603.cell? ⟨gb408, 0, none⟩ = some (.int .i64 1024) := (blk_cell BK408.out 0).trans rfl; have hcz604_1 : w603.cell? ⟨gb408, 1, none⟩ = some (.int .i64 1024) := (blk_cell BK408.out 1).trans rfl; have hcz604_2 : w603.cell? ⟨gb408, 2, none⟩ = some (.slice Ao602 x409002_3.length co602) := (blk_cell BK408.out 2).trans rfl; have hfz604_0 := blk_frozen BK408.out 0; have hfz604_1 := blk_frozen BK408.out 1; have hfz604_2 := blk_frozen BK408.out 2) | ((with_reducible refine gate_callee (f := 38) rfl ?_); refine goesL_ (some 406) rfl rfl Try.func38 (by kernel_rfl) rfl #[.agg #[.int .i64 1024, .int .i64 1024, .slice Ao602 x409002_3.length co602]] rfl (by (try simp only [List.map_toArray, List.map_cons, List.map_nil]); first | done | rfl | (simp only [List.length_drop, List.length_take]; rfl)) ?_; (with_reducible refine (match_Colours.calls 1024 1024 _ _ x409002_3 t446 t449 _ ?side1 ?side2 A591.out).mono ?_); (case side1 => repeat (first | exact (Kd.R_reads' HO_409002.out).2.2 | (with_reducible refine Kd.C_alloc ?_ _) | (with_reducible refine Kd.C_drewN ?_ _) | (with_reducible refine Kd.C_drew ?_))); (case side2 => exact (Kd.R_reads' HO_409002.out).2.1); rintro e w605 ⟨v447, rfl, ho0, hb⟩; refine ⟨_, rfl, ?_⟩; have n0_ := As.mk (Kd.R_below (rup HO_408002.out) hb); have n1_ := As.mk (Kd.R_below (rup HO_409002.out) hb); have n2_ := As.mk (Kd.R_elder' (rup HO434.out) (Kd.R_base ho0) hb); have n3_ := As.mk (Kd.R_elder' (rup HO437.out) (Kd.R_base ho0) hb); have n4_ := As.mk (Kd.R_elder' (rup HO441.out) (Kd.R_base ho0) hb); have n5_ := As.mk (Kd.R_elder' (rup HO444.out) (Kd.R_base ho0) hb); have n6_ := As.mk (Kd.R_lower (Kd.R_new' (Kd.R_new' (Kd.R_new' (Kd.R_new' ho0 (Kd.R_lt (rup HO434.out))) (Kd.R_lt (rup HO437.out))) (Kd.R_lt (rup HO441.out))) (Kd.R_lt (rup HO444.out))) (below_size (hup2 HB.out GE407.out GE408.out))); have n7_ := As.mk (blk_below (g := gb315) (o := .cells #[.int .i64 0, .int .i64 0, .slice none 0 0] 33 (0, 0)) (bup BK315.out) hb); have n8_ := As.mk (blk_below (g := gb407) (o := .cells #[.int .i64 1024, .int .i64 1024, .slice Ao596 x408002_3.length co596] 33 (0, 0)) (bup BK407.out) hb); have n9_ := As.mk (blk_below (g := gb408) (o := .cells #[.int .i64 1024, .int .i64 1024, .slice Ao602 x409002_3.length co602] 33 (0, 0)) (bup BK408.out) hb); have n10_ := As.mk (below_step (hup2 HB.out GE407.out GE408.out) hb); clear HO_408002; clear HO_409002; clear HO434; clear HO437; clear HO441; clear HO444; clear BK315; clear BK407; clear BK408; clear HB; have HO_408002 := n0_; have HO_409002 := n1_; have HO434 := n2_; have HO437 := n3_; have HO441 := n4_; have HO444 := n5_; have HO448 := n6_; have BK315 := n7_; have BK407 := n8_; have BK408 := n9_; have HB := n10_; clear n0_ n1_ n2_ n3_ n4_ n5_ n6_ n7_ n8_ n9_ n10_; (try clear hb); (try clear hb2); (try clear hk); (try clear hi); (try clear ho0)))
 (try simp only [Act.put, List.setIfInBounds_toArray, List.set_cons_zero, List.set_cons_succ])
 go_cut [458] (fun v458 wc => ∃ (kq : Nat) (x458_591 : Bool), v458 = .bool x458_591 ∧ As (mE.j3 kq t446 x458_591 = some r) ∧ As (kq ≤ k3) ∧ As (Kd.R (Kd.int .i64) 3 wc w.heap.size (fun _ => True) v447 t446) ∧ As (Kd.R k40 40 wc w.heap.size (fun k_ => some k_ ≠ ((.slice Ao602 x409002_3.length co602) : Value).ownBlock) (.slice Ao596 x408002_3.length co596) x408002_3) ∧ As (Kd.R k40 40 wc w.heap.size (fun k_ => some k_ ≠ ((.slice Ao596 x408002_3.length co596) : Value).ownBlock) (.slice Ao602 x409002_3.length co602) x409002_3) ∧ As (wc.heap[gb315]? = some (.cells #[.int .i64 0, .int .i64 0, (.slice none 0 0)] 33 (0, 0))) ∧ As (wc.heap[gb407]? = some (.cells #[.int .i64 1024, .int .i64 1024, (.slice Ao596 x408002_3.length co596)] 33 (0, 0))) ∧ As (wc.heap[gb408]? = some (.cells #[.int .i64 1024, .int .i64 1024, (.slice Ao602 x409002_3.length co602)] 33 (0, 0))) ∧ As (Below w.heap.size w wc))
 case first =>
  have H := HC592.out
  clear HC592
  by_cases c606 : t430 = 1023
  ·rw [if_pos c606] at H
   have c606b0 : (t430 == 1023) = true := beq_iff_eq.mpr c606
   have c606b1 : (t430 != 1023) = false := bne_eq_false_iff_eq.mpr c606
   clear c606
   (first | rw [c606b0] | (simp only [i64_w, i32_w]; rw [c606b0]) | skip)
   by_cases c607 : t431 = 0
   ·rw [if_pos c607] at H
    have c607b0 : (t431 == 0) = true := beq_iff_eq.mpr c607
    have c607b1 : (t431 != 0) = false := bne_eq_false_iff_eq.mpr c607
    clear c607
    by_cases c608 : (t432.length : Int) = 1024
    ·rw [if_pos c608] at H
     have c608b0 : ((t432.length : Int) == 1024) = true := beq_iff_eq.mpr c608
     have c608b1 : ((t432.length : Int) != 1024) = false := bne_eq_false_iff_eq.mpr c608
     clear c608
     by_cases c609 : (t435.length : Int) = 1
     ·rw [if_pos c609] at H
      have c609b0 : ((t435.length : Int) == 1) = true := beq_iff_eq.mpr c609
      have c609b1 : ((t435.length : Int) != 1) = false := bne_eq_false_iff_eq.mpr c609
      clear c609
      by_cases c610 : 0 < (t435.length : Int)
      ·rw [if_pos c610] at H
       have c610b0 : decide (0 < (t435.length : Int)) = true := decide_eq_true c610
       have c610b1 : decide (0 < t435.length) = true := decide_eq_true (by omega)
       clear c610
       by_cases c611 : (rd t435 0) = 1023
       ·rw [if_pos c611] at H
        have c611b0 : ((rd t435 0) == 1023) = true := beq_iff_eq.mpr c611
        have c611b1 : ((rd t435 0) != 1023) = false := bne_eq_false_iff_eq.mpr c611
        clear c611
        by_cases c612 : t438 = 0
        ·rw [if_pos c612] at H
         have c612b0 : (t438 == 0) = true := beq_iff_eq.mpr c612
         have c612b1 : (t438 != 0) = false := bne_eq_false_iff_eq.mpr c612
         clear c612
         by_cases c613 : (t439.length : Int) = 0
         ·rw [if_pos c613] at H
          have c613b0 : ((t439.length : Int) == 0) = true := beq_iff_eq.mpr c613
          have c613b1 : ((t439.length : Int) != 0) = false := bne_eq_false_iff_eq.mpr c613
          clear c613
          obtain ⟨y451, hy451⟩ : ∃ y_ : List Int, y_ = (([0] : List Int)) := ⟨_, rfl⟩
          replace H : ((torusref01_Same.f k3 t442 y451).bind fun t454 => (if t454 = true then (if t445 = 0 then (if t449 = 0 then (mE.j3 k3 t446 ((t446.length : Int) != 1024)) else (mE.j3 k3 t446 true)) else (mE.j3 k3 t446 true)) else (mE.j3 k3 t446 true))) = some r := by first | (rw [hy451]; with_reducible exact H) | (have H2_ := (Option.bind_some _ _).symm.trans H; rw [hy451]; with_reducible exact H2_) | (have H2_ := (Option.bind_some _ _).symm.trans H; with_reducible exact H2_) | with_reducible exact H | (rw [hy451]; exact H) | exact H
          have Ny451 := As.mk hy451
          clear hy451
          replace H := Option.bind_eq_some_iff.mp H
          obtain ⟨t454, A6140, H⟩ := H
          replace H : (if t454 = true then (if t445 = 0 then (if t449 = 0 then (mE.j3 k3 t446 ((t446.length : Int) != 1024)) else (mE.j3 k3 t446 true)) else (mE.j3 k3 t446 true)) else (mE.j3 k3 t446 true)) = some r := H
          have A614 := As.mk A6140
          clear A6140
          by_cases c615 : t454 = true
          ·subst c615
           have H1 : (if t445 = 0 then (if t449 = 0 then (mE.j3 k3 t446 ((t446.length : Int) != 1024)) else (mE.j3 k3 t446 true)) else (mE.j3 k3 t446 true)) = some r := by rw [if_pos rfl] at H; exact H
           clear H
           have H := H1
           clear H1
           by_cases c616 : t445 = 0
           ·rw [if_pos c616] at H
            have c616b0 : (t445 == 0) = true := beq_iff_eq.mpr c616
            have c616b1 : (t445 != 0) = false := bne_eq_false_iff_eq.mpr c616
            clear c616
            by_cases c617 : t449 = 0
            ·rw [if_pos c617] at H
             have c617b0 : (t449 == 0) = true := beq_iff_eq.mpr c617
             have c617b1 : (t449 != 0) = false := bne_eq_false_iff_eq.mpr c617
             clear c617
             have H' := As.mk H
             clear H
             obtain ⟨Ao618, co618, eo618⟩ := Kd.R_slice HO434.out
             subst eo618
             obtain ⟨Ao619, co619, eo619⟩ := Kd.R_slice HO437.out
             subst eo619
             have p450 : 0 ≤ (0 : Int) := (by omega)
             have q450 : 0 < (t435.length : Int) := of_decide_eq_true (by first | (with_reducible assumption) | assumption)
             obtain ⟨ad450, e450, hx450_0⟩ := Kd.at_int (Kd.R_reads' HO437.out).2.2 0 p450 q450
             cases e450
             have qi450 : (0 < t435.length) = True := eq_true (by omega)
             (try rw [show ((0 : Int)).toNat = 0 from rfl] at hx450_0)
             (try rw [Addr.add_zero'] at hx450_0)
             replace p450 := eq_true p450
             replace q450 := eq_true q450
             obtain ⟨Ao620, co620, eo620⟩ := Kd.R_slice HO441.out
             subst eo620
             go_wp2_with (first | ((with_reducible refine gate_dst (N := 442) rfl ?_); (try (refine gate_guard (by rfl) ?_; dsimp only)); refine Kd.R_lit (Kd.int .i64) _ 3 ?hg (N := 442) ?hd (xs := ([0] : List Int)) (inner := [.int .i64 0]) (ok := fun _ => True) (okp := fun _ => True) ?hr ?hp (fun _ hk => hk) trivial (Below.refl _ _) (Nat.le_refl _) (by simp) ?_; (case hd => rfl); (case hg => rfl); (case hr => first | (go_simp; done) | (go_simp; rfl)); (case hp => exact (Reps.one (show Kd.M (Kd.int .i64) _ _ _ 0 [.int .i64 0] from rfl) (Reps.none _ _))); intro v452 w621 ho622 hb hg_ hnew_; clear hg_ hnew_; (first | rw [← Ny451.out] at ho622 | (simp only [Int.reduceToNat] at ho622; rw [← Ny451.out] at ho622)); have n0_ := As.mk (Kd.R_below (rup HO_408002.out) hb); have n1_ := As.mk (Kd.R_below (rup HO_409002.out) hb); have n2_ := As.mk (Kd.R_elder' (rup HO434.out) (Kd.R_base ho622) hb); have n3_ := As.mk (Kd.R_elder' (rup HO437.out) (Kd.R_base ho622) hb); have n4_ := As.mk (Kd.R_elder' (rup HO441.out) (Kd.R_base ho622) hb); have n5_ := As.mk (Kd.R_elder' (rup HO444.out) (Kd.R_base ho622) hb); have n6_ := As.mk (Kd.R_elder' (rup HO448.out) (Kd.R_base ho622) hb); have n7_ := As.mk (Kd.R_lower (Kd.R_new' (Kd.R_new' (Kd.R_new' (Kd.R_new' (Kd.R_new' ho622 (Kd.R_lt (rup HO434.out))) (Kd.R_lt (rup HO437.out))) (Kd.R_lt (rup HO441.out))) (Kd.R_lt (rup HO444.out))) (Kd.R_lt (rup HO448.out))) (below_size (hup2 HB.out GE407.out GE408.out))); have n8_ := As.mk (blk_below (g := gb315) (o := .cells #[.int .i64 0, .int .i64 0, .slice none 0 0] 33 (0, 0)) (bup BK315.out) hb); have n9_ := As.mk (blk_below (g := gb407) (o := .cells #[.int .i64 1024, .int .i64 1024, .slice Ao596 x408002_3.length co596] 33 (0, 0)) (bup BK407.out) hb); have n10_ := As.mk (blk_below (g := gb408) (o := .cells #[.int .i64 1024, .int .i64 1024, .slice Ao602 x409002_3.length co602] 33 (0, 0)) (bup BK408.out) hb); have n11_ := As.mk (below_step (hup2 HB.out GE407.out GE408.out) hb); clear HO_408002; clear HO_409002; clear HO434; clear HO437; clear HO441; clear HO444; clear HO448; clear BK315; clear BK407; clear BK408; clear HB; have HO_408002 := n0_; have HO_409002 := n1_; have HO434 := n2_; have HO437 := n3_; have HO441 := n4_; have HO444 := n5_; have HO448 := n6_; have HO453 := n7_; have BK315 := n8_; have BK407 := n9_; have BK408 := n10_; have HB := n11_; clear n0_ n1_ n2_ n3_ n4_ n5_ n6_ n7_ n8_ n9_ n10_ n11_; clear hb ho622; obtain ⟨Ao623, co623, eo623⟩ := Kd.R_slice HO444.out; subst eo623; obtain ⟨Ao624, co624, eo624⟩ := Kd.R_slice HO453.out; subst eo624) | (go_at_call 17; (with_reducible refine (torusref01_Same.calls k3 _ _ t442 _ _ y451 true _ ?side1 ?side2 ?side3 ?side4 A614.out).mono ?_); (case side1 => repeat (first | exact (Kd.R_reads' HO444.out).2.2 | (with_reducible refine Kd.C_alloc ?_ _) | (with_reducible refine Kd.C_drewN ?_ _) | (with_reducible refine Kd.C_drew ?_))); (case side2 => exact (Kd.R_reads' HO444.out).2.1); (case side3 => repeat (first | exact (Kd.R_reads' HO453.out).2.2 | (with_reducible refine Kd.C_alloc ?_ _) | (with_reducible refine Kd.C_drewN ?_ _) | (with_reducible refine Kd.C_drew ?_))); (case side4 => exact (Kd.R_reads' HO453.out).2.1); rintro e w' ⟨rfl, ⟨nd, rfl⟩⟩; obtain ⟨Ao625, co625, eo625⟩ := Kd.R_slice HO448.out; subst eo625))
             go_meet
             case rel => exact ⟨_, (((t446.length : Int) != 1024)), (by first | rfl | (simp; done) | (simp [*]; done)), H', ⟨by first | omega | exact Nat.le_refl _⟩, ⟨by (with_reducible repeat (first | apply Kd.R_alloc | apply Kd.R_drewN | apply Kd.R_drew)); exact Kd.R_mono HO448.out (fun _ hk => trivial)⟩, ⟨by (with_reducible repeat (first | apply Kd.R_alloc | apply Kd.R_drewN | apply Kd.R_drew)); exact HO_408002.out⟩, ⟨by (with_reducible repeat (first | apply Kd.R_alloc | apply Kd.R_drewN | apply Kd.R_drew)); exact HO_409002.out⟩, ⟨by (with_reducible repeat (first | refine blk_drewN ?_ _ | refine blk_drew ?_ | refine blk_alloc ?_ _)); exact BK315.out⟩, ⟨by (with_reducible repeat (first | refine blk_drewN ?_ _ | refine blk_drew ?_ | refine blk_alloc ?_ _)); exact BK407.out⟩, ⟨by (with_reducible repeat (first | refine blk_drewN ?_ _ | refine blk_drew ?_ | refine blk_alloc ?_ _)); exact BK408.out⟩, ⟨by repeat (first | (with_reducible first | exact HB.out | apply below_alloc | apply pw_below_drewN | apply below_drew1 | refine below_set ?_ GE315.out | refine below_set ?_ GE407.out | refine below_set ?_ GE408.out) | exact HB.out)⟩⟩
            ·rw [if_neg c617] at H
             exact absurd H (by rw [hrt]; exact mE.j3_dead _ _)
           ·rw [if_neg c616] at H
            exact absurd H (by rw [hrt]; exact mE.j3_dead _ _)
          ·replace c615 := Bool.eq_false_iff.mpr c615
           subst c615
           have H1 : (mE.j3 k3 t446 true) = some r := by rw [if_neg (show ¬ (false = true) by decide)] at H; exact H
           clear H
           have H := H1
           clear H1
           exact absurd H (by rw [hrt]; exact mE.j3_dead _ _)
         ·rw [if_neg c613] at H
          exact absurd H (by rw [hrt]; exact mE.j3_dead _ _)
        ·rw [if_neg c612] at H
         exact absurd H (by rw [hrt]; exact mE.j3_dead _ _)
       ·rw [if_neg c611] at H
        exact absurd H (by rw [hrt]; exact mE.j3_dead _ _)
      ·rw [if_neg c610] at H
       exact absurd H (by simp)
     ·rw [if_neg c609] at H
      exact absurd H (by rw [hrt]; exact mE.j3_dead _ _)
    ·rw [if_neg c608] at H
     exact absurd H (by rw [hrt]; exact mE.j3_dead _ _)
   ·rw [if_neg c607] at H
    exact absurd H (by rw [hrt]; exact mE.j3_dead _ _)
  ·rw [if_neg c606] at H
   exact absurd H (by rw [hrt]; exact mE.j3_dead _ _)
 case rest =>
  clear HC592
  try clear c1
  try clear c2
  try clear p2
  try clear c3
  try clear c4
  try clear p4
  try clear q4
  try clear hx4
  try clear qi4
  try clear c5
  try clear c6
  try clear p6
  try clear c13
  try clear c21
  try clear c25
  try clear c27
  try clear c29
  try clear c30
  try clear c32
  try clear c33
  try clear c34
  try clear c35
  try clear c38
  try clear c38b0
  try clear c39
  try clear c40
  try clear c43
  try clear p45
  try clear q45
  try clear hx45
  try clear qi45
  try clear c52
  try clear c53
  try clear c54
  try clear c55
  try clear c56
  try clear c57
  try clear c58
  try clear c59
  try clear c60
  try clear c61
  try clear p64
  try clear c293
  try clear c293b0
  try clear c293b1
  try clear c293b2
  try clear c294
  try clear c294b0
  try clear c294b1
  try clear c295
  try clear c295b0
  try clear c295b1
  try clear c296
  try clear c296b0
  try clear c296b1
  try clear c296b2
  try clear c297
  try clear c297b0
  try clear c297b1
  try clear c299
  try clear c301
  try clear c302
  try clear c302b0
  try clear c302b1
  try clear c304
  try clear c305
  try clear c305b0
  try clear c305b1
  try clear c305b2
  try clear c306
  try clear c306b0
  try clear c306b1
  try clear c307
  try clear c308
  try clear c308b0
  try clear c308b1
  try clear c309
  try clear c325
  try clear c325b0
  try clear c325b1
  try clear c326
  try clear c342
  try clear c342b0
  try clear c342b1
  try clear c343
  try clear c359
  try clear c359b0
  try clear c359b1
  try clear p450
  try clear q450
  try clear hx450
  try clear qi450
  try clear c527
  try clear c530
  try clear c531
  try clear c533
  try clear c535
  try clear c535b0
  try clear c536
  try clear c536b0
  try clear c537
  try clear c538
  try clear c538b0
  try clear c539
  try clear c540
  try clear c541
  try clear c542
  try clear c550
  try clear c555
  try clear c556
  try clear c557
  try clear c562
  try clear c567
  try clear c567b0
  try clear c568
  try clear c569
  try clear c570
  try clear c571
  try clear c576
  try clear c581
  try clear c582
  try clear c583
  try clear c593
  try clear c594
  try clear c600
  try clear c606
  try clear c606b0
  try clear c606b1
  try clear c607
  try clear c607b0
  try clear c607b1
  try clear c608
  try clear c608b0
  try clear c608b1
  try clear c609
  try clear c609b0
  try clear c609b1
  try clear c610
  try clear c610b0
  try clear c610b1
  try clear c611
  try clear c611b0
  try clear c611b1
  try clear c612
  try clear c612b0
  try clear c612b1
  try clear c613
  try clear c613b0
  try clear c613b1
  try clear c613b2
  try clear c615
  try clear c616
  try clear c616b0
  try clear c616b1
  try clear c617
  try clear c617b0
  try clear c617b1
  try clear hcz255_0
  try clear hcz255_1
  try clear hcz255_2
  try clear hcz257_0
  try clear hcz257_1
  try clear hcz257_2
  try clear hcz259_0
  try clear hcz259_1
  try clear hcz259_2
  try clear hcz532_0
  try clear hcz532_1
  try clear hcz532_2
  try clear hcz534_0
  try clear hcz534_1
  try clear hcz534_2
  try clear hcz543_0
  try clear hcz543_1
  try clear hcz543_2
  try clear hcz546_0
  try clear hcz546_1
  try clear hcz546_2
  try clear hcz549_0
  try clear hcz549_1
  try clear hcz549_2
  try clear hcz551_0
  try clear hcz551_1
  try clear hcz551_2
  try clear hcz554_0
  try clear hcz554_1
  try clear hcz554_2
  try clear hcz558_0
  try clear hcz558_1
  try clear hcz558_2
  try clear hcz561_0
  try clear hcz561_1
  try clear hcz561_2
  try clear hcz563_0
  try clear hcz563_1
  try clear hcz563_2
  try clear hcz566_0
  try clear hcz566_1
  try clear hcz566_2
  try clear hcz572_0
  try clear hcz572_1
  try clear hcz572_2
  try clear hcz575_0
  try clear hcz575_1
  try clear hcz575_2
  try clear hcz577_0
  try clear hcz577_1
  try clear hcz577_2
  try clear hcz580_0
  try clear hcz580_1
  try clear hcz580_2
  try clear hcz584_0
  try clear hcz584_1
  try clear hcz584_2
  try clear hcz587_0
  try clear hcz587_1
  try clear hcz587_2
  try clear hcz595_0
  try clear hcz595_1
  try clear hcz595_2
  try clear hcz598_0
  try clear hcz598_1
  try clear hcz598_2
  try clear hcz601_0
  try clear hcz601_1
  try clear hcz601_2
  try clear hcz604_0
  try clear hcz604_1
  try clear hcz604_2
  try clear hfz255_0
  try clear hfz255_1
  try clear hfz255_2
  try clear hfz257_0
  try clear hfz257_1
  try clear hfz257_2
  try clear hfz259_0
  try clear hfz259_1
  try clear hfz259_2
  try clear hfz532_0
  try clear hfz532_1
  try clear hfz532_2
  try clear hfz534_0
  try clear hfz534_1
  try clear hfz534_2
  try clear hfz543_0
  try clear hfz543_1
  try clear hfz543_2
  try clear hfz546_0
  try clear hfz546_1
  try clear hfz546_2
  try clear hfz549_0
  try clear hfz549_1
  try clear hfz549_2
  try clear hfz551_0
  try clear hfz551_1
  try clear hfz551_2
  try clear hfz554_0
  try clear hfz554_1
  try clear hfz554_2
  try clear hfz558_0
  try clear hfz558_1
  try clear hfz558_2
  try clear hfz561_0
  try clear hfz561_1
  try clear hfz561_2
  try clear hfz563_0
  try clear hfz563_1
  try clear hfz563_2
  try clear hfz566_0
  try clear hfz566_1
  try clear hfz566_2
  try clear hfz572_0
  try clear hfz572_1
  try clear hfz572_2
  try clear hfz575_0
  try clear hfz575_1
  try clear hfz575_2
  try clear hfz577_0
  try clear hfz577_1
  try clear hfz577_2
  try clear hfz580_0
  try clear hfz580_1
  try clear hfz580_2
  try clear hfz584_0
  try clear hfz584_1
  try clear hfz584_2
  try clear hfz587_0
  try clear hfz587_1
  try clear hfz587_2
  try clear hfz595_0
  try clear hfz595_1
  try clear hfz595_2
  try clear hfz598_0
  try clear hfz598_1
  try clear hfz598_2
  try clear hfz601_0
  try clear hfz601_1
  try clear hfz601_2
  try clear hfz604_0
  try clear hfz604_1
  try clear hfz604_2
  try clear hx450_0
  try clear p2
  try clear p450
  try clear q450
  obtain ⟨kq, x458_591, rfl, HA, HJ591, HO_55, HO_408002, HO_409002, BK315, BK407, BK408, HB⟩ := hcut
  cases kq with
  | zero => exact absurd HA.out (by simp [mE.j3])
  | succ kj591 =>
   have H := HA.out
   clear HA
   simp only [mE.j3] at H
   by_cases c657 : x458_591 = true
   ·subst c657
    have H1 : (some false) = some r := by rw [if_pos rfl] at H; exact H
    clear H
    have H := H1
    clear H1
    exact absurd (Option.some.inj H) (by rw [hrt]; exact Bool.false_ne_true)
   ·replace c657 := Bool.eq_false_iff.mpr c657
    subst c657
    have H1 : (if 1024 ≤ 281474976710656 then (mE.l2 kj591 (List.replicate 1024 false) t446 (t446.length : Int) 0) else (none)) = some r := by rw [if_neg (show ¬ (false = true) by decide)] at H; exact H
    clear H
    have H := H1
    clear H1
    have HL := As.mk H
    clear H
    go_upto_region 44 with (fail)
    rename_i hK
    exact exD w r hrt kj591 gb315 gb407 gb408 x408002_3 x409002_3 t446 v447 HL HO_55 HO_408002 HO_409002 BK315 BK407 BK408 GE407 GE408 HB _ (by rfl) rfl rfl _ _ (by rfl) _ hK
end Go.Proofs.Ytlleokhmgblfnaa.M
end
