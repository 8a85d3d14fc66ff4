/- A part of the proof: texts of this seat joined (printed and by hand), without what is not used. -/
import Derived.Test.YtlleokhmgblfnaaBEx9
set_option linter.unusedVariables false
set_option linter.unusedSimpArgs false
set_option linter.unusedSectionVars false
section
namespace Go.Proofs.Ytlleokhmgblfnaa.M
open Go.RowKit Go.Proofs.YtlleokhmgblfnaaW.PrintWords Go.Proofs.YtlleokhmgblfnaaW.PrintLast Go.Proofs.YtlleokhmgblfnaaW.PrintMore
attribute [local go_sem] max2_int min2_int max_two min_two max_three min_three max_four min_four
set_option maxHeartbeats 8000000 in
set_option maxRecDepth 100000 in
theorem ExS0 (w : World) (y246 : List (S40)) (y249 : List (S40)) (y252 : List (S40)) (y255 : List (S40)) (y258 : List (S40)) (y261 : List (S40)) (y264 : List (S40)) (y267 : List (S40)) (y270 : List (S40)) (y273 : List (S62)) (a0_ : Act) (Q : Exit → Act → World → Prop) (hsz : a0_.tmps.size = 482) : ∀ ops, (Try.f11.body.bind fun c => opsIn c 3) = some ops → StepAt Try.prog ops Q mE.B3 exO (ExI w y246 y249 y252 y255 y258 y261 y264 y267 y270 y273 a0_) 0 := by
 refine stepAt_mk rfl ?_
 have hu33 := Try.underlying33
 have hu62 := Try.underlying62
 have hu40 := Try.underlying40
 rintro b a w' ⟨v247, v250, v253, v256, v259, v262, v265, v268, v271, v274, m5_, m6_, m8_, m9_, m12_, m13_, m16_, m17_, m21_, m22_, m26_, m27_, m31_, m32_, m37_, m38_, m42_, m43_, ha, Q_HB, Q_HO248, Q_HO251, Q_HO254, Q_HO257, Q_HO260, Q_HO263, Q_HO266, Q_HO269, Q_HO272, Q_HO275, Q_X5_, Q_X6_, Q_X8_, Q_X9_, Q_X12_, Q_X13_, Q_X16_, Q_X17_, Q_X21_, Q_X22_, Q_X26_, Q_X27_, Q_X31_, Q_X32_, Q_X37_, Q_X38_, Q_X42_, Q_X43_⟩ hb_ hon hoff
 refine ⟨_, rfl, fun K hK => ?_⟩
 replace ha := As.mk ha
 have HB := As.mk Q_HB
 refine value_ (w1 := w') (v := .agg #[.int .i64 (-1), .int .i64 0, .slice none 0 0]) (by rfl) rfl ?_ ?_
 ·go_simp
  (try simp only [i64_w])
  try rfl
 refine hK.out _ _ ⟨v247, v250, v253, v256, v259, v262, v265, v268, v271, v274, m5_, m6_, m8_, m9_, m12_, m13_, m16_, m17_, m21_, m22_, m26_, m27_, m31_, m32_, m37_, m38_, m42_, m43_, (by rw [ha.out]; exact putSel_upk 0 hb_ rfl rfl rfl), Q_HB, Q_HO248, Q_HO251, Q_HO254, Q_HO257, Q_HO260, Q_HO263, Q_HO266, Q_HO269, Q_HO272, fun h0_ => absurd ((hoff 44 (by kernel_rfl)).symm.trans h0_) (by decide), Q_X5_, Q_X6_, Q_X8_, Q_X9_, Q_X12_, Q_X13_, Q_X16_, Q_X17_, Q_X21_, Q_X22_, Q_X26_, Q_X27_, Q_X31_, Q_X32_, Q_X37_, Q_X38_, Q_X42_, Q_X43_⟩
set_option maxHeartbeats 8000000 in
set_option maxRecDepth 100000 in
theorem ExS1 (w : World) (y246 : List (S40)) (y249 : List (S40)) (y252 : List (S40)) (y255 : List (S40)) (y258 : List (S40)) (y261 : List (S40)) (y264 : List (S40)) (y267 : List (S40)) (y270 : List (S40)) (y273 : List (S62)) (a0_ : Act) (Q : Exit → Act → World → Prop) (hsz : a0_.tmps.size = 482) : ∀ ops, (Try.f11.body.bind fun c => opsIn c 3) = some ops → StepAt Try.prog ops Q mE.B3 exO (ExI w y246 y249 y252 y255 y258 y261 y264 y267 y270 y273 a0_) 1 := by
 refine stepAt_mk rfl ?_
 have hu33 := Try.underlying33
 have hu62 := Try.underlying62
 have hu40 := Try.underlying40
 rintro b a w' ⟨v247, v250, v253, v256, v259, v262, v265, v268, v271, v274, m5_, m6_, m8_, m9_, m12_, m13_, m16_, m17_, m21_, m22_, m26_, m27_, m31_, m32_, m37_, m38_, m42_, m43_, ha, Q_HB, Q_HO248, Q_HO251, Q_HO254, Q_HO257, Q_HO260, Q_HO263, Q_HO266, Q_HO269, Q_HO272, Q_HO275, Q_X5_, Q_X6_, Q_X8_, Q_X9_, Q_X12_, Q_X13_, Q_X16_, Q_X17_, Q_X21_, Q_X22_, Q_X26_, Q_X27_, Q_X31_, Q_X32_, Q_X37_, Q_X38_, Q_X42_, Q_X43_⟩ hb_ hon hoff
 refine ⟨_, rfl, fun K hK => ?_⟩
 have e66 : a.tmps[66]? = some (.agg #[.int .i64 (-1), .int .i64 0, .slice none 0 0]) := by rw [ha]; exact putSel_on (e := (0, 66, .agg #[.int .i64 (-1), .int .i64 0, .slice none 0 0])) 0 rfl rfl (hon 0 (by kernel_rfl)) (szb hsz rfl)
 replace ha := As.mk ha
 have HB := As.mk Q_HB
 refine value_ (w1 := w') (v := .agg #[.int .i64 (-1), .int .i64 0, .slice none 0 0, .int .i64 1]) (by rfl) rfl ?_ ?_
 ·go_simp
  (try simp only [i64_w])
  try rfl
 refine hK.out _ _ ⟨v247, v250, v253, v256, v259, v262, v265, v268, v271, v274, m5_, m6_, m8_, m9_, m12_, m13_, m16_, m17_, m21_, m22_, m26_, m27_, m31_, m32_, m37_, m38_, m42_, m43_, (by rw [ha.out]; exact putSel_upk 1 hb_ rfl rfl rfl), Q_HB, Q_HO248, Q_HO251, Q_HO254, Q_HO257, Q_HO260, Q_HO263, Q_HO266, Q_HO269, Q_HO272, fun h0_ => absurd ((hoff 44 (by kernel_rfl)).symm.trans h0_) (by decide), Q_X5_, Q_X6_, Q_X8_, Q_X9_, Q_X12_, Q_X13_, Q_X16_, Q_X17_, Q_X21_, Q_X22_, Q_X26_, Q_X27_, Q_X31_, Q_X32_, Q_X37_, Q_X38_, Q_X42_, Q_X43_⟩
set_option maxHeartbeats 8000000 in
set_option maxRecDepth 100000 in
theorem ExS2 (w : World) (y246 : List (S40)) (y249 : List (S40)) (y252 : List (S40)) (y255 : List (S40)) (y258 : List (S40)) (y261 : List (S40)) (y264 : List (S40)) (y267 : List (S40)) (y270 : List (S40)) (y273 : List (S62)) (a0_ : Act) (Q : Exit → Act → World → Prop) (hsz : a0_.tmps.size = 482) : ∀ ops, (Try.f11.body.bind fun c => opsIn c 3) = some ops → StepAt Try.prog ops Q mE.B3 exO (ExI w y246 y249 y252 y255 y258 y261 y264 y267 y270 y273 a0_) 2 := by
 refine stepAt_mk rfl ?_
 have hu33 := Try.underlying33
 have hu62 := Try.underlying62
 have hu40 := Try.underlying40
 rintro b a w' ⟨v247, v250, v253, v256, v259, v262, v265, v268, v271, v274, m5_, m6_, m8_, m9_, m12_, m13_, m16_, m17_, m21_, m22_, m26_, m27_, m31_, m32_, m37_, m38_, m42_, m43_, ha, Q_HB, Q_HO248, Q_HO251, Q_HO254, Q_HO257, Q_HO260, Q_HO263, Q_HO266, Q_HO269, Q_HO272, Q_HO275, Q_X5_, Q_X6_, Q_X8_, Q_X9_, Q_X12_, Q_X13_, Q_X16_, Q_X17_, Q_X21_, Q_X22_, Q_X26_, Q_X27_, Q_X31_, Q_X32_, Q_X37_, Q_X38_, Q_X42_, Q_X43_⟩ hb_ hon hoff
 refine ⟨_, rfl, fun K hK => ?_⟩
 replace ha := As.mk ha
 have HB := As.mk Q_HB
 refine value_ (w1 := w') (v := .agg #[.int .i64 0, .int .i64 1025, .slice none 0 0]) (by rfl) rfl ?_ ?_
 ·go_simp
  (try simp only [i64_w])
  try rfl
 refine hK.out _ _ ⟨v247, v250, v253, v256, v259, v262, v265, v268, v271, v274, m5_, m6_, m8_, m9_, m12_, m13_, m16_, m17_, m21_, m22_, m26_, m27_, m31_, m32_, m37_, m38_, m42_, m43_, (by rw [ha.out]; exact putSel_upk 2 hb_ rfl rfl rfl), Q_HB, Q_HO248, Q_HO251, Q_HO254, Q_HO257, Q_HO260, Q_HO263, Q_HO266, Q_HO269, Q_HO272, fun h0_ => absurd ((hoff 44 (by kernel_rfl)).symm.trans h0_) (by decide), Q_X5_, Q_X6_, Q_X8_, Q_X9_, Q_X12_, Q_X13_, Q_X16_, Q_X17_, Q_X21_, Q_X22_, Q_X26_, Q_X27_, Q_X31_, Q_X32_, Q_X37_, Q_X38_, Q_X42_, Q_X43_⟩
set_option maxHeartbeats 8000000 in
set_option maxRecDepth 100000 in
theorem ExS3 (w : World) (y246 : List (S40)) (y249 : List (S40)) (y252 : List (S40)) (y255 : List (S40)) (y258 : List (S40)) (y261 : List (S40)) (y264 : List (S40)) (y267 : List (S40)) (y270 : List (S40)) (y273 : List (S62)) (a0_ : Act) (Q : Exit → Act → World → Prop) (hsz : a0_.tmps.size = 482) : ∀ ops, (Try.f11.body.bind fun c => opsIn c 3) = some ops → StepAt Try.prog ops Q mE.B3 exO (ExI w y246 y249 y252 y255 y258 y261 y264 y267 y270 y273 a0_) 3 := by
 refine stepAt_mk rfl ?_
 have hu33 := Try.underlying33
 have hu62 := Try.underlying62
 have hu40 := Try.underlying40
 rintro b a w' ⟨v247, v250, v253, v256, v259, v262, v265, v268, v271, v274, m5_, m6_, m8_, m9_, m12_, m13_, m16_, m17_, m21_, m22_, m26_, m27_, m31_, m32_, m37_, m38_, m42_, m43_, ha, Q_HB, Q_HO248, Q_HO251, Q_HO254, Q_HO257, Q_HO260, Q_HO263, Q_HO266, Q_HO269, Q_HO272, Q_HO275, Q_X5_, Q_X6_, Q_X8_, Q_X9_, Q_X12_, Q_X13_, Q_X16_, Q_X17_, Q_X21_, Q_X22_, Q_X26_, Q_X27_, Q_X31_, Q_X32_, Q_X37_, Q_X38_, Q_X42_, Q_X43_⟩ hb_ hon hoff
 refine ⟨_, rfl, fun K hK => ?_⟩
 have e68 : a.tmps[68]? = some (.agg #[.int .i64 0, .int .i64 1025, .slice none 0 0]) := by rw [ha]; exact putSel_on (e := (2, 68, .agg #[.int .i64 0, .int .i64 1025, .slice none 0 0])) 2 rfl rfl (hon 2 (by kernel_rfl)) (szb hsz rfl)
 replace ha := As.mk ha
 have HB := As.mk Q_HB
 refine value_ (w1 := w') (v := .agg #[.int .i64 0, .int .i64 1025, .slice none 0 0, .int .i64 1]) (by rfl) rfl ?_ ?_
 ·go_simp
  (try simp only [i64_w])
  try rfl
 refine hK.out _ _ ⟨v247, v250, v253, v256, v259, v262, v265, v268, v271, v274, m5_, m6_, m8_, m9_, m12_, m13_, m16_, m17_, m21_, m22_, m26_, m27_, m31_, m32_, m37_, m38_, m42_, m43_, (by rw [ha.out]; exact putSel_upk 3 hb_ rfl rfl rfl), Q_HB, Q_HO248, Q_HO251, Q_HO254, Q_HO257, Q_HO260, Q_HO263, Q_HO266, Q_HO269, Q_HO272, fun h0_ => absurd ((hoff 44 (by kernel_rfl)).symm.trans h0_) (by decide), Q_X5_, Q_X6_, Q_X8_, Q_X9_, Q_X12_, Q_X13_, Q_X16_, Q_X17_, Q_X21_, Q_X22_, Q_X26_, Q_X27_, Q_X31_, Q_X32_, Q_X37_, Q_X38_, Q_X42_, Q_X43_⟩
set_option maxHeartbeats 8000000 in
set_option maxRecDepth 100000 in
theorem ExS4 (w : World) (y246 : List (S40)) (y249 : List (S40)) (y252 : List (S40)) (y255 : List (S40)) (y258 : List (S40)) (y261 : List (S40)) (y264 : List (S40)) (y267 : List (S40)) (y270 : List (S40)) (y273 : List (S62)) (Ny246 : As (y246 = List.replicate 65537 z40)) (a0_ : Act) (Q : Exit → Act → World → Prop) (hsz : a0_.tmps.size = 482) : ∀ ops, (Try.f11.body.bind fun c => opsIn c 3) = some ops → StepAt Try.prog ops Q mE.B3 exO (ExI w y246 y249 y252 y255 y258 y261 y264 y267 y270 y273 a0_) 4 := by
 refine stepAt_mk rfl ?_
 have hu33 := Try.underlying33
 have hu62 := Try.underlying62
 have hu40 := Try.underlying40
 rintro b a w' ⟨v247, v250, v253, v256, v259, v262, v265, v268, v271, v274, m5_, m6_, m8_, m9_, m12_, m13_, m16_, m17_, m21_, m22_, m26_, m27_, m31_, m32_, m37_, m38_, m42_, m43_, ha, Q_HB, Q_HO248, Q_HO251, Q_HO254, Q_HO257, Q_HO260, Q_HO263, Q_HO266, Q_HO269, Q_HO272, Q_HO275, Q_X5_, Q_X6_, Q_X8_, Q_X9_, Q_X12_, Q_X13_, Q_X16_, Q_X17_, Q_X21_, Q_X22_, Q_X26_, Q_X27_, Q_X31_, Q_X32_, Q_X37_, Q_X38_, Q_X42_, Q_X43_⟩ hb_ hon hoff
 refine ⟨_, rfl, fun K hK => ?_⟩
 replace ha := As.mk ha
 have HB := As.mk Q_HB
 refine Kd.R_make_step k40 _ 40 (by rfl) (N := 70) rfl 25 _ _ rfl 65537 rfl rfl Try.underlying25 (.agg #[(.int .i64 0), (.int .i64 0)]) 16 info40 rfl (by decide) (by omega) z40 (ok := fun _ => True) (okp := fun _ => True) (k40_mkM _ _ _ z40 ) (fun _ hk => hk) trivial (by omega) (by omega) (Below.refl _ _) (Nat.le_refl _) ?_
 intro v247 w6 ho7 hb hg_ hnew_
 clear hg_ hnew_
 (first | rw [← Ny246.out] at ho7 | (simp only [Int.reduceToNat] at ho7; rw [← Ny246.out] at ho7))
 have n0_ := As.mk (Kd.R_lower ho7 (below_size (hup0 HB.out)))
 have n1_ := As.mk (below_step (hup0 HB.out) hb)
 have z_HO251 := fun (h0_ : b 7 = true) (h1_ : b 44 = false) => (show Kd.R k40 40 w6 w.heap.size (fun _ => True) v250 y249 from by first | exact (Kd.R_elder' (by (with_reducible repeat (first | apply Kd.R_alloc | apply Kd.R_drewN | apply Kd.R_drew)); exact (Q_HO251 h0_ h1_)) (Kd.R_base ho7) hb) | exact Kd.R_mono (Kd.R_elder' (by (with_reducible repeat (first | apply Kd.R_alloc | apply Kd.R_drewN | apply Kd.R_drew)); exact (Q_HO251 h0_ h1_)) (Kd.R_base ho7) hb) (fun _ h_ => by first | trivial | exact h_ | exact h_.1))
 have z_HO254 := fun (h0_ : b 11 = true) (h1_ : b 44 = false) => (show Kd.R k40 40 w6 w.heap.size (fun _ => True) v253 y252 from by first | exact (Kd.R_elder' (by (with_reducible repeat (first | apply Kd.R_alloc | apply Kd.R_drewN | apply Kd.R_drew)); exact (Q_HO254 h0_ h1_)) (Kd.R_base ho7) hb) | exact Kd.R_mono (Kd.R_elder' (by (with_reducible repeat (first | apply Kd.R_alloc | apply Kd.R_drewN | apply Kd.R_drew)); exact (Q_HO254 h0_ h1_)) (Kd.R_base ho7) hb) (fun _ h_ => by first | trivial | exact h_ | exact h_.1))
 have z_HO257 := fun (h0_ : b 15 = true) (h1_ : b 44 = false) => (show Kd.R k40 40 w6 w.heap.size (fun _ => True) v256 y255 from by first | exact (Kd.R_elder' (by (with_reducible repeat (first | apply Kd.R_alloc | apply Kd.R_drewN | apply Kd.R_drew)); exact (Q_HO257 h0_ h1_)) (Kd.R_base ho7) hb) | exact Kd.R_mono (Kd.R_elder' (by (with_reducible repeat (first | apply Kd.R_alloc | apply Kd.R_drewN | apply Kd.R_drew)); exact (Q_HO257 h0_ h1_)) (Kd.R_base ho7) hb) (fun _ h_ => by first | trivial | exact h_ | exact h_.1))
 have z_HO260 := fun (h0_ : b 20 = true) (h1_ : b 44 = false) => (show Kd.R k40 40 w6 w.heap.size (fun _ => True) v259 y258 from by first | exact (Kd.R_elder' (by (with_reducible repeat (first | apply Kd.R_alloc | apply Kd.R_drewN | apply Kd.R_drew)); exact (Q_HO260 h0_ h1_)) (Kd.R_base ho7) hb) | exact Kd.R_mono (Kd.R_elder' (by (with_reducible repeat (first | apply Kd.R_alloc | apply Kd.R_drewN | apply Kd.R_drew)); exact (Q_HO260 h0_ h1_)) (Kd.R_base ho7) hb) (fun _ h_ => by first | trivial | exact h_ | exact h_.1))
 have z_HO263 := fun (h0_ : b 25 = true) (h1_ : b 44 = false) => (show Kd.R k40 40 w6 w.heap.size (fun _ => True) v262 y261 from by first | exact (Kd.R_elder' (by (with_reducible repeat (first | apply Kd.R_alloc | apply Kd.R_drewN | apply Kd.R_drew)); exact (Q_HO263 h0_ h1_)) (Kd.R_base ho7) hb) | exact Kd.R_mono (Kd.R_elder' (by (with_reducible repeat (first | apply Kd.R_alloc | apply Kd.R_drewN | apply Kd.R_drew)); exact (Q_HO263 h0_ h1_)) (Kd.R_base ho7) hb) (fun _ h_ => by first | trivial | exact h_ | exact h_.1))
 have z_HO266 := fun (h0_ : b 30 = true) (h1_ : b 44 = false) => (show Kd.R k40 40 w6 w.heap.size (fun _ => True) v265 y264 from by first | exact (Kd.R_elder' (by (with_reducible repeat (first | apply Kd.R_alloc | apply Kd.R_drewN | apply Kd.R_drew)); exact (Q_HO266 h0_ h1_)) (Kd.R_base ho7) hb) | exact Kd.R_mono (Kd.R_elder' (by (with_reducible repeat (first | apply Kd.R_alloc | apply Kd.R_drewN | apply Kd.R_drew)); exact (Q_HO266 h0_ h1_)) (Kd.R_base ho7) hb) (fun _ h_ => by first | trivial | exact h_ | exact h_.1))
 have z_HO269 := fun (h0_ : b 36 = true) (h1_ : b 44 = false) => (show Kd.R k40 40 w6 w.heap.size (fun _ => True) v268 y267 from by first | exact (Kd.R_elder' (by (with_reducible repeat (first | apply Kd.R_alloc | apply Kd.R_drewN | apply Kd.R_drew)); exact (Q_HO269 h0_ h1_)) (Kd.R_base ho7) hb) | exact Kd.R_mono (Kd.R_elder' (by (with_reducible repeat (first | apply Kd.R_alloc | apply Kd.R_drewN | apply Kd.R_drew)); exact (Q_HO269 h0_ h1_)) (Kd.R_base ho7) hb) (fun _ h_ => by first | trivial | exact h_ | exact h_.1))
 have z_HO272 := fun (h0_ : b 41 = true) (h1_ : b 44 = false) => (show Kd.R k40 40 w6 w.heap.size (fun _ => True) v271 y270 from by first | exact (Kd.R_elder' (by (with_reducible repeat (first | apply Kd.R_alloc | apply Kd.R_drewN | apply Kd.R_drew)); exact (Q_HO272 h0_ h1_)) (Kd.R_base ho7) hb) | exact Kd.R_mono (Kd.R_elder' (by (with_reducible repeat (first | apply Kd.R_alloc | apply Kd.R_drewN | apply Kd.R_drew)); exact (Q_HO272 h0_ h1_)) (Kd.R_base ho7) hb) (fun _ h_ => by first | trivial | exact h_ | exact h_.1))
 clear HB
 have HO248 := n0_
 have HB := n1_
 clear n0_ n1_
 clear hb ho7
 obtain ⟨Ao8, co8, eo8⟩ := Kd.R_slice HO248.out
 (first | subst eo8 | (injection eo8 with f1_ f2_ f3_; have f4_ := f1_.symm; have f5_ := f3_.symm; clear f1_ f2_ f3_; subst f4_; subst f5_))
 refine hK.out _ _ ⟨.slice Ao8 y246.length co8, v250, v253, v256, v259, v262, v265, v268, v271, v274, m5_, m6_, m8_, m9_, m12_, m13_, m16_, m17_, m21_, m22_, m26_, m27_, m31_, m32_, m37_, m38_, m42_, m43_, (by rw [ha.out]; exact putSel_upk 4 hb_ rfl rfl rfl), (hup0 HB.out), fun _ _ => (rup HO248.out), z_HO251, z_HO254, z_HO257, z_HO260, z_HO263, z_HO266, z_HO269, z_HO272, fun h0_ => absurd ((hoff 44 (by kernel_rfl)).symm.trans h0_) (by decide), fun h0_ => absurd ((hoff 5 (by kernel_rfl)).symm.trans h0_) (by decide), fun h0_ => absurd ((hoff 6 (by kernel_rfl)).symm.trans h0_) (by decide), Q_X8_, Q_X9_, Q_X12_, Q_X13_, Q_X16_, Q_X17_, Q_X21_, Q_X22_, Q_X26_, Q_X27_, Q_X31_, Q_X32_, Q_X37_, Q_X38_, Q_X42_, Q_X43_⟩
set_option maxHeartbeats 8000000 in
set_option maxRecDepth 100000 in
theorem ExS5 (w : World) (y246 : List (S40)) (y249 : List (S40)) (y252 : List (S40)) (y255 : List (S40)) (y258 : List (S40)) (y261 : List (S40)) (y264 : List (S40)) (y267 : List (S40)) (y270 : List (S40)) (y273 : List (S62)) (a0_ : Act) (Q : Exit → Act → World → Prop) (hsz : a0_.tmps.size = 482) : ∀ ops, (Try.f11.body.bind fun c => opsIn c 3) = some ops → StepAt Try.prog ops Q mE.B3 exO (ExI w y246 y249 y252 y255 y258 y261 y264 y267 y270 y273 a0_) 5 := by
 refine stepAt_mk rfl ?_
 have hu33 := Try.underlying33
 have hu62 := Try.underlying62
 have hu40 := Try.underlying40
 rintro b a w' ⟨v247, v250, v253, v256, v259, v262, v265, v268, v271, v274, m5_, m6_, m8_, m9_, m12_, m13_, m16_, m17_, m21_, m22_, m26_, m27_, m31_, m32_, m37_, m38_, m42_, m43_, ha, Q_HB, Q_HO248, Q_HO251, Q_HO254, Q_HO257, Q_HO260, Q_HO263, Q_HO266, Q_HO269, Q_HO272, Q_HO275, Q_X5_, Q_X6_, Q_X8_, Q_X9_, Q_X12_, Q_X13_, Q_X16_, Q_X17_, Q_X21_, Q_X22_, Q_X26_, Q_X27_, Q_X31_, Q_X32_, Q_X37_, Q_X38_, Q_X42_, Q_X43_⟩ hb_ hon hoff
 refine ⟨_, rfl, fun K hK => ?_⟩
 have e70 : a.tmps[70]? = some (v247) := by rw [ha]; exact putSel_on (e := (4, 70, v247)) 4 rfl rfl (hon 4 (by kernel_rfl)) (szb hsz rfl)
 replace ha := As.mk ha
 have HB := As.mk Q_HB
 have HO248 := As.mk (Q_HO248 (hon 4 (by kernel_rfl)) (hoff 44 (by kernel_rfl)))
 obtain ⟨Ao5_0, co5_0, eo_⟩ := Kd.R_slice HO248.out
 subst eo_
 refine value_ (w1 := w') (v := .agg #[.int .i64 (-1), .int .i64 0, .slice Ao5_0 y246.length co5_0]) (by rfl) rfl ?_ ?_
 ·go_simp
  (try simp only [i64_w])
  try rfl
 refine hK.out _ _ ⟨.slice Ao5_0 y246.length co5_0, v250, v253, v256, v259, v262, v265, v268, v271, v274, (.agg #[.int .i64 (-1), .int .i64 0, .slice Ao5_0 y246.length co5_0]), m6_, m8_, m9_, m12_, m13_, m16_, m17_, m21_, m22_, m26_, m27_, m31_, m32_, m37_, m38_, m42_, m43_, (by rw [ha.out]; exact putSel_upk 5 hb_ rfl rfl rfl), Q_HB, Q_HO248, Q_HO251, Q_HO254, Q_HO257, Q_HO260, Q_HO263, Q_HO266, Q_HO269, Q_HO272, fun h0_ => absurd ((hoff 44 (by kernel_rfl)).symm.trans h0_) (by decide), fun _ => rfl, fun h0_ => absurd ((hoff 6 (by kernel_rfl)).symm.trans h0_) (by decide), Q_X8_, Q_X9_, Q_X12_, Q_X13_, Q_X16_, Q_X17_, Q_X21_, Q_X22_, Q_X26_, Q_X27_, Q_X31_, Q_X32_, Q_X37_, Q_X38_, Q_X42_, Q_X43_⟩
set_option maxHeartbeats 8000000 in
set_option maxRecDepth 100000 in
theorem ExS6 (w : World) (y246 : List (S40)) (y249 : List (S40)) (y252 : List (S40)) (y255 : List (S40)) (y258 : List (S40)) (y261 : List (S40)) (y264 : List (S40)) (y267 : List (S40)) (y270 : List (S40)) (y273 : List (S62)) (a0_ : Act) (Q : Exit → Act → World → Prop) (hsz : a0_.tmps.size = 482) : ∀ ops, (Try.f11.body.bind fun c => opsIn c 3) = some ops → StepAt Try.prog ops Q mE.B3 exO (ExI w y246 y249 y252 y255 y258 y261 y264 y267 y270 y273 a0_) 6 := by
 refine stepAt_mk rfl ?_
 have hu33 := Try.underlying33
 have hu62 := Try.underlying62
 have hu40 := Try.underlying40
 rintro b a w' ⟨v247, v250, v253, v256, v259, v262, v265, v268, v271, v274, m5_, m6_, m8_, m9_, m12_, m13_, m16_, m17_, m21_, m22_, m26_, m27_, m31_, m32_, m37_, m38_, m42_, m43_, ha, Q_HB, Q_HO248, Q_HO251, Q_HO254, Q_HO257, Q_HO260, Q_HO263, Q_HO266, Q_HO269, Q_HO272, Q_HO275, Q_X5_, Q_X6_, Q_X8_, Q_X9_, Q_X12_, Q_X13_, Q_X16_, Q_X17_, Q_X21_, Q_X22_, Q_X26_, Q_X27_, Q_X31_, Q_X32_, Q_X37_, Q_X38_, Q_X42_, Q_X43_⟩ hb_ hon hoff
 refine ⟨_, rfl, fun K hK => ?_⟩
 have e71 : a.tmps[71]? = some (m5_) := by rw [ha]; exact putSel_on (e := (5, 71, m5_)) 5 rfl rfl (hon 5 (by kernel_rfl)) (szb hsz rfl)
 rw [Q_X5_ (hon 5 (by kernel_rfl))] at e71
 replace ha := As.mk ha
 have HB := As.mk Q_HB
 have HO248 := As.mk (Q_HO248 (hon 4 (by kernel_rfl)) (hoff 44 (by kernel_rfl)))
 obtain ⟨Ao6_0, co6_0, eo_⟩ := Kd.R_slice HO248.out
 subst eo_
 refine value_ (w1 := w') (v := .agg #[.int .i64 (-1), .int .i64 0, .slice Ao6_0 y246.length co6_0, .int .i64 1]) (by rfl) rfl ?_ ?_
 ·go_simp
  (try simp only [i64_w])
  try rfl
 refine hK.out _ _ ⟨.slice Ao6_0 y246.length co6_0, v250, v253, v256, v259, v262, v265, v268, v271, v274, m5_, (.agg #[.int .i64 (-1), .int .i64 0, .slice Ao6_0 y246.length co6_0, .int .i64 1]), m8_, m9_, m12_, m13_, m16_, m17_, m21_, m22_, m26_, m27_, m31_, m32_, m37_, m38_, m42_, m43_, (by rw [ha.out]; exact putSel_upk 6 hb_ rfl rfl rfl), Q_HB, Q_HO248, Q_HO251, Q_HO254, Q_HO257, Q_HO260, Q_HO263, Q_HO266, Q_HO269, Q_HO272, fun h0_ => absurd ((hoff 44 (by kernel_rfl)).symm.trans h0_) (by decide), Q_X5_, fun _ => rfl, Q_X8_, Q_X9_, Q_X12_, Q_X13_, Q_X16_, Q_X17_, Q_X21_, Q_X22_, Q_X26_, Q_X27_, Q_X31_, Q_X32_, Q_X37_, Q_X38_, Q_X42_, Q_X43_⟩
set_option maxHeartbeats 8000000 in
set_option maxRecDepth 100000 in
theorem ExS7 (w : World) (y246 : List (S40)) (y249 : List (S40)) (y252 : List (S40)) (y255 : List (S40)) (y258 : List (S40)) (y261 : List (S40)) (y264 : List (S40)) (y267 : List (S40)) (y270 : List (S40)) (y273 : List (S62)) (Ny249 : As (y249 = List.replicate 65537 z40)) (a0_ : Act) (Q : Exit → Act → World → Prop) (hsz : a0_.tmps.size = 482) : ∀ ops, (Try.f11.body.bind fun c => opsIn c 3) = some ops → StepAt Try.prog ops Q mE.B3 exO (ExI w y246 y249 y252 y255 y258 y261 y264 y267 y270 y273 a0_) 7 := by
 refine stepAt_mk rfl ?_
 have hu33 := Try.underlying33
 have hu62 := Try.underlying62
 have hu40 := Try.underlying40
 rintro b a w' ⟨v247, v250, v253, v256, v259, v262, v265, v268, v271, v274, m5_, m6_, m8_, m9_, m12_, m13_, m16_, m17_, m21_, m22_, m26_, m27_, m31_, m32_, m37_, m38_, m42_, m43_, ha, Q_HB, Q_HO248, Q_HO251, Q_HO254, Q_HO257, Q_HO260, Q_HO263, Q_HO266, Q_HO269, Q_HO272, Q_HO275, Q_X5_, Q_X6_, Q_X8_, Q_X9_, Q_X12_, Q_X13_, Q_X16_, Q_X17_, Q_X21_, Q_X22_, Q_X26_, Q_X27_, Q_X31_, Q_X32_, Q_X37_, Q_X38_, Q_X42_, Q_X43_⟩ hb_ hon hoff
 refine ⟨_, rfl, fun K hK => ?_⟩
 replace ha := As.mk ha
 have HB := As.mk Q_HB
 refine Kd.R_make_step k40 _ 40 (by rfl) (N := 73) rfl 25 _ _ rfl 65537 rfl rfl Try.underlying25 (.agg #[(.int .i64 0), (.int .i64 0)]) 16 info40 rfl (by decide) (by omega) z40 (ok := fun _ => True) (okp := fun _ => True) (k40_mkM _ _ _ z40 ) (fun _ hk => hk) trivial (by omega) (by omega) (Below.refl _ _) (Nat.le_refl _) ?_
 intro v250 w6 ho7 hb hg_ hnew_
 clear hg_ hnew_
 (first | rw [← Ny249.out] at ho7 | (simp only [Int.reduceToNat] at ho7; rw [← Ny249.out] at ho7))
 have n0_ := As.mk (Kd.R_lower ho7 (below_size (hup0 HB.out)))
 have n1_ := As.mk (below_step (hup0 HB.out) hb)
 have z_HO248 := fun (h0_ : b 4 = true) (h1_ : b 44 = false) => (show Kd.R k40 40 w6 w.heap.size (fun _ => True) v247 y246 from by first | exact (Kd.R_elder' (by (with_reducible repeat (first | apply Kd.R_alloc | apply Kd.R_drewN | apply Kd.R_drew)); exact (Q_HO248 h0_ h1_)) (Kd.R_base ho7) hb) | exact Kd.R_mono (Kd.R_elder' (by (with_reducible repeat (first | apply Kd.R_alloc | apply Kd.R_drewN | apply Kd.R_drew)); exact (Q_HO248 h0_ h1_)) (Kd.R_base ho7) hb) (fun _ h_ => by first | trivial | exact h_ | exact h_.1))
 have z_HO254 := fun (h0_ : b 11 = true) (h1_ : b 44 = false) => (show Kd.R k40 40 w6 w.heap.size (fun _ => True) v253 y252 from by first | exact (Kd.R_elder' (by (with_reducible repeat (first | apply Kd.R_alloc | apply Kd.R_drewN | apply Kd.R_drew)); exact (Q_HO254 h0_ h1_)) (Kd.R_base ho7) hb) | exact Kd.R_mono (Kd.R_elder' (by (with_reducible repeat (first | apply Kd.R_alloc | apply Kd.R_drewN | apply Kd.R_drew)); exact (Q_HO254 h0_ h1_)) (Kd.R_base ho7) hb) (fun _ h_ => by first | trivial | exact h_ | exact h_.1))
 have z_HO257 := fun (h0_ : b 15 = true) (h1_ : b 44 = false) => (show Kd.R k40 40 w6 w.heap.size (fun _ => True) v256 y255 from by first | exact (Kd.R_elder' (by (with_reducible repeat (first | apply Kd.R_alloc | apply Kd.R_drewN | apply Kd.R_drew)); exact (Q_HO257 h0_ h1_)) (Kd.R_base ho7) hb) | exact Kd.R_mono (Kd.R_elder' (by (with_reducible repeat (first | apply Kd.R_alloc | apply Kd.R_drewN | apply Kd.R_drew)); exact (Q_HO257 h0_ h1_)) (Kd.R_base ho7) hb) (fun _ h_ => by first | trivial | exact h_ | exact h_.1))
 have z_HO260 := fun (h0_ : b 20 = true) (h1_ : b 44 = false) => (show Kd.R k40 40 w6 w.heap.size (fun _ => True) v259 y258 from by first | exact (Kd.R_elder' (by (with_reducible repeat (first | apply Kd.R_alloc | apply Kd.R_drewN | apply Kd.R_drew)); exact (Q_HO260 h0_ h1_)) (Kd.R_base ho7) hb) | exact Kd.R_mono (Kd.R_elder' (by (with_reducible repeat (first | apply Kd.R_alloc | apply Kd.R_drewN | apply Kd.R_drew)); exact (Q_HO260 h0_ h1_)) (Kd.R_base ho7) hb) (fun _ h_ => by first | trivial | exact h_ | exact h_.1))
 have z_HO263 := fun (h0_ : b 25 = true) (h1_ : b 44 = false) => (show Kd.R k40 40 w6 w.heap.size (fun _ => True) v262 y261 from by first | exact (Kd.R_elder' (by (with_reducible repeat (first | apply Kd.R_alloc | apply Kd.R_drewN | apply Kd.R_drew)); exact (Q_HO263 h0_ h1_)) (Kd.R_base ho7) hb) | exact Kd.R_mono (Kd.R_elder' (by (with_reducible repeat (first | apply Kd.R_alloc | apply Kd.R_drewN | apply Kd.R_drew)); exact (Q_HO263 h0_ h1_)) (Kd.R_base ho7) hb) (fun _ h_ => by first | trivial | exact h_ | exact h_.1))
 have z_HO266 := fun (h0_ : b 30 = true) (h1_ : b 44 = false) => (show Kd.R k40 40 w6 w.heap.size (fun _ => True) v265 y264 from by first | exact (Kd.R_elder' (by (with_reducible repeat (first | apply Kd.R_alloc | apply Kd.R_drewN | apply Kd.R_drew)); exact (Q_HO266 h0_ h1_)) (Kd.R_base ho7) hb) | exact Kd.R_mono (Kd.R_elder' (by (with_reducible repeat (first | apply Kd.R_alloc | apply Kd.R_drewN | apply Kd.R_drew)); exact (Q_HO266 h0_ h1_)) (Kd.R_base ho7) hb) (fun _ h_ => by first | trivial | exact h_ | exact h_.1))
 have z_HO269 := fun (h0_ : b 36 = true) (h1_ : b 44 = false) => (show Kd.R k40 40 w6 w.heap.size (fun _ => True) v268 y267 from by first | exact (Kd.R_elder' (by (with_reducible repeat (first | apply Kd.R_alloc | apply Kd.R_drewN | apply Kd.R_drew)); exact (Q_HO269 h0_ h1_)) (Kd.R_base ho7) hb) | exact Kd.R_mono (Kd.R_elder' (by (with_reducible repeat (first | apply Kd.R_alloc | apply Kd.R_drewN | apply Kd.R_drew)); exact (Q_HO269 h0_ h1_)) (Kd.R_base ho7) hb) (fun _ h_ => by first | trivial | exact h_ | exact h_.1))
 have z_HO272 := fun (h0_ : b 41 = true) (h1_ : b 44 = false) => (show Kd.R k40 40 w6 w.heap.size (fun _ => True) v271 y270 from by first | exact (Kd.R_elder' (by (with_reducible repeat (first | apply Kd.R_alloc | apply Kd.R_drewN | apply Kd.R_drew)); exact (Q_HO272 h0_ h1_)) (Kd.R_base ho7) hb) | exact Kd.R_mono (Kd.R_elder' (by (with_reducible repeat (first | apply Kd.R_alloc | apply Kd.R_drewN | apply Kd.R_drew)); exact (Q_HO272 h0_ h1_)) (Kd.R_base ho7) hb) (fun _ h_ => by first | trivial | exact h_ | exact h_.1))
 clear HB
 have HO251 := n0_
 have HB := n1_
 clear n0_ n1_
 clear hb ho7
 obtain ⟨Ao8, co8, eo8⟩ := Kd.R_slice HO251.out
 (first | subst eo8 | (injection eo8 with f1_ f2_ f3_; have f4_ := f1_.symm; have f5_ := f3_.symm; clear f1_ f2_ f3_; subst f4_; subst f5_))
 refine hK.out _ _ ⟨v247, .slice Ao8 y249.length co8, v253, v256, v259, v262, v265, v268, v271, v274, m5_, m6_, m8_, m9_, m12_, m13_, m16_, m17_, m21_, m22_, m26_, m27_, m31_, m32_, m37_, m38_, m42_, m43_, (by rw [ha.out]; exact putSel_upk 7 hb_ rfl rfl rfl), (hup0 HB.out), z_HO248, fun _ _ => (rup HO251.out), z_HO254, z_HO257, z_HO260, z_HO263, z_HO266, z_HO269, z_HO272, fun h0_ => absurd ((hoff 44 (by kernel_rfl)).symm.trans h0_) (by decide), Q_X5_, Q_X6_, fun h0_ => absurd ((hoff 8 (by kernel_rfl)).symm.trans h0_) (by decide), fun h0_ => absurd ((hoff 9 (by kernel_rfl)).symm.trans h0_) (by decide), Q_X12_, Q_X13_, Q_X16_, Q_X17_, Q_X21_, Q_X22_, Q_X26_, Q_X27_, Q_X31_, Q_X32_, Q_X37_, Q_X38_, Q_X42_, Q_X43_⟩
set_option maxHeartbeats 8000000 in
set_option maxRecDepth 100000 in
theorem ExS8 (w : World) (y246 : List (S40)) (y249 : List (S40)) (y252 : List (S40)) (y255 : List (S40)) (y258 : List (S40)) (y261 : List (S40)) (y264 : List (S40)) (y267 : List (S40)) (y270 : List (S40)) (y273 : List (S62)) (a0_ : Act) (Q : Exit → Act → World → Prop) (hsz : a0_.tmps.size = 482) : ∀ ops, (Try.f11.body.bind fun c => opsIn c 3) = some ops → StepAt Try.prog ops Q mE.B3 exO (ExI w y246 y249 y252 y255 y258 y261 y264 y267 y270 y273 a0_) 8 := by
 refine stepAt_mk rfl ?_
 have hu33 := Try.underlying33
 have hu62 := Try.underlying62
 have hu40 := Try.underlying40
 rintro b a w' ⟨v247, v250, v253, v256, v259, v262, v265, v268, v271, v274, m5_, m6_, m8_, m9_, m12_, m13_, m16_, m17_, m21_, m22_, m26_, m27_, m31_, m32_, m37_, m38_, m42_, m43_, ha, Q_HB, Q_HO248, Q_HO251, Q_HO254, Q_HO257, Q_HO260, Q_HO263, Q_HO266, Q_HO269, Q_HO272, Q_HO275, Q_X5_, Q_X6_, Q_X8_, Q_X9_, Q_X12_, Q_X13_, Q_X16_, Q_X17_, Q_X21_, Q_X22_, Q_X26_, Q_X27_, Q_X31_, Q_X32_, Q_X37_, Q_X38_, Q_X42_, Q_X43_⟩ hb_ hon hoff
 refine ⟨_, rfl, fun K hK => ?_⟩
 have e73 : a.tmps[73]? = some (v250) := by rw [ha]; exact putSel_on (e := (7, 73, v250)) 7 rfl rfl (hon 7 (by kernel_rfl)) (szb hsz rfl)
 replace ha := As.mk ha
 have HB := As.mk Q_HB
 have HO251 := As.mk (Q_HO251 (hon 7 (by kernel_rfl)) (hoff 44 (by kernel_rfl)))
 obtain ⟨Ao8_0, co8_0, eo_⟩ := Kd.R_slice HO251.out
 subst eo_
 refine value_ (w1 := w') (v := .agg #[.int .i64 0, .int .i64 0, .slice Ao8_0 y249.length co8_0]) (by rfl) rfl ?_ ?_
 ·go_simp
  (try simp only [i64_w])
  try rfl
 refine hK.out _ _ ⟨v247, .slice Ao8_0 y249.length co8_0, v253, v256, v259, v262, v265, v268, v271, v274, m5_, m6_, (.agg #[.int .i64 0, .int .i64 0, .slice Ao8_0 y249.length co8_0]), m9_, m12_, m13_, m16_, m17_, m21_, m22_, m26_, m27_, m31_, m32_, m37_, m38_, m42_, m43_, (by rw [ha.out]; exact putSel_upk 8 hb_ rfl rfl rfl), Q_HB, Q_HO248, Q_HO251, Q_HO254, Q_HO257, Q_HO260, Q_HO263, Q_HO266, Q_HO269, Q_HO272, fun h0_ => absurd ((hoff 44 (by kernel_rfl)).symm.trans h0_) (by decide), Q_X5_, Q_X6_, fun _ => rfl, fun h0_ => absurd ((hoff 9 (by kernel_rfl)).symm.trans h0_) (by decide), Q_X12_, Q_X13_, Q_X16_, Q_X17_, Q_X21_, Q_X22_, Q_X26_, Q_X27_, Q_X31_, Q_X32_, Q_X37_, Q_X38_, Q_X42_, Q_X43_⟩
set_option maxHeartbeats 8000000 in
set_option maxRecDepth 100000 in
theorem ExS9 (w : World) (y246 : List (S40)) (y249 : List (S40)) (y252 : List (S40)) (y255 : List (S40)) (y258 : List (S40)) (y261 : List (S40)) (y264 : List (S40)) (y267 : List (S40)) (y270 : List (S40)) (y273 : List (S62)) (a0_ : Act) (Q : Exit → Act → World → Prop) (hsz : a0_.tmps.size = 482) : ∀ ops, (Try.f11.body.bind fun c => opsIn c 3) = some ops → StepAt Try.prog ops Q mE.B3 exO (ExI w y246 y249 y252 y255 y258 y261 y264 y267 y270 y273 a0_) 9 := by
 refine stepAt_mk rfl ?_
 have hu33 := Try.underlying33
 have hu62 := Try.underlying62
 have hu40 := Try.underlying40
 rintro b a w' ⟨v247, v250, v253, v256, v259, v262, v265, v268, v271, v274, m5_, m6_, m8_, m9_, m12_, m13_, m16_, m17_, m21_, m22_, m26_, m27_, m31_, m32_, m37_, m38_, m42_, m43_, ha, Q_HB, Q_HO248, Q_HO251, Q_HO254, Q_HO257, Q_HO260, Q_HO263, Q_HO266, Q_HO269, Q_HO272, Q_HO275, Q_X5_, Q_X6_, Q_X8_, Q_X9_, Q_X12_, Q_X13_, Q_X16_, Q_X17_, Q_X21_, Q_X22_, Q_X26_, Q_X27_, Q_X31_, Q_X32_, Q_X37_, Q_X38_, Q_X42_, Q_X43_⟩ hb_ hon hoff
 refine ⟨_, rfl, fun K hK => ?_⟩
 have e74 : a.tmps[74]? = some (m8_) := by rw [ha]; exact putSel_on (e := (8, 74, m8_)) 8 rfl rfl (hon 8 (by kernel_rfl)) (szb hsz rfl)
 rw [Q_X8_ (hon 8 (by kernel_rfl))] at e74
 replace ha := As.mk ha
 have HB := As.mk Q_HB
 have HO251 := As.mk (Q_HO251 (hon 7 (by kernel_rfl)) (hoff 44 (by kernel_rfl)))
 obtain ⟨Ao9_0, co9_0, eo_⟩ := Kd.R_slice HO251.out
 subst eo_
 refine value_ (w1 := w') (v := .agg #[.int .i64 0, .int .i64 0, .slice Ao9_0 y249.length co9_0, .int .i64 3]) (by rfl) rfl ?_ ?_
 ·go_simp
  (try simp only [i64_w])
  try rfl
 refine hK.out _ _ ⟨v247, .slice Ao9_0 y249.length co9_0, v253, v256, v259, v262, v265, v268, v271, v274, m5_, m6_, m8_, (.agg #[.int .i64 0, .int .i64 0, .slice Ao9_0 y249.length co9_0, .int .i64 3]), m12_, m13_, m16_, m17_, m21_, m22_, m26_, m27_, m31_, m32_, m37_, m38_, m42_, m43_, (by rw [ha.out]; exact putSel_upk 9 hb_ rfl rfl rfl), Q_HB, Q_HO248, Q_HO251, Q_HO254, Q_HO257, Q_HO260, Q_HO263, Q_HO266, Q_HO269, Q_HO272, fun h0_ => absurd ((hoff 44 (by kernel_rfl)).symm.trans h0_) (by decide), Q_X5_, Q_X6_, Q_X8_, fun _ => rfl, Q_X12_, Q_X13_, Q_X16_, Q_X17_, Q_X21_, Q_X22_, Q_X26_, Q_X27_, Q_X31_, Q_X32_, Q_X37_, Q_X38_, Q_X42_, Q_X43_⟩
set_option maxHeartbeats 8000000 in
set_option maxRecDepth 100000 in
theorem ExS10 (w : World) (y246 : List (S40)) (y249 : List (S40)) (y252 : List (S40)) (y255 : List (S40)) (y258 : List (S40)) (y261 : List (S40)) (y264 : List (S40)) (y267 : List (S40)) (y270 : List (S40)) (y273 : List (S62)) (a0_ : Act) (Q : Exit → Act → World → Prop) (hsz : a0_.tmps.size = 482) : ∀ ops, (Try.f11.body.bind fun c => opsIn c 3) = some ops → StepAt Try.prog ops Q mE.B3 exO (ExI w y246 y249 y252 y255 y258 y261 y264 y267 y270 y273 a0_) 10 := by
 refine stepAt_mk rfl ?_
 have hu33 := Try.underlying33
 have hu62 := Try.underlying62
 have hu40 := Try.underlying40
 rintro b a w' ⟨v247, v250, v253, v256, v259, v262, v265, v268, v271, v274, m5_, m6_, m8_, m9_, m12_, m13_, m16_, m17_, m21_, m22_, m26_, m27_, m31_, m32_, m37_, m38_, m42_, m43_, ha, Q_HB, Q_HO248, Q_HO251, Q_HO254, Q_HO257, Q_HO260, Q_HO263, Q_HO266, Q_HO269, Q_HO272, Q_HO275, Q_X5_, Q_X6_, Q_X8_, Q_X9_, Q_X12_, Q_X13_, Q_X16_, Q_X17_, Q_X21_, Q_X22_, Q_X26_, Q_X27_, Q_X31_, Q_X32_, Q_X37_, Q_X38_, Q_X42_, Q_X43_⟩ hb_ hon hoff
 refine ⟨_, rfl, fun K hK => ?_⟩
 replace ha := As.mk ha
 have HB := As.mk Q_HB
 refine value_ (w1 := w') (v := .agg #[.int .i64 0, .int .i64 1]) (by rfl) rfl ?_ ?_
 ·go_simp
  (try simp only [i64_w])
  try rfl
 refine hK.out _ _ ⟨v247, v250, v253, v256, v259, v262, v265, v268, v271, v274, m5_, m6_, m8_, m9_, m12_, m13_, m16_, m17_, m21_, m22_, m26_, m27_, m31_, m32_, m37_, m38_, m42_, m43_, (by rw [ha.out]; exact putSel_upk 10 hb_ rfl rfl rfl), Q_HB, Q_HO248, Q_HO251, fun h0_ _ => absurd ((hoff 11 (by kernel_rfl)).symm.trans h0_) (by decide), Q_HO257, Q_HO260, Q_HO263, Q_HO266, Q_HO269, Q_HO272, fun h0_ => absurd ((hoff 44 (by kernel_rfl)).symm.trans h0_) (by decide), Q_X5_, Q_X6_, Q_X8_, Q_X9_, fun h0_ => absurd ((hoff 12 (by kernel_rfl)).symm.trans h0_) (by decide), fun h0_ => absurd ((hoff 13 (by kernel_rfl)).symm.trans h0_) (by decide), Q_X16_, Q_X17_, Q_X21_, Q_X22_, Q_X26_, Q_X27_, Q_X31_, Q_X32_, Q_X37_, Q_X38_, Q_X42_, Q_X43_⟩
set_option maxHeartbeats 8000000 in
set_option maxRecDepth 100000 in
theorem ExS11 (w : World) (y246 : List (S40)) (y249 : List (S40)) (y252 : List (S40)) (y255 : List (S40)) (y258 : List (S40)) (y261 : List (S40)) (y264 : List (S40)) (y267 : List (S40)) (y270 : List (S40)) (y273 : List (S62)) (Ny252 : As (y252 = ([(⟨0, 1⟩ : S40)] : List (S40)))) (a0_ : Act) (Q : Exit → Act → World → Prop) (hsz : a0_.tmps.size = 482) : ∀ ops, (Try.f11.body.bind fun c => opsIn c 3) = some ops → StepAt Try.prog ops Q mE.B3 exO (ExI w y246 y249 y252 y255 y258 y261 y264 y267 y270 y273 a0_) 11 := by
 refine stepAt_mk rfl ?_
 have hu33 := Try.underlying33
 have hu62 := Try.underlying62
 have hu40 := Try.underlying40
 rintro b a w' ⟨v247, v250, v253, v256, v259, v262, v265, v268, v271, v274, m5_, m6_, m8_, m9_, m12_, m13_, m16_, m17_, m21_, m22_, m26_, m27_, m31_, m32_, m37_, m38_, m42_, m43_, ha, Q_HB, Q_HO248, Q_HO251, Q_HO254, Q_HO257, Q_HO260, Q_HO263, Q_HO266, Q_HO269, Q_HO272, Q_HO275, Q_X5_, Q_X6_, Q_X8_, Q_X9_, Q_X12_, Q_X13_, Q_X16_, Q_X17_, Q_X21_, Q_X22_, Q_X26_, Q_X27_, Q_X31_, Q_X32_, Q_X37_, Q_X38_, Q_X42_, Q_X43_⟩ hb_ hon hoff
 refine ⟨_, rfl, fun K hK => ?_⟩
 have e76 : a.tmps[76]? = some (.agg #[.int .i64 0, .int .i64 1]) := by rw [ha]; exact putSel_on (e := (10, 76, .agg #[.int .i64 0, .int .i64 1])) 10 rfl rfl (hon 10 (by kernel_rfl)) (szb hsz rfl)
 replace ha := As.mk ha
 have HB := As.mk Q_HB
 refine Kd.R_lit_step k40 _ 40 ?hg (N := 77) ?hd (xs := ([(⟨0, 1⟩ : S40)] : List (S40))) (inner := [.int .i64 0, .int .i64 1]) (ok := fun _ => True) (okp := fun _ => True) ?hr ?hp (fun _ hk => hk) trivial (Below.refl _ _) (Nat.le_refl _) (by simp) ?_; (case hd => rfl); (case hg => rfl); (case hr => first | (go_simp; done) | (go_simp; rfl)); (case hp => exact (Reps.c2 (show Kd.M k40 _ _ _ (⟨0, 1⟩ : S40) [.int .i64 0, .int .i64 1] from (k40_mkM _ _ _ (⟨0, 1⟩ : S40) )) (Reps.none _ _)))
 intro v253 w6 ho7 hb hg_ hnew_
 clear hg_ hnew_
 (first | rw [← Ny252.out] at ho7 | (simp only [Int.reduceToNat] at ho7; rw [← Ny252.out] at ho7))
 have n0_ := As.mk (Kd.R_lower ho7 (below_size (hup0 HB.out)))
 have n1_ := As.mk (below_step (hup0 HB.out) hb)
 have z_HO248 := fun (h0_ : b 4 = true) (h1_ : b 44 = false) => (show Kd.R k40 40 w6 w.heap.size (fun _ => True) v247 y246 from by first | exact (Kd.R_elder' (by (with_reducible repeat (first | apply Kd.R_alloc | apply Kd.R_drewN | apply Kd.R_drew)); exact (Q_HO248 h0_ h1_)) (Kd.R_base ho7) hb) | exact Kd.R_mono (Kd.R_elder' (by (with_reducible repeat (first | apply Kd.R_alloc | apply Kd.R_drewN | apply Kd.R_drew)); exact (Q_HO248 h0_ h1_)) (Kd.R_base ho7) hb) (fun _ h_ => by first | trivial | exact h_ | exact h_.1))
 have z_HO251 := fun (h0_ : b 7 = true) (h1_ : b 44 = false) => (show Kd.R k40 40 w6 w.heap.size (fun _ => True) v250 y249 from by first | exact (Kd.R_elder' (by (with_reducible repeat (first | apply Kd.R_alloc | apply Kd.R_drewN | apply Kd.R_drew)); exact (Q_HO251 h0_ h1_)) (Kd.R_base ho7) hb) | exact Kd.R_mono (Kd.R_elder' (by (with_reducible repeat (first | apply Kd.R_alloc | apply Kd.R_drewN | apply Kd.R_drew)); exact (Q_HO251 h0_ h1_)) (Kd.R_base ho7) hb) (fun _ h_ => by first | trivial | exact h_ | exact h_.1))
 have z_HO257 := fun (h0_ : b 15 = true) (h1_ : b 44 = false) => (show Kd.R k40 40 w6 w.heap.size (fun _ => True) v256 y255 from by first | exact (Kd.R_elder' (by (with_reducible repeat (first | apply Kd.R_alloc | apply Kd.R_drewN | apply Kd.R_drew)); exact (Q_HO257 h0_ h1_)) (Kd.R_base ho7) hb) | exact Kd.R_mono (Kd.R_elder' (by (with_reducible repeat (first | apply Kd.R_alloc | apply Kd.R_drewN | apply Kd.R_drew)); exact (Q_HO257 h0_ h1_)) (Kd.R_base ho7) hb) (fun _ h_ => by first | trivial | exact h_ | exact h_.1))
 have z_HO260 := fun (h0_ : b 20 = true) (h1_ : b 44 = false) => (show Kd.R k40 40 w6 w.heap.size (fun _ => True) v259 y258 from by first | exact (Kd.R_elder' (by (with_reducible repeat (first | apply Kd.R_alloc | apply Kd.R_drewN | apply Kd.R_drew)); exact (Q_HO260 h0_ h1_)) (Kd.R_base ho7) hb) | exact Kd.R_mono (Kd.R_elder' (by (with_reducible repeat (first | apply Kd.R_alloc | apply Kd.R_drewN | apply Kd.R_drew)); exact (Q_HO260 h0_ h1_)) (Kd.R_base ho7) hb) (fun _ h_ => by first | trivial | exact h_ | exact h_.1))
 have z_HO263 := fun (h0_ : b 25 = true) (h1_ : b 44 = false) => (show Kd.R k40 40 w6 w.heap.size (fun _ => True) v262 y261 from by first | exact (Kd.R_elder' (by (with_reducible repeat (first | apply Kd.R_alloc | apply Kd.R_drewN | apply Kd.R_drew)); exact (Q_HO263 h0_ h1_)) (Kd.R_base ho7) hb) | exact Kd.R_mono (Kd.R_elder' (by (with_reducible repeat (first | apply Kd.R_alloc | apply Kd.R_drewN | apply Kd.R_drew)); exact (Q_HO263 h0_ h1_)) (Kd.R_base ho7) hb) (fun _ h_ => by first | trivial | exact h_ | exact h_.1))
 have z_HO266 := fun (h0_ : b 30 = true) (h1_ : b 44 = false) => (show Kd.R k40 40 w6 w.heap.size (fun _ => True) v265 y264 from by first | exact (Kd.R_elder' (by (with_reducible repeat (first | apply Kd.R_alloc | apply Kd.R_drewN | apply Kd.R_drew)); exact (Q_HO266 h0_ h1_)) (Kd.R_base ho7) hb) | exact Kd.R_mono (Kd.R_elder' (by (with_reducible repeat (first | apply Kd.R_alloc | apply Kd.R_drewN | apply Kd.R_drew)); exact (Q_HO266 h0_ h1_)) (Kd.R_base ho7) hb) (fun _ h_ => by first | trivial | exact h_ | exact h_.1))
 have z_HO269 := fun (h0_ : b 36 = true) (h1_ : b 44 = false) => (show Kd.R k40 40 w6 w.heap.size (fun _ => True) v268 y267 from by first | exact (Kd.R_elder' (by (with_reducible repeat (first | apply Kd.R_alloc | apply Kd.R_drewN | apply Kd.R_drew)); exact (Q_HO269 h0_ h1_)) (Kd.R_base ho7) hb) | exact Kd.R_mono (Kd.R_elder' (by (with_reducible repeat (first | apply Kd.R_alloc | apply Kd.R_drewN | apply Kd.R_drew)); exact (Q_HO269 h0_ h1_)) (Kd.R_base ho7) hb) (fun _ h_ => by first | trivial | exact h_ | exact h_.1))
 have z_HO272 := fun (h0_ : b 41 = true) (h1_ : b 44 = false) => (show Kd.R k40 40 w6 w.heap.size (fun _ => True) v271 y270 from by first | exact (Kd.R_elder' (by (with_reducible repeat (first | apply Kd.R_alloc | apply Kd.R_drewN | apply Kd.R_drew)); exact (Q_HO272 h0_ h1_)) (Kd.R_base ho7) hb) | exact Kd.R_mono (Kd.R_elder' (by (with_reducible repeat (first | apply Kd.R_alloc | apply Kd.R_drewN | apply Kd.R_drew)); exact (Q_HO272 h0_ h1_)) (Kd.R_base ho7) hb) (fun _ h_ => by first | trivial | exact h_ | exact h_.1))
 clear HB
 have HO254 := n0_
 have HB := n1_
 clear n0_ n1_
 clear hb ho7
 obtain ⟨Ao8, co8, eo8⟩ := Kd.R_slice HO254.out
 (first | subst eo8 | (injection eo8 with f1_ f2_ f3_; have f4_ := f1_.symm; have f5_ := f3_.symm; clear f1_ f2_ f3_; subst f4_; subst f5_))
 refine hK.out _ _ ⟨v247, v250, .slice Ao8 y252.length co8, v256, v259, v262, v265, v268, v271, v274, m5_, m6_, m8_, m9_, m12_, m13_, m16_, m17_, m21_, m22_, m26_, m27_, m31_, m32_, m37_, m38_, m42_, m43_, (by rw [ha.out]; exact putSel_upk 11 hb_ rfl rfl rfl), (hup0 HB.out), z_HO248, z_HO251, fun _ _ => (rup HO254.out), z_HO257, z_HO260, z_HO263, z_HO266, z_HO269, z_HO272, fun h0_ => absurd ((hoff 44 (by kernel_rfl)).symm.trans h0_) (by decide), Q_X5_, Q_X6_, Q_X8_, Q_X9_, fun h0_ => absurd ((hoff 12 (by kernel_rfl)).symm.trans h0_) (by decide), fun h0_ => absurd ((hoff 13 (by kernel_rfl)).symm.trans h0_) (by decide), Q_X16_, Q_X17_, Q_X21_, Q_X22_, Q_X26_, Q_X27_, Q_X31_, Q_X32_, Q_X37_, Q_X38_, Q_X42_, Q_X43_⟩
end Go.Proofs.Ytlleokhmgblfnaa.M
end

section
namespace Go.Proofs.Ytlleokhmgblfnaa.M
open Go.RowKit Go.Proofs.YtlleokhmgblfnaaW.PrintWords Go.Proofs.YtlleokhmgblfnaaW.PrintLast Go.Proofs.YtlleokhmgblfnaaW.PrintMore
attribute [local go_sem] max2_int min2_int max_two min_two max_three min_three max_four min_four
set_option maxHeartbeats 8000000 in
set_option maxRecDepth 100000 in
theorem ExS12 (w : World) (y246 : List (S40)) (y249 : List (S40)) (y252 : List (S40)) (y255 : List (S40)) (y258 : List (S40)) (y261 : List (S40)) (y264 : List (S40)) (y267 : List (S40)) (y270 : List (S40)) (y273 : List (S62)) (a0_ : Act) (Q : Exit → Act → World → Prop) (hsz : a0_.tmps.size = 482) : ∀ ops, (Try.f11.body.bind fun c => opsIn c 3) = some ops → StepAt Try.prog ops Q mE.B3 exO (ExI w y246 y249 y252 y255 y258 y261 y264 y267 y270 y273 a0_) 12 := by
 refine stepAt_mk rfl ?_
 have hu33 := Try.underlying33
 have hu62 := Try.underlying62
 have hu40 := Try.underlying40
 rintro b a w' ⟨v247, v250, v253, v256, v259, v262, v265, v268, v271, v274, m5_, m6_, m8_, m9_, m12_, m13_, m16_, m17_, m21_, m22_, m26_, m27_, m31_, m32_, m37_, m38_, m42_, m43_, ha, Q_HB, Q_HO248, Q_HO251, Q_HO254, Q_HO257, Q_HO260, Q_HO263, Q_HO266, Q_HO269, Q_HO272, Q_HO275, Q_X5_, Q_X6_, Q_X8_, Q_X9_, Q_X12_, Q_X13_, Q_X16_, Q_X17_, Q_X21_, Q_X22_, Q_X26_, Q_X27_, Q_X31_, Q_X32_, Q_X37_, Q_X38_, Q_X42_, Q_X43_⟩ hb_ hon hoff
 refine ⟨_, rfl, fun K hK => ?_⟩
 have e77 : a.tmps[77]? = some (v253) := by rw [ha]; exact putSel_on (e := (11, 77, v253)) 11 rfl rfl (hon 11 (by kernel_rfl)) (szb hsz rfl)
 replace ha := As.mk ha
 have HB := As.mk Q_HB
 have HO254 := As.mk (Q_HO254 (hon 11 (by kernel_rfl)) (hoff 44 (by kernel_rfl)))
 obtain ⟨Ao12_0, co12_0, eo_⟩ := Kd.R_slice HO254.out
 subst eo_
 refine value_ (w1 := w') (v := .agg #[.int .i64 1, .int .i64 1, .slice Ao12_0 y252.length co12_0]) (by rfl) rfl ?_ ?_
 ·go_simp
  (try simp only [i64_w])
  try rfl
 refine hK.out _ _ ⟨v247, v250, .slice Ao12_0 y252.length co12_0, v256, v259, v262, v265, v268, v271, v274, m5_, m6_, m8_, m9_, (.agg #[.int .i64 1, .int .i64 1, .slice Ao12_0 y252.length co12_0]), m13_, m16_, m17_, m21_, m22_, m26_, m27_, m31_, m32_, m37_, m38_, m42_, m43_, (by rw [ha.out]; exact putSel_upk 12 hb_ rfl rfl rfl), Q_HB, Q_HO248, Q_HO251, Q_HO254, Q_HO257, Q_HO260, Q_HO263, Q_HO266, Q_HO269, Q_HO272, fun h0_ => absurd ((hoff 44 (by kernel_rfl)).symm.trans h0_) (by decide), Q_X5_, Q_X6_, Q_X8_, Q_X9_, fun _ => rfl, fun h0_ => absurd ((hoff 13 (by kernel_rfl)).symm.trans h0_) (by decide), Q_X16_, Q_X17_, Q_X21_, Q_X22_, Q_X26_, Q_X27_, Q_X31_, Q_X32_, Q_X37_, Q_X38_, Q_X42_, Q_X43_⟩
set_option maxHeartbeats 8000000 in
set_option maxRecDepth 100000 in
theorem ExS13 (w : World) (y246 : List (S40)) (y249 : List (S40)) (y252 : List (S40)) (y255 : List (S40)) (y258 : List (S40)) (y261 : List (S40)) (y264 : List (S40)) (y267 : List (S40)) (y270 : List (S40)) (y273 : List (S62)) (a0_ : Act) (Q : Exit → Act → World → Prop) (hsz : a0_.tmps.size = 482) : ∀ ops, (Try.f11.body.bind fun c => opsIn c 3) = some ops → StepAt Try.prog ops Q mE.B3 exO (ExI w y246 y249 y252 y255 y258 y261 y264 y267 y270 y273 a0_) 13 := by
 refine stepAt_mk rfl ?_
 have hu33 := Try.underlying33
 have hu62 := Try.underlying62
 have hu40 := Try.underlying40
 rintro b a w' ⟨v247, v250, v253, v256, v259, v262, v265, v268, v271, v274, m5_, m6_, m8_, m9_, m12_, m13_, m16_, m17_, m21_, m22_, m26_, m27_, m31_, m32_, m37_, m38_, m42_, m43_, ha, Q_HB, Q_HO248, Q_HO251, Q_HO254, Q_HO257, Q_HO260, Q_HO263, Q_HO266, Q_HO269, Q_HO272, Q_HO275, Q_X5_, Q_X6_, Q_X8_, Q_X9_, Q_X12_, Q_X13_, Q_X16_, Q_X17_, Q_X21_, Q_X22_, Q_X26_, Q_X27_, Q_X31_, Q_X32_, Q_X37_, Q_X38_, Q_X42_, Q_X43_⟩ hb_ hon hoff
 refine ⟨_, rfl, fun K hK => ?_⟩
 have e78 : a.tmps[78]? = some (m12_) := by rw [ha]; exact putSel_on (e := (12, 78, m12_)) 12 rfl rfl (hon 12 (by kernel_rfl)) (szb hsz rfl)
 rw [Q_X12_ (hon 12 (by kernel_rfl))] at e78
 replace ha := As.mk ha
 have HB := As.mk Q_HB
 have HO254 := As.mk (Q_HO254 (hon 11 (by kernel_rfl)) (hoff 44 (by kernel_rfl)))
 obtain ⟨Ao13_0, co13_0, eo_⟩ := Kd.R_slice HO254.out
 subst eo_
 refine value_ (w1 := w') (v := .agg #[.int .i64 1, .int .i64 1, .slice Ao13_0 y252.length co13_0, .int .i64 1]) (by rfl) rfl ?_ ?_
 ·go_simp
  (try simp only [i64_w])
  try rfl
 refine hK.out _ _ ⟨v247, v250, .slice Ao13_0 y252.length co13_0, v256, v259, v262, v265, v268, v271, v274, m5_, m6_, m8_, m9_, m12_, (.agg #[.int .i64 1, .int .i64 1, .slice Ao13_0 y252.length co13_0, .int .i64 1]), m16_, m17_, m21_, m22_, m26_, m27_, m31_, m32_, m37_, m38_, m42_, m43_, (by rw [ha.out]; exact putSel_upk 13 hb_ rfl rfl rfl), Q_HB, Q_HO248, Q_HO251, Q_HO254, Q_HO257, Q_HO260, Q_HO263, Q_HO266, Q_HO269, Q_HO272, fun h0_ => absurd ((hoff 44 (by kernel_rfl)).symm.trans h0_) (by decide), Q_X5_, Q_X6_, Q_X8_, Q_X9_, Q_X12_, fun _ => rfl, Q_X16_, Q_X17_, Q_X21_, Q_X22_, Q_X26_, Q_X27_, Q_X31_, Q_X32_, Q_X37_, Q_X38_, Q_X42_, Q_X43_⟩
set_option maxHeartbeats 8000000 in
set_option maxRecDepth 100000 in
theorem ExS14 (w : World) (y246 : List (S40)) (y249 : List (S40)) (y252 : List (S40)) (y255 : List (S40)) (y258 : List (S40)) (y261 : List (S40)) (y264 : List (S40)) (y267 : List (S40)) (y270 : List (S40)) (y273 : List (S62)) (a0_ : Act) (Q : Exit → Act → World → Prop) (hsz : a0_.tmps.size = 482) : ∀ ops, (Try.f11.body.bind fun c => opsIn c 3) = some ops → StepAt Try.prog ops Q mE.B3 exO (ExI w y246 y249 y252 y255 y258 y261 y264 y267 y270 y273 a0_) 14 := by
 refine stepAt_mk rfl ?_
 have hu33 := Try.underlying33
 have hu62 := Try.underlying62
 have hu40 := Try.underlying40
 rintro b a w' ⟨v247, v250, v253, v256, v259, v262, v265, v268, v271, v274, m5_, m6_, m8_, m9_, m12_, m13_, m16_, m17_, m21_, m22_, m26_, m27_, m31_, m32_, m37_, m38_, m42_, m43_, ha, Q_HB, Q_HO248, Q_HO251, Q_HO254, Q_HO257, Q_HO260, Q_HO263, Q_HO266, Q_HO269, Q_HO272, Q_HO275, Q_X5_, Q_X6_, Q_X8_, Q_X9_, Q_X12_, Q_X13_, Q_X16_, Q_X17_, Q_X21_, Q_X22_, Q_X26_, Q_X27_, Q_X31_, Q_X32_, Q_X37_, Q_X38_, Q_X42_, Q_X43_⟩ hb_ hon hoff
 refine ⟨_, rfl, fun K hK => ?_⟩
 replace ha := As.mk ha
 have HB := As.mk Q_HB
 refine value_ (w1 := w') (v := .agg #[.int .i64 (-1), .int .i64 0]) (by rfl) rfl ?_ ?_
 ·go_simp
  (try simp only [i64_w])
  try rfl
 refine hK.out _ _ ⟨v247, v250, v253, v256, v259, v262, v265, v268, v271, v274, m5_, m6_, m8_, m9_, m12_, m13_, m16_, m17_, m21_, m22_, m26_, m27_, m31_, m32_, m37_, m38_, m42_, m43_, (by rw [ha.out]; exact putSel_upk 14 hb_ rfl rfl rfl), Q_HB, Q_HO248, Q_HO251, Q_HO254, fun h0_ _ => absurd ((hoff 15 (by kernel_rfl)).symm.trans h0_) (by decide), Q_HO260, Q_HO263, Q_HO266, Q_HO269, Q_HO272, fun h0_ => absurd ((hoff 44 (by kernel_rfl)).symm.trans h0_) (by decide), Q_X5_, Q_X6_, Q_X8_, Q_X9_, Q_X12_, Q_X13_, fun h0_ => absurd ((hoff 16 (by kernel_rfl)).symm.trans h0_) (by decide), fun h0_ => absurd ((hoff 17 (by kernel_rfl)).symm.trans h0_) (by decide), Q_X21_, Q_X22_, Q_X26_, Q_X27_, Q_X31_, Q_X32_, Q_X37_, Q_X38_, Q_X42_, Q_X43_⟩
set_option maxHeartbeats 8000000 in
set_option maxRecDepth 100000 in
theorem ExS15 (w : World) (y246 : List (S40)) (y249 : List (S40)) (y252 : List (S40)) (y255 : List (S40)) (y258 : List (S40)) (y261 : List (S40)) (y264 : List (S40)) (y267 : List (S40)) (y270 : List (S40)) (y273 : List (S62)) (Ny255 : As (y255 = ([(⟨(-1), 0⟩ : S40)] : List (S40)))) (a0_ : Act) (Q : Exit → Act → World → Prop) (hsz : a0_.tmps.size = 482) : ∀ ops, (Try.f11.body.bind fun c => opsIn c 3) = some ops → StepAt Try.prog ops Q mE.B3 exO (ExI w y246 y249 y252 y255 y258 y261 y264 y267 y270 y273 a0_) 15 := by
 refine stepAt_mk rfl ?_
 have hu33 := Try.underlying33
 have hu62 := Try.underlying62
 have hu40 := Try.underlying40
 rintro b a w' ⟨v247, v250, v253, v256, v259, v262, v265, v268, v271, v274, m5_, m6_, m8_, m9_, m12_, m13_, m16_, m17_, m21_, m22_, m26_, m27_, m31_, m32_, m37_, m38_, m42_, m43_, ha, Q_HB, Q_HO248, Q_HO251, Q_HO254, Q_HO257, Q_HO260, Q_HO263, Q_HO266, Q_HO269, Q_HO272, Q_HO275, Q_X5_, Q_X6_, Q_X8_, Q_X9_, Q_X12_, Q_X13_, Q_X16_, Q_X17_, Q_X21_, Q_X22_, Q_X26_, Q_X27_, Q_X31_, Q_X32_, Q_X37_, Q_X38_, Q_X42_, Q_X43_⟩ hb_ hon hoff
 refine ⟨_, rfl, fun K hK => ?_⟩
 have e80 : a.tmps[80]? = some (.agg #[.int .i64 (-1), .int .i64 0]) := by rw [ha]; exact putSel_on (e := (14, 80, .agg #[.int .i64 (-1), .int .i64 0])) 14 rfl rfl (hon 14 (by kernel_rfl)) (szb hsz rfl)
 replace ha := As.mk ha
 have HB := As.mk Q_HB
 refine Kd.R_lit_step k40 _ 40 ?hg (N := 81) ?hd (xs := ([(⟨(-1), 0⟩ : S40)] : List (S40))) (inner := [.int .i64 (-1), .int .i64 0]) (ok := fun _ => True) (okp := fun _ => True) ?hr ?hp (fun _ hk => hk) trivial (Below.refl _ _) (Nat.le_refl _) (by simp) ?_; (case hd => rfl); (case hg => rfl); (case hr => first | (go_simp; done) | (go_simp; rfl)); (case hp => exact (Reps.c2 (show Kd.M k40 _ _ _ (⟨(-1), 0⟩ : S40) [.int .i64 (-1), .int .i64 0] from (k40_mkM _ _ _ (⟨(-1), 0⟩ : S40) )) (Reps.none _ _)))
 intro v256 w6 ho7 hb hg_ hnew_
 clear hg_ hnew_
 (first | rw [← Ny255.out] at ho7 | (simp only [Int.reduceToNat] at ho7; rw [← Ny255.out] at ho7))
 have n0_ := As.mk (Kd.R_lower ho7 (below_size (hup0 HB.out)))
 have n1_ := As.mk (below_step (hup0 HB.out) hb)
 have z_HO248 := fun (h0_ : b 4 = true) (h1_ : b 44 = false) => (show Kd.R k40 40 w6 w.heap.size (fun _ => True) v247 y246 from by first | exact (Kd.R_elder' (by (with_reducible repeat (first | apply Kd.R_alloc | apply Kd.R_drewN | apply Kd.R_drew)); exact (Q_HO248 h0_ h1_)) (Kd.R_base ho7) hb) | exact Kd.R_mono (Kd.R_elder' (by (with_reducible repeat (first | apply Kd.R_alloc | apply Kd.R_drewN | apply Kd.R_drew)); exact (Q_HO248 h0_ h1_)) (Kd.R_base ho7) hb) (fun _ h_ => by first | trivial | exact h_ | exact h_.1))
 have z_HO251 := fun (h0_ : b 7 = true) (h1_ : b 44 = false) => (show Kd.R k40 40 w6 w.heap.size (fun _ => True) v250 y249 from by first | exact (Kd.R_elder' (by (with_reducible repeat (first | apply Kd.R_alloc | apply Kd.R_drewN | apply Kd.R_drew)); exact (Q_HO251 h0_ h1_)) (Kd.R_base ho7) hb) | exact Kd.R_mono (Kd.R_elder' (by (with_reducible repeat (first | apply Kd.R_alloc | apply Kd.R_drewN | apply Kd.R_drew)); exact (Q_HO251 h0_ h1_)) (Kd.R_base ho7) hb) (fun _ h_ => by first | trivial | exact h_ | exact h_.1))
 have z_HO254 := fun (h0_ : b 11 = true) (h1_ : b 44 = false) => (show Kd.R k40 40 w6 w.heap.size (fun _ => True) v253 y252 from by first | exact (Kd.R_elder' (by (with_reducible repeat (first | apply Kd.R_alloc | apply Kd.R_drewN | apply Kd.R_drew)); exact (Q_HO254 h0_ h1_)) (Kd.R_base ho7) hb) | exact Kd.R_mono (Kd.R_elder' (by (with_reducible repeat (first | apply Kd.R_alloc | apply Kd.R_drewN | apply Kd.R_drew)); exact (Q_HO254 h0_ h1_)) (Kd.R_base ho7) hb) (fun _ h_ => by first | trivial | exact h_ | exact h_.1))
 have z_HO260 := fun (h0_ : b 20 = true) (h1_ : b 44 = false) => (show Kd.R k40 40 w6 w.heap.size (fun _ => True) v259 y258 from by first | exact (Kd.R_elder' (by (with_reducible repeat (first | apply Kd.R_alloc | apply Kd.R_drewN | apply Kd.R_drew)); exact (Q_HO260 h0_ h1_)) (Kd.R_base ho7) hb) | exact Kd.R_mono (Kd.R_elder' (by (with_reducible repeat (first | apply Kd.R_alloc | apply Kd.R_drewN | apply Kd.R_drew)); exact (Q_HO260 h0_ h1_)) (Kd.R_base ho7) hb) (fun _ h_ => by first | trivial | exact h_ | exact h_.1))
 have z_HO263 := fun (h0_ : b 25 = true) (h1_ : b 44 = false) => (show Kd.R k40 40 w6 w.heap.size (fun _ => True) v262 y261 from by first | exact (Kd.R_elder' (by (with_reducible repeat (first | apply Kd.R_alloc | apply Kd.R_drewN | apply Kd.R_drew)); exact (Q_HO263 h0_ h1_)) (Kd.R_base ho7) hb) | exact Kd.R_mono (Kd.R_elder' (by (with_reducible repeat (first | apply Kd.R_alloc | apply Kd.R_drewN | apply Kd.R_drew)); exact (Q_HO263 h0_ h1_)) (Kd.R_base ho7) hb) (fun _ h_ => by first | trivial | exact h_ | exact h_.1))
 have z_HO266 := fun (h0_ : b 30 = true) (h1_ : b 44 = false) => (show Kd.R k40 40 w6 w.heap.size (fun _ => True) v265 y264 from by first | exact (Kd.R_elder' (by (with_reducible repeat (first | apply Kd.R_alloc | apply Kd.R_drewN | apply Kd.R_drew)); exact (Q_HO266 h0_ h1_)) (Kd.R_base ho7) hb) | exact Kd.R_mono (Kd.R_elder' (by (with_reducible repeat (first | apply Kd.R_alloc | apply Kd.R_drewN | apply Kd.R_drew)); exact (Q_HO266 h0_ h1_)) (Kd.R_base ho7) hb) (fun _ h_ => by first | trivial | exact h_ | exact h_.1))
 have z_HO269 := fun (h0_ : b 36 = true) (h1_ : b 44 = false) => (show Kd.R k40 40 w6 w.heap.size (fun _ => True) v268 y267 from by first | exact (Kd.R_elder' (by (with_reducible repeat (first | apply Kd.R_alloc | apply Kd.R_drewN | apply Kd.R_drew)); exact (Q_HO269 h0_ h1_)) (Kd.R_base ho7) hb) | exact Kd.R_mono (Kd.R_elder' (by (with_reducible repeat (first | apply Kd.R_alloc | apply Kd.R_drewN | apply Kd.R_drew)); exact (Q_HO269 h0_ h1_)) (Kd.R_base ho7) hb) (fun _ h_ => by first | trivial | exact h_ | exact h_.1))
 have z_HO272 := fun (h0_ : b 41 = true) (h1_ : b 44 = false) => (show Kd.R k40 40 w6 w.heap.size (fun _ => True) v271 y270 from by first | exact (Kd.R_elder' (by (with_reducible repeat (first | apply Kd.R_alloc | apply Kd.R_drewN | apply Kd.R_drew)); exact (Q_HO272 h0_ h1_)) (Kd.R_base ho7) hb) | exact Kd.R_mono (Kd.R_elder' (by (with_reducible repeat (first | apply Kd.R_alloc | apply Kd.R_drewN | apply Kd.R_drew)); exact (Q_HO272 h0_ h1_)) (Kd.R_base ho7) hb) (fun _ h_ => by first | trivial | exact h_ | exact h_.1))
 clear HB
 have HO257 := n0_
 have HB := n1_
 clear n0_ n1_
 clear hb ho7
 obtain ⟨Ao8, co8, eo8⟩ := Kd.R_slice HO257.out
 (first | subst eo8 | (injection eo8 with f1_ f2_ f3_; have f4_ := f1_.symm; have f5_ := f3_.symm; clear f1_ f2_ f3_; subst f4_; subst f5_))
 refine hK.out _ _ ⟨v247, v250, v253, .slice Ao8 y255.length co8, v259, v262, v265, v268, v271, v274, m5_, m6_, m8_, m9_, m12_, m13_, m16_, m17_, m21_, m22_, m26_, m27_, m31_, m32_, m37_, m38_, m42_, m43_, (by rw [ha.out]; exact putSel_upk 15 hb_ rfl rfl rfl), (hup0 HB.out), z_HO248, z_HO251, z_HO254, fun _ _ => (rup HO257.out), z_HO260, z_HO263, z_HO266, z_HO269, z_HO272, fun h0_ => absurd ((hoff 44 (by kernel_rfl)).symm.trans h0_) (by decide), Q_X5_, Q_X6_, Q_X8_, Q_X9_, Q_X12_, Q_X13_, fun h0_ => absurd ((hoff 16 (by kernel_rfl)).symm.trans h0_) (by decide), fun h0_ => absurd ((hoff 17 (by kernel_rfl)).symm.trans h0_) (by decide), Q_X21_, Q_X22_, Q_X26_, Q_X27_, Q_X31_, Q_X32_, Q_X37_, Q_X38_, Q_X42_, Q_X43_⟩
set_option maxHeartbeats 8000000 in
set_option maxRecDepth 100000 in
theorem ExS16 (w : World) (y246 : List (S40)) (y249 : List (S40)) (y252 : List (S40)) (y255 : List (S40)) (y258 : List (S40)) (y261 : List (S40)) (y264 : List (S40)) (y267 : List (S40)) (y270 : List (S40)) (y273 : List (S62)) (a0_ : Act) (Q : Exit → Act → World → Prop) (hsz : a0_.tmps.size = 482) : ∀ ops, (Try.f11.body.bind fun c => opsIn c 3) = some ops → StepAt Try.prog ops Q mE.B3 exO (ExI w y246 y249 y252 y255 y258 y261 y264 y267 y270 y273 a0_) 16 := by
 refine stepAt_mk rfl ?_
 have hu33 := Try.underlying33
 have hu62 := Try.underlying62
 have hu40 := Try.underlying40
 rintro b a w' ⟨v247, v250, v253, v256, v259, v262, v265, v268, v271, v274, m5_, m6_, m8_, m9_, m12_, m13_, m16_, m17_, m21_, m22_, m26_, m27_, m31_, m32_, m37_, m38_, m42_, m43_, ha, Q_HB, Q_HO248, Q_HO251, Q_HO254, Q_HO257, Q_HO260, Q_HO263, Q_HO266, Q_HO269, Q_HO272, Q_HO275, Q_X5_, Q_X6_, Q_X8_, Q_X9_, Q_X12_, Q_X13_, Q_X16_, Q_X17_, Q_X21_, Q_X22_, Q_X26_, Q_X27_, Q_X31_, Q_X32_, Q_X37_, Q_X38_, Q_X42_, Q_X43_⟩ hb_ hon hoff
 refine ⟨_, rfl, fun K hK => ?_⟩
 have e81 : a.tmps[81]? = some (v256) := by rw [ha]; exact putSel_on (e := (15, 81, v256)) 15 rfl rfl (hon 15 (by kernel_rfl)) (szb hsz rfl)
 replace ha := As.mk ha
 have HB := As.mk Q_HB
 have HO257 := As.mk (Q_HO257 (hon 15 (by kernel_rfl)) (hoff 44 (by kernel_rfl)))
 obtain ⟨Ao16_0, co16_0, eo_⟩ := Kd.R_slice HO257.out
 subst eo_
 refine value_ (w1 := w') (v := .agg #[.int .i64 1, .int .i64 1, .slice Ao16_0 y255.length co16_0]) (by rfl) rfl ?_ ?_
 ·go_simp
  (try simp only [i64_w])
  try rfl
 refine hK.out _ _ ⟨v247, v250, v253, .slice Ao16_0 y255.length co16_0, v259, v262, v265, v268, v271, v274, m5_, m6_, m8_, m9_, m12_, m13_, (.agg #[.int .i64 1, .int .i64 1, .slice Ao16_0 y255.length co16_0]), m17_, m21_, m22_, m26_, m27_, m31_, m32_, m37_, m38_, m42_, m43_, (by rw [ha.out]; exact putSel_upk 16 hb_ rfl rfl rfl), Q_HB, Q_HO248, Q_HO251, Q_HO254, Q_HO257, Q_HO260, Q_HO263, Q_HO266, Q_HO269, Q_HO272, fun h0_ => absurd ((hoff 44 (by kernel_rfl)).symm.trans h0_) (by decide), Q_X5_, Q_X6_, Q_X8_, Q_X9_, Q_X12_, Q_X13_, fun _ => rfl, fun h0_ => absurd ((hoff 17 (by kernel_rfl)).symm.trans h0_) (by decide), Q_X21_, Q_X22_, Q_X26_, Q_X27_, Q_X31_, Q_X32_, Q_X37_, Q_X38_, Q_X42_, Q_X43_⟩
set_option maxHeartbeats 8000000 in
set_option maxRecDepth 100000 in
theorem ExS17 (w : World) (y246 : List (S40)) (y249 : List (S40)) (y252 : List (S40)) (y255 : List (S40)) (y258 : List (S40)) (y261 : List (S40)) (y264 : List (S40)) (y267 : List (S40)) (y270 : List (S40)) (y273 : List (S62)) (a0_ : Act) (Q : Exit → Act → World → Prop) (hsz : a0_.tmps.size = 482) : ∀ ops, (Try.f11.body.bind fun c => opsIn c 3) = some ops → StepAt Try.prog ops Q mE.B3 exO (ExI w y246 y249 y252 y255 y258 y261 y264 y267 y270 y273 a0_) 17 := by
 refine stepAt_mk rfl ?_
 have hu33 := Try.underlying33
 have hu62 := Try.underlying62
 have hu40 := Try.underlying40
 rintro b a w' ⟨v247, v250, v253, v256, v259, v262, v265, v268, v271, v274, m5_, m6_, m8_, m9_, m12_, m13_, m16_, m17_, m21_, m22_, m26_, m27_, m31_, m32_, m37_, m38_, m42_, m43_, ha, Q_HB, Q_HO248, Q_HO251, Q_HO254, Q_HO257, Q_HO260, Q_HO263, Q_HO266, Q_HO269, Q_HO272, Q_HO275, Q_X5_, Q_X6_, Q_X8_, Q_X9_, Q_X12_, Q_X13_, Q_X16_, Q_X17_, Q_X21_, Q_X22_, Q_X26_, Q_X27_, Q_X31_, Q_X32_, Q_X37_, Q_X38_, Q_X42_, Q_X43_⟩ hb_ hon hoff
 refine ⟨_, rfl, fun K hK => ?_⟩
 have e82 : a.tmps[82]? = some (m16_) := by rw [ha]; exact putSel_on (e := (16, 82, m16_)) 16 rfl rfl (hon 16 (by kernel_rfl)) (szb hsz rfl)
 rw [Q_X16_ (hon 16 (by kernel_rfl))] at e82
 replace ha := As.mk ha
 have HB := As.mk Q_HB
 have HO257 := As.mk (Q_HO257 (hon 15 (by kernel_rfl)) (hoff 44 (by kernel_rfl)))
 obtain ⟨Ao17_0, co17_0, eo_⟩ := Kd.R_slice HO257.out
 subst eo_
 refine value_ (w1 := w') (v := .agg #[.int .i64 1, .int .i64 1, .slice Ao17_0 y255.length co17_0, .int .i64 1]) (by rfl) rfl ?_ ?_
 ·go_simp
  (try simp only [i64_w])
  try rfl
 refine hK.out _ _ ⟨v247, v250, v253, .slice Ao17_0 y255.length co17_0, v259, v262, v265, v268, v271, v274, m5_, m6_, m8_, m9_, m12_, m13_, m16_, (.agg #[.int .i64 1, .int .i64 1, .slice Ao17_0 y255.length co17_0, .int .i64 1]), m21_, m22_, m26_, m27_, m31_, m32_, m37_, m38_, m42_, m43_, (by rw [ha.out]; exact putSel_upk 17 hb_ rfl rfl rfl), Q_HB, Q_HO248, Q_HO251, Q_HO254, Q_HO257, Q_HO260, Q_HO263, Q_HO266, Q_HO269, Q_HO272, fun h0_ => absurd ((hoff 44 (by kernel_rfl)).symm.trans h0_) (by decide), Q_X5_, Q_X6_, Q_X8_, Q_X9_, Q_X12_, Q_X13_, Q_X16_, fun _ => rfl, Q_X21_, Q_X22_, Q_X26_, Q_X27_, Q_X31_, Q_X32_, Q_X37_, Q_X38_, Q_X42_, Q_X43_⟩
set_option maxHeartbeats 8000000 in
set_option maxRecDepth 100000 in
theorem ExS18 (w : World) (y246 : List (S40)) (y249 : List (S40)) (y252 : List (S40)) (y255 : List (S40)) (y258 : List (S40)) (y261 : List (S40)) (y264 : List (S40)) (y267 : List (S40)) (y270 : List (S40)) (y273 : List (S62)) (a0_ : Act) (Q : Exit → Act → World → Prop) (hsz : a0_.tmps.size = 482) : ∀ ops, (Try.f11.body.bind fun c => opsIn c 3) = some ops → StepAt Try.prog ops Q mE.B3 exO (ExI w y246 y249 y252 y255 y258 y261 y264 y267 y270 y273 a0_) 18 := by
 refine stepAt_mk rfl ?_
 have hu33 := Try.underlying33
 have hu62 := Try.underlying62
 have hu40 := Try.underlying40
 rintro b a w' ⟨v247, v250, v253, v256, v259, v262, v265, v268, v271, v274, m5_, m6_, m8_, m9_, m12_, m13_, m16_, m17_, m21_, m22_, m26_, m27_, m31_, m32_, m37_, m38_, m42_, m43_, ha, Q_HB, Q_HO248, Q_HO251, Q_HO254, Q_HO257, Q_HO260, Q_HO263, Q_HO266, Q_HO269, Q_HO272, Q_HO275, Q_X5_, Q_X6_, Q_X8_, Q_X9_, Q_X12_, Q_X13_, Q_X16_, Q_X17_, Q_X21_, Q_X22_, Q_X26_, Q_X27_, Q_X31_, Q_X32_, Q_X37_, Q_X38_, Q_X42_, Q_X43_⟩ hb_ hon hoff
 refine ⟨_, rfl, fun K hK => ?_⟩
 replace ha := As.mk ha
 have HB := As.mk Q_HB
 refine value_ (w1 := w') (v := .agg #[.int .i64 0, .int .i64 0]) (by rfl) rfl ?_ ?_
 ·go_simp
  (try simp only [i64_w])
  try rfl
 refine hK.out _ _ ⟨v247, v250, v253, v256, v259, v262, v265, v268, v271, v274, m5_, m6_, m8_, m9_, m12_, m13_, m16_, m17_, m21_, m22_, m26_, m27_, m31_, m32_, m37_, m38_, m42_, m43_, (by rw [ha.out]; exact putSel_upk 18 hb_ rfl rfl rfl), Q_HB, Q_HO248, Q_HO251, Q_HO254, Q_HO257, fun h0_ _ => absurd ((hoff 20 (by kernel_rfl)).symm.trans h0_) (by decide), Q_HO263, Q_HO266, Q_HO269, Q_HO272, fun h0_ => absurd ((hoff 44 (by kernel_rfl)).symm.trans h0_) (by decide), Q_X5_, Q_X6_, Q_X8_, Q_X9_, Q_X12_, Q_X13_, Q_X16_, Q_X17_, fun h0_ => absurd ((hoff 21 (by kernel_rfl)).symm.trans h0_) (by decide), fun h0_ => absurd ((hoff 22 (by kernel_rfl)).symm.trans h0_) (by decide), Q_X26_, Q_X27_, Q_X31_, Q_X32_, Q_X37_, Q_X38_, Q_X42_, Q_X43_⟩
set_option maxHeartbeats 8000000 in
set_option maxRecDepth 100000 in
theorem ExS19 (w : World) (y246 : List (S40)) (y249 : List (S40)) (y252 : List (S40)) (y255 : List (S40)) (y258 : List (S40)) (y261 : List (S40)) (y264 : List (S40)) (y267 : List (S40)) (y270 : List (S40)) (y273 : List (S62)) (a0_ : Act) (Q : Exit → Act → World → Prop) (hsz : a0_.tmps.size = 482) : ∀ ops, (Try.f11.body.bind fun c => opsIn c 3) = some ops → StepAt Try.prog ops Q mE.B3 exO (ExI w y246 y249 y252 y255 y258 y261 y264 y267 y270 y273 a0_) 19 := by
 refine stepAt_mk rfl ?_
 have hu33 := Try.underlying33
 have hu62 := Try.underlying62
 have hu40 := Try.underlying40
 rintro b a w' ⟨v247, v250, v253, v256, v259, v262, v265, v268, v271, v274, m5_, m6_, m8_, m9_, m12_, m13_, m16_, m17_, m21_, m22_, m26_, m27_, m31_, m32_, m37_, m38_, m42_, m43_, ha, Q_HB, Q_HO248, Q_HO251, Q_HO254, Q_HO257, Q_HO260, Q_HO263, Q_HO266, Q_HO269, Q_HO272, Q_HO275, Q_X5_, Q_X6_, Q_X8_, Q_X9_, Q_X12_, Q_X13_, Q_X16_, Q_X17_, Q_X21_, Q_X22_, Q_X26_, Q_X27_, Q_X31_, Q_X32_, Q_X37_, Q_X38_, Q_X42_, Q_X43_⟩ hb_ hon hoff
 refine ⟨_, rfl, fun K hK => ?_⟩
 replace ha := As.mk ha
 have HB := As.mk Q_HB
 refine value_ (w1 := w') (v := .agg #[.int .i64 0, .int .i64 0]) (by rfl) rfl ?_ ?_
 ·go_simp
  (try simp only [i64_w])
  try rfl
 refine hK.out _ _ ⟨v247, v250, v253, v256, v259, v262, v265, v268, v271, v274, m5_, m6_, m8_, m9_, m12_, m13_, m16_, m17_, m21_, m22_, m26_, m27_, m31_, m32_, m37_, m38_, m42_, m43_, (by rw [ha.out]; exact putSel_upk 19 hb_ rfl rfl rfl), Q_HB, Q_HO248, Q_HO251, Q_HO254, Q_HO257, fun h0_ _ => absurd ((hoff 20 (by kernel_rfl)).symm.trans h0_) (by decide), Q_HO263, Q_HO266, Q_HO269, Q_HO272, fun h0_ => absurd ((hoff 44 (by kernel_rfl)).symm.trans h0_) (by decide), Q_X5_, Q_X6_, Q_X8_, Q_X9_, Q_X12_, Q_X13_, Q_X16_, Q_X17_, fun h0_ => absurd ((hoff 21 (by kernel_rfl)).symm.trans h0_) (by decide), fun h0_ => absurd ((hoff 22 (by kernel_rfl)).symm.trans h0_) (by decide), Q_X26_, Q_X27_, Q_X31_, Q_X32_, Q_X37_, Q_X38_, Q_X42_, Q_X43_⟩
set_option maxHeartbeats 8000000 in
set_option maxRecDepth 100000 in
theorem ExS20 (w : World) (y246 : List (S40)) (y249 : List (S40)) (y252 : List (S40)) (y255 : List (S40)) (y258 : List (S40)) (y261 : List (S40)) (y264 : List (S40)) (y267 : List (S40)) (y270 : List (S40)) (y273 : List (S62)) (Ny258 : As (y258 = ([(⟨0, 0⟩ : S40), (⟨0, 0⟩ : S40)] : List (S40)))) (a0_ : Act) (Q : Exit → Act → World → Prop) (hsz : a0_.tmps.size = 482) : ∀ ops, (Try.f11.body.bind fun c => opsIn c 3) = some ops → StepAt Try.prog ops Q mE.B3 exO (ExI w y246 y249 y252 y255 y258 y261 y264 y267 y270 y273 a0_) 20 := by
 refine stepAt_mk rfl ?_
 have hu33 := Try.underlying33
 have hu62 := Try.underlying62
 have hu40 := Try.underlying40
 rintro b a w' ⟨v247, v250, v253, v256, v259, v262, v265, v268, v271, v274, m5_, m6_, m8_, m9_, m12_, m13_, m16_, m17_, m21_, m22_, m26_, m27_, m31_, m32_, m37_, m38_, m42_, m43_, ha, Q_HB, Q_HO248, Q_HO251, Q_HO254, Q_HO257, Q_HO260, Q_HO263, Q_HO266, Q_HO269, Q_HO272, Q_HO275, Q_X5_, Q_X6_, Q_X8_, Q_X9_, Q_X12_, Q_X13_, Q_X16_, Q_X17_, Q_X21_, Q_X22_, Q_X26_, Q_X27_, Q_X31_, Q_X32_, Q_X37_, Q_X38_, Q_X42_, Q_X43_⟩ hb_ hon hoff
 refine ⟨_, rfl, fun K hK => ?_⟩
 have e84 : a.tmps[84]? = some (.agg #[.int .i64 0, .int .i64 0]) := by rw [ha]; exact putSel_on (e := (18, 84, .agg #[.int .i64 0, .int .i64 0])) 18 rfl rfl (hon 18 (by kernel_rfl)) (szb hsz rfl)
 have e85 : a.tmps[85]? = some (.agg #[.int .i64 0, .int .i64 0]) := by rw [ha]; exact putSel_on (e := (19, 85, .agg #[.int .i64 0, .int .i64 0])) 19 rfl rfl (hon 19 (by kernel_rfl)) (szb hsz rfl)
 replace ha := As.mk ha
 have HB := As.mk Q_HB
 refine Kd.R_lit_step k40 _ 40 ?hg (N := 86) ?hd (xs := ([(⟨0, 0⟩ : S40), (⟨0, 0⟩ : S40)] : List (S40))) (inner := [.int .i64 0, .int .i64 0, .int .i64 0, .int .i64 0]) (ok := fun _ => True) (okp := fun _ => True) ?hr ?hp (fun _ hk => hk) trivial (Below.refl _ _) (Nat.le_refl _) (by simp) ?_; (case hd => rfl); (case hg => rfl); (case hr => first | (go_simp; done) | (go_simp; rfl)); (case hp => exact (Reps.c2 (show Kd.M k40 _ _ _ (⟨0, 0⟩ : S40) [.int .i64 0, .int .i64 0] from (k40_mkM _ _ _ (⟨0, 0⟩ : S40) )) (Reps.c2 (show Kd.M k40 _ _ _ (⟨0, 0⟩ : S40) [.int .i64 0, .int .i64 0] from (k40_mkM _ _ _ (⟨0, 0⟩ : S40) )) (Reps.none _ _))))
 intro v259 w6 ho7 hb hg_ hnew_
 clear hg_ hnew_
 (first | rw [← Ny258.out] at ho7 | (simp only [Int.reduceToNat] at ho7; rw [← Ny258.out] at ho7))
 have n0_ := As.mk (Kd.R_lower ho7 (below_size (hup0 HB.out)))
 have n1_ := As.mk (below_step (hup0 HB.out) hb)
 have z_HO248 := fun (h0_ : b 4 = true) (h1_ : b 44 = false) => (show Kd.R k40 40 w6 w.heap.size (fun _ => True) v247 y246 from by first | exact (Kd.R_elder' (by (with_reducible repeat (first | apply Kd.R_alloc | apply Kd.R_drewN | apply Kd.R_drew)); exact (Q_HO248 h0_ h1_)) (Kd.R_base ho7) hb) | exact Kd.R_mono (Kd.R_elder' (by (with_reducible repeat (first | apply Kd.R_alloc | apply Kd.R_drewN | apply Kd.R_drew)); exact (Q_HO248 h0_ h1_)) (Kd.R_base ho7) hb) (fun _ h_ => by first | trivial | exact h_ | exact h_.1))
 have z_HO251 := fun (h0_ : b 7 = true) (h1_ : b 44 = false) => (show Kd.R k40 40 w6 w.heap.size (fun _ => True) v250 y249 from by first | exact (Kd.R_elder' (by (with_reducible repeat (first | apply Kd.R_alloc | apply Kd.R_drewN | apply Kd.R_drew)); exact (Q_HO251 h0_ h1_)) (Kd.R_base ho7) hb) | exact Kd.R_mono (Kd.R_elder' (by (with_reducible repeat (first | apply Kd.R_alloc | apply Kd.R_drewN | apply Kd.R_drew)); exact (Q_HO251 h0_ h1_)) (Kd.R_base ho7) hb) (fun _ h_ => by first | trivial | exact h_ | exact h_.1))
 have z_HO254 := fun (h0_ : b 11 = true) (h1_ : b 44 = false) => (show Kd.R k40 40 w6 w.heap.size (fun _ => True) v253 y252 from by first | exact (Kd.R_elder' (by (with_reducible repeat (first | apply Kd.R_alloc | apply Kd.R_drewN | apply Kd.R_drew)); exact (Q_HO254 h0_ h1_)) (Kd.R_base ho7) hb) | exact Kd.R_mono (Kd.R_elder' (by (with_reducible repeat (first | apply Kd.R_alloc | apply Kd.R_drewN | apply Kd.R_drew)); exact (Q_HO254 h0_ h1_)) (Kd.R_base ho7) hb) (fun _ h_ => by first | trivial | exact h_ | exact h_.1))
 have z_HO257 := fun (h0_ : b 15 = true) (h1_ : b 44 = false) => (show Kd.R k40 40 w6 w.heap.size (fun _ => True) v256 y255 from by first | exact (Kd.R_elder' (by (with_reducible repeat (first | apply Kd.R_alloc | apply Kd.R_drewN | apply Kd.R_drew)); exact (Q_HO257 h0_ h1_)) (Kd.R_base ho7) hb) | exact Kd.R_mono (Kd.R_elder' (by (with_reducible repeat (first | apply Kd.R_alloc | apply Kd.R_drewN | apply Kd.R_drew)); exact (Q_HO257 h0_ h1_)) (Kd.R_base ho7) hb) (fun _ h_ => by first | trivial | exact h_ | exact h_.1))
 have z_HO263 := fun (h0_ : b 25 = true) (h1_ : b 44 = false) => (show Kd.R k40 40 w6 w.heap.size (fun _ => True) v262 y261 from by first | exact (Kd.R_elder' (by (with_reducible repeat (first | apply Kd.R_alloc | apply Kd.R_drewN | apply Kd.R_drew)); exact (Q_HO263 h0_ h1_)) (Kd.R_base ho7) hb) | exact Kd.R_mono (Kd.R_elder' (by (with_reducible repeat (first | apply Kd.R_alloc | apply Kd.R_drewN | apply Kd.R_drew)); exact (Q_HO263 h0_ h1_)) (Kd.R_base ho7) hb) (fun _ h_ => by first | trivial | exact h_ | exact h_.1))
 have z_HO266 := fun (h0_ : b 30 = true) (h1_ : b 44 = false) => (show Kd.R k40 40 w6 w.heap.size (fun _ => True) v265 y264 from by first | exact (Kd.R_elder' (by (with_reducible repeat (first | apply Kd.R_alloc | apply Kd.R_drewN | apply Kd.R_drew)); exact (Q_HO266 h0_ h1_)) (Kd.R_base ho7) hb) | exact Kd.R_mono (Kd.R_elder' (by (with_reducible repeat (first | apply Kd.R_alloc | apply Kd.R_drewN | apply Kd.R_drew)); exact (Q_HO266 h0_ h1_)) (Kd.R_base ho7) hb) (fun _ h_ => by first | trivial | exact h_ | exact h_.1))
 have z_HO269 := fun (h0_ : b 36 = true) (h1_ : b 44 = false) => (show Kd.R k40 40 w6 w.heap.size (fun _ => True) v268 y267 from by first | exact (Kd.R_elder' (by (with_reducible repeat (first | apply Kd.R_alloc | apply Kd.R_drewN | apply Kd.R_drew)); exact (Q_HO269 h0_ h1_)) (Kd.R_base ho7) hb) | exact Kd.R_mono (Kd.R_elder' (by (with_reducible repeat (first | apply Kd.R_alloc | apply Kd.R_drewN | apply Kd.R_drew)); exact (Q_HO269 h0_ h1_)) (Kd.R_base ho7) hb) (fun _ h_ => by first | trivial | exact h_ | exact h_.1))
 have z_HO272 := fun (h0_ : b 41 = true) (h1_ : b 44 = false) => (show Kd.R k40 40 w6 w.heap.size (fun _ => True) v271 y270 from by first | exact (Kd.R_elder' (by (with_reducible repeat (first | apply Kd.R_alloc | apply Kd.R_drewN | apply Kd.R_drew)); exact (Q_HO272 h0_ h1_)) (Kd.R_base ho7) hb) | exact Kd.R_mono (Kd.R_elder' (by (with_reducible repeat (first | apply Kd.R_alloc | apply Kd.R_drewN | apply Kd.R_drew)); exact (Q_HO272 h0_ h1_)) (Kd.R_base ho7) hb) (fun _ h_ => by first | trivial | exact h_ | exact h_.1))
 clear HB
 have HO260 := n0_
 have HB := n1_
 clear n0_ n1_
 clear hb ho7
 obtain ⟨Ao8, co8, eo8⟩ := Kd.R_slice HO260.out
 (first | subst eo8 | (injection eo8 with f1_ f2_ f3_; have f4_ := f1_.symm; have f5_ := f3_.symm; clear f1_ f2_ f3_; subst f4_; subst f5_))
 refine hK.out _ _ ⟨v247, v250, v253, v256, .slice Ao8 y258.length co8, v262, v265, v268, v271, v274, m5_, m6_, m8_, m9_, m12_, m13_, m16_, m17_, m21_, m22_, m26_, m27_, m31_, m32_, m37_, m38_, m42_, m43_, (by rw [ha.out]; exact putSel_upk 20 hb_ rfl rfl rfl), (hup0 HB.out), z_HO248, z_HO251, z_HO254, z_HO257, fun _ _ => (rup HO260.out), z_HO263, z_HO266, z_HO269, z_HO272, fun h0_ => absurd ((hoff 44 (by kernel_rfl)).symm.trans h0_) (by decide), Q_X5_, Q_X6_, Q_X8_, Q_X9_, Q_X12_, Q_X13_, Q_X16_, Q_X17_, fun h0_ => absurd ((hoff 21 (by kernel_rfl)).symm.trans h0_) (by decide), fun h0_ => absurd ((hoff 22 (by kernel_rfl)).symm.trans h0_) (by decide), Q_X26_, Q_X27_, Q_X31_, Q_X32_, Q_X37_, Q_X38_, Q_X42_, Q_X43_⟩
set_option maxHeartbeats 8000000 in
set_option maxRecDepth 100000 in
theorem ExS21 (w : World) (y246 : List (S40)) (y249 : List (S40)) (y252 : List (S40)) (y255 : List (S40)) (y258 : List (S40)) (y261 : List (S40)) (y264 : List (S40)) (y267 : List (S40)) (y270 : List (S40)) (y273 : List (S62)) (a0_ : Act) (Q : Exit → Act → World → Prop) (hsz : a0_.tmps.size = 482) : ∀ ops, (Try.f11.body.bind fun c => opsIn c 3) = some ops → StepAt Try.prog ops Q mE.B3 exO (ExI w y246 y249 y252 y255 y258 y261 y264 y267 y270 y273 a0_) 21 := by
 refine stepAt_mk rfl ?_
 have hu33 := Try.underlying33
 have hu62 := Try.underlying62
 have hu40 := Try.underlying40
 rintro b a w' ⟨v247, v250, v253, v256, v259, v262, v265, v268, v271, v274, m5_, m6_, m8_, m9_, m12_, m13_, m16_, m17_, m21_, m22_, m26_, m27_, m31_, m32_, m37_, m38_, m42_, m43_, ha, Q_HB, Q_HO248, Q_HO251, Q_HO254, Q_HO257, Q_HO260, Q_HO263, Q_HO266, Q_HO269, Q_HO272, Q_HO275, Q_X5_, Q_X6_, Q_X8_, Q_X9_, Q_X12_, Q_X13_, Q_X16_, Q_X17_, Q_X21_, Q_X22_, Q_X26_, Q_X27_, Q_X31_, Q_X32_, Q_X37_, Q_X38_, Q_X42_, Q_X43_⟩ hb_ hon hoff
 refine ⟨_, rfl, fun K hK => ?_⟩
 have e86 : a.tmps[86]? = some (v259) := by rw [ha]; exact putSel_on (e := (20, 86, v259)) 20 rfl rfl (hon 20 (by kernel_rfl)) (szb hsz rfl)
 replace ha := As.mk ha
 have HB := As.mk Q_HB
 have HO260 := As.mk (Q_HO260 (hon 20 (by kernel_rfl)) (hoff 44 (by kernel_rfl)))
 obtain ⟨Ao21_0, co21_0, eo_⟩ := Kd.R_slice HO260.out
 subst eo_
 refine value_ (w1 := w') (v := .agg #[.int .i64 1, .int .i64 1, .slice Ao21_0 y258.length co21_0]) (by rfl) rfl ?_ ?_
 ·go_simp
  (try simp only [i64_w])
  try rfl
 refine hK.out _ _ ⟨v247, v250, v253, v256, .slice Ao21_0 y258.length co21_0, v262, v265, v268, v271, v274, m5_, m6_, m8_, m9_, m12_, m13_, m16_, m17_, (.agg #[.int .i64 1, .int .i64 1, .slice Ao21_0 y258.length co21_0]), m22_, m26_, m27_, m31_, m32_, m37_, m38_, m42_, m43_, (by rw [ha.out]; exact putSel_upk 21 hb_ rfl rfl rfl), Q_HB, Q_HO248, Q_HO251, Q_HO254, Q_HO257, Q_HO260, Q_HO263, Q_HO266, Q_HO269, Q_HO272, fun h0_ => absurd ((hoff 44 (by kernel_rfl)).symm.trans h0_) (by decide), Q_X5_, Q_X6_, Q_X8_, Q_X9_, Q_X12_, Q_X13_, Q_X16_, Q_X17_, fun _ => rfl, fun h0_ => absurd ((hoff 22 (by kernel_rfl)).symm.trans h0_) (by decide), Q_X26_, Q_X27_, Q_X31_, Q_X32_, Q_X37_, Q_X38_, Q_X42_, Q_X43_⟩
set_option maxHeartbeats 8000000 in
set_option maxRecDepth 100000 in
theorem ExS22 (w : World) (y246 : List (S40)) (y249 : List (S40)) (y252 : List (S40)) (y255 : List (S40)) (y258 : List (S40)) (y261 : List (S40)) (y264 : List (S40)) (y267 : List (S40)) (y270 : List (S40)) (y273 : List (S62)) (a0_ : Act) (Q : Exit → Act → World → Prop) (hsz : a0_.tmps.size = 482) : ∀ ops, (Try.f11.body.bind fun c => opsIn c 3) = some ops → StepAt Try.prog ops Q mE.B3 exO (ExI w y246 y249 y252 y255 y258 y261 y264 y267 y270 y273 a0_) 22 := by
 refine stepAt_mk rfl ?_
 have hu33 := Try.underlying33
 have hu62 := Try.underlying62
 have hu40 := Try.underlying40
 rintro b a w' ⟨v247, v250, v253, v256, v259, v262, v265, v268, v271, v274, m5_, m6_, m8_, m9_, m12_, m13_, m16_, m17_, m21_, m22_, m26_, m27_, m31_, m32_, m37_, m38_, m42_, m43_, ha, Q_HB, Q_HO248, Q_HO251, Q_HO254, Q_HO257, Q_HO260, Q_HO263, Q_HO266, Q_HO269, Q_HO272, Q_HO275, Q_X5_, Q_X6_, Q_X8_, Q_X9_, Q_X12_, Q_X13_, Q_X16_, Q_X17_, Q_X21_, Q_X22_, Q_X26_, Q_X27_, Q_X31_, Q_X32_, Q_X37_, Q_X38_, Q_X42_, Q_X43_⟩ hb_ hon hoff
 refine ⟨_, rfl, fun K hK => ?_⟩
 have e87 : a.tmps[87]? = some (m21_) := by rw [ha]; exact putSel_on (e := (21, 87, m21_)) 21 rfl rfl (hon 21 (by kernel_rfl)) (szb hsz rfl)
 rw [Q_X21_ (hon 21 (by kernel_rfl))] at e87
 replace ha := As.mk ha
 have HB := As.mk Q_HB
 have HO260 := As.mk (Q_HO260 (hon 20 (by kernel_rfl)) (hoff 44 (by kernel_rfl)))
 obtain ⟨Ao22_0, co22_0, eo_⟩ := Kd.R_slice HO260.out
 subst eo_
 refine value_ (w1 := w') (v := .agg #[.int .i64 1, .int .i64 1, .slice Ao22_0 y258.length co22_0, .int .i64 5]) (by rfl) rfl ?_ ?_
 ·go_simp
  (try simp only [i64_w])
  try rfl
 refine hK.out _ _ ⟨v247, v250, v253, v256, .slice Ao22_0 y258.length co22_0, v262, v265, v268, v271, v274, m5_, m6_, m8_, m9_, m12_, m13_, m16_, m17_, m21_, (.agg #[.int .i64 1, .int .i64 1, .slice Ao22_0 y258.length co22_0, .int .i64 5]), m26_, m27_, m31_, m32_, m37_, m38_, m42_, m43_, (by rw [ha.out]; exact putSel_upk 22 hb_ rfl rfl rfl), Q_HB, Q_HO248, Q_HO251, Q_HO254, Q_HO257, Q_HO260, Q_HO263, Q_HO266, Q_HO269, Q_HO272, fun h0_ => absurd ((hoff 44 (by kernel_rfl)).symm.trans h0_) (by decide), Q_X5_, Q_X6_, Q_X8_, Q_X9_, Q_X12_, Q_X13_, Q_X16_, Q_X17_, Q_X21_, fun _ => rfl, Q_X26_, Q_X27_, Q_X31_, Q_X32_, Q_X37_, Q_X38_, Q_X42_, Q_X43_⟩
set_option maxHeartbeats 8000000 in
set_option maxRecDepth 100000 in
theorem ExS23 (w : World) (y246 : List (S40)) (y249 : List (S40)) (y252 : List (S40)) (y255 : List (S40)) (y258 : List (S40)) (y261 : List (S40)) (y264 : List (S40)) (y267 : List (S40)) (y270 : List (S40)) (y273 : List (S62)) (a0_ : Act) (Q : Exit → Act → World → Prop) (hsz : a0_.tmps.size = 482) : ∀ ops, (Try.f11.body.bind fun c => opsIn c 3) = some ops → StepAt Try.prog ops Q mE.B3 exO (ExI w y246 y249 y252 y255 y258 y261 y264 y267 y270 y273 a0_) 23 := by
 refine stepAt_mk rfl ?_
 have hu33 := Try.underlying33
 have hu62 := Try.underlying62
 have hu40 := Try.underlying40
 rintro b a w' ⟨v247, v250, v253, v256, v259, v262, v265, v268, v271, v274, m5_, m6_, m8_, m9_, m12_, m13_, m16_, m17_, m21_, m22_, m26_, m27_, m31_, m32_, m37_, m38_, m42_, m43_, ha, Q_HB, Q_HO248, Q_HO251, Q_HO254, Q_HO257, Q_HO260, Q_HO263, Q_HO266, Q_HO269, Q_HO272, Q_HO275, Q_X5_, Q_X6_, Q_X8_, Q_X9_, Q_X12_, Q_X13_, Q_X16_, Q_X17_, Q_X21_, Q_X22_, Q_X26_, Q_X27_, Q_X31_, Q_X32_, Q_X37_, Q_X38_, Q_X42_, Q_X43_⟩ hb_ hon hoff
 refine ⟨_, rfl, fun K hK => ?_⟩
 replace ha := As.mk ha
 have HB := As.mk Q_HB
 refine value_ (w1 := w') (v := .agg #[.int .i64 1, .int .i64 0]) (by rfl) rfl ?_ ?_
 ·go_simp
  (try simp only [i64_w])
  try rfl
 refine hK.out _ _ ⟨v247, v250, v253, v256, v259, v262, v265, v268, v271, v274, m5_, m6_, m8_, m9_, m12_, m13_, m16_, m17_, m21_, m22_, m26_, m27_, m31_, m32_, m37_, m38_, m42_, m43_, (by rw [ha.out]; exact putSel_upk 23 hb_ rfl rfl rfl), Q_HB, Q_HO248, Q_HO251, Q_HO254, Q_HO257, Q_HO260, fun h0_ _ => absurd ((hoff 25 (by kernel_rfl)).symm.trans h0_) (by decide), Q_HO266, Q_HO269, Q_HO272, fun h0_ => absurd ((hoff 44 (by kernel_rfl)).symm.trans h0_) (by decide), Q_X5_, Q_X6_, Q_X8_, Q_X9_, Q_X12_, Q_X13_, Q_X16_, Q_X17_, Q_X21_, Q_X22_, fun h0_ => absurd ((hoff 26 (by kernel_rfl)).symm.trans h0_) (by decide), fun h0_ => absurd ((hoff 27 (by kernel_rfl)).symm.trans h0_) (by decide), Q_X31_, Q_X32_, Q_X37_, Q_X38_, Q_X42_, Q_X43_⟩
end Go.Proofs.Ytlleokhmgblfnaa.M
end
