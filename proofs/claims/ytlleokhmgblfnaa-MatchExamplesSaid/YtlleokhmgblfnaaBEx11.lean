/- A part of the proof: texts of this seat joined (printed and by hand), without what is not used. -/
import Derived.Test.YtlleokhmgblfnaaBEx10
set_option linter.unusedVariables false
set_option linter.unusedSimpArgs false
set_option linter.unusedSectionVars false
section
namespace Go.Proofs.Ytlleokhmgblfnaa.M
open Go.RowKit Go.Proofs.YtlleokhmgblfnaaW.PrintWords Go.Proofs.YtlleokhmgblfnaaW.PrintLast Go.Proofs.YtlleokhmgblfnaaW.PrintMore
attribute [local go_sem] max2_int min2_int max_two min_two max_three min_three max_four min_four
set_option maxHeartbeats 8000000 in
set_option maxRecDepth 100000 in
theorem ExS24 (w : World) (y246 : List (S40)) (y249 : List (S40)) (y252 : List (S40)) (y255 : List (S40)) (y258 : List (S40)) (y261 : List (S40)) (y264 : List (S40)) (y267 : List (S40)) (y270 : List (S40)) (y273 : List (S62)) (a0_ : Act) (Q : Exit → Act → World → Prop) (hsz : a0_.tmps.size = 482) : ∀ ops, (Try.f11.body.bind fun c => opsIn c 3) = some ops → StepAt Try.prog ops Q mE.B3 exO (ExI w y246 y249 y252 y255 y258 y261 y264 y267 y270 y273 a0_) 24 := by
 refine stepAt_mk rfl ?_
 have hu33 := Try.underlying33
 have hu62 := Try.underlying62
 have hu40 := Try.underlying40
 rintro b a w' ⟨v247, v250, v253, v256, v259, v262, v265, v268, v271, v274, m5_, m6_, m8_, m9_, m12_, m13_, m16_, m17_, m21_, m22_, m26_, m27_, m31_, m32_, m37_, m38_, m42_, m43_, ha, Q_HB, Q_HO248, Q_HO251, Q_HO254, Q_HO257, Q_HO260, Q_HO263, Q_HO266, Q_HO269, Q_HO272, Q_HO275, Q_X5_, Q_X6_, Q_X8_, Q_X9_, Q_X12_, Q_X13_, Q_X16_, Q_X17_, Q_X21_, Q_X22_, Q_X26_, Q_X27_, Q_X31_, Q_X32_, Q_X37_, Q_X38_, Q_X42_, Q_X43_⟩ hb_ hon hoff
 refine ⟨_, rfl, fun K hK => ?_⟩
 replace ha := As.mk ha
 have HB := As.mk Q_HB
 refine value_ (w1 := w') (v := .agg #[.int .i64 0, .int .i64 1]) (by rfl) rfl ?_ ?_
 ·go_simp
  (try simp only [i64_w])
  try rfl
 refine hK.out _ _ ⟨v247, v250, v253, v256, v259, v262, v265, v268, v271, v274, m5_, m6_, m8_, m9_, m12_, m13_, m16_, m17_, m21_, m22_, m26_, m27_, m31_, m32_, m37_, m38_, m42_, m43_, (by rw [ha.out]; exact putSel_upk 24 hb_ rfl rfl rfl), Q_HB, Q_HO248, Q_HO251, Q_HO254, Q_HO257, Q_HO260, fun h0_ _ => absurd ((hoff 25 (by kernel_rfl)).symm.trans h0_) (by decide), Q_HO266, Q_HO269, Q_HO272, fun h0_ => absurd ((hoff 44 (by kernel_rfl)).symm.trans h0_) (by decide), Q_X5_, Q_X6_, Q_X8_, Q_X9_, Q_X12_, Q_X13_, Q_X16_, Q_X17_, Q_X21_, Q_X22_, fun h0_ => absurd ((hoff 26 (by kernel_rfl)).symm.trans h0_) (by decide), fun h0_ => absurd ((hoff 27 (by kernel_rfl)).symm.trans h0_) (by decide), Q_X31_, Q_X32_, Q_X37_, Q_X38_, Q_X42_, Q_X43_⟩
set_option maxHeartbeats 8000000 in
set_option maxRecDepth 100000 in
theorem ExS25 (w : World) (y246 : List (S40)) (y249 : List (S40)) (y252 : List (S40)) (y255 : List (S40)) (y258 : List (S40)) (y261 : List (S40)) (y264 : List (S40)) (y267 : List (S40)) (y270 : List (S40)) (y273 : List (S62)) (Ny261 : As (y261 = ([(⟨1, 0⟩ : S40), (⟨0, 1⟩ : S40)] : List (S40)))) (a0_ : Act) (Q : Exit → Act → World → Prop) (hsz : a0_.tmps.size = 482) : ∀ ops, (Try.f11.body.bind fun c => opsIn c 3) = some ops → StepAt Try.prog ops Q mE.B3 exO (ExI w y246 y249 y252 y255 y258 y261 y264 y267 y270 y273 a0_) 25 := by
 refine stepAt_mk rfl ?_
 have hu33 := Try.underlying33
 have hu62 := Try.underlying62
 have hu40 := Try.underlying40
 rintro b a w' ⟨v247, v250, v253, v256, v259, v262, v265, v268, v271, v274, m5_, m6_, m8_, m9_, m12_, m13_, m16_, m17_, m21_, m22_, m26_, m27_, m31_, m32_, m37_, m38_, m42_, m43_, ha, Q_HB, Q_HO248, Q_HO251, Q_HO254, Q_HO257, Q_HO260, Q_HO263, Q_HO266, Q_HO269, Q_HO272, Q_HO275, Q_X5_, Q_X6_, Q_X8_, Q_X9_, Q_X12_, Q_X13_, Q_X16_, Q_X17_, Q_X21_, Q_X22_, Q_X26_, Q_X27_, Q_X31_, Q_X32_, Q_X37_, Q_X38_, Q_X42_, Q_X43_⟩ hb_ hon hoff
 refine ⟨_, rfl, fun K hK => ?_⟩
 have e89 : a.tmps[89]? = some (.agg #[.int .i64 1, .int .i64 0]) := by rw [ha]; exact putSel_on (e := (23, 89, .agg #[.int .i64 1, .int .i64 0])) 23 rfl rfl (hon 23 (by kernel_rfl)) (szb hsz rfl)
 have e90 : a.tmps[90]? = some (.agg #[.int .i64 0, .int .i64 1]) := by rw [ha]; exact putSel_on (e := (24, 90, .agg #[.int .i64 0, .int .i64 1])) 24 rfl rfl (hon 24 (by kernel_rfl)) (szb hsz rfl)
 replace ha := As.mk ha
 have HB := As.mk Q_HB
 refine Kd.R_lit_step k40 _ 40 ?hg (N := 91) ?hd (xs := ([(⟨1, 0⟩ : S40), (⟨0, 1⟩ : S40)] : List (S40))) (inner := [.int .i64 1, .int .i64 0, .int .i64 0, .int .i64 1]) (ok := fun _ => True) (okp := fun _ => True) ?hr ?hp (fun _ hk => hk) trivial (Below.refl _ _) (Nat.le_refl _) (by simp) ?_; (case hd => rfl); (case hg => rfl); (case hr => first | (go_simp; done) | (go_simp; rfl)); (case hp => exact (Reps.c2 (show Kd.M k40 _ _ _ (⟨1, 0⟩ : S40) [.int .i64 1, .int .i64 0] from (k40_mkM _ _ _ (⟨1, 0⟩ : S40) )) (Reps.c2 (show Kd.M k40 _ _ _ (⟨0, 1⟩ : S40) [.int .i64 0, .int .i64 1] from (k40_mkM _ _ _ (⟨0, 1⟩ : S40) )) (Reps.none _ _))))
 intro v262 w6 ho7 hb hg_ hnew_
 clear hg_ hnew_
 (first | rw [← Ny261.out] at ho7 | (simp only [Int.reduceToNat] at ho7; rw [← Ny261.out] at ho7))
 have n0_ := As.mk (Kd.R_lower ho7 (below_size (hup0 HB.out)))
 have n1_ := As.mk (below_step (hup0 HB.out) hb)
 have z_HO248 := fun (h0_ : b 4 = true) (h1_ : b 44 = false) => (show Kd.R k40 40 w6 w.heap.size (fun _ => True) v247 y246 from by first | exact (Kd.R_elder' (by (with_reducible repeat (first | apply Kd.R_alloc | apply Kd.R_drewN | apply Kd.R_drew)); exact (Q_HO248 h0_ h1_)) (Kd.R_base ho7) hb) | exact Kd.R_mono (Kd.R_elder' (by (with_reducible repeat (first | apply Kd.R_alloc | apply Kd.R_drewN | apply Kd.R_drew)); exact (Q_HO248 h0_ h1_)) (Kd.R_base ho7) hb) (fun _ h_ => by first | trivial | exact h_ | exact h_.1))
 have z_HO251 := fun (h0_ : b 7 = true) (h1_ : b 44 = false) => (show Kd.R k40 40 w6 w.heap.size (fun _ => True) v250 y249 from by first | exact (Kd.R_elder' (by (with_reducible repeat (first | apply Kd.R_alloc | apply Kd.R_drewN | apply Kd.R_drew)); exact (Q_HO251 h0_ h1_)) (Kd.R_base ho7) hb) | exact Kd.R_mono (Kd.R_elder' (by (with_reducible repeat (first | apply Kd.R_alloc | apply Kd.R_drewN | apply Kd.R_drew)); exact (Q_HO251 h0_ h1_)) (Kd.R_base ho7) hb) (fun _ h_ => by first | trivial | exact h_ | exact h_.1))
 have z_HO254 := fun (h0_ : b 11 = true) (h1_ : b 44 = false) => (show Kd.R k40 40 w6 w.heap.size (fun _ => True) v253 y252 from by first | exact (Kd.R_elder' (by (with_reducible repeat (first | apply Kd.R_alloc | apply Kd.R_drewN | apply Kd.R_drew)); exact (Q_HO254 h0_ h1_)) (Kd.R_base ho7) hb) | exact Kd.R_mono (Kd.R_elder' (by (with_reducible repeat (first | apply Kd.R_alloc | apply Kd.R_drewN | apply Kd.R_drew)); exact (Q_HO254 h0_ h1_)) (Kd.R_base ho7) hb) (fun _ h_ => by first | trivial | exact h_ | exact h_.1))
 have z_HO257 := fun (h0_ : b 15 = true) (h1_ : b 44 = false) => (show Kd.R k40 40 w6 w.heap.size (fun _ => True) v256 y255 from by first | exact (Kd.R_elder' (by (with_reducible repeat (first | apply Kd.R_alloc | apply Kd.R_drewN | apply Kd.R_drew)); exact (Q_HO257 h0_ h1_)) (Kd.R_base ho7) hb) | exact Kd.R_mono (Kd.R_elder' (by (with_reducible repeat (first | apply Kd.R_alloc | apply Kd.R_drewN | apply Kd.R_drew)); exact (Q_HO257 h0_ h1_)) (Kd.R_base ho7) hb) (fun _ h_ => by first | trivial | exact h_ | exact h_.1))
 have z_HO260 := fun (h0_ : b 20 = true) (h1_ : b 44 = false) => (show Kd.R k40 40 w6 w.heap.size (fun _ => True) v259 y258 from by first | exact (Kd.R_elder' (by (with_reducible repeat (first | apply Kd.R_alloc | apply Kd.R_drewN | apply Kd.R_drew)); exact (Q_HO260 h0_ h1_)) (Kd.R_base ho7) hb) | exact Kd.R_mono (Kd.R_elder' (by (with_reducible repeat (first | apply Kd.R_alloc | apply Kd.R_drewN | apply Kd.R_drew)); exact (Q_HO260 h0_ h1_)) (Kd.R_base ho7) hb) (fun _ h_ => by first | trivial | exact h_ | exact h_.1))
 have z_HO266 := fun (h0_ : b 30 = true) (h1_ : b 44 = false) => (show Kd.R k40 40 w6 w.heap.size (fun _ => True) v265 y264 from by first | exact (Kd.R_elder' (by (with_reducible repeat (first | apply Kd.R_alloc | apply Kd.R_drewN | apply Kd.R_drew)); exact (Q_HO266 h0_ h1_)) (Kd.R_base ho7) hb) | exact Kd.R_mono (Kd.R_elder' (by (with_reducible repeat (first | apply Kd.R_alloc | apply Kd.R_drewN | apply Kd.R_drew)); exact (Q_HO266 h0_ h1_)) (Kd.R_base ho7) hb) (fun _ h_ => by first | trivial | exact h_ | exact h_.1))
 have z_HO269 := fun (h0_ : b 36 = true) (h1_ : b 44 = false) => (show Kd.R k40 40 w6 w.heap.size (fun _ => True) v268 y267 from by first | exact (Kd.R_elder' (by (with_reducible repeat (first | apply Kd.R_alloc | apply Kd.R_drewN | apply Kd.R_drew)); exact (Q_HO269 h0_ h1_)) (Kd.R_base ho7) hb) | exact Kd.R_mono (Kd.R_elder' (by (with_reducible repeat (first | apply Kd.R_alloc | apply Kd.R_drewN | apply Kd.R_drew)); exact (Q_HO269 h0_ h1_)) (Kd.R_base ho7) hb) (fun _ h_ => by first | trivial | exact h_ | exact h_.1))
 have z_HO272 := fun (h0_ : b 41 = true) (h1_ : b 44 = false) => (show Kd.R k40 40 w6 w.heap.size (fun _ => True) v271 y270 from by first | exact (Kd.R_elder' (by (with_reducible repeat (first | apply Kd.R_alloc | apply Kd.R_drewN | apply Kd.R_drew)); exact (Q_HO272 h0_ h1_)) (Kd.R_base ho7) hb) | exact Kd.R_mono (Kd.R_elder' (by (with_reducible repeat (first | apply Kd.R_alloc | apply Kd.R_drewN | apply Kd.R_drew)); exact (Q_HO272 h0_ h1_)) (Kd.R_base ho7) hb) (fun _ h_ => by first | trivial | exact h_ | exact h_.1))
 clear HB
 have HO263 := n0_
 have HB := n1_
 clear n0_ n1_
 clear hb ho7
 obtain ⟨Ao8, co8, eo8⟩ := Kd.R_slice HO263.out
 (first | subst eo8 | (injection eo8 with f1_ f2_ f3_; have f4_ := f1_.symm; have f5_ := f3_.symm; clear f1_ f2_ f3_; subst f4_; subst f5_))
 refine hK.out _ _ ⟨v247, v250, v253, v256, v259, .slice Ao8 y261.length co8, v265, v268, v271, v274, m5_, m6_, m8_, m9_, m12_, m13_, m16_, m17_, m21_, m22_, m26_, m27_, m31_, m32_, m37_, m38_, m42_, m43_, (by rw [ha.out]; exact putSel_upk 25 hb_ rfl rfl rfl), (hup0 HB.out), z_HO248, z_HO251, z_HO254, z_HO257, z_HO260, fun _ _ => (rup HO263.out), z_HO266, z_HO269, z_HO272, fun h0_ => absurd ((hoff 44 (by kernel_rfl)).symm.trans h0_) (by decide), Q_X5_, Q_X6_, Q_X8_, Q_X9_, Q_X12_, Q_X13_, Q_X16_, Q_X17_, Q_X21_, Q_X22_, fun h0_ => absurd ((hoff 26 (by kernel_rfl)).symm.trans h0_) (by decide), fun h0_ => absurd ((hoff 27 (by kernel_rfl)).symm.trans h0_) (by decide), Q_X31_, Q_X32_, Q_X37_, Q_X38_, Q_X42_, Q_X43_⟩
set_option maxHeartbeats 8000000 in
set_option maxRecDepth 100000 in
theorem ExS26 (w : World) (y246 : List (S40)) (y249 : List (S40)) (y252 : List (S40)) (y255 : List (S40)) (y258 : List (S40)) (y261 : List (S40)) (y264 : List (S40)) (y267 : List (S40)) (y270 : List (S40)) (y273 : List (S62)) (a0_ : Act) (Q : Exit → Act → World → Prop) (hsz : a0_.tmps.size = 482) : ∀ ops, (Try.f11.body.bind fun c => opsIn c 3) = some ops → StepAt Try.prog ops Q mE.B3 exO (ExI w y246 y249 y252 y255 y258 y261 y264 y267 y270 y273 a0_) 26 := by
 refine stepAt_mk rfl ?_
 have hu33 := Try.underlying33
 have hu62 := Try.underlying62
 have hu40 := Try.underlying40
 rintro b a w' ⟨v247, v250, v253, v256, v259, v262, v265, v268, v271, v274, m5_, m6_, m8_, m9_, m12_, m13_, m16_, m17_, m21_, m22_, m26_, m27_, m31_, m32_, m37_, m38_, m42_, m43_, ha, Q_HB, Q_HO248, Q_HO251, Q_HO254, Q_HO257, Q_HO260, Q_HO263, Q_HO266, Q_HO269, Q_HO272, Q_HO275, Q_X5_, Q_X6_, Q_X8_, Q_X9_, Q_X12_, Q_X13_, Q_X16_, Q_X17_, Q_X21_, Q_X22_, Q_X26_, Q_X27_, Q_X31_, Q_X32_, Q_X37_, Q_X38_, Q_X42_, Q_X43_⟩ hb_ hon hoff
 refine ⟨_, rfl, fun K hK => ?_⟩
 have e91 : a.tmps[91]? = some (v262) := by rw [ha]; exact putSel_on (e := (25, 91, v262)) 25 rfl rfl (hon 25 (by kernel_rfl)) (szb hsz rfl)
 replace ha := As.mk ha
 have HB := As.mk Q_HB
 have HO263 := As.mk (Q_HO263 (hon 25 (by kernel_rfl)) (hoff 44 (by kernel_rfl)))
 obtain ⟨Ao26_0, co26_0, eo_⟩ := Kd.R_slice HO263.out
 subst eo_
 refine value_ (w1 := w') (v := .agg #[.int .i64 2, .int .i64 2, .slice Ao26_0 y261.length co26_0]) (by rfl) rfl ?_ ?_
 ·go_simp
  (try simp only [i64_w])
  try rfl
 refine hK.out _ _ ⟨v247, v250, v253, v256, v259, .slice Ao26_0 y261.length co26_0, v265, v268, v271, v274, m5_, m6_, m8_, m9_, m12_, m13_, m16_, m17_, m21_, m22_, (.agg #[.int .i64 2, .int .i64 2, .slice Ao26_0 y261.length co26_0]), m27_, m31_, m32_, m37_, m38_, m42_, m43_, (by rw [ha.out]; exact putSel_upk 26 hb_ rfl rfl rfl), Q_HB, Q_HO248, Q_HO251, Q_HO254, Q_HO257, Q_HO260, Q_HO263, Q_HO266, Q_HO269, Q_HO272, fun h0_ => absurd ((hoff 44 (by kernel_rfl)).symm.trans h0_) (by decide), Q_X5_, Q_X6_, Q_X8_, Q_X9_, Q_X12_, Q_X13_, Q_X16_, Q_X17_, Q_X21_, Q_X22_, fun _ => rfl, fun h0_ => absurd ((hoff 27 (by kernel_rfl)).symm.trans h0_) (by decide), Q_X31_, Q_X32_, Q_X37_, Q_X38_, Q_X42_, Q_X43_⟩
set_option maxHeartbeats 8000000 in
set_option maxRecDepth 100000 in
theorem ExS27 (w : World) (y246 : List (S40)) (y249 : List (S40)) (y252 : List (S40)) (y255 : List (S40)) (y258 : List (S40)) (y261 : List (S40)) (y264 : List (S40)) (y267 : List (S40)) (y270 : List (S40)) (y273 : List (S62)) (a0_ : Act) (Q : Exit → Act → World → Prop) (hsz : a0_.tmps.size = 482) : ∀ ops, (Try.f11.body.bind fun c => opsIn c 3) = some ops → StepAt Try.prog ops Q mE.B3 exO (ExI w y246 y249 y252 y255 y258 y261 y264 y267 y270 y273 a0_) 27 := by
 refine stepAt_mk rfl ?_
 have hu33 := Try.underlying33
 have hu62 := Try.underlying62
 have hu40 := Try.underlying40
 rintro b a w' ⟨v247, v250, v253, v256, v259, v262, v265, v268, v271, v274, m5_, m6_, m8_, m9_, m12_, m13_, m16_, m17_, m21_, m22_, m26_, m27_, m31_, m32_, m37_, m38_, m42_, m43_, ha, Q_HB, Q_HO248, Q_HO251, Q_HO254, Q_HO257, Q_HO260, Q_HO263, Q_HO266, Q_HO269, Q_HO272, Q_HO275, Q_X5_, Q_X6_, Q_X8_, Q_X9_, Q_X12_, Q_X13_, Q_X16_, Q_X17_, Q_X21_, Q_X22_, Q_X26_, Q_X27_, Q_X31_, Q_X32_, Q_X37_, Q_X38_, Q_X42_, Q_X43_⟩ hb_ hon hoff
 refine ⟨_, rfl, fun K hK => ?_⟩
 have e92 : a.tmps[92]? = some (m26_) := by rw [ha]; exact putSel_on (e := (26, 92, m26_)) 26 rfl rfl (hon 26 (by kernel_rfl)) (szb hsz rfl)
 rw [Q_X26_ (hon 26 (by kernel_rfl))] at e92
 replace ha := As.mk ha
 have HB := As.mk Q_HB
 have HO263 := As.mk (Q_HO263 (hon 25 (by kernel_rfl)) (hoff 44 (by kernel_rfl)))
 obtain ⟨Ao27_0, co27_0, eo_⟩ := Kd.R_slice HO263.out
 subst eo_
 refine value_ (w1 := w') (v := .agg #[.int .i64 2, .int .i64 2, .slice Ao27_0 y261.length co27_0, .int .i64 6]) (by rfl) rfl ?_ ?_
 ·go_simp
  (try simp only [i64_w])
  try rfl
 refine hK.out _ _ ⟨v247, v250, v253, v256, v259, .slice Ao27_0 y261.length co27_0, v265, v268, v271, v274, m5_, m6_, m8_, m9_, m12_, m13_, m16_, m17_, m21_, m22_, m26_, (.agg #[.int .i64 2, .int .i64 2, .slice Ao27_0 y261.length co27_0, .int .i64 6]), m31_, m32_, m37_, m38_, m42_, m43_, (by rw [ha.out]; exact putSel_upk 27 hb_ rfl rfl rfl), Q_HB, Q_HO248, Q_HO251, Q_HO254, Q_HO257, Q_HO260, Q_HO263, Q_HO266, Q_HO269, Q_HO272, fun h0_ => absurd ((hoff 44 (by kernel_rfl)).symm.trans h0_) (by decide), Q_X5_, Q_X6_, Q_X8_, Q_X9_, Q_X12_, Q_X13_, Q_X16_, Q_X17_, Q_X21_, Q_X22_, Q_X26_, fun _ => rfl, Q_X31_, Q_X32_, Q_X37_, Q_X38_, Q_X42_, Q_X43_⟩
set_option maxHeartbeats 8000000 in
set_option maxRecDepth 100000 in
theorem ExS28 (w : World) (y246 : List (S40)) (y249 : List (S40)) (y252 : List (S40)) (y255 : List (S40)) (y258 : List (S40)) (y261 : List (S40)) (y264 : List (S40)) (y267 : List (S40)) (y270 : List (S40)) (y273 : List (S62)) (a0_ : Act) (Q : Exit → Act → World → Prop) (hsz : a0_.tmps.size = 482) : ∀ ops, (Try.f11.body.bind fun c => opsIn c 3) = some ops → StepAt Try.prog ops Q mE.B3 exO (ExI w y246 y249 y252 y255 y258 y261 y264 y267 y270 y273 a0_) 28 := by
 refine stepAt_mk rfl ?_
 have hu33 := Try.underlying33
 have hu62 := Try.underlying62
 have hu40 := Try.underlying40
 rintro b a w' ⟨v247, v250, v253, v256, v259, v262, v265, v268, v271, v274, m5_, m6_, m8_, m9_, m12_, m13_, m16_, m17_, m21_, m22_, m26_, m27_, m31_, m32_, m37_, m38_, m42_, m43_, ha, Q_HB, Q_HO248, Q_HO251, Q_HO254, Q_HO257, Q_HO260, Q_HO263, Q_HO266, Q_HO269, Q_HO272, Q_HO275, Q_X5_, Q_X6_, Q_X8_, Q_X9_, Q_X12_, Q_X13_, Q_X16_, Q_X17_, Q_X21_, Q_X22_, Q_X26_, Q_X27_, Q_X31_, Q_X32_, Q_X37_, Q_X38_, Q_X42_, Q_X43_⟩ hb_ hon hoff
 refine ⟨_, rfl, fun K hK => ?_⟩
 replace ha := As.mk ha
 have HB := As.mk Q_HB
 refine value_ (w1 := w') (v := .agg #[.int .i64 1, .int .i64 1]) (by rfl) rfl ?_ ?_
 ·go_simp
  (try simp only [i64_w])
  try rfl
 refine hK.out _ _ ⟨v247, v250, v253, v256, v259, v262, v265, v268, v271, v274, m5_, m6_, m8_, m9_, m12_, m13_, m16_, m17_, m21_, m22_, m26_, m27_, m31_, m32_, m37_, m38_, m42_, m43_, (by rw [ha.out]; exact putSel_upk 28 hb_ rfl rfl rfl), Q_HB, Q_HO248, Q_HO251, Q_HO254, Q_HO257, Q_HO260, Q_HO263, fun h0_ _ => absurd ((hoff 30 (by kernel_rfl)).symm.trans h0_) (by decide), Q_HO269, Q_HO272, fun h0_ => absurd ((hoff 44 (by kernel_rfl)).symm.trans h0_) (by decide), Q_X5_, Q_X6_, Q_X8_, Q_X9_, Q_X12_, Q_X13_, Q_X16_, Q_X17_, Q_X21_, Q_X22_, Q_X26_, Q_X27_, fun h0_ => absurd ((hoff 31 (by kernel_rfl)).symm.trans h0_) (by decide), fun h0_ => absurd ((hoff 32 (by kernel_rfl)).symm.trans h0_) (by decide), Q_X37_, Q_X38_, Q_X42_, Q_X43_⟩
set_option maxHeartbeats 8000000 in
set_option maxRecDepth 100000 in
theorem ExS29 (w : World) (y246 : List (S40)) (y249 : List (S40)) (y252 : List (S40)) (y255 : List (S40)) (y258 : List (S40)) (y261 : List (S40)) (y264 : List (S40)) (y267 : List (S40)) (y270 : List (S40)) (y273 : List (S62)) (a0_ : Act) (Q : Exit → Act → World → Prop) (hsz : a0_.tmps.size = 482) : ∀ ops, (Try.f11.body.bind fun c => opsIn c 3) = some ops → StepAt Try.prog ops Q mE.B3 exO (ExI w y246 y249 y252 y255 y258 y261 y264 y267 y270 y273 a0_) 29 := by
 refine stepAt_mk rfl ?_
 have hu33 := Try.underlying33
 have hu62 := Try.underlying62
 have hu40 := Try.underlying40
 rintro b a w' ⟨v247, v250, v253, v256, v259, v262, v265, v268, v271, v274, m5_, m6_, m8_, m9_, m12_, m13_, m16_, m17_, m21_, m22_, m26_, m27_, m31_, m32_, m37_, m38_, m42_, m43_, ha, Q_HB, Q_HO248, Q_HO251, Q_HO254, Q_HO257, Q_HO260, Q_HO263, Q_HO266, Q_HO269, Q_HO272, Q_HO275, Q_X5_, Q_X6_, Q_X8_, Q_X9_, Q_X12_, Q_X13_, Q_X16_, Q_X17_, Q_X21_, Q_X22_, Q_X26_, Q_X27_, Q_X31_, Q_X32_, Q_X37_, Q_X38_, Q_X42_, Q_X43_⟩ hb_ hon hoff
 refine ⟨_, rfl, fun K hK => ?_⟩
 replace ha := As.mk ha
 have HB := As.mk Q_HB
 refine value_ (w1 := w') (v := .agg #[.int .i64 1, .int .i64 0]) (by rfl) rfl ?_ ?_
 ·go_simp
  (try simp only [i64_w])
  try rfl
 refine hK.out _ _ ⟨v247, v250, v253, v256, v259, v262, v265, v268, v271, v274, m5_, m6_, m8_, m9_, m12_, m13_, m16_, m17_, m21_, m22_, m26_, m27_, m31_, m32_, m37_, m38_, m42_, m43_, (by rw [ha.out]; exact putSel_upk 29 hb_ rfl rfl rfl), Q_HB, Q_HO248, Q_HO251, Q_HO254, Q_HO257, Q_HO260, Q_HO263, fun h0_ _ => absurd ((hoff 30 (by kernel_rfl)).symm.trans h0_) (by decide), Q_HO269, Q_HO272, fun h0_ => absurd ((hoff 44 (by kernel_rfl)).symm.trans h0_) (by decide), Q_X5_, Q_X6_, Q_X8_, Q_X9_, Q_X12_, Q_X13_, Q_X16_, Q_X17_, Q_X21_, Q_X22_, Q_X26_, Q_X27_, fun h0_ => absurd ((hoff 31 (by kernel_rfl)).symm.trans h0_) (by decide), fun h0_ => absurd ((hoff 32 (by kernel_rfl)).symm.trans h0_) (by decide), Q_X37_, Q_X38_, Q_X42_, Q_X43_⟩
set_option maxHeartbeats 8000000 in
set_option maxRecDepth 100000 in
theorem ExS30 (w : World) (y246 : List (S40)) (y249 : List (S40)) (y252 : List (S40)) (y255 : List (S40)) (y258 : List (S40)) (y261 : List (S40)) (y264 : List (S40)) (y267 : List (S40)) (y270 : List (S40)) (y273 : List (S62)) (Ny264 : As (y264 = ([(⟨1, 1⟩ : S40), (⟨1, 0⟩ : S40)] : List (S40)))) (a0_ : Act) (Q : Exit → Act → World → Prop) (hsz : a0_.tmps.size = 482) : ∀ ops, (Try.f11.body.bind fun c => opsIn c 3) = some ops → StepAt Try.prog ops Q mE.B3 exO (ExI w y246 y249 y252 y255 y258 y261 y264 y267 y270 y273 a0_) 30 := by
 refine stepAt_mk rfl ?_
 have hu33 := Try.underlying33
 have hu62 := Try.underlying62
 have hu40 := Try.underlying40
 rintro b a w' ⟨v247, v250, v253, v256, v259, v262, v265, v268, v271, v274, m5_, m6_, m8_, m9_, m12_, m13_, m16_, m17_, m21_, m22_, m26_, m27_, m31_, m32_, m37_, m38_, m42_, m43_, ha, Q_HB, Q_HO248, Q_HO251, Q_HO254, Q_HO257, Q_HO260, Q_HO263, Q_HO266, Q_HO269, Q_HO272, Q_HO275, Q_X5_, Q_X6_, Q_X8_, Q_X9_, Q_X12_, Q_X13_, Q_X16_, Q_X17_, Q_X21_, Q_X22_, Q_X26_, Q_X27_, Q_X31_, Q_X32_, Q_X37_, Q_X38_, Q_X42_, Q_X43_⟩ hb_ hon hoff
 refine ⟨_, rfl, fun K hK => ?_⟩
 have e94 : a.tmps[94]? = some (.agg #[.int .i64 1, .int .i64 1]) := by rw [ha]; exact putSel_on (e := (28, 94, .agg #[.int .i64 1, .int .i64 1])) 28 rfl rfl (hon 28 (by kernel_rfl)) (szb hsz rfl)
 have e95 : a.tmps[95]? = some (.agg #[.int .i64 1, .int .i64 0]) := by rw [ha]; exact putSel_on (e := (29, 95, .agg #[.int .i64 1, .int .i64 0])) 29 rfl rfl (hon 29 (by kernel_rfl)) (szb hsz rfl)
 replace ha := As.mk ha
 have HB := As.mk Q_HB
 refine Kd.R_lit_step k40 _ 40 ?hg (N := 96) ?hd (xs := ([(⟨1, 1⟩ : S40), (⟨1, 0⟩ : S40)] : List (S40))) (inner := [.int .i64 1, .int .i64 1, .int .i64 1, .int .i64 0]) (ok := fun _ => True) (okp := fun _ => True) ?hr ?hp (fun _ hk => hk) trivial (Below.refl _ _) (Nat.le_refl _) (by simp) ?_; (case hd => rfl); (case hg => rfl); (case hr => first | (go_simp; done) | (go_simp; rfl)); (case hp => exact (Reps.c2 (show Kd.M k40 _ _ _ (⟨1, 1⟩ : S40) [.int .i64 1, .int .i64 1] from (k40_mkM _ _ _ (⟨1, 1⟩ : S40) )) (Reps.c2 (show Kd.M k40 _ _ _ (⟨1, 0⟩ : S40) [.int .i64 1, .int .i64 0] from (k40_mkM _ _ _ (⟨1, 0⟩ : S40) )) (Reps.none _ _))))
 intro v265 w6 ho7 hb hg_ hnew_
 clear hg_ hnew_
 (first | rw [← Ny264.out] at ho7 | (simp only [Int.reduceToNat] at ho7; rw [← Ny264.out] at ho7))
 have n0_ := As.mk (Kd.R_lower ho7 (below_size (hup0 HB.out)))
 have n1_ := As.mk (below_step (hup0 HB.out) hb)
 have z_HO248 := fun (h0_ : b 4 = true) (h1_ : b 44 = false) => (show Kd.R k40 40 w6 w.heap.size (fun _ => True) v247 y246 from by first | exact (Kd.R_elder' (by (with_reducible repeat (first | apply Kd.R_alloc | apply Kd.R_drewN | apply Kd.R_drew)); exact (Q_HO248 h0_ h1_)) (Kd.R_base ho7) hb) | exact Kd.R_mono (Kd.R_elder' (by (with_reducible repeat (first | apply Kd.R_alloc | apply Kd.R_drewN | apply Kd.R_drew)); exact (Q_HO248 h0_ h1_)) (Kd.R_base ho7) hb) (fun _ h_ => by first | trivial | exact h_ | exact h_.1))
 have z_HO251 := fun (h0_ : b 7 = true) (h1_ : b 44 = false) => (show Kd.R k40 40 w6 w.heap.size (fun _ => True) v250 y249 from by first | exact (Kd.R_elder' (by (with_reducible repeat (first | apply Kd.R_alloc | apply Kd.R_drewN | apply Kd.R_drew)); exact (Q_HO251 h0_ h1_)) (Kd.R_base ho7) hb) | exact Kd.R_mono (Kd.R_elder' (by (with_reducible repeat (first | apply Kd.R_alloc | apply Kd.R_drewN | apply Kd.R_drew)); exact (Q_HO251 h0_ h1_)) (Kd.R_base ho7) hb) (fun _ h_ => by first | trivial | exact h_ | exact h_.1))
 have z_HO254 := fun (h0_ : b 11 = true) (h1_ : b 44 = false) => (show Kd.R k40 40 w6 w.heap.size (fun _ => True) v253 y252 from by first | exact (Kd.R_elder' (by (with_reducible repeat (first | apply Kd.R_alloc | apply Kd.R_drewN | apply Kd.R_drew)); exact (Q_HO254 h0_ h1_)) (Kd.R_base ho7) hb) | exact Kd.R_mono (Kd.R_elder' (by (with_reducible repeat (first | apply Kd.R_alloc | apply Kd.R_drewN | apply Kd.R_drew)); exact (Q_HO254 h0_ h1_)) (Kd.R_base ho7) hb) (fun _ h_ => by first | trivial | exact h_ | exact h_.1))
 have z_HO257 := fun (h0_ : b 15 = true) (h1_ : b 44 = false) => (show Kd.R k40 40 w6 w.heap.size (fun _ => True) v256 y255 from by first | exact (Kd.R_elder' (by (with_reducible repeat (first | apply Kd.R_alloc | apply Kd.R_drewN | apply Kd.R_drew)); exact (Q_HO257 h0_ h1_)) (Kd.R_base ho7) hb) | exact Kd.R_mono (Kd.R_elder' (by (with_reducible repeat (first | apply Kd.R_alloc | apply Kd.R_drewN | apply Kd.R_drew)); exact (Q_HO257 h0_ h1_)) (Kd.R_base ho7) hb) (fun _ h_ => by first | trivial | exact h_ | exact h_.1))
 have z_HO260 := fun (h0_ : b 20 = true) (h1_ : b 44 = false) => (show Kd.R k40 40 w6 w.heap.size (fun _ => True) v259 y258 from by first | exact (Kd.R_elder' (by (with_reducible repeat (first | apply Kd.R_alloc | apply Kd.R_drewN | apply Kd.R_drew)); exact (Q_HO260 h0_ h1_)) (Kd.R_base ho7) hb) | exact Kd.R_mono (Kd.R_elder' (by (with_reducible repeat (first | apply Kd.R_alloc | apply Kd.R_drewN | apply Kd.R_drew)); exact (Q_HO260 h0_ h1_)) (Kd.R_base ho7) hb) (fun _ h_ => by first | trivial | exact h_ | exact h_.1))
 have z_HO263 := fun (h0_ : b 25 = true) (h1_ : b 44 = false) => (show Kd.R k40 40 w6 w.heap.size (fun _ => True) v262 y261 from by first | exact (Kd.R_elder' (by (with_reducible repeat (first | apply Kd.R_alloc | apply Kd.R_drewN | apply Kd.R_drew)); exact (Q_HO263 h0_ h1_)) (Kd.R_base ho7) hb) | exact Kd.R_mono (Kd.R_elder' (by (with_reducible repeat (first | apply Kd.R_alloc | apply Kd.R_drewN | apply Kd.R_drew)); exact (Q_HO263 h0_ h1_)) (Kd.R_base ho7) hb) (fun _ h_ => by first | trivial | exact h_ | exact h_.1))
 have z_HO269 := fun (h0_ : b 36 = true) (h1_ : b 44 = false) => (show Kd.R k40 40 w6 w.heap.size (fun _ => True) v268 y267 from by first | exact (Kd.R_elder' (by (with_reducible repeat (first | apply Kd.R_alloc | apply Kd.R_drewN | apply Kd.R_drew)); exact (Q_HO269 h0_ h1_)) (Kd.R_base ho7) hb) | exact Kd.R_mono (Kd.R_elder' (by (with_reducible repeat (first | apply Kd.R_alloc | apply Kd.R_drewN | apply Kd.R_drew)); exact (Q_HO269 h0_ h1_)) (Kd.R_base ho7) hb) (fun _ h_ => by first | trivial | exact h_ | exact h_.1))
 have z_HO272 := fun (h0_ : b 41 = true) (h1_ : b 44 = false) => (show Kd.R k40 40 w6 w.heap.size (fun _ => True) v271 y270 from by first | exact (Kd.R_elder' (by (with_reducible repeat (first | apply Kd.R_alloc | apply Kd.R_drewN | apply Kd.R_drew)); exact (Q_HO272 h0_ h1_)) (Kd.R_base ho7) hb) | exact Kd.R_mono (Kd.R_elder' (by (with_reducible repeat (first | apply Kd.R_alloc | apply Kd.R_drewN | apply Kd.R_drew)); exact (Q_HO272 h0_ h1_)) (Kd.R_base ho7) hb) (fun _ h_ => by first | trivial | exact h_ | exact h_.1))
 clear HB
 have HO266 := n0_
 have HB := n1_
 clear n0_ n1_
 clear hb ho7
 obtain ⟨Ao8, co8, eo8⟩ := Kd.R_slice HO266.out
 (first | subst eo8 | (injection eo8 with f1_ f2_ f3_; have f4_ := f1_.symm; have f5_ := f3_.symm; clear f1_ f2_ f3_; subst f4_; subst f5_))
 refine hK.out _ _ ⟨v247, v250, v253, v256, v259, v262, .slice Ao8 y264.length co8, v268, v271, v274, m5_, m6_, m8_, m9_, m12_, m13_, m16_, m17_, m21_, m22_, m26_, m27_, m31_, m32_, m37_, m38_, m42_, m43_, (by rw [ha.out]; exact putSel_upk 30 hb_ rfl rfl rfl), (hup0 HB.out), z_HO248, z_HO251, z_HO254, z_HO257, z_HO260, z_HO263, fun _ _ => (rup HO266.out), z_HO269, z_HO272, fun h0_ => absurd ((hoff 44 (by kernel_rfl)).symm.trans h0_) (by decide), Q_X5_, Q_X6_, Q_X8_, Q_X9_, Q_X12_, Q_X13_, Q_X16_, Q_X17_, Q_X21_, Q_X22_, Q_X26_, Q_X27_, fun h0_ => absurd ((hoff 31 (by kernel_rfl)).symm.trans h0_) (by decide), fun h0_ => absurd ((hoff 32 (by kernel_rfl)).symm.trans h0_) (by decide), Q_X37_, Q_X38_, Q_X42_, Q_X43_⟩
set_option maxHeartbeats 8000000 in
set_option maxRecDepth 100000 in
theorem ExS31 (w : World) (y246 : List (S40)) (y249 : List (S40)) (y252 : List (S40)) (y255 : List (S40)) (y258 : List (S40)) (y261 : List (S40)) (y264 : List (S40)) (y267 : List (S40)) (y270 : List (S40)) (y273 : List (S62)) (a0_ : Act) (Q : Exit → Act → World → Prop) (hsz : a0_.tmps.size = 482) : ∀ ops, (Try.f11.body.bind fun c => opsIn c 3) = some ops → StepAt Try.prog ops Q mE.B3 exO (ExI w y246 y249 y252 y255 y258 y261 y264 y267 y270 y273 a0_) 31 := by
 refine stepAt_mk rfl ?_
 have hu33 := Try.underlying33
 have hu62 := Try.underlying62
 have hu40 := Try.underlying40
 rintro b a w' ⟨v247, v250, v253, v256, v259, v262, v265, v268, v271, v274, m5_, m6_, m8_, m9_, m12_, m13_, m16_, m17_, m21_, m22_, m26_, m27_, m31_, m32_, m37_, m38_, m42_, m43_, ha, Q_HB, Q_HO248, Q_HO251, Q_HO254, Q_HO257, Q_HO260, Q_HO263, Q_HO266, Q_HO269, Q_HO272, Q_HO275, Q_X5_, Q_X6_, Q_X8_, Q_X9_, Q_X12_, Q_X13_, Q_X16_, Q_X17_, Q_X21_, Q_X22_, Q_X26_, Q_X27_, Q_X31_, Q_X32_, Q_X37_, Q_X38_, Q_X42_, Q_X43_⟩ hb_ hon hoff
 refine ⟨_, rfl, fun K hK => ?_⟩
 have e96 : a.tmps[96]? = some (v265) := by rw [ha]; exact putSel_on (e := (30, 96, v265)) 30 rfl rfl (hon 30 (by kernel_rfl)) (szb hsz rfl)
 replace ha := As.mk ha
 have HB := As.mk Q_HB
 have HO266 := As.mk (Q_HO266 (hon 30 (by kernel_rfl)) (hoff 44 (by kernel_rfl)))
 obtain ⟨Ao31_0, co31_0, eo_⟩ := Kd.R_slice HO266.out
 subst eo_
 refine value_ (w1 := w') (v := .agg #[.int .i64 2, .int .i64 2, .slice Ao31_0 y264.length co31_0]) (by rfl) rfl ?_ ?_
 ·go_simp
  (try simp only [i64_w])
  try rfl
 refine hK.out _ _ ⟨v247, v250, v253, v256, v259, v262, .slice Ao31_0 y264.length co31_0, v268, v271, v274, m5_, m6_, m8_, m9_, m12_, m13_, m16_, m17_, m21_, m22_, m26_, m27_, (.agg #[.int .i64 2, .int .i64 2, .slice Ao31_0 y264.length co31_0]), m32_, m37_, m38_, m42_, m43_, (by rw [ha.out]; exact putSel_upk 31 hb_ rfl rfl rfl), Q_HB, Q_HO248, Q_HO251, Q_HO254, Q_HO257, Q_HO260, Q_HO263, Q_HO266, Q_HO269, Q_HO272, fun h0_ => absurd ((hoff 44 (by kernel_rfl)).symm.trans h0_) (by decide), Q_X5_, Q_X6_, Q_X8_, Q_X9_, Q_X12_, Q_X13_, Q_X16_, Q_X17_, Q_X21_, Q_X22_, Q_X26_, Q_X27_, fun _ => rfl, fun h0_ => absurd ((hoff 32 (by kernel_rfl)).symm.trans h0_) (by decide), Q_X37_, Q_X38_, Q_X42_, Q_X43_⟩
set_option maxHeartbeats 8000000 in
set_option maxRecDepth 100000 in
theorem ExS32 (w : World) (y246 : List (S40)) (y249 : List (S40)) (y252 : List (S40)) (y255 : List (S40)) (y258 : List (S40)) (y261 : List (S40)) (y264 : List (S40)) (y267 : List (S40)) (y270 : List (S40)) (y273 : List (S62)) (a0_ : Act) (Q : Exit → Act → World → Prop) (hsz : a0_.tmps.size = 482) : ∀ ops, (Try.f11.body.bind fun c => opsIn c 3) = some ops → StepAt Try.prog ops Q mE.B3 exO (ExI w y246 y249 y252 y255 y258 y261 y264 y267 y270 y273 a0_) 32 := by
 refine stepAt_mk rfl ?_
 have hu33 := Try.underlying33
 have hu62 := Try.underlying62
 have hu40 := Try.underlying40
 rintro b a w' ⟨v247, v250, v253, v256, v259, v262, v265, v268, v271, v274, m5_, m6_, m8_, m9_, m12_, m13_, m16_, m17_, m21_, m22_, m26_, m27_, m31_, m32_, m37_, m38_, m42_, m43_, ha, Q_HB, Q_HO248, Q_HO251, Q_HO254, Q_HO257, Q_HO260, Q_HO263, Q_HO266, Q_HO269, Q_HO272, Q_HO275, Q_X5_, Q_X6_, Q_X8_, Q_X9_, Q_X12_, Q_X13_, Q_X16_, Q_X17_, Q_X21_, Q_X22_, Q_X26_, Q_X27_, Q_X31_, Q_X32_, Q_X37_, Q_X38_, Q_X42_, Q_X43_⟩ hb_ hon hoff
 refine ⟨_, rfl, fun K hK => ?_⟩
 have e97 : a.tmps[97]? = some (m31_) := by rw [ha]; exact putSel_on (e := (31, 97, m31_)) 31 rfl rfl (hon 31 (by kernel_rfl)) (szb hsz rfl)
 rw [Q_X31_ (hon 31 (by kernel_rfl))] at e97
 replace ha := As.mk ha
 have HB := As.mk Q_HB
 have HO266 := As.mk (Q_HO266 (hon 30 (by kernel_rfl)) (hoff 44 (by kernel_rfl)))
 obtain ⟨Ao32_0, co32_0, eo_⟩ := Kd.R_slice HO266.out
 subst eo_
 refine value_ (w1 := w') (v := .agg #[.int .i64 2, .int .i64 2, .slice Ao32_0 y264.length co32_0, .int .i64 6]) (by rfl) rfl ?_ ?_
 ·go_simp
  (try simp only [i64_w])
  try rfl
 refine hK.out _ _ ⟨v247, v250, v253, v256, v259, v262, .slice Ao32_0 y264.length co32_0, v268, v271, v274, m5_, m6_, m8_, m9_, m12_, m13_, m16_, m17_, m21_, m22_, m26_, m27_, m31_, (.agg #[.int .i64 2, .int .i64 2, .slice Ao32_0 y264.length co32_0, .int .i64 6]), m37_, m38_, m42_, m43_, (by rw [ha.out]; exact putSel_upk 32 hb_ rfl rfl rfl), Q_HB, Q_HO248, Q_HO251, Q_HO254, Q_HO257, Q_HO260, Q_HO263, Q_HO266, Q_HO269, Q_HO272, fun h0_ => absurd ((hoff 44 (by kernel_rfl)).symm.trans h0_) (by decide), Q_X5_, Q_X6_, Q_X8_, Q_X9_, Q_X12_, Q_X13_, Q_X16_, Q_X17_, Q_X21_, Q_X22_, Q_X26_, Q_X27_, Q_X31_, fun _ => rfl, Q_X37_, Q_X38_, Q_X42_, Q_X43_⟩
set_option maxHeartbeats 8000000 in
set_option maxRecDepth 100000 in
theorem ExS33 (w : World) (y246 : List (S40)) (y249 : List (S40)) (y252 : List (S40)) (y255 : List (S40)) (y258 : List (S40)) (y261 : List (S40)) (y264 : List (S40)) (y267 : List (S40)) (y270 : List (S40)) (y273 : List (S62)) (a0_ : Act) (Q : Exit → Act → World → Prop) (hsz : a0_.tmps.size = 482) : ∀ ops, (Try.f11.body.bind fun c => opsIn c 3) = some ops → StepAt Try.prog ops Q mE.B3 exO (ExI w y246 y249 y252 y255 y258 y261 y264 y267 y270 y273 a0_) 33 := by
 refine stepAt_mk rfl ?_
 have hu33 := Try.underlying33
 have hu62 := Try.underlying62
 have hu40 := Try.underlying40
 rintro b a w' ⟨v247, v250, v253, v256, v259, v262, v265, v268, v271, v274, m5_, m6_, m8_, m9_, m12_, m13_, m16_, m17_, m21_, m22_, m26_, m27_, m31_, m32_, m37_, m38_, m42_, m43_, ha, Q_HB, Q_HO248, Q_HO251, Q_HO254, Q_HO257, Q_HO260, Q_HO263, Q_HO266, Q_HO269, Q_HO272, Q_HO275, Q_X5_, Q_X6_, Q_X8_, Q_X9_, Q_X12_, Q_X13_, Q_X16_, Q_X17_, Q_X21_, Q_X22_, Q_X26_, Q_X27_, Q_X31_, Q_X32_, Q_X37_, Q_X38_, Q_X42_, Q_X43_⟩ hb_ hon hoff
 refine ⟨_, rfl, fun K hK => ?_⟩
 replace ha := As.mk ha
 have HB := As.mk Q_HB
 refine value_ (w1 := w') (v := .agg #[.int .i64 1, .int .i64 1]) (by rfl) rfl ?_ ?_
 ·go_simp
  (try simp only [i64_w])
  try rfl
 refine hK.out _ _ ⟨v247, v250, v253, v256, v259, v262, v265, v268, v271, v274, m5_, m6_, m8_, m9_, m12_, m13_, m16_, m17_, m21_, m22_, m26_, m27_, m31_, m32_, m37_, m38_, m42_, m43_, (by rw [ha.out]; exact putSel_upk 33 hb_ rfl rfl rfl), Q_HB, Q_HO248, Q_HO251, Q_HO254, Q_HO257, Q_HO260, Q_HO263, Q_HO266, fun h0_ _ => absurd ((hoff 36 (by kernel_rfl)).symm.trans h0_) (by decide), Q_HO272, fun h0_ => absurd ((hoff 44 (by kernel_rfl)).symm.trans h0_) (by decide), Q_X5_, Q_X6_, Q_X8_, Q_X9_, Q_X12_, Q_X13_, Q_X16_, Q_X17_, Q_X21_, Q_X22_, Q_X26_, Q_X27_, Q_X31_, Q_X32_, fun h0_ => absurd ((hoff 37 (by kernel_rfl)).symm.trans h0_) (by decide), fun h0_ => absurd ((hoff 38 (by kernel_rfl)).symm.trans h0_) (by decide), Q_X42_, Q_X43_⟩
set_option maxHeartbeats 8000000 in
set_option maxRecDepth 100000 in
theorem ExS34 (w : World) (y246 : List (S40)) (y249 : List (S40)) (y252 : List (S40)) (y255 : List (S40)) (y258 : List (S40)) (y261 : List (S40)) (y264 : List (S40)) (y267 : List (S40)) (y270 : List (S40)) (y273 : List (S62)) (a0_ : Act) (Q : Exit → Act → World → Prop) (hsz : a0_.tmps.size = 482) : ∀ ops, (Try.f11.body.bind fun c => opsIn c 3) = some ops → StepAt Try.prog ops Q mE.B3 exO (ExI w y246 y249 y252 y255 y258 y261 y264 y267 y270 y273 a0_) 34 := by
 refine stepAt_mk rfl ?_
 have hu33 := Try.underlying33
 have hu62 := Try.underlying62
 have hu40 := Try.underlying40
 rintro b a w' ⟨v247, v250, v253, v256, v259, v262, v265, v268, v271, v274, m5_, m6_, m8_, m9_, m12_, m13_, m16_, m17_, m21_, m22_, m26_, m27_, m31_, m32_, m37_, m38_, m42_, m43_, ha, Q_HB, Q_HO248, Q_HO251, Q_HO254, Q_HO257, Q_HO260, Q_HO263, Q_HO266, Q_HO269, Q_HO272, Q_HO275, Q_X5_, Q_X6_, Q_X8_, Q_X9_, Q_X12_, Q_X13_, Q_X16_, Q_X17_, Q_X21_, Q_X22_, Q_X26_, Q_X27_, Q_X31_, Q_X32_, Q_X37_, Q_X38_, Q_X42_, Q_X43_⟩ hb_ hon hoff
 refine ⟨_, rfl, fun K hK => ?_⟩
 replace ha := As.mk ha
 have HB := As.mk Q_HB
 refine value_ (w1 := w') (v := .agg #[.int .i64 1, .int .i64 0]) (by rfl) rfl ?_ ?_
 ·go_simp
  (try simp only [i64_w])
  try rfl
 refine hK.out _ _ ⟨v247, v250, v253, v256, v259, v262, v265, v268, v271, v274, m5_, m6_, m8_, m9_, m12_, m13_, m16_, m17_, m21_, m22_, m26_, m27_, m31_, m32_, m37_, m38_, m42_, m43_, (by rw [ha.out]; exact putSel_upk 34 hb_ rfl rfl rfl), Q_HB, Q_HO248, Q_HO251, Q_HO254, Q_HO257, Q_HO260, Q_HO263, Q_HO266, fun h0_ _ => absurd ((hoff 36 (by kernel_rfl)).symm.trans h0_) (by decide), Q_HO272, fun h0_ => absurd ((hoff 44 (by kernel_rfl)).symm.trans h0_) (by decide), Q_X5_, Q_X6_, Q_X8_, Q_X9_, Q_X12_, Q_X13_, Q_X16_, Q_X17_, Q_X21_, Q_X22_, Q_X26_, Q_X27_, Q_X31_, Q_X32_, fun h0_ => absurd ((hoff 37 (by kernel_rfl)).symm.trans h0_) (by decide), fun h0_ => absurd ((hoff 38 (by kernel_rfl)).symm.trans h0_) (by decide), Q_X42_, Q_X43_⟩
set_option maxHeartbeats 8000000 in
set_option maxRecDepth 100000 in
theorem ExS35 (w : World) (y246 : List (S40)) (y249 : List (S40)) (y252 : List (S40)) (y255 : List (S40)) (y258 : List (S40)) (y261 : List (S40)) (y264 : List (S40)) (y267 : List (S40)) (y270 : List (S40)) (y273 : List (S62)) (a0_ : Act) (Q : Exit → Act → World → Prop) (hsz : a0_.tmps.size = 482) : ∀ ops, (Try.f11.body.bind fun c => opsIn c 3) = some ops → StepAt Try.prog ops Q mE.B3 exO (ExI w y246 y249 y252 y255 y258 y261 y264 y267 y270 y273 a0_) 35 := by
 refine stepAt_mk rfl ?_
 have hu33 := Try.underlying33
 have hu62 := Try.underlying62
 have hu40 := Try.underlying40
 rintro b a w' ⟨v247, v250, v253, v256, v259, v262, v265, v268, v271, v274, m5_, m6_, m8_, m9_, m12_, m13_, m16_, m17_, m21_, m22_, m26_, m27_, m31_, m32_, m37_, m38_, m42_, m43_, ha, Q_HB, Q_HO248, Q_HO251, Q_HO254, Q_HO257, Q_HO260, Q_HO263, Q_HO266, Q_HO269, Q_HO272, Q_HO275, Q_X5_, Q_X6_, Q_X8_, Q_X9_, Q_X12_, Q_X13_, Q_X16_, Q_X17_, Q_X21_, Q_X22_, Q_X26_, Q_X27_, Q_X31_, Q_X32_, Q_X37_, Q_X38_, Q_X42_, Q_X43_⟩ hb_ hon hoff
 refine ⟨_, rfl, fun K hK => ?_⟩
 replace ha := As.mk ha
 have HB := As.mk Q_HB
 refine value_ (w1 := w') (v := .agg #[.int .i64 9, .int .i64 9]) (by rfl) rfl ?_ ?_
 ·go_simp
  (try simp only [i64_w])
  try rfl
 refine hK.out _ _ ⟨v247, v250, v253, v256, v259, v262, v265, v268, v271, v274, m5_, m6_, m8_, m9_, m12_, m13_, m16_, m17_, m21_, m22_, m26_, m27_, m31_, m32_, m37_, m38_, m42_, m43_, (by rw [ha.out]; exact putSel_upk 35 hb_ rfl rfl rfl), Q_HB, Q_HO248, Q_HO251, Q_HO254, Q_HO257, Q_HO260, Q_HO263, Q_HO266, fun h0_ _ => absurd ((hoff 36 (by kernel_rfl)).symm.trans h0_) (by decide), Q_HO272, fun h0_ => absurd ((hoff 44 (by kernel_rfl)).symm.trans h0_) (by decide), Q_X5_, Q_X6_, Q_X8_, Q_X9_, Q_X12_, Q_X13_, Q_X16_, Q_X17_, Q_X21_, Q_X22_, Q_X26_, Q_X27_, Q_X31_, Q_X32_, fun h0_ => absurd ((hoff 37 (by kernel_rfl)).symm.trans h0_) (by decide), fun h0_ => absurd ((hoff 38 (by kernel_rfl)).symm.trans h0_) (by decide), Q_X42_, Q_X43_⟩
end Go.Proofs.Ytlleokhmgblfnaa.M
end

section
namespace Go.Proofs.Ytlleokhmgblfnaa.M
open Go.RowKit Go.Proofs.YtlleokhmgblfnaaW.PrintWords Go.Proofs.YtlleokhmgblfnaaW.PrintLast Go.Proofs.YtlleokhmgblfnaaW.PrintMore
attribute [local go_sem] max2_int min2_int max_two min_two max_three min_three max_four min_four
set_option maxHeartbeats 8000000 in
set_option maxRecDepth 100000 in
theorem ExS36 (w : World) (y246 : List (S40)) (y249 : List (S40)) (y252 : List (S40)) (y255 : List (S40)) (y258 : List (S40)) (y261 : List (S40)) (y264 : List (S40)) (y267 : List (S40)) (y270 : List (S40)) (y273 : List (S62)) (Ny267 : As (y267 = ([(⟨1, 1⟩ : S40), (⟨1, 0⟩ : S40), (⟨9, 9⟩ : S40)] : List (S40)))) (a0_ : Act) (Q : Exit → Act → World → Prop) (hsz : a0_.tmps.size = 482) : ∀ ops, (Try.f11.body.bind fun c => opsIn c 3) = some ops → StepAt Try.prog ops Q mE.B3 exO (ExI w y246 y249 y252 y255 y258 y261 y264 y267 y270 y273 a0_) 36 := by
 refine stepAt_mk rfl ?_
 have hu33 := Try.underlying33
 have hu62 := Try.underlying62
 have hu40 := Try.underlying40
 rintro b a w' ⟨v247, v250, v253, v256, v259, v262, v265, v268, v271, v274, m5_, m6_, m8_, m9_, m12_, m13_, m16_, m17_, m21_, m22_, m26_, m27_, m31_, m32_, m37_, m38_, m42_, m43_, ha, Q_HB, Q_HO248, Q_HO251, Q_HO254, Q_HO257, Q_HO260, Q_HO263, Q_HO266, Q_HO269, Q_HO272, Q_HO275, Q_X5_, Q_X6_, Q_X8_, Q_X9_, Q_X12_, Q_X13_, Q_X16_, Q_X17_, Q_X21_, Q_X22_, Q_X26_, Q_X27_, Q_X31_, Q_X32_, Q_X37_, Q_X38_, Q_X42_, Q_X43_⟩ hb_ hon hoff
 refine ⟨_, rfl, fun K hK => ?_⟩
 have e99 : a.tmps[99]? = some (.agg #[.int .i64 1, .int .i64 1]) := by rw [ha]; exact putSel_on (e := (33, 99, .agg #[.int .i64 1, .int .i64 1])) 33 rfl rfl (hon 33 (by kernel_rfl)) (szb hsz rfl)
 have e100 : a.tmps[100]? = some (.agg #[.int .i64 1, .int .i64 0]) := by rw [ha]; exact putSel_on (e := (34, 100, .agg #[.int .i64 1, .int .i64 0])) 34 rfl rfl (hon 34 (by kernel_rfl)) (szb hsz rfl)
 have e101 : a.tmps[101]? = some (.agg #[.int .i64 9, .int .i64 9]) := by rw [ha]; exact putSel_on (e := (35, 101, .agg #[.int .i64 9, .int .i64 9])) 35 rfl rfl (hon 35 (by kernel_rfl)) (szb hsz rfl)
 replace ha := As.mk ha
 have HB := As.mk Q_HB
 refine Kd.R_lit_step k40 _ 40 ?hg (N := 102) ?hd (xs := ([(⟨1, 1⟩ : S40), (⟨1, 0⟩ : S40), (⟨9, 9⟩ : S40)] : List (S40))) (inner := [.int .i64 1, .int .i64 1, .int .i64 1, .int .i64 0, .int .i64 9, .int .i64 9]) (ok := fun _ => True) (okp := fun _ => True) ?hr ?hp (fun _ hk => hk) trivial (Below.refl _ _) (Nat.le_refl _) (by simp) ?_; (case hd => rfl); (case hg => rfl); (case hr => first | (go_simp; done) | (go_simp; rfl)); (case hp => exact (Reps.c2 (show Kd.M k40 _ _ _ (⟨1, 1⟩ : S40) [.int .i64 1, .int .i64 1] from (k40_mkM _ _ _ (⟨1, 1⟩ : S40) )) (Reps.c2 (show Kd.M k40 _ _ _ (⟨1, 0⟩ : S40) [.int .i64 1, .int .i64 0] from (k40_mkM _ _ _ (⟨1, 0⟩ : S40) )) (Reps.c2 (show Kd.M k40 _ _ _ (⟨9, 9⟩ : S40) [.int .i64 9, .int .i64 9] from (k40_mkM _ _ _ (⟨9, 9⟩ : S40) )) (Reps.none _ _)))))
 intro v268 w6 ho7 hb hg_ hnew_
 clear hg_ hnew_
 (first | rw [← Ny267.out] at ho7 | (simp only [Int.reduceToNat] at ho7; rw [← Ny267.out] at ho7))
 have n0_ := As.mk (Kd.R_lower ho7 (below_size (hup0 HB.out)))
 have n1_ := As.mk (below_step (hup0 HB.out) hb)
 have z_HO248 := fun (h0_ : b 4 = true) (h1_ : b 44 = false) => (show Kd.R k40 40 w6 w.heap.size (fun _ => True) v247 y246 from by first | exact (Kd.R_elder' (by (with_reducible repeat (first | apply Kd.R_alloc | apply Kd.R_drewN | apply Kd.R_drew)); exact (Q_HO248 h0_ h1_)) (Kd.R_base ho7) hb) | exact Kd.R_mono (Kd.R_elder' (by (with_reducible repeat (first | apply Kd.R_alloc | apply Kd.R_drewN | apply Kd.R_drew)); exact (Q_HO248 h0_ h1_)) (Kd.R_base ho7) hb) (fun _ h_ => by first | trivial | exact h_ | exact h_.1))
 have z_HO251 := fun (h0_ : b 7 = true) (h1_ : b 44 = false) => (show Kd.R k40 40 w6 w.heap.size (fun _ => True) v250 y249 from by first | exact (Kd.R_elder' (by (with_reducible repeat (first | apply Kd.R_alloc | apply Kd.R_drewN | apply Kd.R_drew)); exact (Q_HO251 h0_ h1_)) (Kd.R_base ho7) hb) | exact Kd.R_mono (Kd.R_elder' (by (with_reducible repeat (first | apply Kd.R_alloc | apply Kd.R_drewN | apply Kd.R_drew)); exact (Q_HO251 h0_ h1_)) (Kd.R_base ho7) hb) (fun _ h_ => by first | trivial | exact h_ | exact h_.1))
 have z_HO254 := fun (h0_ : b 11 = true) (h1_ : b 44 = false) => (show Kd.R k40 40 w6 w.heap.size (fun _ => True) v253 y252 from by first | exact (Kd.R_elder' (by (with_reducible repeat (first | apply Kd.R_alloc | apply Kd.R_drewN | apply Kd.R_drew)); exact (Q_HO254 h0_ h1_)) (Kd.R_base ho7) hb) | exact Kd.R_mono (Kd.R_elder' (by (with_reducible repeat (first | apply Kd.R_alloc | apply Kd.R_drewN | apply Kd.R_drew)); exact (Q_HO254 h0_ h1_)) (Kd.R_base ho7) hb) (fun _ h_ => by first | trivial | exact h_ | exact h_.1))
 have z_HO257 := fun (h0_ : b 15 = true) (h1_ : b 44 = false) => (show Kd.R k40 40 w6 w.heap.size (fun _ => True) v256 y255 from by first | exact (Kd.R_elder' (by (with_reducible repeat (first | apply Kd.R_alloc | apply Kd.R_drewN | apply Kd.R_drew)); exact (Q_HO257 h0_ h1_)) (Kd.R_base ho7) hb) | exact Kd.R_mono (Kd.R_elder' (by (with_reducible repeat (first | apply Kd.R_alloc | apply Kd.R_drewN | apply Kd.R_drew)); exact (Q_HO257 h0_ h1_)) (Kd.R_base ho7) hb) (fun _ h_ => by first | trivial | exact h_ | exact h_.1))
 have z_HO260 := fun (h0_ : b 20 = true) (h1_ : b 44 = false) => (show Kd.R k40 40 w6 w.heap.size (fun _ => True) v259 y258 from by first | exact (Kd.R_elder' (by (with_reducible repeat (first | apply Kd.R_alloc | apply Kd.R_drewN | apply Kd.R_drew)); exact (Q_HO260 h0_ h1_)) (Kd.R_base ho7) hb) | exact Kd.R_mono (Kd.R_elder' (by (with_reducible repeat (first | apply Kd.R_alloc | apply Kd.R_drewN | apply Kd.R_drew)); exact (Q_HO260 h0_ h1_)) (Kd.R_base ho7) hb) (fun _ h_ => by first | trivial | exact h_ | exact h_.1))
 have z_HO263 := fun (h0_ : b 25 = true) (h1_ : b 44 = false) => (show Kd.R k40 40 w6 w.heap.size (fun _ => True) v262 y261 from by first | exact (Kd.R_elder' (by (with_reducible repeat (first | apply Kd.R_alloc | apply Kd.R_drewN | apply Kd.R_drew)); exact (Q_HO263 h0_ h1_)) (Kd.R_base ho7) hb) | exact Kd.R_mono (Kd.R_elder' (by (with_reducible repeat (first | apply Kd.R_alloc | apply Kd.R_drewN | apply Kd.R_drew)); exact (Q_HO263 h0_ h1_)) (Kd.R_base ho7) hb) (fun _ h_ => by first | trivial | exact h_ | exact h_.1))
 have z_HO266 := fun (h0_ : b 30 = true) (h1_ : b 44 = false) => (show Kd.R k40 40 w6 w.heap.size (fun _ => True) v265 y264 from by first | exact (Kd.R_elder' (by (with_reducible repeat (first | apply Kd.R_alloc | apply Kd.R_drewN | apply Kd.R_drew)); exact (Q_HO266 h0_ h1_)) (Kd.R_base ho7) hb) | exact Kd.R_mono (Kd.R_elder' (by (with_reducible repeat (first | apply Kd.R_alloc | apply Kd.R_drewN | apply Kd.R_drew)); exact (Q_HO266 h0_ h1_)) (Kd.R_base ho7) hb) (fun _ h_ => by first | trivial | exact h_ | exact h_.1))
 have z_HO272 := fun (h0_ : b 41 = true) (h1_ : b 44 = false) => (show Kd.R k40 40 w6 w.heap.size (fun _ => True) v271 y270 from by first | exact (Kd.R_elder' (by (with_reducible repeat (first | apply Kd.R_alloc | apply Kd.R_drewN | apply Kd.R_drew)); exact (Q_HO272 h0_ h1_)) (Kd.R_base ho7) hb) | exact Kd.R_mono (Kd.R_elder' (by (with_reducible repeat (first | apply Kd.R_alloc | apply Kd.R_drewN | apply Kd.R_drew)); exact (Q_HO272 h0_ h1_)) (Kd.R_base ho7) hb) (fun _ h_ => by first | trivial | exact h_ | exact h_.1))
 clear HB
 have HO269 := n0_
 have HB := n1_
 clear n0_ n1_
 clear hb ho7
 obtain ⟨Ao8, co8, eo8⟩ := Kd.R_slice HO269.out
 (first | subst eo8 | (injection eo8 with f1_ f2_ f3_; have f4_ := f1_.symm; have f5_ := f3_.symm; clear f1_ f2_ f3_; subst f4_; subst f5_))
 refine hK.out _ _ ⟨v247, v250, v253, v256, v259, v262, v265, .slice Ao8 y267.length co8, v271, v274, m5_, m6_, m8_, m9_, m12_, m13_, m16_, m17_, m21_, m22_, m26_, m27_, m31_, m32_, m37_, m38_, m42_, m43_, (by rw [ha.out]; exact putSel_upk 36 hb_ rfl rfl rfl), (hup0 HB.out), z_HO248, z_HO251, z_HO254, z_HO257, z_HO260, z_HO263, z_HO266, fun _ _ => (rup HO269.out), z_HO272, fun h0_ => absurd ((hoff 44 (by kernel_rfl)).symm.trans h0_) (by decide), Q_X5_, Q_X6_, Q_X8_, Q_X9_, Q_X12_, Q_X13_, Q_X16_, Q_X17_, Q_X21_, Q_X22_, Q_X26_, Q_X27_, Q_X31_, Q_X32_, fun h0_ => absurd ((hoff 37 (by kernel_rfl)).symm.trans h0_) (by decide), fun h0_ => absurd ((hoff 38 (by kernel_rfl)).symm.trans h0_) (by decide), Q_X42_, Q_X43_⟩
set_option maxHeartbeats 8000000 in
set_option maxRecDepth 100000 in
theorem ExS37 (w : World) (y246 : List (S40)) (y249 : List (S40)) (y252 : List (S40)) (y255 : List (S40)) (y258 : List (S40)) (y261 : List (S40)) (y264 : List (S40)) (y267 : List (S40)) (y270 : List (S40)) (y273 : List (S62)) (a0_ : Act) (Q : Exit → Act → World → Prop) (hsz : a0_.tmps.size = 482) : ∀ ops, (Try.f11.body.bind fun c => opsIn c 3) = some ops → StepAt Try.prog ops Q mE.B3 exO (ExI w y246 y249 y252 y255 y258 y261 y264 y267 y270 y273 a0_) 37 := by
 refine stepAt_mk rfl ?_
 have hu33 := Try.underlying33
 have hu62 := Try.underlying62
 have hu40 := Try.underlying40
 rintro b a w' ⟨v247, v250, v253, v256, v259, v262, v265, v268, v271, v274, m5_, m6_, m8_, m9_, m12_, m13_, m16_, m17_, m21_, m22_, m26_, m27_, m31_, m32_, m37_, m38_, m42_, m43_, ha, Q_HB, Q_HO248, Q_HO251, Q_HO254, Q_HO257, Q_HO260, Q_HO263, Q_HO266, Q_HO269, Q_HO272, Q_HO275, Q_X5_, Q_X6_, Q_X8_, Q_X9_, Q_X12_, Q_X13_, Q_X16_, Q_X17_, Q_X21_, Q_X22_, Q_X26_, Q_X27_, Q_X31_, Q_X32_, Q_X37_, Q_X38_, Q_X42_, Q_X43_⟩ hb_ hon hoff
 refine ⟨_, rfl, fun K hK => ?_⟩
 have e102 : a.tmps[102]? = some (v268) := by rw [ha]; exact putSel_on (e := (36, 102, v268)) 36 rfl rfl (hon 36 (by kernel_rfl)) (szb hsz rfl)
 replace ha := As.mk ha
 have HB := As.mk Q_HB
 have HO269 := As.mk (Q_HO269 (hon 36 (by kernel_rfl)) (hoff 44 (by kernel_rfl)))
 obtain ⟨Ao37_0, co37_0, eo_⟩ := Kd.R_slice HO269.out
 subst eo_
 refine value_ (w1 := w') (v := .agg #[.int .i64 2, .int .i64 2, .slice Ao37_0 y267.length co37_0]) (by rfl) rfl ?_ ?_
 ·go_simp
  (try simp only [i64_w])
  try rfl
 refine hK.out _ _ ⟨v247, v250, v253, v256, v259, v262, v265, .slice Ao37_0 y267.length co37_0, v271, v274, m5_, m6_, m8_, m9_, m12_, m13_, m16_, m17_, m21_, m22_, m26_, m27_, m31_, m32_, (.agg #[.int .i64 2, .int .i64 2, .slice Ao37_0 y267.length co37_0]), m38_, m42_, m43_, (by rw [ha.out]; exact putSel_upk 37 hb_ rfl rfl rfl), Q_HB, Q_HO248, Q_HO251, Q_HO254, Q_HO257, Q_HO260, Q_HO263, Q_HO266, Q_HO269, Q_HO272, fun h0_ => absurd ((hoff 44 (by kernel_rfl)).symm.trans h0_) (by decide), Q_X5_, Q_X6_, Q_X8_, Q_X9_, Q_X12_, Q_X13_, Q_X16_, Q_X17_, Q_X21_, Q_X22_, Q_X26_, Q_X27_, Q_X31_, Q_X32_, fun _ => rfl, fun h0_ => absurd ((hoff 38 (by kernel_rfl)).symm.trans h0_) (by decide), Q_X42_, Q_X43_⟩
set_option maxHeartbeats 8000000 in
set_option maxRecDepth 100000 in
theorem ExS38 (w : World) (y246 : List (S40)) (y249 : List (S40)) (y252 : List (S40)) (y255 : List (S40)) (y258 : List (S40)) (y261 : List (S40)) (y264 : List (S40)) (y267 : List (S40)) (y270 : List (S40)) (y273 : List (S62)) (a0_ : Act) (Q : Exit → Act → World → Prop) (hsz : a0_.tmps.size = 482) : ∀ ops, (Try.f11.body.bind fun c => opsIn c 3) = some ops → StepAt Try.prog ops Q mE.B3 exO (ExI w y246 y249 y252 y255 y258 y261 y264 y267 y270 y273 a0_) 38 := by
 refine stepAt_mk rfl ?_
 have hu33 := Try.underlying33
 have hu62 := Try.underlying62
 have hu40 := Try.underlying40
 rintro b a w' ⟨v247, v250, v253, v256, v259, v262, v265, v268, v271, v274, m5_, m6_, m8_, m9_, m12_, m13_, m16_, m17_, m21_, m22_, m26_, m27_, m31_, m32_, m37_, m38_, m42_, m43_, ha, Q_HB, Q_HO248, Q_HO251, Q_HO254, Q_HO257, Q_HO260, Q_HO263, Q_HO266, Q_HO269, Q_HO272, Q_HO275, Q_X5_, Q_X6_, Q_X8_, Q_X9_, Q_X12_, Q_X13_, Q_X16_, Q_X17_, Q_X21_, Q_X22_, Q_X26_, Q_X27_, Q_X31_, Q_X32_, Q_X37_, Q_X38_, Q_X42_, Q_X43_⟩ hb_ hon hoff
 refine ⟨_, rfl, fun K hK => ?_⟩
 have e103 : a.tmps[103]? = some (m37_) := by rw [ha]; exact putSel_on (e := (37, 103, m37_)) 37 rfl rfl (hon 37 (by kernel_rfl)) (szb hsz rfl)
 rw [Q_X37_ (hon 37 (by kernel_rfl))] at e103
 replace ha := As.mk ha
 have HB := As.mk Q_HB
 have HO269 := As.mk (Q_HO269 (hon 36 (by kernel_rfl)) (hoff 44 (by kernel_rfl)))
 obtain ⟨Ao38_0, co38_0, eo_⟩ := Kd.R_slice HO269.out
 subst eo_
 refine value_ (w1 := w') (v := .agg #[.int .i64 2, .int .i64 2, .slice Ao38_0 y267.length co38_0, .int .i64 6]) (by rfl) rfl ?_ ?_
 ·go_simp
  (try simp only [i64_w])
  try rfl
 refine hK.out _ _ ⟨v247, v250, v253, v256, v259, v262, v265, .slice Ao38_0 y267.length co38_0, v271, v274, m5_, m6_, m8_, m9_, m12_, m13_, m16_, m17_, m21_, m22_, m26_, m27_, m31_, m32_, m37_, (.agg #[.int .i64 2, .int .i64 2, .slice Ao38_0 y267.length co38_0, .int .i64 6]), m42_, m43_, (by rw [ha.out]; exact putSel_upk 38 hb_ rfl rfl rfl), Q_HB, Q_HO248, Q_HO251, Q_HO254, Q_HO257, Q_HO260, Q_HO263, Q_HO266, Q_HO269, Q_HO272, fun h0_ => absurd ((hoff 44 (by kernel_rfl)).symm.trans h0_) (by decide), Q_X5_, Q_X6_, Q_X8_, Q_X9_, Q_X12_, Q_X13_, Q_X16_, Q_X17_, Q_X21_, Q_X22_, Q_X26_, Q_X27_, Q_X31_, Q_X32_, Q_X37_, fun _ => rfl, Q_X42_, Q_X43_⟩
set_option maxHeartbeats 8000000 in
set_option maxRecDepth 100000 in
theorem ExS39 (w : World) (y246 : List (S40)) (y249 : List (S40)) (y252 : List (S40)) (y255 : List (S40)) (y258 : List (S40)) (y261 : List (S40)) (y264 : List (S40)) (y267 : List (S40)) (y270 : List (S40)) (y273 : List (S62)) (a0_ : Act) (Q : Exit → Act → World → Prop) (hsz : a0_.tmps.size = 482) : ∀ ops, (Try.f11.body.bind fun c => opsIn c 3) = some ops → StepAt Try.prog ops Q mE.B3 exO (ExI w y246 y249 y252 y255 y258 y261 y264 y267 y270 y273 a0_) 39 := by
 refine stepAt_mk rfl ?_
 have hu33 := Try.underlying33
 have hu62 := Try.underlying62
 have hu40 := Try.underlying40
 rintro b a w' ⟨v247, v250, v253, v256, v259, v262, v265, v268, v271, v274, m5_, m6_, m8_, m9_, m12_, m13_, m16_, m17_, m21_, m22_, m26_, m27_, m31_, m32_, m37_, m38_, m42_, m43_, ha, Q_HB, Q_HO248, Q_HO251, Q_HO254, Q_HO257, Q_HO260, Q_HO263, Q_HO266, Q_HO269, Q_HO272, Q_HO275, Q_X5_, Q_X6_, Q_X8_, Q_X9_, Q_X12_, Q_X13_, Q_X16_, Q_X17_, Q_X21_, Q_X22_, Q_X26_, Q_X27_, Q_X31_, Q_X32_, Q_X37_, Q_X38_, Q_X42_, Q_X43_⟩ hb_ hon hoff
 refine ⟨_, rfl, fun K hK => ?_⟩
 replace ha := As.mk ha
 have HB := As.mk Q_HB
 refine value_ (w1 := w') (v := .agg #[.int .i64 1, .int .i64 1]) (by rfl) rfl ?_ ?_
 ·go_simp
  (try simp only [i64_w])
  try rfl
 refine hK.out _ _ ⟨v247, v250, v253, v256, v259, v262, v265, v268, v271, v274, m5_, m6_, m8_, m9_, m12_, m13_, m16_, m17_, m21_, m22_, m26_, m27_, m31_, m32_, m37_, m38_, m42_, m43_, (by rw [ha.out]; exact putSel_upk 39 hb_ rfl rfl rfl), Q_HB, Q_HO248, Q_HO251, Q_HO254, Q_HO257, Q_HO260, Q_HO263, Q_HO266, Q_HO269, fun h0_ _ => absurd ((hoff 41 (by kernel_rfl)).symm.trans h0_) (by decide), fun h0_ => absurd ((hoff 44 (by kernel_rfl)).symm.trans h0_) (by decide), Q_X5_, Q_X6_, Q_X8_, Q_X9_, Q_X12_, Q_X13_, Q_X16_, Q_X17_, Q_X21_, Q_X22_, Q_X26_, Q_X27_, Q_X31_, Q_X32_, Q_X37_, Q_X38_, fun h0_ => absurd ((hoff 42 (by kernel_rfl)).symm.trans h0_) (by decide), fun h0_ => absurd ((hoff 43 (by kernel_rfl)).symm.trans h0_) (by decide)⟩
set_option maxHeartbeats 8000000 in
set_option maxRecDepth 100000 in
theorem ExS40 (w : World) (y246 : List (S40)) (y249 : List (S40)) (y252 : List (S40)) (y255 : List (S40)) (y258 : List (S40)) (y261 : List (S40)) (y264 : List (S40)) (y267 : List (S40)) (y270 : List (S40)) (y273 : List (S62)) (a0_ : Act) (Q : Exit → Act → World → Prop) (hsz : a0_.tmps.size = 482) : ∀ ops, (Try.f11.body.bind fun c => opsIn c 3) = some ops → StepAt Try.prog ops Q mE.B3 exO (ExI w y246 y249 y252 y255 y258 y261 y264 y267 y270 y273 a0_) 40 := by
 refine stepAt_mk rfl ?_
 have hu33 := Try.underlying33
 have hu62 := Try.underlying62
 have hu40 := Try.underlying40
 rintro b a w' ⟨v247, v250, v253, v256, v259, v262, v265, v268, v271, v274, m5_, m6_, m8_, m9_, m12_, m13_, m16_, m17_, m21_, m22_, m26_, m27_, m31_, m32_, m37_, m38_, m42_, m43_, ha, Q_HB, Q_HO248, Q_HO251, Q_HO254, Q_HO257, Q_HO260, Q_HO263, Q_HO266, Q_HO269, Q_HO272, Q_HO275, Q_X5_, Q_X6_, Q_X8_, Q_X9_, Q_X12_, Q_X13_, Q_X16_, Q_X17_, Q_X21_, Q_X22_, Q_X26_, Q_X27_, Q_X31_, Q_X32_, Q_X37_, Q_X38_, Q_X42_, Q_X43_⟩ hb_ hon hoff
 refine ⟨_, rfl, fun K hK => ?_⟩
 replace ha := As.mk ha
 have HB := As.mk Q_HB
 refine value_ (w1 := w') (v := .agg #[.int .i64 1, .int .i64 2]) (by rfl) rfl ?_ ?_
 ·go_simp
  (try simp only [i64_w])
  try rfl
 refine hK.out _ _ ⟨v247, v250, v253, v256, v259, v262, v265, v268, v271, v274, m5_, m6_, m8_, m9_, m12_, m13_, m16_, m17_, m21_, m22_, m26_, m27_, m31_, m32_, m37_, m38_, m42_, m43_, (by rw [ha.out]; exact putSel_upk 40 hb_ rfl rfl rfl), Q_HB, Q_HO248, Q_HO251, Q_HO254, Q_HO257, Q_HO260, Q_HO263, Q_HO266, Q_HO269, fun h0_ _ => absurd ((hoff 41 (by kernel_rfl)).symm.trans h0_) (by decide), fun h0_ => absurd ((hoff 44 (by kernel_rfl)).symm.trans h0_) (by decide), Q_X5_, Q_X6_, Q_X8_, Q_X9_, Q_X12_, Q_X13_, Q_X16_, Q_X17_, Q_X21_, Q_X22_, Q_X26_, Q_X27_, Q_X31_, Q_X32_, Q_X37_, Q_X38_, fun h0_ => absurd ((hoff 42 (by kernel_rfl)).symm.trans h0_) (by decide), fun h0_ => absurd ((hoff 43 (by kernel_rfl)).symm.trans h0_) (by decide)⟩
set_option maxHeartbeats 8000000 in
set_option maxRecDepth 100000 in
theorem ExS41 (w : World) (y246 : List (S40)) (y249 : List (S40)) (y252 : List (S40)) (y255 : List (S40)) (y258 : List (S40)) (y261 : List (S40)) (y264 : List (S40)) (y267 : List (S40)) (y270 : List (S40)) (y273 : List (S62)) (Ny270 : As (y270 = ([(⟨1, 1⟩ : S40), (⟨1, 2⟩ : S40)] : List (S40)))) (a0_ : Act) (Q : Exit → Act → World → Prop) (hsz : a0_.tmps.size = 482) : ∀ ops, (Try.f11.body.bind fun c => opsIn c 3) = some ops → StepAt Try.prog ops Q mE.B3 exO (ExI w y246 y249 y252 y255 y258 y261 y264 y267 y270 y273 a0_) 41 := by
 refine stepAt_mk rfl ?_
 have hu33 := Try.underlying33
 have hu62 := Try.underlying62
 have hu40 := Try.underlying40
 rintro b a w' ⟨v247, v250, v253, v256, v259, v262, v265, v268, v271, v274, m5_, m6_, m8_, m9_, m12_, m13_, m16_, m17_, m21_, m22_, m26_, m27_, m31_, m32_, m37_, m38_, m42_, m43_, ha, Q_HB, Q_HO248, Q_HO251, Q_HO254, Q_HO257, Q_HO260, Q_HO263, Q_HO266, Q_HO269, Q_HO272, Q_HO275, Q_X5_, Q_X6_, Q_X8_, Q_X9_, Q_X12_, Q_X13_, Q_X16_, Q_X17_, Q_X21_, Q_X22_, Q_X26_, Q_X27_, Q_X31_, Q_X32_, Q_X37_, Q_X38_, Q_X42_, Q_X43_⟩ hb_ hon hoff
 refine ⟨_, rfl, fun K hK => ?_⟩
 have e105 : a.tmps[105]? = some (.agg #[.int .i64 1, .int .i64 1]) := by rw [ha]; exact putSel_on (e := (39, 105, .agg #[.int .i64 1, .int .i64 1])) 39 rfl rfl (hon 39 (by kernel_rfl)) (szb hsz rfl)
 have e106 : a.tmps[106]? = some (.agg #[.int .i64 1, .int .i64 2]) := by rw [ha]; exact putSel_on (e := (40, 106, .agg #[.int .i64 1, .int .i64 2])) 40 rfl rfl (hon 40 (by kernel_rfl)) (szb hsz rfl)
 replace ha := As.mk ha
 have HB := As.mk Q_HB
 refine Kd.R_lit_step k40 _ 40 ?hg (N := 107) ?hd (xs := ([(⟨1, 1⟩ : S40), (⟨1, 2⟩ : S40)] : List (S40))) (inner := [.int .i64 1, .int .i64 1, .int .i64 1, .int .i64 2]) (ok := fun _ => True) (okp := fun _ => True) ?hr ?hp (fun _ hk => hk) trivial (Below.refl _ _) (Nat.le_refl _) (by simp) ?_; (case hd => rfl); (case hg => rfl); (case hr => first | (go_simp; done) | (go_simp; rfl)); (case hp => exact (Reps.c2 (show Kd.M k40 _ _ _ (⟨1, 1⟩ : S40) [.int .i64 1, .int .i64 1] from (k40_mkM _ _ _ (⟨1, 1⟩ : S40) )) (Reps.c2 (show Kd.M k40 _ _ _ (⟨1, 2⟩ : S40) [.int .i64 1, .int .i64 2] from (k40_mkM _ _ _ (⟨1, 2⟩ : S40) )) (Reps.none _ _))))
 intro v271 w6 ho7 hb hg_ hnew_
 clear hg_ hnew_
 (first | rw [← Ny270.out] at ho7 | (simp only [Int.reduceToNat] at ho7; rw [← Ny270.out] at ho7))
 have n0_ := As.mk (Kd.R_lower ho7 (below_size (hup0 HB.out)))
 have n1_ := As.mk (below_step (hup0 HB.out) hb)
 have z_HO248 := fun (h0_ : b 4 = true) (h1_ : b 44 = false) => (show Kd.R k40 40 w6 w.heap.size (fun _ => True) v247 y246 from by first | exact (Kd.R_elder' (by (with_reducible repeat (first | apply Kd.R_alloc | apply Kd.R_drewN | apply Kd.R_drew)); exact (Q_HO248 h0_ h1_)) (Kd.R_base ho7) hb) | exact Kd.R_mono (Kd.R_elder' (by (with_reducible repeat (first | apply Kd.R_alloc | apply Kd.R_drewN | apply Kd.R_drew)); exact (Q_HO248 h0_ h1_)) (Kd.R_base ho7) hb) (fun _ h_ => by first | trivial | exact h_ | exact h_.1))
 have z_HO251 := fun (h0_ : b 7 = true) (h1_ : b 44 = false) => (show Kd.R k40 40 w6 w.heap.size (fun _ => True) v250 y249 from by first | exact (Kd.R_elder' (by (with_reducible repeat (first | apply Kd.R_alloc | apply Kd.R_drewN | apply Kd.R_drew)); exact (Q_HO251 h0_ h1_)) (Kd.R_base ho7) hb) | exact Kd.R_mono (Kd.R_elder' (by (with_reducible repeat (first | apply Kd.R_alloc | apply Kd.R_drewN | apply Kd.R_drew)); exact (Q_HO251 h0_ h1_)) (Kd.R_base ho7) hb) (fun _ h_ => by first | trivial | exact h_ | exact h_.1))
 have z_HO254 := fun (h0_ : b 11 = true) (h1_ : b 44 = false) => (show Kd.R k40 40 w6 w.heap.size (fun _ => True) v253 y252 from by first | exact (Kd.R_elder' (by (with_reducible repeat (first | apply Kd.R_alloc | apply Kd.R_drewN | apply Kd.R_drew)); exact (Q_HO254 h0_ h1_)) (Kd.R_base ho7) hb) | exact Kd.R_mono (Kd.R_elder' (by (with_reducible repeat (first | apply Kd.R_alloc | apply Kd.R_drewN | apply Kd.R_drew)); exact (Q_HO254 h0_ h1_)) (Kd.R_base ho7) hb) (fun _ h_ => by first | trivial | exact h_ | exact h_.1))
 have z_HO257 := fun (h0_ : b 15 = true) (h1_ : b 44 = false) => (show Kd.R k40 40 w6 w.heap.size (fun _ => True) v256 y255 from by first | exact (Kd.R_elder' (by (with_reducible repeat (first | apply Kd.R_alloc | apply Kd.R_drewN | apply Kd.R_drew)); exact (Q_HO257 h0_ h1_)) (Kd.R_base ho7) hb) | exact Kd.R_mono (Kd.R_elder' (by (with_reducible repeat (first | apply Kd.R_alloc | apply Kd.R_drewN | apply Kd.R_drew)); exact (Q_HO257 h0_ h1_)) (Kd.R_base ho7) hb) (fun _ h_ => by first | trivial | exact h_ | exact h_.1))
 have z_HO260 := fun (h0_ : b 20 = true) (h1_ : b 44 = false) => (show Kd.R k40 40 w6 w.heap.size (fun _ => True) v259 y258 from by first | exact (Kd.R_elder' (by (with_reducible repeat (first | apply Kd.R_alloc | apply Kd.R_drewN | apply Kd.R_drew)); exact (Q_HO260 h0_ h1_)) (Kd.R_base ho7) hb) | exact Kd.R_mono (Kd.R_elder' (by (with_reducible repeat (first | apply Kd.R_alloc | apply Kd.R_drewN | apply Kd.R_drew)); exact (Q_HO260 h0_ h1_)) (Kd.R_base ho7) hb) (fun _ h_ => by first | trivial | exact h_ | exact h_.1))
 have z_HO263 := fun (h0_ : b 25 = true) (h1_ : b 44 = false) => (show Kd.R k40 40 w6 w.heap.size (fun _ => True) v262 y261 from by first | exact (Kd.R_elder' (by (with_reducible repeat (first | apply Kd.R_alloc | apply Kd.R_drewN | apply Kd.R_drew)); exact (Q_HO263 h0_ h1_)) (Kd.R_base ho7) hb) | exact Kd.R_mono (Kd.R_elder' (by (with_reducible repeat (first | apply Kd.R_alloc | apply Kd.R_drewN | apply Kd.R_drew)); exact (Q_HO263 h0_ h1_)) (Kd.R_base ho7) hb) (fun _ h_ => by first | trivial | exact h_ | exact h_.1))
 have z_HO266 := fun (h0_ : b 30 = true) (h1_ : b 44 = false) => (show Kd.R k40 40 w6 w.heap.size (fun _ => True) v265 y264 from by first | exact (Kd.R_elder' (by (with_reducible repeat (first | apply Kd.R_alloc | apply Kd.R_drewN | apply Kd.R_drew)); exact (Q_HO266 h0_ h1_)) (Kd.R_base ho7) hb) | exact Kd.R_mono (Kd.R_elder' (by (with_reducible repeat (first | apply Kd.R_alloc | apply Kd.R_drewN | apply Kd.R_drew)); exact (Q_HO266 h0_ h1_)) (Kd.R_base ho7) hb) (fun _ h_ => by first | trivial | exact h_ | exact h_.1))
 have z_HO269 := fun (h0_ : b 36 = true) (h1_ : b 44 = false) => (show Kd.R k40 40 w6 w.heap.size (fun _ => True) v268 y267 from by first | exact (Kd.R_elder' (by (with_reducible repeat (first | apply Kd.R_alloc | apply Kd.R_drewN | apply Kd.R_drew)); exact (Q_HO269 h0_ h1_)) (Kd.R_base ho7) hb) | exact Kd.R_mono (Kd.R_elder' (by (with_reducible repeat (first | apply Kd.R_alloc | apply Kd.R_drewN | apply Kd.R_drew)); exact (Q_HO269 h0_ h1_)) (Kd.R_base ho7) hb) (fun _ h_ => by first | trivial | exact h_ | exact h_.1))
 clear HB
 have HO272 := n0_
 have HB := n1_
 clear n0_ n1_
 clear hb ho7
 obtain ⟨Ao8, co8, eo8⟩ := Kd.R_slice HO272.out
 (first | subst eo8 | (injection eo8 with f1_ f2_ f3_; have f4_ := f1_.symm; have f5_ := f3_.symm; clear f1_ f2_ f3_; subst f4_; subst f5_))
 refine hK.out _ _ ⟨v247, v250, v253, v256, v259, v262, v265, v268, .slice Ao8 y270.length co8, v274, m5_, m6_, m8_, m9_, m12_, m13_, m16_, m17_, m21_, m22_, m26_, m27_, m31_, m32_, m37_, m38_, m42_, m43_, (by rw [ha.out]; exact putSel_upk 41 hb_ rfl rfl rfl), (hup0 HB.out), z_HO248, z_HO251, z_HO254, z_HO257, z_HO260, z_HO263, z_HO266, z_HO269, fun _ _ => (rup HO272.out), fun h0_ => absurd ((hoff 44 (by kernel_rfl)).symm.trans h0_) (by decide), Q_X5_, Q_X6_, Q_X8_, Q_X9_, Q_X12_, Q_X13_, Q_X16_, Q_X17_, Q_X21_, Q_X22_, Q_X26_, Q_X27_, Q_X31_, Q_X32_, Q_X37_, Q_X38_, fun h0_ => absurd ((hoff 42 (by kernel_rfl)).symm.trans h0_) (by decide), fun h0_ => absurd ((hoff 43 (by kernel_rfl)).symm.trans h0_) (by decide)⟩
set_option maxHeartbeats 8000000 in
set_option maxRecDepth 100000 in
theorem ExS42 (w : World) (y246 : List (S40)) (y249 : List (S40)) (y252 : List (S40)) (y255 : List (S40)) (y258 : List (S40)) (y261 : List (S40)) (y264 : List (S40)) (y267 : List (S40)) (y270 : List (S40)) (y273 : List (S62)) (a0_ : Act) (Q : Exit → Act → World → Prop) (hsz : a0_.tmps.size = 482) : ∀ ops, (Try.f11.body.bind fun c => opsIn c 3) = some ops → StepAt Try.prog ops Q mE.B3 exO (ExI w y246 y249 y252 y255 y258 y261 y264 y267 y270 y273 a0_) 42 := by
 refine stepAt_mk rfl ?_
 have hu33 := Try.underlying33
 have hu62 := Try.underlying62
 have hu40 := Try.underlying40
 rintro b a w' ⟨v247, v250, v253, v256, v259, v262, v265, v268, v271, v274, m5_, m6_, m8_, m9_, m12_, m13_, m16_, m17_, m21_, m22_, m26_, m27_, m31_, m32_, m37_, m38_, m42_, m43_, ha, Q_HB, Q_HO248, Q_HO251, Q_HO254, Q_HO257, Q_HO260, Q_HO263, Q_HO266, Q_HO269, Q_HO272, Q_HO275, Q_X5_, Q_X6_, Q_X8_, Q_X9_, Q_X12_, Q_X13_, Q_X16_, Q_X17_, Q_X21_, Q_X22_, Q_X26_, Q_X27_, Q_X31_, Q_X32_, Q_X37_, Q_X38_, Q_X42_, Q_X43_⟩ hb_ hon hoff
 refine ⟨_, rfl, fun K hK => ?_⟩
 have e107 : a.tmps[107]? = some (v271) := by rw [ha]; exact putSel_on (e := (41, 107, v271)) 41 rfl rfl (hon 41 (by kernel_rfl)) (szb hsz rfl)
 replace ha := As.mk ha
 have HB := As.mk Q_HB
 have HO272 := As.mk (Q_HO272 (hon 41 (by kernel_rfl)) (hoff 44 (by kernel_rfl)))
 obtain ⟨Ao42_0, co42_0, eo_⟩ := Kd.R_slice HO272.out
 subst eo_
 refine value_ (w1 := w') (v := .agg #[.int .i64 2, .int .i64 2, .slice Ao42_0 y270.length co42_0]) (by rfl) rfl ?_ ?_
 ·go_simp
  (try simp only [i64_w])
  try rfl
 refine hK.out _ _ ⟨v247, v250, v253, v256, v259, v262, v265, v268, .slice Ao42_0 y270.length co42_0, v274, m5_, m6_, m8_, m9_, m12_, m13_, m16_, m17_, m21_, m22_, m26_, m27_, m31_, m32_, m37_, m38_, (.agg #[.int .i64 2, .int .i64 2, .slice Ao42_0 y270.length co42_0]), m43_, (by rw [ha.out]; exact putSel_upk 42 hb_ rfl rfl rfl), Q_HB, Q_HO248, Q_HO251, Q_HO254, Q_HO257, Q_HO260, Q_HO263, Q_HO266, Q_HO269, Q_HO272, fun h0_ => absurd ((hoff 44 (by kernel_rfl)).symm.trans h0_) (by decide), Q_X5_, Q_X6_, Q_X8_, Q_X9_, Q_X12_, Q_X13_, Q_X16_, Q_X17_, Q_X21_, Q_X22_, Q_X26_, Q_X27_, Q_X31_, Q_X32_, Q_X37_, Q_X38_, fun _ => rfl, fun h0_ => absurd ((hoff 43 (by kernel_rfl)).symm.trans h0_) (by decide)⟩
set_option maxHeartbeats 8000000 in
set_option maxRecDepth 100000 in
theorem ExS43 (w : World) (y246 : List (S40)) (y249 : List (S40)) (y252 : List (S40)) (y255 : List (S40)) (y258 : List (S40)) (y261 : List (S40)) (y264 : List (S40)) (y267 : List (S40)) (y270 : List (S40)) (y273 : List (S62)) (a0_ : Act) (Q : Exit → Act → World → Prop) (hsz : a0_.tmps.size = 482) : ∀ ops, (Try.f11.body.bind fun c => opsIn c 3) = some ops → StepAt Try.prog ops Q mE.B3 exO (ExI w y246 y249 y252 y255 y258 y261 y264 y267 y270 y273 a0_) 43 := by
 refine stepAt_mk rfl ?_
 have hu33 := Try.underlying33
 have hu62 := Try.underlying62
 have hu40 := Try.underlying40
 rintro b a w' ⟨v247, v250, v253, v256, v259, v262, v265, v268, v271, v274, m5_, m6_, m8_, m9_, m12_, m13_, m16_, m17_, m21_, m22_, m26_, m27_, m31_, m32_, m37_, m38_, m42_, m43_, ha, Q_HB, Q_HO248, Q_HO251, Q_HO254, Q_HO257, Q_HO260, Q_HO263, Q_HO266, Q_HO269, Q_HO272, Q_HO275, Q_X5_, Q_X6_, Q_X8_, Q_X9_, Q_X12_, Q_X13_, Q_X16_, Q_X17_, Q_X21_, Q_X22_, Q_X26_, Q_X27_, Q_X31_, Q_X32_, Q_X37_, Q_X38_, Q_X42_, Q_X43_⟩ hb_ hon hoff
 refine ⟨_, rfl, fun K hK => ?_⟩
 have e108 : a.tmps[108]? = some (m42_) := by rw [ha]; exact putSel_on (e := (42, 108, m42_)) 42 rfl rfl (hon 42 (by kernel_rfl)) (szb hsz rfl)
 rw [Q_X42_ (hon 42 (by kernel_rfl))] at e108
 replace ha := As.mk ha
 have HB := As.mk Q_HB
 have HO272 := As.mk (Q_HO272 (hon 41 (by kernel_rfl)) (hoff 44 (by kernel_rfl)))
 obtain ⟨Ao43_0, co43_0, eo_⟩ := Kd.R_slice HO272.out
 subst eo_
 refine value_ (w1 := w') (v := .agg #[.int .i64 2, .int .i64 2, .slice Ao43_0 y270.length co43_0, .int .i64 1]) (by rfl) rfl ?_ ?_
 ·go_simp
  (try simp only [i64_w])
  try rfl
 refine hK.out _ _ ⟨v247, v250, v253, v256, v259, v262, v265, v268, .slice Ao43_0 y270.length co43_0, v274, m5_, m6_, m8_, m9_, m12_, m13_, m16_, m17_, m21_, m22_, m26_, m27_, m31_, m32_, m37_, m38_, m42_, (.agg #[.int .i64 2, .int .i64 2, .slice Ao43_0 y270.length co43_0, .int .i64 1]), (by rw [ha.out]; exact putSel_upk 43 hb_ rfl rfl rfl), Q_HB, Q_HO248, Q_HO251, Q_HO254, Q_HO257, Q_HO260, Q_HO263, Q_HO266, Q_HO269, Q_HO272, fun h0_ => absurd ((hoff 44 (by kernel_rfl)).symm.trans h0_) (by decide), Q_X5_, Q_X6_, Q_X8_, Q_X9_, Q_X12_, Q_X13_, Q_X16_, Q_X17_, Q_X21_, Q_X22_, Q_X26_, Q_X27_, Q_X31_, Q_X32_, Q_X37_, Q_X38_, Q_X42_, fun _ => rfl⟩
set_option maxHeartbeats 8000000 in
set_option maxRecDepth 100000 in
theorem ExS44 (w : World) (y246 : List (S40)) (y249 : List (S40)) (y252 : List (S40)) (y255 : List (S40)) (y258 : List (S40)) (y261 : List (S40)) (y264 : List (S40)) (y267 : List (S40)) (y270 : List (S40)) (y273 : List (S62)) (Ny273 : As (y273 = ([(⟨(⟨(-1), 0, ([] : List (S40))⟩ : S33), 1⟩ : S62), (⟨(⟨0, 1025, ([] : List (S40))⟩ : S33), 1⟩ : S62), (⟨(⟨(-1), 0, y246⟩ : S33), 1⟩ : S62), (⟨(⟨0, 0, y249⟩ : S33), 3⟩ : S62), (⟨(⟨1, 1, y252⟩ : S33), 1⟩ : S62), (⟨(⟨1, 1, y255⟩ : S33), 1⟩ : S62), (⟨(⟨1, 1, y258⟩ : S33), 5⟩ : S62), (⟨(⟨2, 2, y261⟩ : S33), 6⟩ : S62), (⟨(⟨2, 2, y264⟩ : S33), 6⟩ : S62), (⟨(⟨2, 2, y267⟩ : S33), 6⟩ : S62), (⟨(⟨2, 2, y270⟩ : S33), 1⟩ : S62)] : List (S62)))) (a0_ : Act) (Q : Exit → Act → World → Prop) (hsz : a0_.tmps.size = 482) : ∀ ops, (Try.f11.body.bind fun c => opsIn c 3) = some ops → StepAt Try.prog ops Q mE.B3 exO (ExI w y246 y249 y252 y255 y258 y261 y264 y267 y270 y273 a0_) 44 := by
 refine stepAt_mk rfl ?_
 have hu33 := Try.underlying33
 have hu62 := Try.underlying62
 have hu40 := Try.underlying40
 rintro b a w' ⟨v247, v250, v253, v256, v259, v262, v265, v268, v271, v274, m5_, m6_, m8_, m9_, m12_, m13_, m16_, m17_, m21_, m22_, m26_, m27_, m31_, m32_, m37_, m38_, m42_, m43_, ha, Q_HB, Q_HO248, Q_HO251, Q_HO254, Q_HO257, Q_HO260, Q_HO263, Q_HO266, Q_HO269, Q_HO272, Q_HO275, Q_X5_, Q_X6_, Q_X8_, Q_X9_, Q_X12_, Q_X13_, Q_X16_, Q_X17_, Q_X21_, Q_X22_, Q_X26_, Q_X27_, Q_X31_, Q_X32_, Q_X37_, Q_X38_, Q_X42_, Q_X43_⟩ hb_ hon hoff
 refine ⟨_, rfl, fun K hK => ?_⟩
 have e67 : a.tmps[67]? = some (.agg #[.int .i64 (-1), .int .i64 0, .slice none 0 0, .int .i64 1]) := by rw [ha]; exact putSel_on (e := (1, 67, .agg #[.int .i64 (-1), .int .i64 0, .slice none 0 0, .int .i64 1])) 1 rfl rfl (hon 1 (by kernel_rfl)) (szb hsz rfl)
 have e69 : a.tmps[69]? = some (.agg #[.int .i64 0, .int .i64 1025, .slice none 0 0, .int .i64 1]) := by rw [ha]; exact putSel_on (e := (3, 69, .agg #[.int .i64 0, .int .i64 1025, .slice none 0 0, .int .i64 1])) 3 rfl rfl (hon 3 (by kernel_rfl)) (szb hsz rfl)
 have e72 : a.tmps[72]? = some (m6_) := by rw [ha]; exact putSel_on (e := (6, 72, m6_)) 6 rfl rfl (hon 6 (by kernel_rfl)) (szb hsz rfl)
 rw [Q_X6_ (hon 6 (by kernel_rfl))] at e72
 have e75 : a.tmps[75]? = some (m9_) := by rw [ha]; exact putSel_on (e := (9, 75, m9_)) 9 rfl rfl (hon 9 (by kernel_rfl)) (szb hsz rfl)
 rw [Q_X9_ (hon 9 (by kernel_rfl))] at e75
 have e79 : a.tmps[79]? = some (m13_) := by rw [ha]; exact putSel_on (e := (13, 79, m13_)) 13 rfl rfl (hon 13 (by kernel_rfl)) (szb hsz rfl)
 rw [Q_X13_ (hon 13 (by kernel_rfl))] at e79
 have e83 : a.tmps[83]? = some (m17_) := by rw [ha]; exact putSel_on (e := (17, 83, m17_)) 17 rfl rfl (hon 17 (by kernel_rfl)) (szb hsz rfl)
 rw [Q_X17_ (hon 17 (by kernel_rfl))] at e83
 have e88 : a.tmps[88]? = some (m22_) := by rw [ha]; exact putSel_on (e := (22, 88, m22_)) 22 rfl rfl (hon 22 (by kernel_rfl)) (szb hsz rfl)
 rw [Q_X22_ (hon 22 (by kernel_rfl))] at e88
 have e93 : a.tmps[93]? = some (m27_) := by rw [ha]; exact putSel_on (e := (27, 93, m27_)) 27 rfl rfl (hon 27 (by kernel_rfl)) (szb hsz rfl)
 rw [Q_X27_ (hon 27 (by kernel_rfl))] at e93
 have e98 : a.tmps[98]? = some (m32_) := by rw [ha]; exact putSel_on (e := (32, 98, m32_)) 32 rfl rfl (hon 32 (by kernel_rfl)) (szb hsz rfl)
 rw [Q_X32_ (hon 32 (by kernel_rfl))] at e98
 have e104 : a.tmps[104]? = some (m38_) := by rw [ha]; exact putSel_on (e := (38, 104, m38_)) 38 rfl rfl (hon 38 (by kernel_rfl)) (szb hsz rfl)
 rw [Q_X38_ (hon 38 (by kernel_rfl))] at e104
 have e109 : a.tmps[109]? = some (m43_) := by rw [ha]; exact putSel_on (e := (43, 109, m43_)) 43 rfl rfl (hon 43 (by kernel_rfl)) (szb hsz rfl)
 rw [Q_X43_ (hon 43 (by kernel_rfl))] at e109
 replace ha := As.mk ha
 have HB := As.mk Q_HB
 have HO248 := As.mk (Q_HO248 (hon 4 (by kernel_rfl)) hb_)
 have HO251 := As.mk (Q_HO251 (hon 7 (by kernel_rfl)) hb_)
 have HO254 := As.mk (Q_HO254 (hon 11 (by kernel_rfl)) hb_)
 have HO257 := As.mk (Q_HO257 (hon 15 (by kernel_rfl)) hb_)
 have HO260 := As.mk (Q_HO260 (hon 20 (by kernel_rfl)) hb_)
 have HO263 := As.mk (Q_HO263 (hon 25 (by kernel_rfl)) hb_)
 have HO266 := As.mk (Q_HO266 (hon 30 (by kernel_rfl)) hb_)
 have HO269 := As.mk (Q_HO269 (hon 36 (by kernel_rfl)) hb_)
 have HO272 := As.mk (Q_HO272 (hon 41 (by kernel_rfl)) hb_)
 obtain ⟨Ao34, co34, eo34⟩ := Kd.R_slice HO248.out
 (first | subst eo34 | (injection eo34 with f1_ f2_ f3_; have f4_ := f1_.symm; have f5_ := f3_.symm; clear f1_ f2_ f3_; subst f4_; subst f5_))
 obtain ⟨Ao35, co35, eo35⟩ := Kd.R_slice HO251.out
 (first | subst eo35 | (injection eo35 with f1_ f2_ f3_; have f4_ := f1_.symm; have f5_ := f3_.symm; clear f1_ f2_ f3_; subst f4_; subst f5_))
 obtain ⟨Ao36, co36, eo36⟩ := Kd.R_slice HO254.out
 (first | subst eo36 | (injection eo36 with f1_ f2_ f3_; have f4_ := f1_.symm; have f5_ := f3_.symm; clear f1_ f2_ f3_; subst f4_; subst f5_))
 obtain ⟨Ao37, co37, eo37⟩ := Kd.R_slice HO257.out
 (first | subst eo37 | (injection eo37 with f1_ f2_ f3_; have f4_ := f1_.symm; have f5_ := f3_.symm; clear f1_ f2_ f3_; subst f4_; subst f5_))
 obtain ⟨Ao38, co38, eo38⟩ := Kd.R_slice HO260.out
 (first | subst eo38 | (injection eo38 with f1_ f2_ f3_; have f4_ := f1_.symm; have f5_ := f3_.symm; clear f1_ f2_ f3_; subst f4_; subst f5_))
 obtain ⟨Ao39, co39, eo39⟩ := Kd.R_slice HO263.out
 (first | subst eo39 | (injection eo39 with f1_ f2_ f3_; have f4_ := f1_.symm; have f5_ := f3_.symm; clear f1_ f2_ f3_; subst f4_; subst f5_))
 obtain ⟨Ao40, co40, eo40⟩ := Kd.R_slice HO266.out
 (first | subst eo40 | (injection eo40 with f1_ f2_ f3_; have f4_ := f1_.symm; have f5_ := f3_.symm; clear f1_ f2_ f3_; subst f4_; subst f5_))
 obtain ⟨Ao41, co41, eo41⟩ := Kd.R_slice HO269.out
 (first | subst eo41 | (injection eo41 with f1_ f2_ f3_; have f4_ := f1_.symm; have f5_ := f3_.symm; clear f1_ f2_ f3_; subst f4_; subst f5_))
 obtain ⟨Ao42, co42, eo42⟩ := Kd.R_slice HO272.out
 (first | subst eo42 | (injection eo42 with f1_ f2_ f3_; have f4_ := f1_.symm; have f5_ := f3_.symm; clear f1_ f2_ f3_; subst f4_; subst f5_))
 refine Kd.N_lit_step k62 _ 62 ?hg (N' := 110) ?hd (xs := ([(⟨(⟨(-1), 0, ([] : List (S40))⟩ : S33), 1⟩ : S62), (⟨(⟨0, 1025, ([] : List (S40))⟩ : S33), 1⟩ : S62), (⟨(⟨(-1), 0, y246⟩ : S33), 1⟩ : S62), (⟨(⟨0, 0, y249⟩ : S33), 3⟩ : S62), (⟨(⟨1, 1, y252⟩ : S33), 1⟩ : S62), (⟨(⟨1, 1, y255⟩ : S33), 1⟩ : S62), (⟨(⟨1, 1, y258⟩ : S33), 5⟩ : S62), (⟨(⟨2, 2, y261⟩ : S33), 6⟩ : S62), (⟨(⟨2, 2, y264⟩ : S33), 6⟩ : S62), (⟨(⟨2, 2, y267⟩ : S33), 6⟩ : S62), (⟨(⟨2, 2, y270⟩ : S33), 1⟩ : S62)] : List (S62))) (inner := [.int .i64 (-1), .int .i64 0, .slice none 0 0, .int .i64 1, .int .i64 0, .int .i64 1025, .slice none 0 0, .int .i64 1, .int .i64 (-1), .int .i64 0, .slice Ao34 y246.length co34, .int .i64 1, .int .i64 0, .int .i64 0, .slice Ao35 y249.length co35, .int .i64 3, .int .i64 1, .int .i64 1, .slice Ao36 y252.length co36, .int .i64 1, .int .i64 1, .int .i64 1, .slice Ao37 y255.length co37, .int .i64 1, .int .i64 1, .int .i64 1, .slice Ao38 y258.length co38, .int .i64 5, .int .i64 2, .int .i64 2, .slice Ao39 y261.length co39, .int .i64 6, .int .i64 2, .int .i64 2, .slice Ao40 y264.length co40, .int .i64 6, .int .i64 2, .int .i64 2, .slice Ao41 y267.length co41, .int .i64 6, .int .i64 2, .int .i64 2, .slice Ao42 y270.length co42, .int .i64 1]) (ok := (fun _ => True)) (okp := (fun _ => True)) ?hr ?hp (fun _ hk => hk) ((show ∀ k_, w'.heap.size ≤ k_ → (fun _ => True) k_ from fun k_ hk => trivial) _ (Nat.le_refl _)) (Below.refl _ _) (Nat.le_refl _) (by simp) ?_; (case hd => rfl); (case hg => rfl); (case hr => first | (go_simp; done) | (go_simp; rfl)); (case hp => exact (Reps.c4 (show Kd.FK k62 _ _ (⟨(⟨(-1), 0, ([] : List (S40))⟩ : S33), 1⟩ : S62) [.int .i64 (-1), .int .i64 0, .slice none 0 0, .int .i64 1] from (k62_mkF _ _ (⟨(⟨(-1), 0, ([] : List (S40))⟩ : S33), 1⟩ : S62) (Nat.le_refl _) (Kd.F_nil _ _ _))) (Reps.c4 (show Kd.FK k62 _ _ (⟨(⟨0, 1025, ([] : List (S40))⟩ : S33), 1⟩ : S62) [.int .i64 0, .int .i64 1025, .slice none 0 0, .int .i64 1] from (k62_mkF _ _ (⟨(⟨0, 1025, ([] : List (S40))⟩ : S33), 1⟩ : S62) (Nat.le_refl _) (Kd.F_nil _ _ _))) (Reps.c4 (show Kd.FK k62 _ _ (⟨(⟨(-1), 0, y246⟩ : S33), 1⟩ : S62) [.int .i64 (-1), .int .i64 0, .slice Ao34 y246.length co34, .int .i64 1] from (k62_mkF _ _ (⟨(⟨(-1), 0, y246⟩ : S33), 1⟩ : S62) (Kd.R_reads' (Kd.R_mono (ok' := (fun _ => True)) (HO248.out) (fun k_ hk => trivial))).2.1 (Kd.R_F (Kd.R_mono (ok' := (fun _ => True)) (HO248.out) (fun k_ hk => trivial))))) (Reps.c4 (show Kd.FK k62 _ _ (⟨(⟨0, 0, y249⟩ : S33), 3⟩ : S62) [.int .i64 0, .int .i64 0, .slice Ao35 y249.length co35, .int .i64 3] from (k62_mkF _ _ (⟨(⟨0, 0, y249⟩ : S33), 3⟩ : S62) (Kd.R_reads' (Kd.R_mono (ok' := (fun _ => True)) (HO251.out) (fun k_ hk => trivial))).2.1 (Kd.R_F (Kd.R_mono (ok' := (fun _ => True)) (HO251.out) (fun k_ hk => trivial))))) (Reps.c4 (show Kd.FK k62 _ _ (⟨(⟨1, 1, y252⟩ : S33), 1⟩ : S62) [.int .i64 1, .int .i64 1, .slice Ao36 y252.length co36, .int .i64 1] from (k62_mkF _ _ (⟨(⟨1, 1, y252⟩ : S33), 1⟩ : S62) (Kd.R_reads' (Kd.R_mono (ok' := (fun _ => True)) (HO254.out) (fun k_ hk => trivial))).2.1 (Kd.R_F (Kd.R_mono (ok' := (fun _ => True)) (HO254.out) (fun k_ hk => trivial))))) (Reps.c4 (show Kd.FK k62 _ _ (⟨(⟨1, 1, y255⟩ : S33), 1⟩ : S62) [.int .i64 1, .int .i64 1, .slice Ao37 y255.length co37, .int .i64 1] from (k62_mkF _ _ (⟨(⟨1, 1, y255⟩ : S33), 1⟩ : S62) (Kd.R_reads' (Kd.R_mono (ok' := (fun _ => True)) (HO257.out) (fun k_ hk => trivial))).2.1 (Kd.R_F (Kd.R_mono (ok' := (fun _ => True)) (HO257.out) (fun k_ hk => trivial))))) (Reps.c4 (show Kd.FK k62 _ _ (⟨(⟨1, 1, y258⟩ : S33), 5⟩ : S62) [.int .i64 1, .int .i64 1, .slice Ao38 y258.length co38, .int .i64 5] from (k62_mkF _ _ (⟨(⟨1, 1, y258⟩ : S33), 5⟩ : S62) (Kd.R_reads' (Kd.R_mono (ok' := (fun _ => True)) (HO260.out) (fun k_ hk => trivial))).2.1 (Kd.R_F (Kd.R_mono (ok' := (fun _ => True)) (HO260.out) (fun k_ hk => trivial))))) (Reps.c4 (show Kd.FK k62 _ _ (⟨(⟨2, 2, y261⟩ : S33), 6⟩ : S62) [.int .i64 2, .int .i64 2, .slice Ao39 y261.length co39, .int .i64 6] from (k62_mkF _ _ (⟨(⟨2, 2, y261⟩ : S33), 6⟩ : S62) (Kd.R_reads' (Kd.R_mono (ok' := (fun _ => True)) (HO263.out) (fun k_ hk => trivial))).2.1 (Kd.R_F (Kd.R_mono (ok' := (fun _ => True)) (HO263.out) (fun k_ hk => trivial))))) (Reps.c4 (show Kd.FK k62 _ _ (⟨(⟨2, 2, y264⟩ : S33), 6⟩ : S62) [.int .i64 2, .int .i64 2, .slice Ao40 y264.length co40, .int .i64 6] from (k62_mkF _ _ (⟨(⟨2, 2, y264⟩ : S33), 6⟩ : S62) (Kd.R_reads' (Kd.R_mono (ok' := (fun _ => True)) (HO266.out) (fun k_ hk => trivial))).2.1 (Kd.R_F (Kd.R_mono (ok' := (fun _ => True)) (HO266.out) (fun k_ hk => trivial))))) (Reps.c4 (show Kd.FK k62 _ _ (⟨(⟨2, 2, y267⟩ : S33), 6⟩ : S62) [.int .i64 2, .int .i64 2, .slice Ao41 y267.length co41, .int .i64 6] from (k62_mkF _ _ (⟨(⟨2, 2, y267⟩ : S33), 6⟩ : S62) (Kd.R_reads' (Kd.R_mono (ok' := (fun _ => True)) (HO269.out) (fun k_ hk => trivial))).2.1 (Kd.R_F (Kd.R_mono (ok' := (fun _ => True)) (HO269.out) (fun k_ hk => trivial))))) (Reps.c4 (show Kd.FK k62 _ _ (⟨(⟨2, 2, y270⟩ : S33), 1⟩ : S62) [.int .i64 2, .int .i64 2, .slice Ao42 y270.length co42, .int .i64 1] from (k62_mkF _ _ (⟨(⟨2, 2, y270⟩ : S33), 1⟩ : S62) (Kd.R_reads' (Kd.R_mono (ok' := (fun _ => True)) (HO272.out) (fun k_ hk => trivial))).2.1 (Kd.R_F (Kd.R_mono (ok' := (fun _ => True)) (HO272.out) (fun k_ hk => trivial))))) (Reps.none _ _)))))))))))))
 intro v274 w43 ho44 hb hg_ hnew_
 clear hg_ hnew_
 (first | rw [← Ny273.out] at ho44 | (simp only [Int.reduceToNat] at ho44; rw [← Ny273.out] at ho44))
 have n0_ := As.mk (Kd.N_lower ho44 (below_size (hup0 HB.out)))
 have n1_ := As.mk (below_step (hup0 HB.out) hb)
 clear HB
 clear HO248
 clear HO251
 clear HO254
 clear HO257
 clear HO260
 clear HO263
 clear HO266
 clear HO269
 clear HO272
 have HO275 := n0_
 have HB := n1_
 clear n0_ n1_
 clear hb ho44
 obtain ⟨Ao45, co45, eo45⟩ := Kd.N_slice HO275.out
 (first | subst eo45 | (injection eo45 with f1_ f2_ f3_; have f4_ := f1_.symm; have f5_ := f3_.symm; clear f1_ f2_ f3_; subst f4_; subst f5_))
 refine hK.out _ _ ⟨.slice Ao34 y246.length co34, .slice Ao35 y249.length co35, .slice Ao36 y252.length co36, .slice Ao37 y255.length co37, .slice Ao38 y258.length co38, .slice Ao39 y261.length co39, .slice Ao40 y264.length co40, .slice Ao41 y267.length co41, .slice Ao42 y270.length co42, .slice Ao45 y273.length co45, m5_, m6_, m8_, m9_, m12_, m13_, m16_, m17_, m21_, m22_, m26_, m27_, m31_, m32_, m37_, m38_, m42_, m43_, (by rw [ha.out]; exact putSel_upk 44 hb_ rfl rfl rfl), (hup0 HB.out), fun _ h1_ => absurd ((up_self b 44).symm.trans h1_) (by decide), fun _ h1_ => absurd ((up_self b 44).symm.trans h1_) (by decide), fun _ h1_ => absurd ((up_self b 44).symm.trans h1_) (by decide), fun _ h1_ => absurd ((up_self b 44).symm.trans h1_) (by decide), fun _ h1_ => absurd ((up_self b 44).symm.trans h1_) (by decide), fun _ h1_ => absurd ((up_self b 44).symm.trans h1_) (by decide), fun _ h1_ => absurd ((up_self b 44).symm.trans h1_) (by decide), fun _ h1_ => absurd ((up_self b 44).symm.trans h1_) (by decide), fun _ h1_ => absurd ((up_self b 44).symm.trans h1_) (by decide), fun _ => (nup HO275.out), Q_X5_, Q_X6_, Q_X8_, Q_X9_, Q_X12_, Q_X13_, Q_X16_, Q_X17_, Q_X21_, Q_X22_, Q_X26_, Q_X27_, Q_X31_, Q_X32_, Q_X37_, Q_X38_, Q_X42_, Q_X43_⟩
set_option maxHeartbeats 8000000 in
set_option maxRecDepth 100000 in
theorem ExS45 (w : World) (y246 : List (S40)) (y249 : List (S40)) (y252 : List (S40)) (y255 : List (S40)) (y258 : List (S40)) (y261 : List (S40)) (y264 : List (S40)) (y267 : List (S40)) (y270 : List (S40)) (y273 : List (S62)) (a0_ : Act) (Q : Exit → Act → World → Prop) (hsz : a0_.tmps.size = 482) : ∀ ops, (Try.f11.body.bind fun c => opsIn c 3) = some ops → StepAt Try.prog ops Q mE.B3 exO (ExI w y246 y249 y252 y255 y258 y261 y264 y267 y270 y273 a0_) 45 := by
 refine stepAt_mk rfl ?_
 have hu33 := Try.underlying33
 have hu62 := Try.underlying62
 have hu40 := Try.underlying40
 rintro b a w' ⟨v247, v250, v253, v256, v259, v262, v265, v268, v271, v274, m5_, m6_, m8_, m9_, m12_, m13_, m16_, m17_, m21_, m22_, m26_, m27_, m31_, m32_, m37_, m38_, m42_, m43_, ha, Q_HB, Q_HO248, Q_HO251, Q_HO254, Q_HO257, Q_HO260, Q_HO263, Q_HO266, Q_HO269, Q_HO272, Q_HO275, Q_X5_, Q_X6_, Q_X8_, Q_X9_, Q_X12_, Q_X13_, Q_X16_, Q_X17_, Q_X21_, Q_X22_, Q_X26_, Q_X27_, Q_X31_, Q_X32_, Q_X37_, Q_X38_, Q_X42_, Q_X43_⟩ hb_ hon hoff
 refine ⟨_, rfl, fun K hK => ?_⟩
 have e110 : a.tmps[110]? = some (v274) := by rw [ha]; exact putSel_on (e := (44, 110, v274)) 44 rfl rfl (hon 44 (by kernel_rfl)) (szb hsz rfl)
 replace ha := As.mk ha
 have HB := As.mk Q_HB
 have HO275 := As.mk (Q_HO275 (hon 44 (by kernel_rfl)))
 obtain ⟨Ao45_0, co45_0, eo_⟩ := Kd.N_slice HO275.out
 subst eo_
 refine value_ (w1 := w') (v := .int .i64 (y273.length : Int)) (by rfl) rfl ?_ ?_
 ·go_simp
  (try simp only [i64_w])
  try rfl
 refine hK.out _ _ ⟨v247, v250, v253, v256, v259, v262, v265, v268, v271, .slice Ao45_0 y273.length co45_0, m5_, m6_, m8_, m9_, m12_, m13_, m16_, m17_, m21_, m22_, m26_, m27_, m31_, m32_, m37_, m38_, m42_, m43_, (by rw [ha.out]; exact putSel_upk 45 hb_ rfl rfl rfl), Q_HB, fun _ h1_ => absurd ((hon 44 (by kernel_rfl)).symm.trans h1_) (by decide), fun _ h1_ => absurd ((hon 44 (by kernel_rfl)).symm.trans h1_) (by decide), fun _ h1_ => absurd ((hon 44 (by kernel_rfl)).symm.trans h1_) (by decide), fun _ h1_ => absurd ((hon 44 (by kernel_rfl)).symm.trans h1_) (by decide), fun _ h1_ => absurd ((hon 44 (by kernel_rfl)).symm.trans h1_) (by decide), fun _ h1_ => absurd ((hon 44 (by kernel_rfl)).symm.trans h1_) (by decide), fun _ h1_ => absurd ((hon 44 (by kernel_rfl)).symm.trans h1_) (by decide), fun _ h1_ => absurd ((hon 44 (by kernel_rfl)).symm.trans h1_) (by decide), fun _ h1_ => absurd ((hon 44 (by kernel_rfl)).symm.trans h1_) (by decide), Q_HO275, Q_X5_, Q_X6_, Q_X8_, Q_X9_, Q_X12_, Q_X13_, Q_X16_, Q_X17_, Q_X21_, Q_X22_, Q_X26_, Q_X27_, Q_X31_, Q_X32_, Q_X37_, Q_X38_, Q_X42_, Q_X43_⟩
end Go.Proofs.Ytlleokhmgblfnaa.M
end

section
namespace Go.Proofs.Ytlleokhmgblfnaa.M
open Go.RowKit Go.Proofs.YtlleokhmgblfnaaW.PrintWords Go.Proofs.YtlleokhmgblfnaaW.PrintLast Go.Proofs.YtlleokhmgblfnaaW.PrintMore
attribute [local go_sem] max2_int min2_int max_two min_two max_three min_three max_four min_four
theorem mE.j1_dead (k : Nat) : ¬ mE.j1 k true = some true := by
 cases k <;> simp [mE.j1]
theorem mE.j3_dead (k : Nat) (x0 : List Int) : ¬ mE.j3 k x0 true = some true := by
 cases k <;> simp [mE.j3]
def tailO : Nat → Option Code → Option Code
 | 0, o => o
 | n + 1, some (.seq _ b) => tailO n (some b)
 | _, _ => none
def WpAt (n : Nat) (Q : Exit → Act → World → Prop) (a : Act) (w : World) : Prop := ∀ c1 c2, tailO n Try.f11.body = some (.seq c1 c2) → ∀ K : Act → World → Prop, (∀ a w, c2.wp Try.prog Q a w → K a w) → c1.wp Try.prog (Exit.then K Q) a w
theorem wpAt_mk {n : Nat} {Q : Exit → Act → World → Prop} {a : Act} {w : World} {c1 c2 : Code} (h : tailO n Try.f11.body = some (.seq c1 c2)) (hw : ∀ K : Act → World → Prop, (∀ a w, c2.wp Try.prog Q a w → K a w) → c1.wp Try.prog (Exit.then K Q) a w) : WpAt n Q a w := fun d1 d2 h' => by
 rw [h] at h'
 cases h'
 exact hw
set_option maxRecDepth 100000 in
def frameU (u : Nat → Value) : Act := { tmps := List.toArray (u 0 :: u 1 :: u 2 :: u 3 :: u 4 :: u 5 :: u 6 :: u 7 :: u 8 :: u 9 :: u 10 :: u 11 :: u 12 :: u 13 :: u 14 :: u 15 :: u 16 :: u 17 :: u 18 :: u 19 :: u 20 :: u 21 :: u 22 :: u 23 :: u 24 :: u 25 :: u 26 :: u 27 :: u 28 :: u 29 :: u 30 :: u 31 :: u 32 :: u 33 :: u 34 :: u 35 :: u 36 :: u 37 :: u 38 :: u 39 :: u 40 :: u 41 :: u 42 :: u 43 :: u 44 :: u 45 :: u 46 :: u 47 :: u 48 :: u 49 :: u 50 :: u 51 :: u 52 :: u 53 :: u 54 :: u 55 :: u 56 :: u 57 :: u 58 :: u 59 :: u 60 :: u 61 :: u 62 :: u 63 :: u 64 :: u 65 :: u 66 :: u 67 :: u 68 :: u 69 :: u 70 :: u 71 :: u 72 :: u 73 :: u 74 :: u 75 :: u 76 :: u 77 :: u 78 :: u 79 :: u 80 :: u 81 :: u 82 :: u 83 :: u 84 :: u 85 :: u 86 :: u 87 :: u 88 :: u 89 :: u 90 :: u 91 :: u 92 :: u 93 :: u 94 :: u 95 :: u 96 :: u 97 :: u 98 :: u 99 :: u 100 :: u 101 :: u 102 :: u 103 :: u 104 :: u 105 :: u 106 :: u 107 :: u 108 :: u 109 :: u 110 :: u 111 :: u 112 :: u 113 :: u 114 :: u 115 :: u 116 :: u 117 :: u 118 :: u 119 :: u 120 :: u 121 :: u 122 :: u 123 :: u 124 :: u 125 :: u 126 :: u 127 :: u 128 :: u 129 :: u 130 :: u 131 :: u 132 :: u 133 :: u 134 :: u 135 :: u 136 :: u 137 :: u 138 :: u 139 :: u 140 :: u 141 :: u 142 :: u 143 :: u 144 :: u 145 :: u 146 :: u 147 :: u 148 :: u 149 :: u 150 :: u 151 :: u 152 :: u 153 :: u 154 :: u 155 :: u 156 :: u 157 :: u 158 :: u 159 :: u 160 :: u 161 :: u 162 :: u 163 :: u 164 :: u 165 :: u 166 :: u 167 :: u 168 :: u 169 :: u 170 :: u 171 :: u 172 :: u 173 :: u 174 :: u 175 :: u 176 :: u 177 :: u 178 :: u 179 :: u 180 :: u 181 :: u 182 :: u 183 :: u 184 :: u 185 :: u 186 :: u 187 :: u 188 :: u 189 :: u 190 :: u 191 :: u 192 :: u 193 :: u 194 :: u 195 :: u 196 :: u 197 :: u 198 :: u 199 :: u 200 :: u 201 :: u 202 :: u 203 :: u 204 :: u 205 :: u 206 :: u 207 :: u 208 :: u 209 :: u 210 :: u 211 :: u 212 :: u 213 :: u 214 :: u 215 :: u 216 :: u 217 :: u 218 :: u 219 :: u 220 :: u 221 :: u 222 :: u 223 :: u 224 :: u 225 :: u 226 :: u 227 :: u 228 :: u 229 :: u 230 :: u 231 :: u 232 :: u 233 :: u 234 :: u 235 :: u 236 :: u 237 :: u 238 :: u 239 :: u 240 :: u 241 :: u 242 :: u 243 :: u 244 :: u 245 :: u 246 :: u 247 :: u 248 :: u 249 :: u 250 :: u 251 :: u 252 :: u 253 :: u 254 :: u 255 :: u 256 :: u 257 :: u 258 :: u 259 :: u 260 :: u 261 :: u 262 :: u 263 :: u 264 :: u 265 :: u 266 :: u 267 :: u 268 :: u 269 :: u 270 :: u 271 :: u 272 :: u 273 :: u 274 :: u 275 :: u 276 :: u 277 :: u 278 :: u 279 :: u 280 :: u 281 :: u 282 :: u 283 :: u 284 :: u 285 :: u 286 :: u 287 :: u 288 :: u 289 :: u 290 :: u 291 :: u 292 :: u 293 :: u 294 :: u 295 :: u 296 :: u 297 :: u 298 :: u 299 :: u 300 :: u 301 :: u 302 :: u 303 :: u 304 :: u 305 :: u 306 :: u 307 :: u 308 :: u 309 :: u 310 :: u 311 :: u 312 :: u 313 :: u 314 :: u 315 :: u 316 :: u 317 :: u 318 :: u 319 :: u 320 :: u 321 :: u 322 :: u 323 :: u 324 :: u 325 :: u 326 :: u 327 :: u 328 :: u 329 :: u 330 :: u 331 :: u 332 :: u 333 :: u 334 :: u 335 :: u 336 :: u 337 :: u 338 :: u 339 :: u 340 :: u 341 :: u 342 :: u 343 :: u 344 :: u 345 :: u 346 :: u 347 :: u 348 :: u 349 :: u 350 :: u 351 :: u 352 :: u 353 :: u 354 :: u 355 :: u 356 :: u 357 :: u 358 :: u 359 :: u 360 :: u 361 :: u 362 :: u 363 :: u 364 :: u 365 :: u 366 :: u 367 :: u 368 :: u 369 :: u 370 :: u 371 :: u 372 :: u 373 :: u 374 :: u 375 :: u 376 :: u 377 :: u 378 :: u 379 :: u 380 :: u 381 :: u 382 :: u 383 :: u 384 :: u 385 :: u 386 :: u 387 :: u 388 :: u 389 :: u 390 :: u 391 :: u 392 :: u 393 :: u 394 :: u 395 :: u 396 :: u 397 :: u 398 :: u 399 :: u 400 :: u 401 :: u 402 :: u 403 :: u 404 :: u 405 :: u 406 :: u 407 :: u 408 :: u 409 :: u 410 :: u 411 :: u 412 :: u 413 :: u 414 :: u 415 :: u 416 :: u 417 :: u 418 :: u 419 :: u 420 :: u 421 :: u 422 :: u 423 :: u 424 :: u 425 :: u 426 :: u 427 :: u 428 :: u 429 :: u 430 :: u 431 :: u 432 :: u 433 :: u 434 :: u 435 :: u 436 :: u 437 :: u 438 :: u 439 :: u 440 :: u 441 :: u 442 :: u 443 :: u 444 :: u 445 :: u 446 :: u 447 :: u 448 :: u 449 :: u 450 :: u 451 :: u 452 :: u 453 :: u 454 :: u 455 :: u 456 :: u 457 :: u 458 :: u 459 :: u 460 :: u 461 :: u 462 :: u 463 :: u 464 :: u 465 :: u 466 :: u 467 :: u 468 :: u 469 :: u 470 :: u 471 :: u 472 :: u 473 :: u 474 :: u 475 :: u 476 :: u 477 :: u 478 :: u 479 :: u 480 :: u 481 :: []), defers := [] }
set_option maxRecDepth 100000 in
theorem frame_all {P : Act → Prop} (h : ∀ u0 u1 u2 u3 u4 u5 u6 u7 u8 u9 u10 u11 u12 u13 u14 u15 u16 u17 u18 u19 u20 u21 u22 u23 u24 u25 u26 u27 u28 u29 u30 u31 u32 u33 u34 u35 u36 u37 u38 u39 u40 u41 u42 u43 u44 u45 u46 u47 u48 u49 u50 u51 u52 u53 u54 u55 u56 u57 u58 u59 u60 u61 u62 u63 u64 u65 u66 u67 u68 u69 u70 u71 u72 u73 u74 u75 u76 u77 u78 u79 u80 u81 u82 u83 u84 u85 u86 u87 u88 u89 u90 u91 u92 u93 u94 u95 u96 u97 u98 u99 u100 u101 u102 u103 u104 u105 u106 u107 u108 u109 u110 u111 u112 u113 u114 u115 u116 u117 u118 u119 u120 u121 u122 u123 u124 u125 u126 u127 u128 u129 u130 u131 u132 u133 u134 u135 u136 u137 u138 u139 u140 u141 u142 u143 u144 u145 u146 u147 u148 u149 u150 u151 u152 u153 u154 u155 u156 u157 u158 u159 u160 u161 u162 u163 u164 u165 u166 u167 u168 u169 u170 u171 u172 u173 u174 u175 u176 u177 u178 u179 u180 u181 u182 u183 u184 u185 u186 u187 u188 u189 u190 u191 u192 u193 u194 u195 u196 u197 u198 u199 u200 u201 u202 u203 u204 u205 u206 u207 u208 u209 u210 u211 u212 u213 u214 u215 u216 u217 u218 u219 u220 u221 u222 u223 u224 u225 u226 u227 u228 u229 u230 u231 u232 u233 u234 u235 u236 u237 u238 u239 u240 u241 u242 u243 u244 u245 u246 u247 u248 u249 u250 u251 u252 u253 u254 u255 u256 u257 u258 u259 u260 u261 u262 u263 u264 u265 u266 u267 u268 u269 u270 u271 u272 u273 u274 u275 u276 u277 u278 u279 u280 u281 u282 u283 u284 u285 u286 u287 u288 u289 u290 u291 u292 u293 u294 u295 u296 u297 u298 u299 u300 u301 u302 u303 u304 u305 u306 u307 u308 u309 u310 u311 u312 u313 u314 u315 u316 u317 u318 u319 u320 u321 u322 u323 u324 u325 u326 u327 u328 u329 u330 u331 u332 u333 u334 u335 u336 u337 u338 u339 u340 u341 u342 u343 u344 u345 u346 u347 u348 u349 u350 u351 u352 u353 u354 u355 u356 u357 u358 u359 u360 u361 u362 u363 u364 u365 u366 u367 u368 u369 u370 u371 u372 u373 u374 u375 u376 u377 u378 u379 u380 u381 u382 u383 u384 u385 u386 u387 u388 u389 u390 u391 u392 u393 u394 u395 u396 u397 u398 u399 u400 u401 u402 u403 u404 u405 u406 u407 u408 u409 u410 u411 u412 u413 u414 u415 u416 u417 u418 u419 u420 u421 u422 u423 u424 u425 u426 u427 u428 u429 u430 u431 u432 u433 u434 u435 u436 u437 u438 u439 u440 u441 u442 u443 u444 u445 u446 u447 u448 u449 u450 u451 u452 u453 u454 u455 u456 u457 u458 u459 u460 u461 u462 u463 u464 u465 u466 u467 u468 u469 u470 u471 u472 u473 u474 u475 u476 u477 u478 u479 u480 u481 : Value, P { tmps := List.toArray (u0 :: u1 :: u2 :: u3 :: u4 :: u5 :: u6 :: u7 :: u8 :: u9 :: u10 :: u11 :: u12 :: u13 :: u14 :: u15 :: u16 :: u17 :: u18 :: u19 :: u20 :: u21 :: u22 :: u23 :: u24 :: u25 :: u26 :: u27 :: u28 :: u29 :: u30 :: u31 :: u32 :: u33 :: u34 :: u35 :: u36 :: u37 :: u38 :: u39 :: u40 :: u41 :: u42 :: u43 :: u44 :: u45 :: u46 :: u47 :: u48 :: u49 :: u50 :: u51 :: u52 :: u53 :: u54 :: u55 :: u56 :: u57 :: u58 :: u59 :: u60 :: u61 :: u62 :: u63 :: u64 :: u65 :: u66 :: u67 :: u68 :: u69 :: u70 :: u71 :: u72 :: u73 :: u74 :: u75 :: u76 :: u77 :: u78 :: u79 :: u80 :: u81 :: u82 :: u83 :: u84 :: u85 :: u86 :: u87 :: u88 :: u89 :: u90 :: u91 :: u92 :: u93 :: u94 :: u95 :: u96 :: u97 :: u98 :: u99 :: u100 :: u101 :: u102 :: u103 :: u104 :: u105 :: u106 :: u107 :: u108 :: u109 :: u110 :: u111 :: u112 :: u113 :: u114 :: u115 :: u116 :: u117 :: u118 :: u119 :: u120 :: u121 :: u122 :: u123 :: u124 :: u125 :: u126 :: u127 :: u128 :: u129 :: u130 :: u131 :: u132 :: u133 :: u134 :: u135 :: u136 :: u137 :: u138 :: u139 :: u140 :: u141 :: u142 :: u143 :: u144 :: u145 :: u146 :: u147 :: u148 :: u149 :: u150 :: u151 :: u152 :: u153 :: u154 :: u155 :: u156 :: u157 :: u158 :: u159 :: u160 :: u161 :: u162 :: u163 :: u164 :: u165 :: u166 :: u167 :: u168 :: u169 :: u170 :: u171 :: u172 :: u173 :: u174 :: u175 :: u176 :: u177 :: u178 :: u179 :: u180 :: u181 :: u182 :: u183 :: u184 :: u185 :: u186 :: u187 :: u188 :: u189 :: u190 :: u191 :: u192 :: u193 :: u194 :: u195 :: u196 :: u197 :: u198 :: u199 :: u200 :: u201 :: u202 :: u203 :: u204 :: u205 :: u206 :: u207 :: u208 :: u209 :: u210 :: u211 :: u212 :: u213 :: u214 :: u215 :: u216 :: u217 :: u218 :: u219 :: u220 :: u221 :: u222 :: u223 :: u224 :: u225 :: u226 :: u227 :: u228 :: u229 :: u230 :: u231 :: u232 :: u233 :: u234 :: u235 :: u236 :: u237 :: u238 :: u239 :: u240 :: u241 :: u242 :: u243 :: u244 :: u245 :: u246 :: u247 :: u248 :: u249 :: u250 :: u251 :: u252 :: u253 :: u254 :: u255 :: u256 :: u257 :: u258 :: u259 :: u260 :: u261 :: u262 :: u263 :: u264 :: u265 :: u266 :: u267 :: u268 :: u269 :: u270 :: u271 :: u272 :: u273 :: u274 :: u275 :: u276 :: u277 :: u278 :: u279 :: u280 :: u281 :: u282 :: u283 :: u284 :: u285 :: u286 :: u287 :: u288 :: u289 :: u290 :: u291 :: u292 :: u293 :: u294 :: u295 :: u296 :: u297 :: u298 :: u299 :: u300 :: u301 :: u302 :: u303 :: u304 :: u305 :: u306 :: u307 :: u308 :: u309 :: u310 :: u311 :: u312 :: u313 :: u314 :: u315 :: u316 :: u317 :: u318 :: u319 :: u320 :: u321 :: u322 :: u323 :: u324 :: u325 :: u326 :: u327 :: u328 :: u329 :: u330 :: u331 :: u332 :: u333 :: u334 :: u335 :: u336 :: u337 :: u338 :: u339 :: u340 :: u341 :: u342 :: u343 :: u344 :: u345 :: u346 :: u347 :: u348 :: u349 :: u350 :: u351 :: u352 :: u353 :: u354 :: u355 :: u356 :: u357 :: u358 :: u359 :: u360 :: u361 :: u362 :: u363 :: u364 :: u365 :: u366 :: u367 :: u368 :: u369 :: u370 :: u371 :: u372 :: u373 :: u374 :: u375 :: u376 :: u377 :: u378 :: u379 :: u380 :: u381 :: u382 :: u383 :: u384 :: u385 :: u386 :: u387 :: u388 :: u389 :: u390 :: u391 :: u392 :: u393 :: u394 :: u395 :: u396 :: u397 :: u398 :: u399 :: u400 :: u401 :: u402 :: u403 :: u404 :: u405 :: u406 :: u407 :: u408 :: u409 :: u410 :: u411 :: u412 :: u413 :: u414 :: u415 :: u416 :: u417 :: u418 :: u419 :: u420 :: u421 :: u422 :: u423 :: u424 :: u425 :: u426 :: u427 :: u428 :: u429 :: u430 :: u431 :: u432 :: u433 :: u434 :: u435 :: u436 :: u437 :: u438 :: u439 :: u440 :: u441 :: u442 :: u443 :: u444 :: u445 :: u446 :: u447 :: u448 :: u449 :: u450 :: u451 :: u452 :: u453 :: u454 :: u455 :: u456 :: u457 :: u458 :: u459 :: u460 :: u461 :: u462 :: u463 :: u464 :: u465 :: u466 :: u467 :: u468 :: u469 :: u470 :: u471 :: u472 :: u473 :: u474 :: u475 :: u476 :: u477 :: u478 :: u479 :: u480 :: u481 :: []), defers := [] }) : ∀ a : Act, a = frameU (fun k => a.tmps.getD k undef) → P a := by
 intro a ha
 rw [ha]
 exact h _ _ _ _ _ _ _ _ _ _ _ _ _ _ _ _ _ _ _ _ _ _ _ _ _ _ _ _ _ _ _ _ _ _ _ _ _ _ _ _ _ _ _ _ _ _ _ _ _ _ _ _ _ _ _ _ _ _ _ _ _ _ _ _ _ _ _ _ _ _ _ _ _ _ _ _ _ _ _ _ _ _ _ _ _ _ _ _ _ _ _ _ _ _ _ _ _ _ _ _ _ _ _ _ _ _ _ _ _ _ _ _ _ _ _ _ _ _ _ _ _ _ _ _ _ _ _ _ _ _ _ _ _ _ _ _ _ _ _ _ _ _ _ _ _ _ _ _ _ _ _ _ _ _ _ _ _ _ _ _ _ _ _ _ _ _ _ _ _ _ _ _ _ _ _ _ _ _ _ _ _ _ _ _ _ _ _ _ _ _ _ _ _ _ _ _ _ _ _ _ _ _ _ _ _ _ _ _ _ _ _ _ _ _ _ _ _ _ _ _ _ _ _ _ _ _ _ _ _ _ _ _ _ _ _ _ _ _ _ _ _ _ _ _ _ _ _ _ _ _ _ _ _ _ _ _ _ _ _ _ _ _ _ _ _ _ _ _ _ _ _ _ _ _ _ _ _ _ _ _ _ _ _ _ _ _ _ _ _ _ _ _ _ _ _ _ _ _ _ _ _ _ _ _ _ _ _ _ _ _ _ _ _ _ _ _ _ _ _ _ _ _ _ _ _ _ _ _ _ _ _ _ _ _ _ _ _ _ _ _ _ _ _ _ _ _ _ _ _ _ _ _ _ _ _ _ _ _ _ _ _ _ _ _ _ _ _ _ _ _ _ _ _ _ _ _ _ _ _ _ _ _ _ _ _ _ _ _ _ _ _ _ _ _ _ _ _ _ _ _ _ _ _ _ _ _ _ _ _ _ _ _ _ _ _ _ _ _ _ _ _ _ _ _ _ _ _ _ _ _ _ _ _ _ _ _ _ _ _ _ _ _ _ _ _ _ _ _ _ _ _ _ _ _ _ _ _ _ _ _ _ _ _ _ _ _ _ _ _ _ _ _ _ _ _ _ _ _ _ _ _ _
end Go.Proofs.Ytlleokhmgblfnaa.M
end
