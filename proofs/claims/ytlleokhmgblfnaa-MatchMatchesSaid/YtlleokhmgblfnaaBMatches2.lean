/- A part of the proof: texts of this seat joined (printed and by hand), without what is not used. -/
import Derived.Test.YtlleokhmgblfnaaBMatches1
set_option linter.unusedVariables false
set_option linter.unusedSimpArgs false
set_option linter.unusedSectionVars false
section
namespace Go.Proofs.Ytlleokhmgblfnaa.M
open Go.RowKit Go.Proofs.YtlleokhmgblfnaaW.PrintWords Go.Proofs.YtlleokhmgblfnaaW.PrintLast Go.Proofs.YtlleokhmgblfnaaW.PrintMore
attribute [local go_sem] max2_int min2_int max_two min_two max_three min_three max_four min_four   -- for this text's walks alone
mutual
def torusref30_Find.l0 : Nat → Int → List Int → List Bool → List (S40) → Int → Int → Int → Int → List (S40) → Option (Bool × List Int × List Bool)
  | 0, _, _, _, _, _, _, _, _, _ => none
  | k + 1, x1, x2, x3, x13, x14, x15, x330000, x330001, x330002 => if x15 < x14 then (if 0 ≤ x15 then (if x15 < (x13.length : Int) then (if ((rd_T40 x13 x15).f0) = x1 then (if 0 ≤ ((rd_T40 x13 x15).f1) then (if ((rd_T40 x13 x15).f1) < (x3.length : Int) then (torusref30_Find.j1 k x1 x2 x3 ((rd_T40 x13 x15).f1) x13 x14 x15 (rdOf false x3 ((rd_T40 x13 x15).f1)) x330000 x330001 x330002) else (none)) else (none)) else (torusref30_Find.j1 k x1 x2 x3 ((rd_T40 x13 x15).f1) x13 x14 x15 true x330000 x330001 x330002)) else (none)) else (none)) else (some (false, x2, x3))
def torusref30_Find.j1 : Nat → Int → List Int → List Bool → Int → List (S40) → Int → Int → Bool → Int → Int → List (S40) → Option (Bool × List Int × List Bool)
  | 0, _, _, _, _, _, _, _, _, _, _, _ => none
  | k + 1, x1, x2, x3, x11, x13, x14, x15, x30, x330000, x330001, x330002 => if x30 = true then (torusref30_Find.l0 k x1 x2 x3 x13 x14 (wrap64 (x15 + 1)) x330000 x330001 x330002) else (if 0 ≤ x11 then (if x11 < (x3.length : Int) then ((some (x3.set (x11 : Int).toNat true : List Bool)).bind fun y333 => (if x11 < (x2.length : Int) then (if (rd x2 x11) < 0 then (some (true, (x2.set (x11 : Int).toNat x1), y333)) else ((torusref30_Find.f k x330000 x330001 x330002 (rd x2 x11) x2 y333).bind fun bt337 => (if bt337.1 = true then (some (true, (bt337.2.1.set (x11 : Int).toNat x1), bt337.2.2)) else (torusref30_Find.l0 k x1 bt337.2.1 bt337.2.2 x13 x14 (wrap64 (x15 + 1)) x330000 x330001 x330002)))) else (none))) else (none)) else (none))
def torusref30_Find.f : Nat → Int → Int → List (S40) → Int → List Int → List Bool → Option (Bool × List Int × List Bool)
  | 0, _, _, _, _, _, _ => none
  | k + 1, a0_0, a0_1, l0_2, a1, l2, l3 => torusref30_Find.l0 k a1 l2 l3 l0_2 (l0_2.length : Int) 0 a0_0 a0_1 l0_2
end
theorem torusref30_Find.mono_l : ∀ k, (∀ y0 y1 y2 y3 y4 y5, LeO (torusref30_Find.f k y0 y1 y2 y3 y4 y5) (torusref30_Find.f (k + 1) y0 y1 y2 y3 y4 y5)) ∧ (∀ y0 y1 y2 y3 y4 y5 y6 y7 y8, LeO (torusref30_Find.l0 k y0 y1 y2 y3 y4 y5 y6 y7 y8) (torusref30_Find.l0 (k + 1) y0 y1 y2 y3 y4 y5 y6 y7 y8)) ∧ (∀ y0 y1 y2 y3 y4 y5 y6 y7 y8 y9 y10, LeO (torusref30_Find.j1 k y0 y1 y2 y3 y4 y5 y6 y7 y8 y9 y10) (torusref30_Find.j1 (k + 1) y0 y1 y2 y3 y4 y5 y6 y7 y8 y9 y10))
  | 0 => ⟨fun _ _ _ _ _ _ r h => by simp [torusref30_Find.f] at h, fun _ _ _ _ _ _ _ _ _ r h => by simp [torusref30_Find.l0] at h, fun _ _ _ _ _ _ _ _ _ _ _ r h => by simp [torusref30_Find.j1] at h⟩
  | k + 1 => by
    obtain ⟨ih0, ih1, ih2⟩ := torusref30_Find.mono_l k
    refine ⟨?_, ?_, ?_⟩
    · intro y0 y1 y2 y3 y4 y5
      unfold torusref30_Find.f
      repeat' first
      | (with_reducible exact ih0 _ _ _ _ _ _)
      | (with_reducible exact ih1 _ _ _ _ _ _ _ _ _)
      | (with_reducible exact ih2 _ _ _ _ _ _ _ _ _ _ _)
      | (with_reducible exact LeO.refl _)
      | (with_reducible exact LeO.none _)
      | (with_reducible refine LeO.ite ?_ ?_)
      | (with_reducible refine LeO.bind ?_ (fun _ => ?_))
      | exact ih0 _ _ _ _ _ _
      | exact ih1 _ _ _ _ _ _ _ _ _
      | exact ih2 _ _ _ _ _ _ _ _ _ _ _
      | exact LeO.none _
      | refine LeO.ite ?_ ?_
      | refine LeO.bind ?_ (fun _ => ?_)
    · intro y0 y1 y2 y3 y4 y5 y6 y7 y8
      unfold torusref30_Find.l0
      repeat' first
      | (with_reducible exact ih0 _ _ _ _ _ _)
      | (with_reducible exact ih1 _ _ _ _ _ _ _ _ _)
      | (with_reducible exact ih2 _ _ _ _ _ _ _ _ _ _ _)
      | (with_reducible exact LeO.refl _)
      | (with_reducible exact LeO.none _)
      | (with_reducible refine LeO.ite ?_ ?_)
      | (with_reducible refine LeO.bind ?_ (fun _ => ?_))
      | exact ih0 _ _ _ _ _ _
      | exact ih1 _ _ _ _ _ _ _ _ _
      | exact ih2 _ _ _ _ _ _ _ _ _ _ _
      | exact LeO.none _
      | refine LeO.ite ?_ ?_
      | refine LeO.bind ?_ (fun _ => ?_)
    · intro y0 y1 y2 y3 y4 y5 y6 y7 y8 y9 y10
      unfold torusref30_Find.j1
      repeat' first
      | (with_reducible exact ih0 _ _ _ _ _ _)
      | (with_reducible exact ih1 _ _ _ _ _ _ _ _ _)
      | (with_reducible exact ih2 _ _ _ _ _ _ _ _ _ _ _)
      | (with_reducible exact LeO.refl _)
      | (with_reducible exact LeO.none _)
      | (with_reducible refine LeO.ite ?_ ?_)
      | (with_reducible refine LeO.bind ?_ (fun _ => ?_))
      | exact ih0 _ _ _ _ _ _
      | exact ih1 _ _ _ _ _ _ _ _ _
      | exact ih2 _ _ _ _ _ _ _ _ _ _ _
      | exact LeO.none _
      | refine LeO.ite ?_ ?_
      | refine LeO.bind ?_ (fun _ => ?_)
theorem torusref30_Find.mono : ∀ a0 a1 a2 a3 a4 a5 k, LeO (torusref30_Find.f k a0 a1 a2 a3 a4 a5) (torusref30_Find.f (k + 1) a0 a1 a2 a3 a4 a5) := by
  intro a0 a1 a2 a3 a4 a5 k
  obtain ⟨ih0, ih1, ih2⟩ := torusref30_Find.mono_l k
  exact ih0 a0 a1 a2 a3 a4 a5
def torusref30_Find.T7 : Bool × List (List Nat × List Nat) := (true, [([], []), ([], []), ([0, 1], [0, 1]), ([2], [2]), ([3], [3]), ([4], [4]), ([5], [5]), ([5], [5]), ([5], [5]), ([7, 8, 5], [5, 7, 8]), ([9, 5], [5, 9]), ([5], [5]), ([5], [5]), ([6, 10, 11, 12, 5, 5], [5, 6, 10, 11, 12]), ([5, 13], [5, 13])])
def torusref30_Find.B7 : List Nat := [0, 0, 3, 7, 15, 31, 63, 63, 63, 447, 959, 63, 63, 8191, 16383]
theorem torusref30_Find.tab7 : rtab .any (opsOf Try.f51 7) = torusref30_Find.T7 := by kernel_rfl
theorem torusref30_Find.bits7 : waitsOk torusref30_Find.T7.2 torusref30_Find.B7 = true := by kernel_rfl
set_option maxHeartbeats 8000000 in
set_option maxRecDepth 100000 in
theorem torusref30_Find.calls (k : Nat) : ∀ (a0_0 : Int) (a0_1 : Int) (A0_2 : Option Addr) (c0_2 : Nat) (l0_2 : List (S40)) (a1 : Int) (P2_ : Nat → Prop) (u9000_ : Value) (l2 : List Int) (P3_ : Nat → Prop) (u9001_ : Value) (l3 : List Bool) (r1 : Bool) (r2 : List Int) (r3 : List Bool) (w0 w : World) (hB : Below w0.heap.size w0 w) (hr0_2 : ∀ W_, Kept w W_ (fun k_ => P2_ k_ ∨ P3_ k_) → Kd.C k40 W_ A0_2 l0_2.length l0_2) (hc0_2 : l0_2.length ≤ c0_2) (ho2 : Kd.R (Kd.int .i64) 3 w w0.heap.size P2_ u9000_ l2) (ho3 : Kd.R Kd.bool 4 w w0.heap.size P3_ u9001_ l3) (h : torusref30_Find.f k a0_0 a0_1 l0_2 a1 l2 l3 = some (r1, r2, r3)),
    Calls Try.prog 51 #[.agg #[.int .i64 a0_0, .int .i64 a0_1, .slice A0_2 l0_2.length c0_2], .int .i64 a1, u9000_, u9001_] w fun e w' => e = .returned (.bool r1) ∧ Kd.R (Kd.int .i64) 3 w' w0.heap.size (fun k_ => ((P2_ k_ ∨ P3_ k_) ∨ w.heap.size ≤ k_)) u9000_ r2 ∧ Kd.R Kd.bool 4 w' w0.heap.size (fun k_ => ((P2_ k_ ∨ P3_ k_) ∨ w.heap.size ≤ k_)) u9001_ r3 ∧ Below w0.heap.size w0 w' ∧ Kept w w' (fun k_ => P2_ k_ ∨ P3_ k_) := by
  induction k using Nat.strongRecOn with
  | _ k ih =>
  intro a0_0 a0_1 A0_2 c0_2 l0_2 a1 P2_ u9000_ l2 P3_ u9001_ l3 r1 r2 r3 w0 w hB hr0_2 hc0_2 ho2 ho3 h
  cases k with
  | zero => exact absurd h (by simp [torusref30_Find.f])
  | succ k =>
  simp only [torusref30_Find.f] at h
  have hu27 := Try.underlying27
  have hu40 := Try.underlying40
  have HR0_2 := Aside0.mk hr0_2
  have HC0_2 := Aside0.mk hc0_2
  clear hr0_2 hc0_2
  have HO2 := Aside0.mk (show Kd.R (Kd.int .i64) 3 w w0.heap.size (fun k_ => ((P2_ k_ ∨ P3_ k_) ∨ w.heap.size ≤ k_)) u9000_ l2 from Kd.R_mono ho2 (fun k_ hk => (.inl (.inl hk))))
  have HO3 := Aside0.mk (show Kd.R Kd.bool 4 w w0.heap.size (fun k_ => ((P2_ k_ ∨ P3_ k_) ∨ w.heap.size ≤ k_)) u9001_ l3 from Kd.R_mono ho3 (fun k_ hk => (.inl (.inr hk))))
  have HK := Aside0.mk (Kept.refl w (fun k_ => P2_ k_ ∨ P3_ k_))
  have HW0 := Aside0.mk hB.size
  have HB := Aside0.mk hB
  clear hB
  have H : (torusref30_Find.l0 k a1 l2 l3 l0_2 (l0_2.length : Int) 0 a0_0 a0_1 l0_2) = some (r1, r2, r3) := h
  clear h
  have H' := Aside0.mk H
  clear H
  go_enter Try.func51, Try.ntmps51
  go_wp2_with (first | ((with_reducible refine gate_dst (N := 4) rfl ?_); refine box_event ?hg (N := 4) ?hd (cs := #[.int .i64 a0_0, .int .i64 a0_1, .slice A0_2 l0_2.length c0_2]) (t := 27) ?hr ?_; (case hd => rfl); (case hg => rfl); (case hr => first | (go_simp; done) | (go_simp; rfl)); intro gb329 hg w5 hbox hb; have n0_ := Aside0.mk (Kd.R_below (by (with_reducible repeat (first | apply Kd.R_alloc | apply Kd.R_drewN | apply Kd.R_drew)); exact HO2.out) hb); have n1_ := Aside0.mk (Kd.R_below (by (with_reducible repeat (first | apply Kd.R_alloc | apply Kd.R_drewN | apply Kd.R_drew)); exact HO3.out) hb); have n2_ := Aside0.mk (Kept.below (S := (fun k_ => P2_ k_ ∨ P3_ k_)) (by repeat (first | (with_reducible first | exact HK.out | apply Kept.alloc | apply Kept.drewN | apply Kept.drew) | exact HK.out)) hb); have n3_ := Aside0.mk (below_step (by repeat (first | (with_reducible first | exact HB.out | apply below_alloc | apply pw_below_drewN | apply below_drew1) | exact HB.out)) hb); have n4_ := Aside0.mk (hbox); have n5_ := Aside0.mk ((by rw [hg]; exact (by first | exact HK.out.1 | exact (show Kept w _ (fun k_ => P2_ k_ ∨ P3_ k_) from by repeat (first | (with_reducible first | exact HK.out | apply Kept.alloc | apply Kept.drewN | apply Kept.drew) | exact HK.out)).1) : w.heap.size ≤ gb329)); have n6_ := Aside0.mk ((by rw [hg]; exact (below_size (by repeat (first | (with_reducible first | exact HB.out | apply below_alloc | apply pw_below_drewN | apply below_drew1) | exact HB.out))) : w0.heap.size ≤ gb329)); clear HO2; clear HO3; clear HK; clear HB; have HO2 := n0_; have HO3 := n1_; have HK := n2_; have HB := n3_; have BK329 := n4_; have GW329 := n5_; have GE329 := n6_; clear n0_ n1_ n2_ n3_ n4_ n5_ n6_; clear hb hbox hg; have hcz6_0 : w5.cell? ⟨gb329, 0, none⟩ = some (.int .i64 a0_0) := (blk_cell BK329.out 0).trans rfl; have hcz6_1 : w5.cell? ⟨gb329, 1, none⟩ = some (.int .i64 a0_1) := (blk_cell BK329.out 1).trans rfl; have hcz6_2 : w5.cell? ⟨gb329, 2, none⟩ = some (.slice A0_2 l0_2.length c0_2) := (blk_cell BK329.out 2).trans rfl; have hfz6_0 := blk_frozen BK329.out 0; have hfz6_1 := blk_frozen BK329.out 1; have hfz6_2 := blk_frozen BK329.out 2))
  go_loopg [15] k (fun kq v15 w' => ∃ (x2_1 : List Int) (x3_1 : List Bool) (x15_1 : Int), v15 = .int .i64 x15_1 ∧ Aside0 (torusref30_Find.l0 kq a1 x2_1 x3_1 l0_2 (l0_2.length : Int) x15_1 a0_0 a0_1 l0_2 = some (r1, r2, r3)) ∧ Aside0 (kq ≤ k) ∧ Aside0 (Kd.R (Kd.int .i64) 3 w' w0.heap.size (fun k_ => ((P2_ k_ ∨ P3_ k_) ∨ w.heap.size ≤ k_)) u9000_ x2_1) ∧ Aside0 (Kd.R Kd.bool 4 w' w0.heap.size (fun k_ => ((P2_ k_ ∨ P3_ k_) ∨ w.heap.size ≤ k_)) u9001_ x3_1) ∧ Aside0 (w'.heap[gb329]? = some (.cells #[.int .i64 a0_0, .int .i64 a0_1, (.slice A0_2 l0_2.length c0_2)] 27 (0, 0))) ∧ Aside0 (Kept w w' (fun k_ => P2_ k_ ∨ P3_ k_)) ∧ Aside0 (Below w0.heap.size w0 w'))
  case atStart => exact ⟨(l2), (l3), (0), (by first | rfl | (simp; done) | (simp [*]; done)), H', ⟨Nat.le_refl _⟩, ⟨by (with_reducible repeat (first | apply Kd.R_alloc | apply Kd.R_drewN | apply Kd.R_drew)); exact HO2.out⟩, ⟨by (with_reducible repeat (first | apply Kd.R_alloc | apply Kd.R_drewN | apply Kd.R_drew)); exact HO3.out⟩, ⟨by (with_reducible repeat (first | refine blk_drewN ?_ _ | refine blk_drew ?_ | refine blk_alloc ?_ _)); exact BK329.out⟩, ⟨by repeat (first | (with_reducible first | exact HK.out | apply Kept.alloc | apply Kept.drewN | apply Kept.drew | refine Kept.setCell ?_ (.inr GW329.out) _) | exact HK.out)⟩, ⟨by repeat (first | (with_reducible first | exact HB.out | apply below_alloc | apply pw_below_drewN | apply below_drew1 | refine below_set ?_ GE329.out) | exact HB.out)⟩⟩
  case round =>
    clear H'
    try clear p2
    try clear c5
    try clear hcz6_0
    try clear hcz6_1
    try clear hcz6_2
    try clear hfz6_0
    try clear hfz6_1
    try clear hfz6_2
    obtain ⟨x2_1, x3_1, x15_1, rfl, HA, HK1, HO_2, HO_3, BK329, HK, HB⟩ := hrel
    cases gk with
    | zero => exact absurd HA.out (by simp [torusref30_Find.l0])
    | succ k1 =>
      have H := HA.out
      clear HA
      simp only [torusref30_Find.l0] at H
      by_cases c7 : x15_1 < (l0_2.length : Int)
      · rw [if_pos c7] at H
        have c7b0 : decide (x15_1 < (l0_2.length : Int)) = true := decide_eq_true c7
        clear c7
        by_cases c8 : 0 ≤ x15_1
        · rw [if_pos c8] at H
          have c8b0 : decide (0 ≤ x15_1) = true := decide_eq_true c8
          clear c8
          by_cases c9 : x15_1 < (l0_2.length : Int)
          · rw [if_pos c9] at H
            have c9b0 : decide (x15_1 < (l0_2.length : Int)) = true := decide_eq_true c9
            clear c9
            have HC10 := Aside0.mk H
            clear H
            have p330 : 0 ≤ (x15_1 : Int) := of_decide_eq_true (by first | (with_reducible assumption) | assumption)
            have q330 : x15_1 < (l0_2.length : Int) := of_decide_eq_true (by first | (with_reducible assumption) | assumption)
            obtain ⟨ad330, e330, hx330_0, hx330_1⟩ := at_T40 (Kd.C_kept_now HR0_2.out HK.out) x15_1 p330 q330
            cases e330
            replace p330 := eq_true p330
            replace q330 := eq_true q330
            go_upto_region 5 with (first | ((with_reducible refine gate_dst (N := 10) rfl ?_); refine box_event ?hg (N := 10) ?hd (cs := #[.int .i64 0, .int .i64 0]) (t := 40) ?hr ?_; (case hd => rfl); (case hg => rfl); (case hr => first | (go_simp; done) | (go_simp; rfl)); intro gb331 hg w11 hbox hb; have n0_ := Aside0.mk (Kd.R_below (by (with_reducible repeat (first | apply Kd.R_alloc | apply Kd.R_drewN | apply Kd.R_drew)); exact HO_2.out) hb); have n1_ := Aside0.mk (Kd.R_below (by (with_reducible repeat (first | apply Kd.R_alloc | apply Kd.R_drewN | apply Kd.R_drew)); exact HO_3.out) hb); have n2_ := Aside0.mk (blk_below (g := gb329) (o := .cells #[.int .i64 a0_0, .int .i64 a0_1, .slice (some ad330) l0_2.length c0_2] 27 (0, 0)) (by (with_reducible repeat (first | refine blk_drewN ?_ _ | refine blk_drew ?_ | refine blk_alloc ?_ _)); exact BK329.out) hb); have n3_ := Aside0.mk (Kept.below (S := (fun k_ => P2_ k_ ∨ P3_ k_)) (by repeat (first | (with_reducible first | exact HK.out | apply Kept.alloc | apply Kept.drewN | apply Kept.drew | refine Kept.setCell ?_ (.inr GW329.out) _) | exact HK.out)) hb); have n4_ := Aside0.mk (below_step (by repeat (first | (with_reducible first | exact HB.out | apply below_alloc | apply pw_below_drewN | apply below_drew1 | refine below_set ?_ GE329.out) | exact HB.out)) hb); have n5_ := Aside0.mk (hbox); have n6_ := Aside0.mk ((by rw [hg]; exact (by first | exact HK.out.1 | exact (show Kept w _ (fun k_ => P2_ k_ ∨ P3_ k_) from by repeat (first | (with_reducible first | exact HK.out | apply Kept.alloc | apply Kept.drewN | apply Kept.drew | refine Kept.setCell ?_ (.inr GW329.out) _) | exact HK.out)).1) : w.heap.size ≤ gb331)); have n7_ := Aside0.mk ((by rw [hg]; exact (below_size (by repeat (first | (with_reducible first | exact HB.out | apply below_alloc | apply pw_below_drewN | apply below_drew1 | refine below_set ?_ GE329.out) | exact HB.out))) : w0.heap.size ≤ gb331)); have n8_ := Aside0.mk ((by rw [hg]; exact Nat.ne_of_lt (blk_lt (g := gb329) (o := .cells #[.int .i64 a0_0, .int .i64 a0_1, .slice (some ad330) l0_2.length c0_2] 27 (0, 0)) (by (with_reducible repeat (first | refine blk_drewN ?_ _ | refine blk_drew ?_ | refine blk_alloc ?_ _)); exact BK329.out)) : gb329 ≠ gb331)); have n9_ := Aside0.mk ((by rw [hg]; exact Nat.ne_of_gt (blk_lt (g := gb329) (o := .cells #[.int .i64 a0_0, .int .i64 a0_1, .slice (some ad330) l0_2.length c0_2] 27 (0, 0)) (by (with_reducible repeat (first | refine blk_drewN ?_ _ | refine blk_drew ?_ | refine blk_alloc ?_ _)); exact BK329.out)) : gb331 ≠ gb329)); clear HO_2; clear HO_3; clear BK329; clear HK; clear HB; have HO_2 := n0_; have HO_3 := n1_; have BK329 := n2_; have HK := n3_; have HB := n4_; have BK331 := n5_; have GW331 := n6_; have GE331 := n7_; have NB329_331 := n8_; have NB331_329 := n9_; clear n0_ n1_ n2_ n3_ n4_ n5_ n6_ n7_ n8_ n9_; clear hb hbox hg; have hnb12 := NB331_329.out; have hnc12 := NB329_331.out; have hcz13_0 : w11.cell? ⟨gb331, 0, none⟩ = some (.int .i64 0) := (blk_cell BK331.out 0).trans rfl; have hcz13_1 : w11.cell? ⟨gb331, 1, none⟩ = some (.int .i64 0) := (blk_cell BK331.out 1).trans rfl; have hfz13_0 := blk_frozen BK331.out 0; have hfz13_1 := blk_frozen BK331.out 1))
            (try simp only [Act.put, List.setIfInBounds_toArray, List.set_cons_zero, List.set_cons_succ])
            go_cut [30] (fun v30 wc => ∃ (kq : Nat) (x30_9 : Bool), v30 = .bool x30_9 ∧ Aside0 (torusref30_Find.j1 kq a1 x2_1 x3_1 ((rd_T40 l0_2 x15_1).f1) l0_2 (l0_2.length : Int) x15_1 x30_9 a0_0 a0_1 l0_2 = some (r1, r2, r3)) ∧ Aside0 (kq ≤ k1) ∧ Aside0 (Kd.R (Kd.int .i64) 3 wc w0.heap.size (fun k_ => ((P2_ k_ ∨ P3_ k_) ∨ w.heap.size ≤ k_)) u9000_ x2_1) ∧ Aside0 (Kd.R Kd.bool 4 wc w0.heap.size (fun k_ => ((P2_ k_ ∨ P3_ k_) ∨ w.heap.size ≤ k_)) u9001_ x3_1) ∧ Aside0 (wc.heap[gb329]? = some (.cells #[.int .i64 a0_0, .int .i64 a0_1, (.slice (some ad330) l0_2.length c0_2)] 27 (0, 0))) ∧ Aside0 (wc.heap[gb331]? = some (.cells #[.int .i64 ((rd_T40 l0_2 x15_1).f0), .int .i64 ((rd_T40 l0_2 x15_1).f1)] 40 (0, 0))) ∧ Aside0 (Kept w wc (fun k_ => P2_ k_ ∨ P3_ k_)) ∧ Aside0 (Below w0.heap.size w0 wc))
            case first =>
              have H := HC10.out
              clear HC10
              by_cases c14 : ((rd_T40 l0_2 x15_1).f0) = a1
              · rw [if_pos c14] at H
                have c14b0 : (((rd_T40 l0_2 x15_1).f0) == a1) = true := beq_iff_eq.mpr c14
                have c14b1 : (((rd_T40 l0_2 x15_1).f0) != a1) = false := bne_eq_false_iff_eq.mpr c14
                clear c14
                (first | rw [c14b0] | (simp only [i64_w, i32_w]; rw [c14b0]) | skip)
                by_cases c15 : 0 ≤ ((rd_T40 l0_2 x15_1).f1)
                · rw [if_pos c15] at H
                  have c15b0 : decide (0 ≤ ((rd_T40 l0_2 x15_1).f1)) = true := decide_eq_true c15
                  clear c15
                  by_cases c16 : ((rd_T40 l0_2 x15_1).f1) < (x3_1.length : Int)
                  · rw [if_pos c16] at H
                    have c16b0 : decide (((rd_T40 l0_2 x15_1).f1) < (x3_1.length : Int)) = true := decide_eq_true c16
                    clear c16
                    have H' := Aside0.mk H
                    clear H
                    have hnb17 := NB331_329.out
                    have hnc17 := NB329_331.out
                    have hcz18_0 : w11.cell? ⟨gb331, 0, none⟩ = some (.int .i64 0) := (blk_cell BK331.out 0).trans rfl
                    have hcz18_1 : w11.cell? ⟨gb331, 1, none⟩ = some (.int .i64 0) := (blk_cell BK331.out 1).trans rfl
                    have hfz18_0 := blk_frozen BK331.out 0
                    have hfz18_1 := blk_frozen BK331.out 1
                    obtain ⟨Ao19, co19, eo19⟩ := Kd.R_slice HO_3.out
                    subst eo19
                    have p332 : 0 ≤ (((rd_T40 l0_2 x15_1).f1) : Int) := of_decide_eq_true (by first | (with_reducible assumption) | assumption)
                    have q332 : ((rd_T40 l0_2 x15_1).f1) < (x3_1.length : Int) := of_decide_eq_true (by first | (with_reducible assumption) | assumption)
                    obtain ⟨ad332, e332, hx332_0⟩ := Kd.at_bool (Kd.R_reads' HO_3.out).2.2 ((rd_T40 l0_2 x15_1).f1) p332 q332
                    cases e332
                    have hn332_0 : ad332.block ≠ gb331 := Kd.own_blk (Kd.R_ne HO_3.out BK331.out (by decide))
                    have hn332_1 : ad332.block ≠ gb331 := Kd.own_blk (Kd.R_ne HO_3.out BK331.out (by decide))
                    replace hx332_0 := (cell_far (p := ⟨gb331, 0, none⟩) (by first | (rw [add_block]; exact hn332_0) | (show (Addr.add _ _).block ≠ _; rw [add_block]; exact hn332_0) | exact hn332_0) (.int .i64 ((rd_T40 l0_2 x15_1).f0))).trans hx332_0
                    replace hx332_0 := (cell_far (p := ⟨gb331, 1, none⟩) (by first | (rw [add_block]; exact hn332_1) | (show (Addr.add _ _).block ≠ _; rw [add_block]; exact hn332_1) | exact hn332_1) (.int .i64 ((rd_T40 l0_2 x15_1).f1))).trans hx332_0
                    clear hn332_0
                    clear hn332_1
                    replace p332 := eq_true p332
                    replace q332 := eq_true q332
                    go_wp2
                    go_meet
                    case rel => exact ⟨_, (rdOf false x3_1 ((rd_T40 l0_2 x15_1).f1)), (by first | rfl | (simp; done) | (simp [*]; done)), H', ⟨by have := HK1.out; first | omega | exact Nat.le_refl _⟩, ⟨by (with_reducible repeat (first | apply Kd.R_alloc | apply Kd.R_drewN | apply Kd.R_drew)); exact Kd.R_mono (Kd.R_far (p := ⟨gb331, 1, none⟩) (Kd.R_far (p := ⟨gb331, 0, none⟩) (Kd.R_types HO_2.out BK331.out (by decide)) (fun _ hk => hk.2) (.int .i64 ((rd_T40 l0_2 x15_1).f0))) (fun _ hk => hk.2) (.int .i64 ((rd_T40 l0_2 x15_1).f1))) (fun _ hk => hk.1)⟩, ⟨by (with_reducible repeat (first | apply Kd.R_alloc | apply Kd.R_drewN | apply Kd.R_drew)); exact Kd.R_mono (Kd.R_far (p := ⟨gb331, 1, none⟩) (Kd.R_far (p := ⟨gb331, 0, none⟩) (Kd.R_types HO_3.out BK331.out (by decide)) (fun _ hk => hk.2) (.int .i64 ((rd_T40 l0_2 x15_1).f0))) (fun _ hk => hk.2) (.int .i64 ((rd_T40 l0_2 x15_1).f1))) (fun _ hk => hk.1)⟩, ⟨by (with_reducible repeat (first | refine blk_drewN ?_ _ | refine blk_drew ?_ | refine blk_alloc ?_ _)); refine blk_far ?_ NB329_331.out _; (with_reducible repeat (first | refine blk_drewN ?_ _ | refine blk_drew ?_ | refine blk_alloc ?_ _)); refine blk_far ?_ NB329_331.out _; (with_reducible repeat (first | refine blk_drewN ?_ _ | refine blk_drew ?_ | refine blk_alloc ?_ _)); exact BK329.out⟩, ⟨by (with_reducible repeat (first | refine blk_drewN ?_ _ | refine blk_drew ?_ | refine blk_alloc ?_ _)); refine blk_put (cs := #[.int .i64 ((rd_T40 l0_2 x15_1).f0), .int .i64 0]) ?_ 1 _ rfl; (with_reducible repeat (first | refine blk_drewN ?_ _ | refine blk_drew ?_ | refine blk_alloc ?_ _)); refine blk_put (cs := #[.int .i64 0, .int .i64 0]) ?_ 0 _ rfl; (with_reducible repeat (first | refine blk_drewN ?_ _ | refine blk_drew ?_ | refine blk_alloc ?_ _)); exact BK331.out⟩, ⟨by repeat (first | (with_reducible first | exact HK.out | apply Kept.alloc | apply Kept.drewN | apply Kept.drew | refine Kept.setCell ?_ (.inr GW329.out) _ | refine Kept.setCell ?_ (.inr GW331.out) _) | exact HK.out)⟩, ⟨by repeat (first | (with_reducible first | exact HB.out | apply below_alloc | apply pw_below_drewN | apply below_drew1 | refine below_set ?_ GE329.out | refine below_set ?_ GE331.out) | exact HB.out)⟩⟩
                  · rw [if_neg c16] at H
                    exact absurd H (by simp)
                · rw [if_neg c15] at H
                  exact absurd H (by simp)
              · rw [if_neg c14] at H
                have c14b0 : (((rd_T40 l0_2 x15_1).f0) == a1) = false := beq_eq_false_iff_ne.mpr c14
                have c14b1 : (((rd_T40 l0_2 x15_1).f0) != a1) = true := bne_iff_ne.mpr c14
                (first | rw [c14b0] | (simp only [i64_w, i32_w]; rw [c14b0]) | skip)
                have H' := Aside0.mk H
                clear H
                have hnb20 := NB331_329.out
                have hnc20 := NB329_331.out
                have hcz21_0 : w11.cell? ⟨gb331, 0, none⟩ = some (.int .i64 0) := (blk_cell BK331.out 0).trans rfl
                have hcz21_1 : w11.cell? ⟨gb331, 1, none⟩ = some (.int .i64 0) := (blk_cell BK331.out 1).trans rfl
                have hfz21_0 := blk_frozen BK331.out 0
                have hfz21_1 := blk_frozen BK331.out 1
                go_wp2
                go_meet
                case rel => exact ⟨_, (true), (by first | rfl | (simp; done) | (simp [*]; done)), H', ⟨by have := HK1.out; first | omega | exact Nat.le_refl _⟩, ⟨by (with_reducible repeat (first | apply Kd.R_alloc | apply Kd.R_drewN | apply Kd.R_drew)); exact Kd.R_mono (Kd.R_far (p := ⟨gb331, 1, none⟩) (Kd.R_far (p := ⟨gb331, 0, none⟩) (Kd.R_types HO_2.out BK331.out (by decide)) (fun _ hk => hk.2) (.int .i64 ((rd_T40 l0_2 x15_1).f0))) (fun _ hk => hk.2) (.int .i64 ((rd_T40 l0_2 x15_1).f1))) (fun _ hk => hk.1)⟩, ⟨by (with_reducible repeat (first | apply Kd.R_alloc | apply Kd.R_drewN | apply Kd.R_drew)); exact Kd.R_mono (Kd.R_far (p := ⟨gb331, 1, none⟩) (Kd.R_far (p := ⟨gb331, 0, none⟩) (Kd.R_types HO_3.out BK331.out (by decide)) (fun _ hk => hk.2) (.int .i64 ((rd_T40 l0_2 x15_1).f0))) (fun _ hk => hk.2) (.int .i64 ((rd_T40 l0_2 x15_1).f1))) (fun _ hk => hk.1)⟩, ⟨by (with_reducible repeat (first | refine blk_drewN ?_ _ | refine blk_drew ?_ | refine blk_alloc ?_ _)); refine blk_far ?_ NB329_331.out _; (with_reducible repeat (first | refine blk_drewN ?_ _ | refine blk_drew ?_ | refine blk_alloc ?_ _)); refine blk_far ?_ NB329_331.out _; (with_reducible repeat (first | refine blk_drewN ?_ _ | refine blk_drew ?_ | refine blk_alloc ?_ _)); exact BK329.out⟩, ⟨by (with_reducible repeat (first | refine blk_drewN ?_ _ | refine blk_drew ?_ | refine blk_alloc ?_ _)); refine blk_put (cs := #[.int .i64 ((rd_T40 l0_2 x15_1).f0), .int .i64 0]) ?_ 1 _ rfl; (with_reducible repeat (first | refine blk_drewN ?_ _ | refine blk_drew ?_ | refine blk_alloc ?_ _)); refine blk_put (cs := #[.int .i64 0, .int .i64 0]) ?_ 0 _ rfl; (with_reducible repeat (first | refine blk_drewN ?_ _ | refine blk_drew ?_ | refine blk_alloc ?_ _)); exact BK331.out⟩, ⟨by repeat (first | (with_reducible first | exact HK.out | apply Kept.alloc | apply Kept.drewN | apply Kept.drew | refine Kept.setCell ?_ (.inr GW329.out) _ | refine Kept.setCell ?_ (.inr GW331.out) _) | exact HK.out)⟩, ⟨by repeat (first | (with_reducible first | exact HB.out | apply below_alloc | apply pw_below_drewN | apply below_drew1 | refine below_set ?_ GE329.out | refine below_set ?_ GE331.out) | exact HB.out)⟩⟩
            case rest =>
              clear HC10
              try clear c1
              try clear c2
              try clear p2
              try clear p3
              try clear q3
              try clear hx3
              try clear c5
              try clear c7
              try clear c7b0
              try clear c8
              try clear c8b0
              try clear c9
              try clear c9b0
              try clear c12
              try clear c14
              try clear c14b0
              try clear c14b1
              try clear c15
              try clear c15b0
              try clear c16
              try clear c16b0
              try clear c17
              try clear c20
              try clear hcz13_0
              try clear hcz13_1
              try clear hcz18_0
              try clear hcz18_1
              try clear hcz21_0
              try clear hcz21_1
              try clear hcz6_0
              try clear hcz6_1
              try clear hcz6_2
              try clear hfz13_0
              try clear hfz13_1
              try clear hfz18_0
              try clear hfz18_1
              try clear hfz21_0
              try clear hfz21_1
              try clear hfz6_0
              try clear hfz6_1
              try clear hfz6_2
              try clear hx330_0
              try clear hx330_1
              try clear hx332_0
              try clear p2
              try clear p330
              try clear p332
              try clear q330
              try clear q332
              obtain ⟨kq, x30_9, rfl, HA, HJ9, HO_2, HO_3, BK329, BK331, HK, HB⟩ := hcut
              cases kq with
              | zero => exact absurd HA.out (by simp [torusref30_Find.j1])
              | succ kj9 =>
                have H := HA.out
                clear HA
                simp only [torusref30_Find.j1] at H
                by_cases c22 : x30_9 = true
                · subst c22
                  have H1 : (torusref30_Find.l0 kj9 a1 x2_1 x3_1 l0_2 (l0_2.length : Int) (wrap64 (x15_1 + 1)) a0_0 a0_1 l0_2) = some (r1, r2, r3) := by rw [if_pos rfl] at H; exact H
                  clear H
                  have H := H1
                  clear H1
                  have H' := Aside0.mk H
                  clear H
                  go_wp2
                  go_roundg kj9
                  case measure => have := HK1.out; have := HJ9.out; omega
                  case rel => exact ⟨(x2_1), (x3_1), (wrap64 (x15_1 + 1)), (by first | rfl | (simp; done) | (simp [*]; done)), H', ⟨by have := HK1.out; have := HJ9.out; omega⟩, ⟨by (with_reducible repeat (first | apply Kd.R_alloc | apply Kd.R_drewN | apply Kd.R_drew)); exact HO_2.out⟩, ⟨by (with_reducible repeat (first | apply Kd.R_alloc | apply Kd.R_drewN | apply Kd.R_drew)); exact HO_3.out⟩, ⟨by (with_reducible repeat (first | refine blk_drewN ?_ _ | refine blk_drew ?_ | refine blk_alloc ?_ _)); exact BK329.out⟩, ⟨by repeat (first | (with_reducible first | exact HK.out | apply Kept.alloc | apply Kept.drewN | apply Kept.drew | refine Kept.setCell ?_ (.inr GW329.out) _ | refine Kept.setCell ?_ (.inr GW331.out) _) | exact HK.out)⟩, ⟨by repeat (first | (with_reducible first | exact HB.out | apply below_alloc | apply pw_below_drewN | apply below_drew1 | refine below_set ?_ GE329.out | refine below_set ?_ GE331.out) | exact HB.out)⟩⟩
                · replace c22 := Bool.eq_false_iff.mpr c22
                  subst c22
                  have H1 : (if 0 ≤ ((rd_T40 l0_2 x15_1).f1) then (if ((rd_T40 l0_2 x15_1).f1) < (x3_1.length : Int) then ((some (x3_1.set (((rd_T40 l0_2 x15_1).f1) : Int).toNat true : List Bool)).bind fun y333 => (if ((rd_T40 l0_2 x15_1).f1) < (x2_1.length : Int) then (if (rd x2_1 ((rd_T40 l0_2 x15_1).f1)) < 0 then (some (true, (x2_1.set (((rd_T40 l0_2 x15_1).f1) : Int).toNat a1), y333)) else ((torusref30_Find.f kj9 a0_0 a0_1 l0_2 (rd x2_1 ((rd_T40 l0_2 x15_1).f1)) x2_1 y333).bind fun bt337 => (if bt337.1 = true then (some (true, (bt337.2.1.set (((rd_T40 l0_2 x15_1).f1) : Int).toNat a1), bt337.2.2)) else (torusref30_Find.l0 kj9 a1 bt337.2.1 bt337.2.2 l0_2 (l0_2.length : Int) (wrap64 (x15_1 + 1)) a0_0 a0_1 l0_2)))) else (none))) else (none)) else (none)) = some (r1, r2, r3) := by rw [if_neg (show ¬ (false = true) by decide)] at H; exact H
                  clear H
                  have H := H1
                  clear H1
                  by_cases c23 : 0 ≤ ((rd_T40 l0_2 x15_1).f1)
                  · rw [if_pos c23] at H
                    have c23b0 : decide (0 ≤ ((rd_T40 l0_2 x15_1).f1)) = true := decide_eq_true c23
                    clear c23
                    by_cases c24 : ((rd_T40 l0_2 x15_1).f1) < (x3_1.length : Int)
                    · rw [if_pos c24] at H
                      have c24b0 : decide (((rd_T40 l0_2 x15_1).f1) < (x3_1.length : Int)) = true := decide_eq_true c24
                      clear c24
                      obtain ⟨y333, hy333⟩ : ∃ y_ : List Bool, y_ = (x3_1.set (((rd_T40 l0_2 x15_1).f1) : Int).toNat true) := ⟨_, rfl⟩
                      replace H : (if ((rd_T40 l0_2 x15_1).f1) < (x2_1.length : Int) then (if (rd x2_1 ((rd_T40 l0_2 x15_1).f1)) < 0 then (some (true, (x2_1.set (((rd_T40 l0_2 x15_1).f1) : Int).toNat a1), y333)) else ((torusref30_Find.f kj9 a0_0 a0_1 l0_2 (rd x2_1 ((rd_T40 l0_2 x15_1).f1)) x2_1 y333).bind fun bt337 => (if bt337.1 = true then (some (true, (bt337.2.1.set (((rd_T40 l0_2 x15_1).f1) : Int).toNat a1), bt337.2.2)) else (torusref30_Find.l0 kj9 a1 bt337.2.1 bt337.2.2 l0_2 (l0_2.length : Int) (wrap64 (x15_1 + 1)) a0_0 a0_1 l0_2)))) else (none)) = some (r1, r2, r3) := by first | (rw [hy333]; with_reducible exact H) | (have H2_ := (Option.bind_some _ _).symm.trans H; rw [hy333]; with_reducible exact H2_) | (have H2_ := (Option.bind_some _ _).symm.trans H; with_reducible exact H2_) | with_reducible exact H | (rw [hy333]; exact H) | exact H
                      have Ny333 := Aside0.mk hy333
                      clear hy333
                      by_cases c26 : ((rd_T40 l0_2 x15_1).f1) < (x2_1.length : Int)
                      · rw [if_pos c26] at H
                        have c26b0 : decide (((rd_T40 l0_2 x15_1).f1) < (x2_1.length : Int)) = true := decide_eq_true c26
                        clear c26
                        by_cases c27 : (rd x2_1 ((rd_T40 l0_2 x15_1).f1)) < 0
                        · rw [if_pos c27] at H
                          have c27b0 : decide ((rd x2_1 ((rd_T40 l0_2 x15_1).f1)) < 0) = true := decide_eq_true c27
                          clear c27
                          obtain ⟨y335, hy335⟩ : ∃ y_ : List Int, y_ = (x2_1.set (((rd_T40 l0_2 x15_1).f1) : Int).toNat a1) := ⟨_, rfl⟩
                          replace H : (some (true, y335, y333)) = some (r1, r2, r3) := by first | (rw [hy335]; with_reducible exact H) | (have H2_ := (Option.bind_some _ _).symm.trans H; rw [hy335]; with_reducible exact H2_) | (have H2_ := (Option.bind_some _ _).symm.trans H; with_reducible exact H2_) | with_reducible exact H | (rw [hy335]; exact H) | exact H
                          have Ny335 := Aside0.mk hy335
                          clear hy335
                          simp only [Option.some.injEq, Prod.mk.injEq] at H
                          obtain ⟨rfl, rfl, rfl⟩ := H
                          have p25 : 0 ≤ (((rd_T40 l0_2 x15_1).f1) : Int) := of_decide_eq_true (by first | (with_reducible assumption) | assumption)
                          have q25 : (((rd_T40 l0_2 x15_1).f1) : Int) < ((x3_1.length : Int) : Int) := of_decide_eq_true (by first | (with_reducible assumption) | assumption)
                          obtain ⟨go25, co25, eo25, gb25, gl25, cl25, HG25⟩ := Kd.R_form HO_3.out (by first | omega | (have e_ := (Kd.R_reads' HO_3.out).1; omega))
                          (first | cases eo25 | (injection eo25 with ea_ en_ ec_; (first | subst ea_ | (injection ea_ with ea_; subst ea_)); subst ec_; clear en_))
                          have GB25 := Aside0.mk gb25
                          have GG25 := Aside0.mk HG25
                          clear gb25 gl25 HG25
                          have HMgo25 := Aside0.mk (show ((P2_ go25 ∨ P3_ go25) ∨ w.heap.size ≤ go25) from (HO_3.out.1 _ rfl))
                          obtain ⟨hx25_0, hf25_0⟩ := Kd.R_celln false HO_3.out (((rd_T40 l0_2 x15_1).f1) : Int) p25 q25
                          replace p25 := eq_true p25
                          replace q25 := eq_true q25
                          have HP29 := Kd.R_putg HO_3.out (((rd_T40 l0_2 x15_1).f1) : Int) true
                          try go_wp2_with (first | ((with_reducible refine gate_store (t := 4) (p := 33) rfl ?_); refine store_event (t := 4) (p := 33) (v := ?vo_w30) (w1 := (wc.setCell ⟨go25, (((rd_T40 l0_2 x15_1).f1) : Int).toNat, none⟩ (.bool true))) ?hg ?ho ?hn ?hr ?_; (case ho => rfl); (case hg => rfl); (case hn => rfl); (case hr => first | (go_simp; done) | (go_simp; rfl)); intro w30 hw; have hg : wc.grownBy w30 (some go25) := (by rw [hw]; exact HP29.2); have hp_ : Kd.R Kd.bool 4 w30 w0.heap.size (fun k_ => ((P2_ k_ ∨ P3_ k_) ∨ w.heap.size ≤ k_)) (.slice (some ⟨go25, 0, none⟩) x3_1.length co25) y333 := (by rw [hw, Ny333.out]; exact HP29.1); clear HP29; have n0_ := Aside0.mk (Kd.R_over' (v := (.slice (some ⟨go25, 0, none⟩) x3_1.length co25)) (by (with_reducible repeat (first | apply Kd.R_alloc | apply Kd.R_drewN | apply Kd.R_drew)); exact HO_2.out) (Kd.R_typed HO_3.out) (by decide) hg); have n1_ := Aside0.mk (hp_); have n2_ := Aside0.mk (blk_grown (g := gb329) (o := .cells #[.int .i64 a0_0, .int .i64 a0_1, .slice (some ad330) l0_2.length c0_2] 27 (0, 0)) (by (with_reducible repeat (first | refine blk_drewN ?_ _ | refine blk_drew ?_ | refine blk_alloc ?_ _)); exact BK329.out) hg (Kd.R_ne HO_3.out BK329.out (by decide))); have n3_ := Aside0.mk (blk_grown (g := gb331) (o := .cells #[.int .i64 ((rd_T40 l0_2 x15_1).f0), .int .i64 ((rd_T40 l0_2 x15_1).f1)] 40 (0, 0)) (by (with_reducible repeat (first | refine blk_drewN ?_ _ | refine blk_drew ?_ | refine blk_alloc ?_ _)); exact BK331.out) hg (Kd.R_ne HO_3.out BK331.out (by decide))); have n4_ := Aside0.mk ((by rw [hw]; exact below_set (HB.out) GB25.out : Below w0.heap.size w0 w30)); have n5_ := Aside0.mk (Kept.of_grown (S := (fun k_ => P2_ k_ ∨ P3_ k_)) hg (by repeat (first | (with_reducible first | exact HK.out | apply Kept.alloc | apply Kept.drewN | apply Kept.drew | refine Kept.setCell ?_ (.inr GW329.out) _ | refine Kept.setCell ?_ (.inr GW331.out) _) | exact HK.out)) (fun k_ e_ => (HO_3.out.1 k_ e_))); clear HO_2; clear HO_3; clear BK329; clear BK331; clear HB; clear HK; have HO_2 := n0_; have HO_3 := n1_; have BK329 := n2_; have BK331 := n3_; have HB := n4_; have HK := n5_; clear n0_ n1_ n2_ n3_ n4_ n5_; clear hg hw hp_))
                          have n0_ := Aside0.mk (Kd.R_drew HO_2.out)
                          have n1_ := Aside0.mk (Kd.R_drew HO_3.out)
                          have n2_ := Aside0.mk (blk_drew BK329.out)
                          have n3_ := Aside0.mk (blk_drew BK331.out)
                          have n4_ := Aside0.mk (Kept.drew HK.out)
                          have n5_ := Aside0.mk (below_drew1 HB.out)
                          clear HO_2
                          clear HO_3
                          clear BK329
                          clear BK331
                          clear HK
                          clear HB
                          have HO_2 := n0_
                          have HO_3 := n1_
                          have BK329 := n2_
                          have BK331 := n3_
                          have HK := n4_
                          have HB := n5_
                          clear n0_ n1_ n2_ n3_ n4_ n5_
                          obtain ⟨Ao32, co32, eo32⟩ := Kd.R_slice HO_2.out
                          (first | subst eo32 | (injection eo32 with f1_ f2_ f3_; have f4_ := f1_.symm; have f5_ := f3_.symm; clear f1_ f2_ f3_; subst f4_; subst f5_))
                          have p334 : 0 ≤ (((rd_T40 l0_2 x15_1).f1) : Int) := of_decide_eq_true (by first | (with_reducible assumption) | assumption)
                          have q334 : ((rd_T40 l0_2 x15_1).f1) < (x2_1.length : Int) := of_decide_eq_true (by first | (with_reducible assumption) | assumption)
                          obtain ⟨ad334, e334, hx334_0⟩ := Kd.at_int (Kd.R_reads' HO_2.out).2.2 ((rd_T40 l0_2 x15_1).f1) p334 q334
                          cases e334
                          replace p334 := eq_true p334
                          replace q334 := eq_true q334
                          refine start_ (n := 15) (S := fun w' => w'.cell? (ad334.add (((rd_T40 l0_2 x15_1).f1)).toNat) = some (.int .i64 (rd x2_1 ((rd_T40 l0_2 x15_1).f1)))) (ds := []) #[false, false, false, false, false, false, false, false, false, false, false, false, false, false, false] (by kernel_rfl) rfl rfl (hx334_0) (fun hHeld => ?_); refine with_tabW torusref30_Find.tab7 torusref30_Find.bits7 (fun HT_ HW_ => ?_)
                          generalize w30.drew = w31 at HO_2 HO_3 BK329 BK331 HK HB hx334_0 hHeld ⊢
                          refine pure_ (i := 0) (N := some 34) (v := ?_) (a' := ?_) #[true, false, false, false, false, false, false, false, false, false, false, false, false, false, false] rfl rfl (any_of HT_.out (by kernel_rfl)) (fun _ _ _ h => h) (Or.inl ⟨by rfl, ?_⟩) ?_ ?_
                          rotate_left
                          · intro w'
                            go_simp
                            with_reducible rfl
                          rotate_left
                          · simp only [Act.put, List.setIfInBounds_toArray, List.set_cons_zero, List.set_cons_succ, i64_w, i32_w]
                            rfl
                          refine pure_ (i := 1) (N := some 35) (v := ?_) (a' := ?_) #[true, true, false, false, false, false, false, false, false, false, false, false, false, false, false] rfl rfl (any_of HT_.out (by kernel_rfl)) (fun _ _ _ h => h) (Or.inl ⟨by rfl, ?_⟩) ?_ ?_
                          rotate_left
                          · intro w'
                            go_simp
                            with_reducible rfl
                          rotate_left
                          · simp only [Act.put, List.setIfInBounds_toArray, List.set_cons_zero, List.set_cons_succ, i64_w, i32_w]
                            rfl
                          refine pure_ (i := 2) (N := some 36) (v := ?_) (a' := ?_) #[true, true, true, false, false, false, false, false, false, false, false, false, false, false, false] rfl rfl (any_of HT_.out (by kernel_rfl)) (fun _ _ _ h => h) (Or.inl ⟨by rfl, ?_⟩) ?_ ?_
                          rotate_left
                          · intro w'
                            go_simp
                            with_reducible rfl
                          rotate_left
                          · simp only [Act.put, List.setIfInBounds_toArray, List.set_cons_zero, List.set_cons_succ, i64_w, i32_w]
                            rfl
                          refine take_ (i := 3) (N := some 37) (v := ?_) (a' := ?_) #[true, true, true, true, false, false, false, false, false, false, false, false, false, false, false] rfl rfl (take_ofW HT_.out HW_.out (by kernel_rfl)) (fun _ _ _ h => h) (Or.inl ⟨by rfl, ?_⟩) hHeld ?_ ?_
                          rotate_left
                          · intro w' s0
                            go_simp
                            with_reducible rfl
                          rotate_left
                          · simp only [Act.put, List.setIfInBounds_toArray, List.set_cons_zero, List.set_cons_succ, i64_w, i32_w]
                            rfl
                          refine pure_ (i := 4) (N := some 38) (v := ?_) (a' := ?_) #[true, true, true, true, true, false, false, false, false, false, false, false, false, false, false] rfl rfl (any_of HT_.out (by kernel_rfl)) (fun _ _ _ h => h) (Or.inl ⟨by rfl, ?_⟩) ?_ ?_
                          rotate_left
                          · intro w'
                            go_simp
                            with_reducible rfl
                          rotate_left
                          · simp only [Act.put, List.setIfInBounds_toArray, List.set_cons_zero, List.set_cons_succ, i64_w, i32_w]
                            rfl
                          refine pure_ (i := 5) (N := some 39) (v := ?_) (a' := ?_) #[true, true, true, true, true, true, false, false, false, false, false, false, false, false, false] rfl rfl (any_of HT_.out (by kernel_rfl)) (fun _ _ _ h => h) (Or.inl ⟨by rfl, ?_⟩) ?_ ?_
                          rotate_left
                          · intro w'
                            go_simp
                            with_reducible rfl
                          rotate_left
                          · simp only [Act.put, List.setIfInBounds_toArray, List.set_cons_zero, List.set_cons_succ, i64_w, i32_w]
                            rfl
                          refine pure_ (i := 6) (N := some 40) (v := undef) (a' := ?_) #[true, true, true, true, true, true, true, false, false, false, false, false, false, false, false] rfl rfl (any_of HT_.out (by kernel_rfl)) (fun _ _ _ h => h) (Or.inr ⟨by rfl, rfl⟩) ?_ ?_
                          rotate_left
                          · simp only [Act.put, List.setIfInBounds_toArray, List.set_cons_zero, List.set_cons_succ, i64_w, i32_w]
                            rfl
                          refine pure_ (i := 7) (N := some 41) (v := undef) (a' := ?_) #[true, true, true, true, true, true, true, true, false, false, false, false, false, false, false] rfl rfl (any_of HT_.out (by kernel_rfl)) (fun _ _ _ h => h) (Or.inr ⟨by rfl, rfl⟩) ?_ ?_
                          rotate_left
                          · simp only [Act.put, List.setIfInBounds_toArray, List.set_cons_zero, List.set_cons_succ, i64_w, i32_w]
                            rfl
                          refine pure_ (i := 8) (N := some 42) (v := undef) (a' := ?_) #[true, true, true, true, true, true, true, true, true, false, false, false, false, false, false] rfl rfl (any_of HT_.out (by kernel_rfl)) (fun _ _ _ h => h) (Or.inr ⟨by rfl, rfl⟩) ?_ ?_
                          rotate_left
                          · simp only [Act.put, List.setIfInBounds_toArray, List.set_cons_zero, List.set_cons_succ, i64_w, i32_w]
                            rfl
                          refine pure_ (i := 9) (N := some 43) (v := undef) (a' := ?_) #[true, true, true, true, true, true, true, true, true, true, false, false, false, false, false] rfl rfl (any_of HT_.out (by kernel_rfl)) (fun _ _ _ h => h) (Or.inr ⟨by rfl, rfl⟩) ?_ ?_
                          rotate_left
                          · simp only [Act.put, List.setIfInBounds_toArray, List.set_cons_zero, List.set_cons_succ, i64_w, i32_w]
                            rfl
                          refine pure_ (i := 10) (N := some 44) (v := undef) (a' := ?_) #[true, true, true, true, true, true, true, true, true, true, true, false, false, false, false] rfl rfl (any_of HT_.out (by kernel_rfl)) (fun _ _ _ h => h) (Or.inr ⟨by rfl, rfl⟩) ?_ ?_
                          rotate_left
                          · simp only [Act.put, List.setIfInBounds_toArray, List.set_cons_zero, List.set_cons_succ, i64_w, i32_w]
                            rfl
                          refine pure_ (i := 11) (N := some 45) (v := undef) (a' := ?_) #[true, true, true, true, true, true, true, true, true, true, true, true, false, false, false] rfl rfl (any_of HT_.out (by kernel_rfl)) (fun _ _ _ h => h) (Or.inr ⟨by rfl, rfl⟩) ?_ ?_
                          rotate_left
                          · simp only [Act.put, List.setIfInBounds_toArray, List.set_cons_zero, List.set_cons_succ, i64_w, i32_w]
                            rfl
                          refine pure_ (i := 12) (N := some 46) (v := undef) (a' := ?_) #[true, true, true, true, true, true, true, true, true, true, true, true, true, false, false] rfl rfl (any_of HT_.out (by kernel_rfl)) (fun _ _ _ h => h) (Or.inr ⟨by rfl, rfl⟩) ?_ ?_
                          rotate_left
                          · simp only [Act.put, List.setIfInBounds_toArray, List.set_cons_zero, List.set_cons_succ, i64_w, i32_w]
                            rfl
                          refine pure_ (i := 13) (N := some 47) (v := undef) (a' := ?_) #[true, true, true, true, true, true, true, true, true, true, true, true, true, true, false] rfl rfl (any_of HT_.out (by kernel_rfl)) (fun _ _ _ h => h) (Or.inr ⟨by rfl, rfl⟩) ?_ ?_
                          rotate_left
                          · simp only [Act.put, List.setIfInBounds_toArray, List.set_cons_zero, List.set_cons_succ, i64_w, i32_w]
                            rfl
                          refine pure_ (i := 14) (N := some 48) (v := ?_) (a' := ?_) #[true, true, true, true, true, true, true, true, true, true, true, true, true, true, true] rfl rfl (any_of HT_.out (by kernel_rfl)) (fun _ _ _ h => h) (Or.inl ⟨by rfl, ?_⟩) ?_ ?_
                          rotate_left
                          · intro w'
                            go_simp
                            with_reducible rfl
                          rotate_left
                          · simp only [Act.put, List.setIfInBounds_toArray, List.set_cons_zero, List.set_cons_succ, i64_w, i32_w]
                            rfl
                          refine done_ (done_of HT_.out (by kernel_rfl)) ?_
                          have p28 : 0 ≤ (((rd_T40 l0_2 x15_1).f1) : Int) := of_decide_eq_true (by first | (with_reducible assumption) | assumption)
                          have q28 : (((rd_T40 l0_2 x15_1).f1) : Int) < ((x2_1.length : Int) : Int) := of_decide_eq_true (by first | (with_reducible assumption) | assumption)
                          obtain ⟨go28, co28, eo28, gb28, gl28, cl28, HG28⟩ := Kd.R_form HO_2.out (by first | omega | (have e_ := (Kd.R_reads' HO_2.out).1; omega))
                          (first | cases eo28 | (injection eo28 with ea_ en_ ec_; (first | subst ea_ | (injection ea_ with ea_; subst ea_)); subst ec_; clear en_))
                          have GB28 := Aside0.mk gb28
                          have GG28 := Aside0.mk HG28
                          clear gb28 gl28 HG28
                          have HMgo28 := Aside0.mk (show ((P2_ go28 ∨ P3_ go28) ∨ w.heap.size ≤ go28) from (HO_2.out.1 _ rfl))
                          (first | simp only [add_plain] at hx334_0 | skip)
                          obtain ⟨hx28_0, hf28_0⟩ := Kd.R_celln 0 HO_2.out (((rd_T40 l0_2 x15_1).f1) : Int) p28 q28
                          replace p28 := eq_true p28
                          replace q28 := eq_true q28
                          obtain ⟨hy33_, hz33_⟩ := Kd.R_celln 0 HO_2.out (((rd_T40 l0_2 x15_1).f1) : Int) (of_decide_eq_true (by first | (with_reducible assumption) | assumption)) (of_decide_eq_true (by first | (with_reducible assumption) | assumption))
                          have HP33 := Kd.R_putg HO_2.out (((rd_T40 l0_2 x15_1).f1) : Int) a1
                          try go_wp2_with (first | ((with_reducible refine gate_store (t := 3) (p := 52) rfl ?_); refine store_event (t := 3) (p := 52) (v := ?vo_w34) (w1 := (w31.setCell ⟨go28, (((rd_T40 l0_2 x15_1).f1) : Int).toNat, none⟩ (.int .i64 a1))) ?hg ?ho ?hn ?hr ?_; (case ho => rfl); (case hg => rfl); (case hn => rfl); (case hr => first | (go_simp; done) | (go_simp; rfl)); intro w34 hw; have hg : w31.grownBy w34 (some go28) := (by rw [hw]; exact HP33.2); have hp_ : Kd.R (Kd.int .i64) 3 w34 w0.heap.size (fun k_ => ((P2_ k_ ∨ P3_ k_) ∨ w.heap.size ≤ k_)) (.slice (some ⟨go28, 0, none⟩) x2_1.length co32) y335 := (by rw [hw, Ny335.out]; exact HP33.1); clear HP33; have n0_ := Aside0.mk (hp_); have n1_ := Aside0.mk (Kd.R_over' (v := (.slice (some ⟨go28, 0, none⟩) x2_1.length co32)) (by (with_reducible repeat (first | apply Kd.R_alloc | apply Kd.R_drewN | apply Kd.R_drew)); exact HO_3.out) (Kd.R_typed HO_2.out) (by decide) hg); have n2_ := Aside0.mk (blk_grown (g := gb329) (o := .cells #[.int .i64 a0_0, .int .i64 a0_1, .slice (some ad330) l0_2.length c0_2] 27 (0, 0)) (by (with_reducible repeat (first | refine blk_drewN ?_ _ | refine blk_drew ?_ | refine blk_alloc ?_ _)); exact BK329.out) hg (Kd.R_ne HO_2.out BK329.out (by decide))); have n3_ := Aside0.mk (blk_grown (g := gb331) (o := .cells #[.int .i64 ((rd_T40 l0_2 x15_1).f0), .int .i64 ((rd_T40 l0_2 x15_1).f1)] 40 (0, 0)) (by (with_reducible repeat (first | refine blk_drewN ?_ _ | refine blk_drew ?_ | refine blk_alloc ?_ _)); exact BK331.out) hg (Kd.R_ne HO_2.out BK331.out (by decide))); have n4_ := Aside0.mk ((by rw [hw]; exact below_set (HB.out) GB28.out : Below w0.heap.size w0 w34)); have n5_ := Aside0.mk (Kept.of_grown (S := (fun k_ => P2_ k_ ∨ P3_ k_)) hg (by repeat (first | (with_reducible first | exact HK.out | apply Kept.alloc | apply Kept.drewN | apply Kept.drew | refine Kept.setCell ?_ (.inr GW329.out) _ | refine Kept.setCell ?_ (.inr GW331.out) _) | exact HK.out)) (fun k_ e_ => (HO_2.out.1 k_ e_))); clear HO_2; clear HO_3; clear BK329; clear BK331; clear HB; clear HK; have HO_2 := n0_; have HO_3 := n1_; have BK329 := n2_; have BK331 := n3_; have HB := n4_; have HK := n5_; clear n0_ n1_ n2_ n3_ n4_ n5_; clear hg hw hp_))
                          go_ret
                          exact ⟨by first | rfl | (simp [errW_none, errW_some] <;> rfl) | (simp [*, errW_none, errW_some] <;> rfl), by (with_reducible repeat (first | apply Kd.R_alloc | apply Kd.R_drewN | apply Kd.R_drew)); exact HO_2.out, by (with_reducible repeat (first | apply Kd.R_alloc | apply Kd.R_drewN | apply Kd.R_drew)); exact HO_3.out, by repeat (first | (with_reducible first | exact HB.out | apply below_alloc | apply pw_below_drewN | apply below_drew1 | refine below_set ?_ GE329.out | refine below_set ?_ GE331.out) | exact HB.out), by repeat (first | (with_reducible first | exact HK.out | apply Kept.alloc | apply Kept.drewN | apply Kept.drew | refine Kept.setCell ?_ (.inr GW329.out) _ | refine Kept.setCell ?_ (.inr GW331.out) _) | exact HK.out)⟩
                        · rw [if_neg c27] at H
                          have c27b0 : decide ((rd x2_1 ((rd_T40 l0_2 x15_1).f1)) < 0) = false := decide_eq_false c27
                          clear c27
                          replace H := Option.bind_eq_some_iff.mp H
                          obtain ⟨⟨t337, t338, t339⟩, A350, H⟩ := H
                          replace H : (if t337 = true then (some (true, (t338.set (((rd_T40 l0_2 x15_1).f1) : Int).toNat a1), t339)) else (torusref30_Find.l0 kj9 a1 t338 t339 l0_2 (l0_2.length : Int) (wrap64 (x15_1 + 1)) a0_0 a0_1 l0_2)) = some (r1, r2, r3) := H
                          have A35 := Aside0.mk A350
                          clear A350
                          by_cases c36 : t337 = true
                          · subst c36
                            have H1 : (some (true, (t338.set (((rd_T40 l0_2 x15_1).f1) : Int).toNat a1), t339)) = some (r1, r2, r3) := by rw [if_pos rfl] at H; exact H
                            clear H
                            have H := H1
                            clear H1
                            obtain ⟨y340, hy340⟩ : ∃ y_ : List Int, y_ = (t338.set (((rd_T40 l0_2 x15_1).f1) : Int).toNat a1) := ⟨_, rfl⟩
                            replace H : (some (true, y340, t339)) = some (r1, r2, r3) := by first | (rw [hy340]; with_reducible exact H) | (have H2_ := (Option.bind_some _ _).symm.trans H; rw [hy340]; with_reducible exact H2_) | (have H2_ := (Option.bind_some _ _).symm.trans H; with_reducible exact H2_) | with_reducible exact H | (rw [hy340]; exact H) | exact H
                            have Ny340 := Aside0.mk hy340
                            clear hy340
                            simp only [Option.some.injEq, Prod.mk.injEq] at H
                            obtain ⟨rfl, rfl, rfl⟩ := H
                            have p25 : 0 ≤ (((rd_T40 l0_2 x15_1).f1) : Int) := of_decide_eq_true (by first | (with_reducible assumption) | assumption)
                            have q25 : (((rd_T40 l0_2 x15_1).f1) : Int) < ((x3_1.length : Int) : Int) := of_decide_eq_true (by first | (with_reducible assumption) | assumption)
                            obtain ⟨go25, co25, eo25, gb25, gl25, cl25, HG25⟩ := Kd.R_form HO_3.out (by first | omega | (have e_ := (Kd.R_reads' HO_3.out).1; omega))
                            (first | cases eo25 | (injection eo25 with ea_ en_ ec_; (first | subst ea_ | (injection ea_ with ea_; subst ea_)); subst ec_; clear en_))
                            have GB25 := Aside0.mk gb25
                            have GG25 := Aside0.mk HG25
                            clear gb25 gl25 HG25
                            have HMgo25 := Aside0.mk (show ((P2_ go25 ∨ P3_ go25) ∨ w.heap.size ≤ go25) from (HO_3.out.1 _ rfl))
                            obtain ⟨hx25_0, hf25_0⟩ := Kd.R_celln false HO_3.out (((rd_T40 l0_2 x15_1).f1) : Int) p25 q25
                            replace p25 := eq_true p25
                            replace q25 := eq_true q25
                            have HP38 := Kd.R_putg HO_3.out (((rd_T40 l0_2 x15_1).f1) : Int) true
                            try go_wp2_with (first | ((with_reducible refine gate_store (t := 4) (p := 33) rfl ?_); refine store_event (t := 4) (p := 33) (v := ?vo_w39) (w1 := (wc.setCell ⟨go25, (((rd_T40 l0_2 x15_1).f1) : Int).toNat, none⟩ (.bool true))) ?hg ?ho ?hn ?hr ?_; (case ho => rfl); (case hg => rfl); (case hn => rfl); (case hr => first | (go_simp; done) | (go_simp; rfl)); intro w39 hw; have hg : wc.grownBy w39 (some go25) := (by rw [hw]; exact HP38.2); have hp_ : Kd.R Kd.bool 4 w39 w0.heap.size (fun k_ => ((P2_ k_ ∨ P3_ k_) ∨ w.heap.size ≤ k_)) (.slice (some ⟨go25, 0, none⟩) x3_1.length co25) y333 := (by rw [hw, Ny333.out]; exact HP38.1); clear HP38; have n0_ := Aside0.mk (Kd.R_over' (v := (.slice (some ⟨go25, 0, none⟩) x3_1.length co25)) (by (with_reducible repeat (first | apply Kd.R_alloc | apply Kd.R_drewN | apply Kd.R_drew)); exact HO_2.out) (Kd.R_typed HO_3.out) (by decide) hg); have n1_ := Aside0.mk (hp_); have n2_ := Aside0.mk (blk_grown (g := gb329) (o := .cells #[.int .i64 a0_0, .int .i64 a0_1, .slice (some ad330) l0_2.length c0_2] 27 (0, 0)) (by (with_reducible repeat (first | refine blk_drewN ?_ _ | refine blk_drew ?_ | refine blk_alloc ?_ _)); exact BK329.out) hg (Kd.R_ne HO_3.out BK329.out (by decide))); have n3_ := Aside0.mk (blk_grown (g := gb331) (o := .cells #[.int .i64 ((rd_T40 l0_2 x15_1).f0), .int .i64 ((rd_T40 l0_2 x15_1).f1)] 40 (0, 0)) (by (with_reducible repeat (first | refine blk_drewN ?_ _ | refine blk_drew ?_ | refine blk_alloc ?_ _)); exact BK331.out) hg (Kd.R_ne HO_3.out BK331.out (by decide))); have n4_ := Aside0.mk ((by rw [hw]; exact below_set (HB.out) GB25.out : Below w0.heap.size w0 w39)); have n5_ := Aside0.mk (Kept.of_grown (S := (fun k_ => P2_ k_ ∨ P3_ k_)) hg (by repeat (first | (with_reducible first | exact HK.out | apply Kept.alloc | apply Kept.drewN | apply Kept.drew | refine Kept.setCell ?_ (.inr GW329.out) _ | refine Kept.setCell ?_ (.inr GW331.out) _) | exact HK.out)) (fun k_ e_ => (HO_3.out.1 k_ e_))); clear HO_2; clear HO_3; clear BK329; clear BK331; clear HB; clear HK; have HO_2 := n0_; have HO_3 := n1_; have BK329 := n2_; have BK331 := n3_; have HB := n4_; have HK := n5_; clear n0_ n1_ n2_ n3_ n4_ n5_; clear hg hw hp_))
                            have n0_ := Aside0.mk (Kd.R_drew HO_2.out)
                            have n1_ := Aside0.mk (Kd.R_drew HO_3.out)
                            have n2_ := Aside0.mk (blk_drew BK329.out)
                            have n3_ := Aside0.mk (blk_drew BK331.out)
                            have n4_ := Aside0.mk (Kept.drew HK.out)
                            have n5_ := Aside0.mk (below_drew1 HB.out)
                            clear HO_2
                            clear HO_3
                            clear BK329
                            clear BK331
                            clear HK
                            clear HB
                            have HO_2 := n0_
                            have HO_3 := n1_
                            have BK329 := n2_
                            have BK331 := n3_
                            have HK := n4_
                            have HB := n5_
                            clear n0_ n1_ n2_ n3_ n4_ n5_
                            obtain ⟨Ao41, co41, eo41⟩ := Kd.R_slice HO_2.out
                            (first | subst eo41 | (injection eo41 with f1_ f2_ f3_; have f4_ := f1_.symm; have f5_ := f3_.symm; clear f1_ f2_ f3_; subst f4_; subst f5_))
                            have p334 : 0 ≤ (((rd_T40 l0_2 x15_1).f1) : Int) := of_decide_eq_true (by first | (with_reducible assumption) | assumption)
                            have q334 : ((rd_T40 l0_2 x15_1).f1) < (x2_1.length : Int) := of_decide_eq_true (by first | (with_reducible assumption) | assumption)
                            obtain ⟨ad334, e334, hx334_0⟩ := Kd.at_int (Kd.R_reads' HO_2.out).2.2 ((rd_T40 l0_2 x15_1).f1) p334 q334
                            cases e334
                            replace p334 := eq_true p334
                            replace q334 := eq_true q334
                            have p336 : 0 ≤ (((rd_T40 l0_2 x15_1).f1) : Int) := of_decide_eq_true (by first | (with_reducible assumption) | assumption)
                            have q336 : ((rd_T40 l0_2 x15_1).f1) < (x2_1.length : Int) := of_decide_eq_true (by first | (with_reducible assumption) | assumption)
                            obtain ⟨ad336, e336, hx336_0⟩ := Kd.at_int (Kd.R_reads' HO_2.out).2.2 ((rd_T40 l0_2 x15_1).f1) p336 q336
                            obtain rfl : ad334 = ad336 := (by injection e336)
                            replace p336 := eq_true p336
                            replace q336 := eq_true q336
                            refine start_ (n := 15) (S := fun w' => w'.cell? ⟨gb329, 0, none⟩ = some (.int .i64 a0_0) ∧ w'.cell? ⟨gb329, 1, none⟩ = some (.int .i64 a0_1) ∧ w'.cell? ⟨gb329, 2, none⟩ = some (.slice (some ad330) l0_2.length c0_2) ∧ w'.cell? (ad334.add (((rd_T40 l0_2 x15_1).f1)).toNat) = some (.int .i64 (rd x2_1 ((rd_T40 l0_2 x15_1).f1))) ∧ w'.cell? (ad334.add (((rd_T40 l0_2 x15_1).f1)).toNat) = some (.int .i64 (rd x2_1 ((rd_T40 l0_2 x15_1).f1)))) (ds := [13]) #[false, false, false, false, false, false, false, false, false, false, false, false, false, false, false] (by kernel_rfl) rfl rfl ⟨(blk_cell BK329.out 0).trans rfl, (blk_cell BK329.out 1).trans rfl, (blk_cell BK329.out 2).trans rfl, hx334_0, hx336_0⟩ (fun hHeld => ?_); refine with_tabW torusref30_Find.tab7 torusref30_Find.bits7 (fun HT_ HW_ => ?_)
                            generalize w39.drew = w40 at HO_2 HO_3 BK329 BK331 HK HB hx334_0 hx336_0 hHeld ⊢
                            refine pure_ (i := 0) (N := some 34) (v := ?_) (a' := ?_) #[true, false, false, false, false, false, false, false, false, false, false, false, false, false, false] rfl rfl (any_of HT_.out (by kernel_rfl)) (fun _ _ _ h => h) (Or.inl ⟨by rfl, ?_⟩) ?_ ?_
                            rotate_left
                            · intro w'
                              go_simp
                              with_reducible rfl
                            rotate_left
                            · simp only [Act.put, List.setIfInBounds_toArray, List.set_cons_zero, List.set_cons_succ, i64_w, i32_w]
                              rfl
                            refine pure_ (i := 1) (N := some 35) (v := ?_) (a' := ?_) #[true, true, false, false, false, false, false, false, false, false, false, false, false, false, false] rfl rfl (any_of HT_.out (by kernel_rfl)) (fun _ _ _ h => h) (Or.inl ⟨by rfl, ?_⟩) ?_ ?_
                            rotate_left
                            · intro w'
                              go_simp
                              with_reducible rfl
                            rotate_left
                            · simp only [Act.put, List.setIfInBounds_toArray, List.set_cons_zero, List.set_cons_succ, i64_w, i32_w]
                              rfl
                            refine pure_ (i := 2) (N := some 36) (v := ?_) (a' := ?_) #[true, true, true, false, false, false, false, false, false, false, false, false, false, false, false] rfl rfl (any_of HT_.out (by kernel_rfl)) (fun _ _ _ h => h) (Or.inl ⟨by rfl, ?_⟩) ?_ ?_
                            rotate_left
                            · intro w'
                              go_simp
                              with_reducible rfl
                            rotate_left
                            · simp only [Act.put, List.setIfInBounds_toArray, List.set_cons_zero, List.set_cons_succ, i64_w, i32_w]
                              rfl
                            refine take_ (i := 3) (N := some 37) (v := ?_) (a' := ?_) #[true, true, true, true, false, false, false, false, false, false, false, false, false, false, false] rfl rfl (take_ofW HT_.out HW_.out (by kernel_rfl)) (fun _ _ _ h => h) (Or.inl ⟨by rfl, ?_⟩) hHeld ?_ ?_
                            rotate_left
                            · rintro w' ⟨s0, s1, s2, s3, s4⟩
                              go_simp
                              with_reducible rfl
                            rotate_left
                            · simp only [Act.put, List.setIfInBounds_toArray, List.set_cons_zero, List.set_cons_succ, i64_w, i32_w]
                              rfl
                            refine pure_ (i := 4) (N := some 38) (v := ?_) (a' := ?_) #[true, true, true, true, true, false, false, false, false, false, false, false, false, false, false] rfl rfl (any_of HT_.out (by kernel_rfl)) (fun _ _ _ h => h) (Or.inl ⟨by rfl, ?_⟩) ?_ ?_
                            rotate_left
                            · intro w'
                              go_simp
                              with_reducible rfl
                            rotate_left
                            · simp only [Act.put, List.setIfInBounds_toArray, List.set_cons_zero, List.set_cons_succ, i64_w, i32_w]
                              rfl
                            refine pure_ (i := 5) (N := some 39) (v := ?_) (a' := ?_) #[true, true, true, true, true, true, false, false, false, false, false, false, false, false, false] rfl rfl (any_of HT_.out (by kernel_rfl)) (fun _ _ _ h => h) (Or.inl ⟨by rfl, ?_⟩) ?_ ?_
                            rotate_left
                            · intro w'
                              go_simp
                              with_reducible rfl
                            rotate_left
                            · simp only [Act.put, List.setIfInBounds_toArray, List.set_cons_zero, List.set_cons_succ, i64_w, i32_w]
                              rfl
                            refine pure_ (i := 7) (N := some 41) (v := ?_) (a' := ?_) #[true, true, true, true, true, true, false, true, false, false, false, false, false, false, false] rfl rfl (any_of HT_.out (by kernel_rfl)) (fun _ _ _ h => h) (Or.inl ⟨by rfl, ?_⟩) ?_ ?_
                            rotate_left
                            · intro w'
                              go_simp
                              with_reducible rfl
                            rotate_left
                            · simp only [Act.put, List.setIfInBounds_toArray, List.set_cons_zero, List.set_cons_succ, i64_w, i32_w]
                              rfl
                            refine pure_ (i := 8) (N := some 42) (v := ?_) (a' := ?_) #[true, true, true, true, true, true, false, true, true, false, false, false, false, false, false] rfl rfl (any_of HT_.out (by kernel_rfl)) (fun _ _ _ h => h) (Or.inl ⟨by rfl, ?_⟩) ?_ ?_
                            rotate_left
                            · intro w'
                              go_simp
                              with_reducible rfl
                            rotate_left
                            · simp only [Act.put, List.setIfInBounds_toArray, List.set_cons_zero, List.set_cons_succ, i64_w, i32_w]
                              rfl
                            refine pure_ (i := 9) (N := some 43) (v := ?_) (a' := ?_) #[true, true, true, true, true, true, false, true, true, true, false, false, false, false, false] rfl rfl (any_of HT_.out (by kernel_rfl)) (fun _ _ _ h => h) (Or.inl ⟨by rfl, ?_⟩) ?_ ?_
                            rotate_left
                            · intro w'
                              go_simp
                              with_reducible rfl
                            rotate_left
                            · simp only [Act.put, List.setIfInBounds_toArray, List.set_cons_zero, List.set_cons_succ, i64_w, i32_w]
                              rfl
                            refine pure_ (i := 11) (N := some 45) (v := ?_) (a' := ?_) #[true, true, true, true, true, true, false, true, true, true, false, true, false, false, false] rfl rfl (any_of HT_.out (by kernel_rfl)) (fun _ _ _ h => h) (Or.inl ⟨by rfl, ?_⟩) ?_ ?_
                            rotate_left
                            · intro w'
                              go_simp
                              with_reducible rfl
                            rotate_left
                            · simp only [Act.put, List.setIfInBounds_toArray, List.set_cons_zero, List.set_cons_succ, i64_w, i32_w]
                              rfl
                            refine pure_ (i := 12) (N := some 46) (v := ?_) (a' := ?_) #[true, true, true, true, true, true, false, true, true, true, false, true, true, false, false] rfl rfl (any_of HT_.out (by kernel_rfl)) (fun _ _ _ h => h) (Or.inl ⟨by rfl, ?_⟩) ?_ ?_
                            rotate_left
                            · intro w'
                              go_simp
                              with_reducible rfl
                            rotate_left
                            · simp only [Act.put, List.setIfInBounds_toArray, List.set_cons_zero, List.set_cons_succ, i64_w, i32_w]
                              rfl
                            refine take_ (i := 6) (N := some 40) (v := ?_) (a' := ?_) #[true, true, true, true, true, true, true, true, true, true, false, true, true, false, false] rfl rfl (take_ofW HT_.out HW_.out (by kernel_rfl)) (fun _ _ _ h => h) (Or.inl ⟨by rfl, ?_⟩) hHeld ?_ ?_
                            rotate_left
                            · rintro w' ⟨s0, s1, s2, s3, s4⟩
                              go_simp
                              with_reducible rfl
                            rotate_left
                            · simp only [Act.put, List.setIfInBounds_toArray, List.set_cons_zero, List.set_cons_succ, i64_w, i32_w]
                              rfl
                            refine take_ (i := 10) (N := some 44) (v := ?_) (a' := ?_) #[true, true, true, true, true, true, true, true, true, true, true, true, true, false, false] rfl rfl (take_ofW HT_.out HW_.out (by kernel_rfl)) (fun _ _ _ h => h) (Or.inl ⟨by rfl, ?_⟩) hHeld ?_ ?_
                            rotate_left
                            · rintro w' ⟨s0, s1, s2, s3, s4⟩
                              go_simp
                              with_reducible rfl
                            rotate_left
                            · simp only [Act.put, List.setIfInBounds_toArray, List.set_cons_zero, List.set_cons_succ, i64_w, i32_w]
                              rfl
                            refine last_ (i := 13) (N := some 47) #[true, true, true, true, true, true, true, true, true, true, true, true, true, true, false] rfl rfl (one_of HT_.out (by kernel_rfl)) (by decide) (fun K hK => ?_)
                            refine goes_ Try.func51 (by kernel_rfl) rfl #[.agg #[.int .i64 a0_0, .int .i64 a0_1, .slice (some ad330) l0_2.length c0_2], .int .i64 (rd x2_1 ((rd_T40 l0_2 x15_1).f1)), .slice (some ad334) x2_1.length co41, .slice (some ⟨go25, 0, none⟩) x3_1.length co25] (by rfl) rfl rfl (by (try simp only [List.map_toArray, List.map_cons, List.map_nil]); first | done | rfl | (simp only [List.length_drop, List.length_take]; rfl)) ?_
                            with_reducible refine (ih kj9 (by have := HK1.out; have := HJ9.out; omega) a0_0 a0_1 _ _ l0_2 (rd x2_1 ((rd_T40 l0_2 x15_1).f1)) (fun k_ => some k_ = (.slice (some ad334) x2_1.length co41 : Value).ownBlock) (.slice (some ad334) x2_1.length co41) x2_1 (fun k_ => some k_ = (.slice (some ⟨go25, 0, none⟩) x3_1.length co25 : Value).ownBlock) (.slice (some ⟨go25, 0, none⟩) x3_1.length co25) y333 true t338 t339 w0 _ ?side1 ?side2 ?side3 ?side4 ?side5 A35.out).mono ?_
                            (case side1 => repeat (first | (with_reducible first | exact HB.out | apply below_alloc | apply pw_below_drewN | apply below_drew1 | refine below_set ?_ GE329.out | refine below_set ?_ GE331.out) | exact HB.out))
                            (case side2 => exact Kd.C_kept_call HR0_2.out (by repeat (first | (with_reducible first | exact HK.out | apply Kept.alloc | apply Kept.drewN | apply Kept.drew | refine Kept.setCell ?_ (.inr GW329.out) _ | refine Kept.setCell ?_ (.inr GW331.out) _) | exact HK.out)) (fun k_ hs_ => Or.elim hs_ (fun e_ => (fun e_ => (HO_2.out.1 k_ e_.symm)) e_) (fun e_ => (fun e_ => (HO_3.out.1 k_ e_.symm)) e_)))
                            (case side3 => exact HC0_2.out)
                            (case side4 => exact Kd.R_tight rfl HO_2.out)
                            (case side5 => exact Kd.R_tight rfl HO_3.out)
                            rintro e w42 ⟨rfl, hy0, hy1, hb, hkp⟩
                            refine ⟨_, rfl, ?_⟩
                            have n0_ := Aside0.mk (Kd.R_reok rfl hy0 (fun k_ e_ => HO_2.out.1 k_ e_))
                            have n1_ := Aside0.mk (Kd.R_reok rfl hy1 (fun k_ e_ => HO_3.out.1 k_ e_))
                            have n2_ := Aside0.mk (blk_kept (by (with_reducible repeat (first | refine blk_drewN ?_ _ | refine blk_drew ?_ | refine blk_alloc ?_ _)); exact BK329.out) hkp (fun hs_ => Or.elim hs_ (fun e_ => (fun e_ => (Kd.R_ne HO_2.out BK329.out (by decide)) e_) e_) (fun e_ => (fun e_ => (Kd.R_ne HO_3.out BK329.out (by decide)) e_) e_)))
                            have n3_ := Aside0.mk (blk_kept (by (with_reducible repeat (first | refine blk_drewN ?_ _ | refine blk_drew ?_ | refine blk_alloc ?_ _)); exact BK331.out) hkp (fun hs_ => Or.elim hs_ (fun e_ => (fun e_ => (Kd.R_ne HO_2.out BK331.out (by decide)) e_) e_) (fun e_ => (fun e_ => (Kd.R_ne HO_3.out BK331.out (by decide)) e_) e_)))
                            have n4_ := Aside0.mk (Kept.then_ (S := (fun k_ => P2_ k_ ∨ P3_ k_)) (by repeat (first | (with_reducible first | exact HK.out | apply Kept.alloc | apply Kept.drewN | apply Kept.drew | refine Kept.setCell ?_ (.inr GW329.out) _ | refine Kept.setCell ?_ (.inr GW331.out) _) | exact HK.out)) hkp (fun k_ hs_ => Or.elim hs_ (fun e_ => (fun e_ => (HO_2.out.1 k_ e_.symm)) e_) (fun e_ => (fun e_ => (HO_3.out.1 k_ e_.symm)) e_)))
                            have n5_ := Aside0.mk (hb)
                            clear HO_2
                            clear HO_3
                            clear BK329
                            clear BK331
                            clear HK
                            clear HB
                            have HO_2 := n0_
                            have HO_3 := n1_
                            have BK329 := n2_
                            have BK331 := n3_
                            have HK := n4_
                            have HB := n5_
                            clear n0_ n1_ n2_ n3_ n4_ n5_
                            (try clear hb)
                            (try clear hkp)
                            (try clear hy0)
                            (try clear hy1)
                            refine hK.out _ _ ?_
                            clear hK K
                            refine norm_ (a' := ?_) ?_ ?_
                            rotate_left
                            · show Act.put _ (some 47) _ = _
                              simp only [Act.put, List.setIfInBounds_toArray, List.set_cons_zero, List.set_cons_succ, i64_w, i32_w]
                              rfl
                            refine pure_ (i := 14) (N := some 48) (v := ?_) (a' := ?_) #[true, true, true, true, true, true, true, true, true, true, true, true, true, true, true] rfl rfl (any_of HT_.out (by kernel_rfl)) (fun _ _ _ h => h) (Or.inl ⟨by rfl, ?_⟩) ?_ ?_
                            rotate_left
                            · intro w'
                              go_simp
                              with_reducible rfl
                            rotate_left
                            · simp only [Act.put, List.setIfInBounds_toArray, List.set_cons_zero, List.set_cons_succ, i64_w, i32_w]
                              rfl
                            refine done_ (done_of HT_.out (by kernel_rfl)) ?_
                            have p37 : 0 ≤ (((rd_T40 l0_2 x15_1).f1) : Int) := of_decide_eq_true (by first | (with_reducible assumption) | assumption)
                            have q37 : (((rd_T40 l0_2 x15_1).f1) : Int) < ((x2_1.length : Int) : Int) := of_decide_eq_true (by first | (with_reducible assumption) | assumption)
                            obtain ⟨go37, co37, eo37, gb37, gl37, cl37, HG37⟩ := Kd.R_form HO_2.out (by first | omega | (have e_ := (Kd.R_reads' HO_2.out).1; omega))
                            (first | cases eo37 | (injection eo37 with ea_ en_ ec_; (first | subst ea_ | (injection ea_ with ea_; subst ea_)); subst ec_; clear en_))
                            have GB37 := Aside0.mk gb37
                            have GG37 := Aside0.mk HG37
                            clear gb37 gl37 HG37
                            have HMgo37 := Aside0.mk (show ((P2_ go37 ∨ P3_ go37) ∨ w.heap.size ≤ go37) from (HO_2.out.1 _ rfl))
                            (first | simp only [add_plain] at hx334_0 | skip)
                            (first | simp only [add_plain] at hx336_0 | skip)
                            obtain ⟨hx37_0, hf37_0⟩ := Kd.R_celln 0 HO_2.out (((rd_T40 l0_2 x15_1).f1) : Int) p37 q37
                            replace p37 := eq_true p37
                            replace q37 := eq_true q37
                            obtain ⟨hy43_, hz43_⟩ := Kd.R_celln 0 HO_2.out (((rd_T40 l0_2 x15_1).f1) : Int) (of_decide_eq_true (by first | (with_reducible assumption) | assumption)) (of_decide_eq_true (by first | (with_reducible assumption) | assumption))
                            have HP43 := Kd.R_putg HO_2.out (((rd_T40 l0_2 x15_1).f1) : Int) a1
                            try go_wp2_with (first | ((with_reducible refine gate_store (t := 3) (p := 52) rfl ?_); refine store_event (t := 3) (p := 52) (v := ?vo_w44) (w1 := (w42.setCell ⟨go37, (((rd_T40 l0_2 x15_1).f1) : Int).toNat, none⟩ (.int .i64 a1))) ?hg ?ho ?hn ?hr ?_; (case ho => rfl); (case hg => rfl); (case hn => rfl); (case hr => first | (go_simp; done) | (go_simp; rfl)); intro w44 hw; have hg : w42.grownBy w44 (some go37) := (by rw [hw]; exact HP43.2); have hp_ : Kd.R (Kd.int .i64) 3 w44 w0.heap.size (fun k_ => ((P2_ k_ ∨ P3_ k_) ∨ w.heap.size ≤ k_)) (.slice (some ⟨go37, 0, none⟩) x2_1.length co41) y340 := (by rw [hw, Ny340.out]; exact HP43.1); clear HP43; have n0_ := Aside0.mk (hp_); have n1_ := Aside0.mk (Kd.R_over' (v := (.slice (some ⟨go37, 0, none⟩) x2_1.length co41)) (by (with_reducible repeat (first | apply Kd.R_alloc | apply Kd.R_drewN | apply Kd.R_drew)); exact HO_3.out) (Kd.R_typed HO_2.out) (by decide) hg); have n2_ := Aside0.mk (blk_grown (g := gb329) (o := .cells #[.int .i64 a0_0, .int .i64 a0_1, .slice (some ad330) l0_2.length c0_2] 27 (0, 0)) (by (with_reducible repeat (first | refine blk_drewN ?_ _ | refine blk_drew ?_ | refine blk_alloc ?_ _)); exact BK329.out) hg (Kd.R_ne HO_2.out BK329.out (by decide))); have n3_ := Aside0.mk (blk_grown (g := gb331) (o := .cells #[.int .i64 ((rd_T40 l0_2 x15_1).f0), .int .i64 ((rd_T40 l0_2 x15_1).f1)] 40 (0, 0)) (by (with_reducible repeat (first | refine blk_drewN ?_ _ | refine blk_drew ?_ | refine blk_alloc ?_ _)); exact BK331.out) hg (Kd.R_ne HO_2.out BK331.out (by decide))); have n4_ := Aside0.mk ((by rw [hw]; exact below_set (HB.out) GB37.out : Below w0.heap.size w0 w44)); have n5_ := Aside0.mk (Kept.of_grown (S := (fun k_ => P2_ k_ ∨ P3_ k_)) hg (by repeat (first | (with_reducible first | exact HK.out | apply Kept.alloc | apply Kept.drewN | apply Kept.drew | refine Kept.setCell ?_ (.inr GW329.out) _ | refine Kept.setCell ?_ (.inr GW331.out) _) | exact HK.out)) (fun k_ e_ => (HO_2.out.1 k_ e_))); clear HO_2; clear HO_3; clear BK329; clear BK331; clear HB; clear HK; have HO_2 := n0_; have HO_3 := n1_; have BK329 := n2_; have BK331 := n3_; have HB := n4_; have HK := n5_; clear n0_ n1_ n2_ n3_ n4_ n5_; clear hg hw hp_))
                            go_ret
                            exact ⟨by first | rfl | (simp [errW_none, errW_some] <;> rfl) | (simp [*, errW_none, errW_some] <;> rfl), by (with_reducible repeat (first | apply Kd.R_alloc | apply Kd.R_drewN | apply Kd.R_drew)); exact HO_2.out, by (with_reducible repeat (first | apply Kd.R_alloc | apply Kd.R_drewN | apply Kd.R_drew)); exact HO_3.out, by repeat (first | (with_reducible first | exact HB.out | apply below_alloc | apply pw_below_drewN | apply below_drew1 | refine below_set ?_ GE329.out | refine below_set ?_ GE331.out) | exact HB.out), by repeat (first | (with_reducible first | exact HK.out | apply Kept.alloc | apply Kept.drewN | apply Kept.drew | refine Kept.setCell ?_ (.inr GW329.out) _ | refine Kept.setCell ?_ (.inr GW331.out) _) | exact HK.out)⟩
                          · replace c36 := Bool.eq_false_iff.mpr c36
                            subst c36
                            have H1 : (torusref30_Find.l0 kj9 a1 t338 t339 l0_2 (l0_2.length : Int) (wrap64 (x15_1 + 1)) a0_0 a0_1 l0_2) = some (r1, r2, r3) := by rw [if_neg (show ¬ (false = true) by decide)] at H; exact H
                            clear H
                            have H := H1
                            clear H1
                            have H' := Aside0.mk H
                            clear H
                            have p25 : 0 ≤ (((rd_T40 l0_2 x15_1).f1) : Int) := of_decide_eq_true (by first | (with_reducible assumption) | assumption)
                            have q25 : (((rd_T40 l0_2 x15_1).f1) : Int) < ((x3_1.length : Int) : Int) := of_decide_eq_true (by first | (with_reducible assumption) | assumption)
                            obtain ⟨go25, co25, eo25, gb25, gl25, cl25, HG25⟩ := Kd.R_form HO_3.out (by first | omega | (have e_ := (Kd.R_reads' HO_3.out).1; omega))
                            (first | cases eo25 | (injection eo25 with ea_ en_ ec_; (first | subst ea_ | (injection ea_ with ea_; subst ea_)); subst ec_; clear en_))
                            have GB25 := Aside0.mk gb25
                            have GG25 := Aside0.mk HG25
                            clear gb25 gl25 HG25
                            have HMgo25 := Aside0.mk (show ((P2_ go25 ∨ P3_ go25) ∨ w.heap.size ≤ go25) from (HO_3.out.1 _ rfl))
                            obtain ⟨hx25_0, hf25_0⟩ := Kd.R_celln false HO_3.out (((rd_T40 l0_2 x15_1).f1) : Int) p25 q25
                            replace p25 := eq_true p25
                            replace q25 := eq_true q25
                            have HP45 := Kd.R_putg HO_3.out (((rd_T40 l0_2 x15_1).f1) : Int) true
                            try go_wp2_with (first | ((with_reducible refine gate_store (t := 4) (p := 33) rfl ?_); refine store_event (t := 4) (p := 33) (v := ?vo_w46) (w1 := (wc.setCell ⟨go25, (((rd_T40 l0_2 x15_1).f1) : Int).toNat, none⟩ (.bool true))) ?hg ?ho ?hn ?hr ?_; (case ho => rfl); (case hg => rfl); (case hn => rfl); (case hr => first | (go_simp; done) | (go_simp; rfl)); intro w46 hw; have hg : wc.grownBy w46 (some go25) := (by rw [hw]; exact HP45.2); have hp_ : Kd.R Kd.bool 4 w46 w0.heap.size (fun k_ => ((P2_ k_ ∨ P3_ k_) ∨ w.heap.size ≤ k_)) (.slice (some ⟨go25, 0, none⟩) x3_1.length co25) y333 := (by rw [hw, Ny333.out]; exact HP45.1); clear HP45; have n0_ := Aside0.mk (Kd.R_over' (v := (.slice (some ⟨go25, 0, none⟩) x3_1.length co25)) (by (with_reducible repeat (first | apply Kd.R_alloc | apply Kd.R_drewN | apply Kd.R_drew)); exact HO_2.out) (Kd.R_typed HO_3.out) (by decide) hg); have n1_ := Aside0.mk (hp_); have n2_ := Aside0.mk (blk_grown (g := gb329) (o := .cells #[.int .i64 a0_0, .int .i64 a0_1, .slice (some ad330) l0_2.length c0_2] 27 (0, 0)) (by (with_reducible repeat (first | refine blk_drewN ?_ _ | refine blk_drew ?_ | refine blk_alloc ?_ _)); exact BK329.out) hg (Kd.R_ne HO_3.out BK329.out (by decide))); have n3_ := Aside0.mk (blk_grown (g := gb331) (o := .cells #[.int .i64 ((rd_T40 l0_2 x15_1).f0), .int .i64 ((rd_T40 l0_2 x15_1).f1)] 40 (0, 0)) (by (with_reducible repeat (first | refine blk_drewN ?_ _ | refine blk_drew ?_ | refine blk_alloc ?_ _)); exact BK331.out) hg (Kd.R_ne HO_3.out BK331.out (by decide))); have n4_ := Aside0.mk ((by rw [hw]; exact below_set (HB.out) GB25.out : Below w0.heap.size w0 w46)); have n5_ := Aside0.mk (Kept.of_grown (S := (fun k_ => P2_ k_ ∨ P3_ k_)) hg (by repeat (first | (with_reducible first | exact HK.out | apply Kept.alloc | apply Kept.drewN | apply Kept.drew | refine Kept.setCell ?_ (.inr GW329.out) _ | refine Kept.setCell ?_ (.inr GW331.out) _) | exact HK.out)) (fun k_ e_ => (HO_3.out.1 k_ e_))); clear HO_2; clear HO_3; clear BK329; clear BK331; clear HB; clear HK; have HO_2 := n0_; have HO_3 := n1_; have BK329 := n2_; have BK331 := n3_; have HB := n4_; have HK := n5_; clear n0_ n1_ n2_ n3_ n4_ n5_; clear hg hw hp_))
                            have n0_ := Aside0.mk (Kd.R_drew HO_2.out)
                            have n1_ := Aside0.mk (Kd.R_drew HO_3.out)
                            have n2_ := Aside0.mk (blk_drew BK329.out)
                            have n3_ := Aside0.mk (blk_drew BK331.out)
                            have n4_ := Aside0.mk (Kept.drew HK.out)
                            have n5_ := Aside0.mk (below_drew1 HB.out)
                            clear HO_2
                            clear HO_3
                            clear BK329
                            clear BK331
                            clear HK
                            clear HB
                            have HO_2 := n0_
                            have HO_3 := n1_
                            have BK329 := n2_
                            have BK331 := n3_
                            have HK := n4_
                            have HB := n5_
                            clear n0_ n1_ n2_ n3_ n4_ n5_
                            obtain ⟨Ao48, co48, eo48⟩ := Kd.R_slice HO_2.out
                            (first | subst eo48 | (injection eo48 with f1_ f2_ f3_; have f4_ := f1_.symm; have f5_ := f3_.symm; clear f1_ f2_ f3_; subst f4_; subst f5_))
                            have p334 : 0 ≤ (((rd_T40 l0_2 x15_1).f1) : Int) := of_decide_eq_true (by first | (with_reducible assumption) | assumption)
                            have q334 : ((rd_T40 l0_2 x15_1).f1) < (x2_1.length : Int) := of_decide_eq_true (by first | (with_reducible assumption) | assumption)
                            obtain ⟨ad334, e334, hx334_0⟩ := Kd.at_int (Kd.R_reads' HO_2.out).2.2 ((rd_T40 l0_2 x15_1).f1) p334 q334
                            cases e334
                            replace p334 := eq_true p334
                            replace q334 := eq_true q334
                            have p336 : 0 ≤ (((rd_T40 l0_2 x15_1).f1) : Int) := of_decide_eq_true (by first | (with_reducible assumption) | assumption)
                            have q336 : ((rd_T40 l0_2 x15_1).f1) < (x2_1.length : Int) := of_decide_eq_true (by first | (with_reducible assumption) | assumption)
                            obtain ⟨ad336, e336, hx336_0⟩ := Kd.at_int (Kd.R_reads' HO_2.out).2.2 ((rd_T40 l0_2 x15_1).f1) p336 q336
                            obtain rfl : ad334 = ad336 := (by injection e336)
                            replace p336 := eq_true p336
                            replace q336 := eq_true q336
                            refine start_ (n := 15) (S := fun w' => w'.cell? ⟨gb329, 0, none⟩ = some (.int .i64 a0_0) ∧ w'.cell? ⟨gb329, 1, none⟩ = some (.int .i64 a0_1) ∧ w'.cell? ⟨gb329, 2, none⟩ = some (.slice (some ad330) l0_2.length c0_2) ∧ w'.cell? (ad334.add (((rd_T40 l0_2 x15_1).f1)).toNat) = some (.int .i64 (rd x2_1 ((rd_T40 l0_2 x15_1).f1))) ∧ w'.cell? (ad334.add (((rd_T40 l0_2 x15_1).f1)).toNat) = some (.int .i64 (rd x2_1 ((rd_T40 l0_2 x15_1).f1)))) (ds := [13]) #[false, false, false, false, false, false, false, false, false, false, false, false, false, false, false] (by kernel_rfl) rfl rfl ⟨(blk_cell BK329.out 0).trans rfl, (blk_cell BK329.out 1).trans rfl, (blk_cell BK329.out 2).trans rfl, hx334_0, hx336_0⟩ (fun hHeld => ?_); refine with_tabW torusref30_Find.tab7 torusref30_Find.bits7 (fun HT_ HW_ => ?_)
                            generalize w46.drew = w47 at HO_2 HO_3 BK329 BK331 HK HB hx334_0 hx336_0 hHeld ⊢
                            refine pure_ (i := 0) (N := some 34) (v := ?_) (a' := ?_) #[true, false, false, false, false, false, false, false, false, false, false, false, false, false, false] rfl rfl (any_of HT_.out (by kernel_rfl)) (fun _ _ _ h => h) (Or.inl ⟨by rfl, ?_⟩) ?_ ?_
                            rotate_left
                            · intro w'
                              go_simp
                              with_reducible rfl
                            rotate_left
                            · simp only [Act.put, List.setIfInBounds_toArray, List.set_cons_zero, List.set_cons_succ, i64_w, i32_w]
                              rfl
                            refine pure_ (i := 1) (N := some 35) (v := ?_) (a' := ?_) #[true, true, false, false, false, false, false, false, false, false, false, false, false, false, false] rfl rfl (any_of HT_.out (by kernel_rfl)) (fun _ _ _ h => h) (Or.inl ⟨by rfl, ?_⟩) ?_ ?_
                            rotate_left
                            · intro w'
                              go_simp
                              with_reducible rfl
                            rotate_left
                            · simp only [Act.put, List.setIfInBounds_toArray, List.set_cons_zero, List.set_cons_succ, i64_w, i32_w]
                              rfl
                            refine pure_ (i := 2) (N := some 36) (v := ?_) (a' := ?_) #[true, true, true, false, false, false, false, false, false, false, false, false, false, false, false] rfl rfl (any_of HT_.out (by kernel_rfl)) (fun _ _ _ h => h) (Or.inl ⟨by rfl, ?_⟩) ?_ ?_
                            rotate_left
                            · intro w'
                              go_simp
                              with_reducible rfl
                            rotate_left
                            · simp only [Act.put, List.setIfInBounds_toArray, List.set_cons_zero, List.set_cons_succ, i64_w, i32_w]
                              rfl
                            refine take_ (i := 3) (N := some 37) (v := ?_) (a' := ?_) #[true, true, true, true, false, false, false, false, false, false, false, false, false, false, false] rfl rfl (take_ofW HT_.out HW_.out (by kernel_rfl)) (fun _ _ _ h => h) (Or.inl ⟨by rfl, ?_⟩) hHeld ?_ ?_
                            rotate_left
                            · rintro w' ⟨s0, s1, s2, s3, s4⟩
                              go_simp
                              with_reducible rfl
                            rotate_left
                            · simp only [Act.put, List.setIfInBounds_toArray, List.set_cons_zero, List.set_cons_succ, i64_w, i32_w]
                              rfl
                            refine pure_ (i := 4) (N := some 38) (v := ?_) (a' := ?_) #[true, true, true, true, true, false, false, false, false, false, false, false, false, false, false] rfl rfl (any_of HT_.out (by kernel_rfl)) (fun _ _ _ h => h) (Or.inl ⟨by rfl, ?_⟩) ?_ ?_
                            rotate_left
                            · intro w'
                              go_simp
                              with_reducible rfl
                            rotate_left
                            · simp only [Act.put, List.setIfInBounds_toArray, List.set_cons_zero, List.set_cons_succ, i64_w, i32_w]
                              rfl
                            refine pure_ (i := 5) (N := some 39) (v := ?_) (a' := ?_) #[true, true, true, true, true, true, false, false, false, false, false, false, false, false, false] rfl rfl (any_of HT_.out (by kernel_rfl)) (fun _ _ _ h => h) (Or.inl ⟨by rfl, ?_⟩) ?_ ?_
                            rotate_left
                            · intro w'
                              go_simp
                              with_reducible rfl
                            rotate_left
                            · simp only [Act.put, List.setIfInBounds_toArray, List.set_cons_zero, List.set_cons_succ, i64_w, i32_w]
                              rfl
                            refine pure_ (i := 7) (N := some 41) (v := ?_) (a' := ?_) #[true, true, true, true, true, true, false, true, false, false, false, false, false, false, false] rfl rfl (any_of HT_.out (by kernel_rfl)) (fun _ _ _ h => h) (Or.inl ⟨by rfl, ?_⟩) ?_ ?_
                            rotate_left
                            · intro w'
                              go_simp
                              with_reducible rfl
                            rotate_left
                            · simp only [Act.put, List.setIfInBounds_toArray, List.set_cons_zero, List.set_cons_succ, i64_w, i32_w]
                              rfl
                            refine pure_ (i := 8) (N := some 42) (v := ?_) (a' := ?_) #[true, true, true, true, true, true, false, true, true, false, false, false, false, false, false] rfl rfl (any_of HT_.out (by kernel_rfl)) (fun _ _ _ h => h) (Or.inl ⟨by rfl, ?_⟩) ?_ ?_
                            rotate_left
                            · intro w'
                              go_simp
                              with_reducible rfl
                            rotate_left
                            · simp only [Act.put, List.setIfInBounds_toArray, List.set_cons_zero, List.set_cons_succ, i64_w, i32_w]
                              rfl
                            refine pure_ (i := 9) (N := some 43) (v := ?_) (a' := ?_) #[true, true, true, true, true, true, false, true, true, true, false, false, false, false, false] rfl rfl (any_of HT_.out (by kernel_rfl)) (fun _ _ _ h => h) (Or.inl ⟨by rfl, ?_⟩) ?_ ?_
                            rotate_left
                            · intro w'
                              go_simp
                              with_reducible rfl
                            rotate_left
                            · simp only [Act.put, List.setIfInBounds_toArray, List.set_cons_zero, List.set_cons_succ, i64_w, i32_w]
                              rfl
                            refine pure_ (i := 11) (N := some 45) (v := ?_) (a' := ?_) #[true, true, true, true, true, true, false, true, true, true, false, true, false, false, false] rfl rfl (any_of HT_.out (by kernel_rfl)) (fun _ _ _ h => h) (Or.inl ⟨by rfl, ?_⟩) ?_ ?_
                            rotate_left
                            · intro w'
                              go_simp
                              with_reducible rfl
                            rotate_left
                            · simp only [Act.put, List.setIfInBounds_toArray, List.set_cons_zero, List.set_cons_succ, i64_w, i32_w]
                              rfl
                            refine pure_ (i := 12) (N := some 46) (v := ?_) (a' := ?_) #[true, true, true, true, true, true, false, true, true, true, false, true, true, false, false] rfl rfl (any_of HT_.out (by kernel_rfl)) (fun _ _ _ h => h) (Or.inl ⟨by rfl, ?_⟩) ?_ ?_
                            rotate_left
                            · intro w'
                              go_simp
                              with_reducible rfl
                            rotate_left
                            · simp only [Act.put, List.setIfInBounds_toArray, List.set_cons_zero, List.set_cons_succ, i64_w, i32_w]
                              rfl
                            refine take_ (i := 6) (N := some 40) (v := ?_) (a' := ?_) #[true, true, true, true, true, true, true, true, true, true, false, true, true, false, false] rfl rfl (take_ofW HT_.out HW_.out (by kernel_rfl)) (fun _ _ _ h => h) (Or.inl ⟨by rfl, ?_⟩) hHeld ?_ ?_
                            rotate_left
                            · rintro w' ⟨s0, s1, s2, s3, s4⟩
                              go_simp
                              with_reducible rfl
                            rotate_left
                            · simp only [Act.put, List.setIfInBounds_toArray, List.set_cons_zero, List.set_cons_succ, i64_w, i32_w]
                              rfl
                            refine take_ (i := 10) (N := some 44) (v := ?_) (a' := ?_) #[true, true, true, true, true, true, true, true, true, true, true, true, true, false, false] rfl rfl (take_ofW HT_.out HW_.out (by kernel_rfl)) (fun _ _ _ h => h) (Or.inl ⟨by rfl, ?_⟩) hHeld ?_ ?_
                            rotate_left
                            · rintro w' ⟨s0, s1, s2, s3, s4⟩
                              go_simp
                              with_reducible rfl
                            rotate_left
                            · simp only [Act.put, List.setIfInBounds_toArray, List.set_cons_zero, List.set_cons_succ, i64_w, i32_w]
                              rfl
                            refine last_ (i := 13) (N := some 47) #[true, true, true, true, true, true, true, true, true, true, true, true, true, true, false] rfl rfl (one_of HT_.out (by kernel_rfl)) (by decide) (fun K hK => ?_)
                            refine goes_ Try.func51 (by kernel_rfl) rfl #[.agg #[.int .i64 a0_0, .int .i64 a0_1, .slice (some ad330) l0_2.length c0_2], .int .i64 (rd x2_1 ((rd_T40 l0_2 x15_1).f1)), .slice (some ad334) x2_1.length co48, .slice (some ⟨go25, 0, none⟩) x3_1.length co25] (by rfl) rfl rfl (by (try simp only [List.map_toArray, List.map_cons, List.map_nil]); first | done | rfl | (simp only [List.length_drop, List.length_take]; rfl)) ?_
                            with_reducible refine (ih kj9 (by have := HK1.out; have := HJ9.out; omega) a0_0 a0_1 _ _ l0_2 (rd x2_1 ((rd_T40 l0_2 x15_1).f1)) (fun k_ => some k_ = (.slice (some ad334) x2_1.length co48 : Value).ownBlock) (.slice (some ad334) x2_1.length co48) x2_1 (fun k_ => some k_ = (.slice (some ⟨go25, 0, none⟩) x3_1.length co25 : Value).ownBlock) (.slice (some ⟨go25, 0, none⟩) x3_1.length co25) y333 false t338 t339 w0 _ ?side1 ?side2 ?side3 ?side4 ?side5 A35.out).mono ?_
                            (case side1 => repeat (first | (with_reducible first | exact HB.out | apply below_alloc | apply pw_below_drewN | apply below_drew1 | refine below_set ?_ GE329.out | refine below_set ?_ GE331.out) | exact HB.out))
                            (case side2 => exact Kd.C_kept_call HR0_2.out (by repeat (first | (with_reducible first | exact HK.out | apply Kept.alloc | apply Kept.drewN | apply Kept.drew | refine Kept.setCell ?_ (.inr GW329.out) _ | refine Kept.setCell ?_ (.inr GW331.out) _) | exact HK.out)) (fun k_ hs_ => Or.elim hs_ (fun e_ => (fun e_ => (HO_2.out.1 k_ e_.symm)) e_) (fun e_ => (fun e_ => (HO_3.out.1 k_ e_.symm)) e_)))
                            (case side3 => exact HC0_2.out)
                            (case side4 => exact Kd.R_tight rfl HO_2.out)
                            (case side5 => exact Kd.R_tight rfl HO_3.out)
                            rintro e w49 ⟨rfl, hy0, hy1, hb, hkp⟩
                            refine ⟨_, rfl, ?_⟩
                            have n0_ := Aside0.mk (Kd.R_reok rfl hy0 (fun k_ e_ => HO_2.out.1 k_ e_))
                            have n1_ := Aside0.mk (Kd.R_reok rfl hy1 (fun k_ e_ => HO_3.out.1 k_ e_))
                            have n2_ := Aside0.mk (blk_kept (by (with_reducible repeat (first | refine blk_drewN ?_ _ | refine blk_drew ?_ | refine blk_alloc ?_ _)); exact BK329.out) hkp (fun hs_ => Or.elim hs_ (fun e_ => (fun e_ => (Kd.R_ne HO_2.out BK329.out (by decide)) e_) e_) (fun e_ => (fun e_ => (Kd.R_ne HO_3.out BK329.out (by decide)) e_) e_)))
                            have n3_ := Aside0.mk (blk_kept (by (with_reducible repeat (first | refine blk_drewN ?_ _ | refine blk_drew ?_ | refine blk_alloc ?_ _)); exact BK331.out) hkp (fun hs_ => Or.elim hs_ (fun e_ => (fun e_ => (Kd.R_ne HO_2.out BK331.out (by decide)) e_) e_) (fun e_ => (fun e_ => (Kd.R_ne HO_3.out BK331.out (by decide)) e_) e_)))
                            have n4_ := Aside0.mk (Kept.then_ (S := (fun k_ => P2_ k_ ∨ P3_ k_)) (by repeat (first | (with_reducible first | exact HK.out | apply Kept.alloc | apply Kept.drewN | apply Kept.drew | refine Kept.setCell ?_ (.inr GW329.out) _ | refine Kept.setCell ?_ (.inr GW331.out) _) | exact HK.out)) hkp (fun k_ hs_ => Or.elim hs_ (fun e_ => (fun e_ => (HO_2.out.1 k_ e_.symm)) e_) (fun e_ => (fun e_ => (HO_3.out.1 k_ e_.symm)) e_)))
                            have n5_ := Aside0.mk (hb)
                            clear HO_2
                            clear HO_3
                            clear BK329
                            clear BK331
                            clear HK
                            clear HB
                            have HO_2 := n0_
                            have HO_3 := n1_
                            have BK329 := n2_
                            have BK331 := n3_
                            have HK := n4_
                            have HB := n5_
                            clear n0_ n1_ n2_ n3_ n4_ n5_
                            (try clear hb)
                            (try clear hkp)
                            (try clear hy0)
                            (try clear hy1)
                            refine hK.out _ _ ?_
                            clear hK K
                            refine norm_ (a' := ?_) ?_ ?_
                            rotate_left
                            · show Act.put _ (some 47) _ = _
                              simp only [Act.put, List.setIfInBounds_toArray, List.set_cons_zero, List.set_cons_succ, i64_w, i32_w]
                              rfl
                            refine pure_ (i := 14) (N := some 48) (v := ?_) (a' := ?_) #[true, true, true, true, true, true, true, true, true, true, true, true, true, true, true] rfl rfl (any_of HT_.out (by kernel_rfl)) (fun _ _ _ h => h) (Or.inl ⟨by rfl, ?_⟩) ?_ ?_
                            rotate_left
                            · intro w'
                              go_simp
                              with_reducible rfl
                            rotate_left
                            · simp only [Act.put, List.setIfInBounds_toArray, List.set_cons_zero, List.set_cons_succ, i64_w, i32_w]
                              rfl
                            refine done_ (done_of HT_.out (by kernel_rfl)) ?_
                            try go_wp2
                            go_roundg kj9
                            case measure => have := HK1.out; have := HJ9.out; omega
                            case rel => exact ⟨(t338), (t339), (wrap64 (x15_1 + 1)), (by first | rfl | (simp; done) | (simp [*]; done)), H', ⟨by have := HK1.out; have := HJ9.out; omega⟩, ⟨by (with_reducible repeat (first | apply Kd.R_alloc | apply Kd.R_drewN | apply Kd.R_drew)); exact HO_2.out⟩, ⟨by (with_reducible repeat (first | apply Kd.R_alloc | apply Kd.R_drewN | apply Kd.R_drew)); exact HO_3.out⟩, ⟨by (with_reducible repeat (first | refine blk_drewN ?_ _ | refine blk_drew ?_ | refine blk_alloc ?_ _)); exact BK329.out⟩, ⟨by repeat (first | (with_reducible first | exact HK.out | apply Kept.alloc | apply Kept.drewN | apply Kept.drew | refine Kept.setCell ?_ (.inr GW329.out) _ | refine Kept.setCell ?_ (.inr GW331.out) _) | exact HK.out)⟩, ⟨by repeat (first | (with_reducible first | exact HB.out | apply below_alloc | apply pw_below_drewN | apply below_drew1 | refine below_set ?_ GE329.out | refine below_set ?_ GE331.out) | exact HB.out)⟩⟩
                      · rw [if_neg c26] at H
                        exact absurd H (by simp)
                    · rw [if_neg c24] at H
                      exact absurd H (by simp)
                  · rw [if_neg c23] at H
                    exact absurd H (by simp)
          · rw [if_neg c9] at H
            exact absurd H (by simp)
        · rw [if_neg c8] at H
          exact absurd H (by simp)
      · rw [if_neg c7] at H
        have c7b0 : decide (x15_1 < (l0_2.length : Int)) = false := decide_eq_false c7
        clear c7
        simp only [Option.some.injEq, Prod.mk.injEq] at H
        obtain ⟨rfl, rfl, rfl⟩ := H
        go_wp2
        go_ret
        exact ⟨by first | rfl | (simp [errW_none, errW_some] <;> rfl) | (simp [*, errW_none, errW_some] <;> rfl), by (with_reducible repeat (first | apply Kd.R_alloc | apply Kd.R_drewN | apply Kd.R_drew)); exact HO_2.out, by (with_reducible repeat (first | apply Kd.R_alloc | apply Kd.R_drewN | apply Kd.R_drew)); exact HO_3.out, by repeat (first | (with_reducible first | exact HB.out | apply below_alloc | apply pw_below_drewN | apply below_drew1 | refine below_set ?_ GE329.out) | exact HB.out), by repeat (first | (with_reducible first | exact HK.out | apply Kept.alloc | apply Kept.drewN | apply Kept.drew | refine Kept.setCell ?_ (.inr GW329.out) _) | exact HK.out)⟩
end Go.Proofs.Ytlleokhmgblfnaa.M
end

section
namespace Go.Proofs.Ytlleokhmgblfnaa.M
open Go.RowKit Go.Proofs.YtlleokhmgblfnaaW.PrintWords Go.Proofs.YtlleokhmgblfnaaW.PrintLast Go.Proofs.YtlleokhmgblfnaaW.PrintMore
attribute [local go_sem] max2_int min2_int max_two min_two max_three min_three max_four min_four   -- for this text's walks alone
mutual
def torusref30_Number.l0 : Nat → List Int → Int → Int → Int → List (S40) → Option (Int)
  | 0, _, _, _, _, _ => none
  | k + 1, x3, x4, x342000, x342001, x342002 => if x4 < x342001 then (if 0 ≤ x4 then (if x4 < (x3.length : Int) then (torusref30_Number.l0 k (x3.set (x4 : Int).toNat (-1)) (wrap64 (x4 + 1)) x342000 x342001 x342002) else (none)) else (none)) else (torusref30_Number.l1 k x3 0 0 x342000 x342001 x342002)
def torusref30_Number.l1 : Nat → List Int → Int → Int → Int → Int → List (S40) → Option (Int)
  | 0, _, _, _, _, _, _ => none
  | k + 1, x3, x5, x6, x342000, x342001, x342002 => if x6 < x342000 then (if 0 ≤ x342001 then (if (x342001 : Int).toNat ≤ 281474976710656 then ((torusref30_Find.f k x342000 x342001 x342002 x6 x3 (List.replicate (x342001 : Int).toNat false)).bind fun bt349 => (if bt349.1 = true then (torusref30_Number.l1 k bt349.2.1 (wrap64 (x5 + 1)) (wrap64 (x6 + 1)) x342000 x342001 x342002) else (torusref30_Number.l1 k bt349.2.1 x5 (wrap64 (x6 + 1)) x342000 x342001 x342002))) else (none)) else (none)) else (some x5)
end
def torusref30_Number.f (k : Nat) (a0_0 : Int) (a0_1 : Int) (l0_2 : List (S40)) : Option (Int) := if 0 ≤ a0_1 then (if (a0_1 : Int).toNat ≤ 35184372088832 then (torusref30_Number.l0 k (List.replicate (a0_1 : Int).toNat 0) 0 a0_0 a0_1 l0_2) else (none)) else (none)
theorem torusref30_Number.mono_l : ∀ k, (∀ y0 y1 y2 y3 y4, LeO (torusref30_Number.l0 k y0 y1 y2 y3 y4) (torusref30_Number.l0 (k + 1) y0 y1 y2 y3 y4)) ∧ (∀ y0 y1 y2 y3 y4 y5, LeO (torusref30_Number.l1 k y0 y1 y2 y3 y4 y5) (torusref30_Number.l1 (k + 1) y0 y1 y2 y3 y4 y5))
  | 0 => ⟨fun _ _ _ _ _ r h => by simp [torusref30_Number.l0] at h, fun _ _ _ _ _ _ r h => by simp [torusref30_Number.l1] at h⟩
  | k + 1 => by
    obtain ⟨ih0, ih1⟩ := torusref30_Number.mono_l k
    refine ⟨?_, ?_⟩
    · intro y0 y1 y2 y3 y4
      unfold torusref30_Number.l0
      repeat' first
      | (with_reducible exact ih0 _ _ _ _ _)
      | (with_reducible exact ih1 _ _ _ _ _ _)
      | (with_reducible exact torusref30_Find.mono _ _ _ _ _ _ _)
      | (with_reducible exact LeO.refl _)
      | (with_reducible exact LeO.none _)
      | (with_reducible refine LeO.ite ?_ ?_)
      | (with_reducible refine LeO.bind ?_ (fun _ => ?_))
      | exact ih0 _ _ _ _ _
      | exact ih1 _ _ _ _ _ _
      | exact torusref30_Find.mono _ _ _ _ _ _ _
      | exact LeO.none _
      | refine LeO.ite ?_ ?_
      | refine LeO.bind ?_ (fun _ => ?_)
    · intro y0 y1 y2 y3 y4 y5
      unfold torusref30_Number.l1
      repeat' first
      | (with_reducible exact ih0 _ _ _ _ _)
      | (with_reducible exact ih1 _ _ _ _ _ _)
      | (with_reducible exact torusref30_Find.mono _ _ _ _ _ _ _)
      | (with_reducible exact LeO.refl _)
      | (with_reducible exact LeO.none _)
      | (with_reducible refine LeO.ite ?_ ?_)
      | (with_reducible refine LeO.bind ?_ (fun _ => ?_))
      | exact ih0 _ _ _ _ _
      | exact ih1 _ _ _ _ _ _
      | exact torusref30_Find.mono _ _ _ _ _ _ _
      | exact LeO.none _
      | refine LeO.ite ?_ ?_
      | refine LeO.bind ?_ (fun _ => ?_)
theorem torusref30_Number.mono : ∀ a0 a1 a2 k, LeO (torusref30_Number.f k a0 a1 a2) (torusref30_Number.f (k + 1) a0 a1 a2) := by
  intro a0 a1 a2 k
  obtain ⟨ih0, ih1⟩ := torusref30_Number.mono_l k
  unfold torusref30_Number.f
  repeat' first
      | (with_reducible exact ih0 _ _ _ _ _)
      | (with_reducible exact ih1 _ _ _ _ _ _)
      | (with_reducible exact torusref30_Find.mono _ _ _ _ _ _ _)
      | (with_reducible exact LeO.refl _)
      | (with_reducible exact LeO.none _)
      | (with_reducible refine LeO.ite ?_ ?_)
      | (with_reducible refine LeO.bind ?_ (fun _ => ?_))
      | exact ih0 _ _ _ _ _
      | exact ih1 _ _ _ _ _ _
      | exact torusref30_Find.mono _ _ _ _ _ _ _
      | exact LeO.none _
      | refine LeO.ite ?_ ?_
      | refine LeO.bind ?_ (fun _ => ?_)
set_option maxHeartbeats 8000000 in
set_option maxRecDepth 100000 in
theorem torusref30_Number.calls (k : Nat) (a0_0 : Int) (a0_1 : Int) (A0_2 : Option Addr) (c0_2 : Nat) (l0_2 : List (S40)) (r : Int) (w : World) (hr0_2 : Kd.C k40 w A0_2 l0_2.length l0_2) (hc0_2 : l0_2.length ≤ c0_2) (h : torusref30_Number.f k a0_0 a0_1 l0_2 = some r) :
    Calls Try.prog 44 #[.agg #[.int .i64 a0_0, .int .i64 a0_1, .slice A0_2 l0_2.length c0_2]] w fun e w' => e = .returned (.int .i64 r) ∧ Below w.heap.size w w' := by
  have hu27 := Try.underlying27
  have HR0_2 := Aside0.mk hr0_2
  have HC0_2 := Aside0.mk hc0_2
  clear hr0_2 hc0_2
  have HB := Aside0.mk (Below.refl w.heap.size w)
  have H : (if 0 ≤ a0_1 then (if (a0_1 : Int).toNat ≤ 35184372088832 then (torusref30_Number.l0 k (List.replicate (a0_1 : Int).toNat 0) 0 a0_0 a0_1 l0_2) else (none)) else (none)) = some r := h
  clear h
  by_cases c2 : 0 ≤ a0_1
  · rw [if_pos c2] at H
    have c2b0 := eq_true c2
    have c2b1 : decide (0 ≤ a0_1) = true := decide_eq_true c2
    clear c2
    by_cases c3 : (a0_1 : Int).toNat ≤ 35184372088832
    · rw [if_pos c3] at H
      have c3b0 := eq_true c3
      have c3b1 : decide ((a0_1 : Int).toNat ≤ 35184372088832) = true := decide_eq_true c3
      clear c3
      obtain ⟨y342, hy342⟩ : ∃ y_ : List Int, y_ = (List.replicate (a0_1 : Int).toNat 0) := ⟨_, rfl⟩
      replace H : (torusref30_Number.l0 k y342 0 a0_0 a0_1 l0_2) = some r := by first | (rw [hy342]; with_reducible exact H) | (have H2_ := (Option.bind_some _ _).symm.trans H; rw [hy342]; with_reducible exact H2_) | (have H2_ := (Option.bind_some _ _).symm.trans H; with_reducible exact H2_) | with_reducible exact H | (rw [hy342]; exact H) | exact H
      have Ny342 := Aside0.mk hy342
      clear hy342
      have H' := Aside0.mk H
      clear H
      go_enter Try.func44, Try.ntmps44
      go_wp2_with (first | ((with_reducible refine gate_dst (N := 1) rfl ?_); refine box_event ?hg (N := 1) ?hd (cs := #[.int .i64 a0_0, .int .i64 a0_1, .slice A0_2 l0_2.length c0_2]) (t := 27) ?hr ?_; (case hd => rfl); (case hg => rfl); (case hr => first | (go_simp; done) | (go_simp; rfl)); intro gb341 hg w4 hbox hb; have n0_ := Aside0.mk (below_step (by repeat (first | (with_reducible first | exact HB.out | apply below_alloc | apply pw_below_drewN | apply below_drew1) | exact HB.out)) hb); have n1_ := Aside0.mk (hbox); have n2_ := Aside0.mk ((by rw [hg]; exact (below_size (by repeat (first | (with_reducible first | exact HB.out | apply below_alloc | apply pw_below_drewN | apply below_drew1) | exact HB.out))) : w.heap.size ≤ gb341)); have n3_ := Aside0.mk ((by rw [hg]; exact (below_size (by repeat (first | (with_reducible first | exact HB.out | apply below_alloc | apply pw_below_drewN | apply below_drew1) | exact HB.out))) : w.heap.size ≤ gb341)); clear HB; have HB := n0_; have BK341 := n1_; have GW341 := n2_; have GE341 := n3_; clear n0_ n1_ n2_ n3_; clear hb hbox hg; have hcz5_0 : w4.cell? ⟨gb341, 0, none⟩ = some (.int .i64 a0_0) := (blk_cell BK341.out 0).trans rfl; have hcz5_1 : w4.cell? ⟨gb341, 1, none⟩ = some (.int .i64 a0_1) := (blk_cell BK341.out 1).trans rfl; have hcz5_2 : w4.cell? ⟨gb341, 2, none⟩ = some (.slice A0_2 l0_2.length c0_2) := (blk_cell BK341.out 2).trans rfl; have hfz5_0 := blk_frozen BK341.out 0; have hfz5_1 := blk_frozen BK341.out 1; have hfz5_2 := blk_frozen BK341.out 2) | ((with_reducible refine gate_dst (N := 9) rfl ?_); refine Kd.R_make (Kd.int .i64) _ 3 rfl (N := 9) rfl 29 _ _ rfl a0_1 rfl rfl Try.underlying29 (.int .i64 0) 8 info3 rfl (by decide) (by omega) 0 (ok := fun _ => True) (okp := fun _ => True) rfl (fun _ hk => hk) trivial (of_decide_eq_true (by first | (with_reducible assumption) | assumption)) (Nat.le_trans (Nat.mul_le_mul_right _ (of_decide_eq_true (by first | (with_reducible assumption) | assumption) : a0_1.toNat ≤ 35184372088832)) (by omega)) (Below.refl _ _) (Nat.le_refl _) ?_; intro v343 w6 ho7 hb hg_ hnew_; clear hg_ hnew_; (first | rw [← Ny342.out] at ho7 | (simp only [Int.reduceToNat] at ho7; rw [← Ny342.out] at ho7)); have n0_ := Aside0.mk (Kd.R_lower ho7 (below_size (by repeat (first | (with_reducible first | exact HB.out | apply below_alloc | apply pw_below_drewN | apply below_drew1 | refine below_set ?_ GE341.out) | exact HB.out)))); have n1_ := Aside0.mk (blk_below (g := gb341) (o := .cells #[.int .i64 a0_0, .int .i64 a0_1, .slice A0_2 l0_2.length c0_2] 27 (0, 0)) (by (with_reducible repeat (first | refine blk_drewN ?_ _ | refine blk_drew ?_ | refine blk_alloc ?_ _)); exact BK341.out) hb); have n2_ := Aside0.mk (below_step (by repeat (first | (with_reducible first | exact HB.out | apply below_alloc | apply pw_below_drewN | apply below_drew1 | refine below_set ?_ GE341.out) | exact HB.out)) hb); clear BK341; clear HB; have HO344 := n0_; have BK341 := n1_; have HB := n2_; clear n0_ n1_ n2_; clear hb ho7))
      go_loopg [4] k (fun kq v4 w' => ∃ (x3_1 : List Int) (x4_1 : Int), v4 = .int .i64 x4_1 ∧ Aside0 (torusref30_Number.l0 kq x3_1 x4_1 a0_0 a0_1 l0_2 = some r) ∧ Aside0 (kq ≤ k) ∧ Aside0 (Kd.R (Kd.int .i64) 3 w' w.heap.size (fun _ => True) v343 x3_1) ∧ Aside0 (w'.heap[gb341]? = some (.cells #[.int .i64 a0_0, .int .i64 a0_1, (.slice A0_2 l0_2.length c0_2)] 27 (0, 0))) ∧ Aside0 (Below w.heap.size w w'))
      case atStart => exact ⟨(y342), (0), (by first | rfl | (simp; done) | (simp [*]; done)), H', ⟨Nat.le_refl _⟩, ⟨by (with_reducible repeat (first | apply Kd.R_alloc | apply Kd.R_drewN | apply Kd.R_drew)); exact HO344.out⟩, ⟨by (with_reducible repeat (first | refine blk_drewN ?_ _ | refine blk_drew ?_ | refine blk_alloc ?_ _)); exact BK341.out⟩, ⟨by repeat (first | (with_reducible first | exact HB.out | apply below_alloc | apply pw_below_drewN | apply below_drew1 | refine below_set ?_ GE341.out) | exact HB.out)⟩⟩
      case round =>
        clear H'
        try clear c2
        try clear c2b0
        try clear c2b1
        try clear p2
        try clear c3
        try clear c3b0
        try clear c3b1
        try clear c4
        try clear hcz5_0
        try clear hcz5_1
        try clear hcz5_2
        try clear hfz5_0
        try clear hfz5_1
        try clear hfz5_2
        obtain ⟨x3_1, x4_1, rfl, HA, HK1, HO_3, BK341, HB⟩ := hrel
        cases gk with
        | zero => exact absurd HA.out (by simp [torusref30_Number.l0])
        | succ k1 =>
          have H := HA.out
          clear HA
          simp only [torusref30_Number.l0] at H
          by_cases c8 : x4_1 < a0_1
          · rw [if_pos c8] at H
            have c8b0 : decide (x4_1 < a0_1) = true := decide_eq_true c8
            clear c8
            by_cases c9 : 0 ≤ x4_1
            · rw [if_pos c9] at H
              have c9b0 : decide (0 ≤ x4_1) = true := decide_eq_true c9
              clear c9
              by_cases c10 : x4_1 < (x3_1.length : Int)
              · rw [if_pos c10] at H
                have c10b0 : decide (x4_1 < (x3_1.length : Int)) = true := decide_eq_true c10
                clear c10
                obtain ⟨y345, hy345⟩ : ∃ y_ : List Int, y_ = (x3_1.set (x4_1 : Int).toNat (-1)) := ⟨_, rfl⟩
                replace H : (torusref30_Number.l0 k1 y345 (wrap64 (x4_1 + 1)) a0_0 a0_1 l0_2) = some r := by first | (rw [hy345]; with_reducible exact H) | (have H2_ := (Option.bind_some _ _).symm.trans H; rw [hy345]; with_reducible exact H2_) | (have H2_ := (Option.bind_some _ _).symm.trans H; with_reducible exact H2_) | with_reducible exact H | (rw [hy345]; exact H) | exact H
                have Ny345 := Aside0.mk hy345
                clear hy345
                have H' := Aside0.mk H
                clear H
                have hcz12_0 : wr.cell? ⟨gb341, 0, none⟩ = some (.int .i64 a0_0) := (blk_cell BK341.out 0).trans rfl
                have hcz12_1 : wr.cell? ⟨gb341, 1, none⟩ = some (.int .i64 a0_1) := (blk_cell BK341.out 1).trans rfl
                have hcz12_2 : wr.cell? ⟨gb341, 2, none⟩ = some (.slice A0_2 l0_2.length c0_2) := (blk_cell BK341.out 2).trans rfl
                have hfz12_0 := blk_frozen BK341.out 0
                have hfz12_1 := blk_frozen BK341.out 1
                have hfz12_2 := blk_frozen BK341.out 2
                have p11 : 0 ≤ (x4_1 : Int) := of_decide_eq_true (by first | (with_reducible assumption) | assumption)
                have q11 : (x4_1 : Int) < ((x3_1.length : Int) : Int) := of_decide_eq_true (by first | (with_reducible assumption) | assumption)
                obtain ⟨go11, co11, eo11, gb11, gl11, cl11, HG11⟩ := Kd.R_form HO_3.out (by first | omega | (have e_ := (Kd.R_reads' HO_3.out).1; omega))
                (first | cases eo11 | (injection eo11 with ea_ en_ ec_; (first | subst ea_ | (injection ea_ with ea_; subst ea_)); subst ec_; clear en_))
                have GB11 := Aside0.mk gb11
                have GG11 := Aside0.mk HG11
                clear gb11 gl11 HG11
                obtain ⟨hx11_0, hf11_0⟩ := Kd.R_celln 0 HO_3.out (x4_1 : Int) p11 q11
                replace p11 := eq_true p11
                replace q11 := eq_true q11
                have HP13 := Kd.R_putg HO_3.out (x4_1 : Int) (-1)
                go_wp2_with (first | ((with_reducible refine gate_store (t := 3) (p := 18) rfl ?_); refine store_event (t := 3) (p := 18) (v := ?vo_w14) (w1 := (wr.setCell ⟨go11, (x4_1 : Int).toNat, none⟩ (.int .i64 (-1)))) ?hg ?ho ?hn ?hr ?_; (case ho => rfl); (case hg => rfl); (case hn => rfl); (case hr => first | (go_simp; done) | (go_simp; rfl)); intro w14 hw; have hg : wr.grownBy w14 (some go11) := (by rw [hw]; exact HP13.2); have hp_ : Kd.R (Kd.int .i64) 3 w14 w.heap.size (fun _ => True) (.slice (some ⟨go11, 0, none⟩) x3_1.length co11) y345 := (by rw [hw, Ny345.out]; exact HP13.1); clear HP13; have n0_ := Aside0.mk (hp_); have n1_ := Aside0.mk (blk_grown (g := gb341) (o := .cells #[.int .i64 a0_0, .int .i64 a0_1, .slice A0_2 l0_2.length c0_2] 27 (0, 0)) (by (with_reducible repeat (first | refine blk_drewN ?_ _ | refine blk_drew ?_ | refine blk_alloc ?_ _)); exact BK341.out) hg (Kd.R_ne HO_3.out BK341.out (by decide))); have n2_ := Aside0.mk ((by rw [hw]; exact below_set (HB.out) GB11.out : Below w.heap.size w w14)); clear HO_3; clear BK341; clear HB; have HO_3 := n0_; have BK341 := n1_; have HB := n2_; clear n0_ n1_ n2_; clear hg hw hp_))
                go_roundg k1
                case measure => have := HK1.out; omega
                case rel => exact ⟨(y345), (wrap64 (x4_1 + 1)), (by first | rfl | (simp; done) | (simp [*]; done)), H', ⟨by have := HK1.out; omega⟩, ⟨by (with_reducible repeat (first | apply Kd.R_alloc | apply Kd.R_drewN | apply Kd.R_drew)); exact HO_3.out⟩, ⟨by (with_reducible repeat (first | refine blk_drewN ?_ _ | refine blk_drew ?_ | refine blk_alloc ?_ _)); exact BK341.out⟩, ⟨by repeat (first | (with_reducible first | exact HB.out | apply below_alloc | apply pw_below_drewN | apply below_drew1 | refine below_set ?_ GE341.out) | exact HB.out)⟩⟩
              · rw [if_neg c10] at H
                exact absurd H (by simp)
            · rw [if_neg c9] at H
              exact absurd H (by simp)
          · rw [if_neg c8] at H
            have c8b0 : decide (x4_1 < a0_1) = false := decide_eq_false c8
            clear c8
            have H' := Aside0.mk H
            clear H
            have hcz15_0 : wr.cell? ⟨gb341, 0, none⟩ = some (.int .i64 a0_0) := (blk_cell BK341.out 0).trans rfl
            have hcz15_1 : wr.cell? ⟨gb341, 1, none⟩ = some (.int .i64 a0_1) := (blk_cell BK341.out 1).trans rfl
            have hcz15_2 : wr.cell? ⟨gb341, 2, none⟩ = some (.slice A0_2 l0_2.length c0_2) := (blk_cell BK341.out 2).trans rfl
            have hfz15_0 := blk_frozen BK341.out 0
            have hfz15_1 := blk_frozen BK341.out 1
            have hfz15_2 := blk_frozen BK341.out 2
            go_wp2
            go_loopg [5, 6] k1 (fun kq v5 v6 w' => ∃ (x3_2 : List Int) (x5_2 : Int) (x6_2 : Int), v5 = .int .i64 x5_2 ∧ v6 = .int .i64 x6_2 ∧ Aside0 (torusref30_Number.l1 kq x3_2 x5_2 x6_2 a0_0 a0_1 l0_2 = some r) ∧ Aside0 (kq ≤ k1) ∧ Aside0 (Kd.R (Kd.int .i64) 3 w' w.heap.size (fun _ => True) v343 x3_2) ∧ Aside0 (w'.heap[gb341]? = some (.cells #[.int .i64 a0_0, .int .i64 a0_1, (.slice A0_2 l0_2.length c0_2)] 27 (0, 0))) ∧ Aside0 (Below w.heap.size w w'))
            case atStart => exact ⟨(x3_1), (0), (0), (by first | rfl | (simp; done) | (simp [*]; done)), (by first | rfl | (simp; done) | (simp [*]; done)), H', ⟨Nat.le_refl _⟩, ⟨by (with_reducible repeat (first | apply Kd.R_alloc | apply Kd.R_drewN | apply Kd.R_drew)); exact HO_3.out⟩, ⟨by (with_reducible repeat (first | refine blk_drewN ?_ _ | refine blk_drew ?_ | refine blk_alloc ?_ _)); exact BK341.out⟩, ⟨by repeat (first | (with_reducible first | exact HB.out | apply below_alloc | apply pw_below_drewN | apply below_drew1 | refine below_set ?_ GE341.out) | exact HB.out)⟩⟩
            case round =>
              clear H'
              try clear c1
              try clear p1
              try clear q1
              try clear hx1
              try clear hf1
              try clear c2
              try clear c2b0
              try clear c2b1
              try clear p2
              try clear c3
              try clear c3b0
              try clear c3b1
              try clear c4
              try clear p6
              try clear c8
              try clear c8b0
              try clear c9
              try clear c9b0
              try clear c10
              try clear c10b0
              try clear p11
              try clear q11
              try clear hx11
              try clear hf11
              try clear hcz12_0
              try clear hcz12_1
              try clear hcz12_2
              try clear hcz15_0
              try clear hcz15_1
              try clear hcz15_2
              try clear hcz5_0
              try clear hcz5_1
              try clear hcz5_2
              try clear hfz12_0
              try clear hfz12_1
              try clear hfz12_2
              try clear hfz15_0
              try clear hfz15_1
              try clear hfz15_2
              try clear hfz5_0
              try clear hfz5_1
              try clear hfz5_2
              try clear hx11_0
              try clear p11
              try clear p2
              try clear q11
              obtain ⟨x3_2, x5_2, x6_2, rfl, rfl, HA, HK2, HO_3, BK341, HB⟩ := hrel
              cases gk with
              | zero => exact absurd HA.out (by simp [torusref30_Number.l1])
              | succ k2 =>
                have H := HA.out
                clear HA
                simp only [torusref30_Number.l1] at H
                by_cases c16 : x6_2 < a0_0
                · rw [if_pos c16] at H
                  have c16b0 : decide (x6_2 < a0_0) = true := decide_eq_true c16
                  clear c16
                  by_cases c17 : 0 ≤ a0_1
                  · rw [if_pos c17] at H
                    have c17b0 := eq_true c17
                    have c17b1 : decide (0 ≤ a0_1) = true := decide_eq_true c17
                    clear c17
                    by_cases c18 : (a0_1 : Int).toNat ≤ 281474976710656
                    · rw [if_pos c18] at H
                      have c18b0 := eq_true c18
                      have c18b1 : decide ((a0_1 : Int).toNat ≤ 281474976710656) = true := decide_eq_true c18
                      clear c18
                      obtain ⟨y346, hy346⟩ : ∃ y_ : List Bool, y_ = (List.replicate (a0_1 : Int).toNat false) := ⟨_, rfl⟩
                      replace H : ((torusref30_Find.f k2 a0_0 a0_1 l0_2 x6_2 x3_2 y346).bind fun bt349 => (if bt349.1 = true then (torusref30_Number.l1 k2 bt349.2.1 (wrap64 (x5_2 + 1)) (wrap64 (x6_2 + 1)) a0_0 a0_1 l0_2) else (torusref30_Number.l1 k2 bt349.2.1 x5_2 (wrap64 (x6_2 + 1)) a0_0 a0_1 l0_2))) = some r := by first | (rw [hy346]; with_reducible exact H) | (have H2_ := (Option.bind_some _ _).symm.trans H; rw [hy346]; with_reducible exact H2_) | (have H2_ := (Option.bind_some _ _).symm.trans H; with_reducible exact H2_) | with_reducible exact H | (rw [hy346]; exact H) | exact H
                      have Ny346 := Aside0.mk hy346
                      clear hy346
                      replace H := Option.bind_eq_some_iff.mp H
                      obtain ⟨⟨t349, t350, t351⟩, A190, H⟩ := H
                      replace H : (if t349 = true then (torusref30_Number.l1 k2 t350 (wrap64 (x5_2 + 1)) (wrap64 (x6_2 + 1)) a0_0 a0_1 l0_2) else (torusref30_Number.l1 k2 t350 x5_2 (wrap64 (x6_2 + 1)) a0_0 a0_1 l0_2)) = some r := H
                      have A19 := Aside0.mk A190
                      clear A190
                      by_cases c20 : t349 = true
                      · subst c20
                        have H1 : (torusref30_Number.l1 k2 t350 (wrap64 (x5_2 + 1)) (wrap64 (x6_2 + 1)) a0_0 a0_1 l0_2) = some r := by rw [if_pos rfl] at H; exact H
                        clear H
                        have H := H1
                        clear H1
                        have H' := Aside0.mk H
                        clear H
                        have hcz21_0 : wr.cell? ⟨gb341, 0, none⟩ = some (.int .i64 a0_0) := (blk_cell BK341.out 0).trans rfl
                        have hcz21_1 : wr.cell? ⟨gb341, 1, none⟩ = some (.int .i64 a0_1) := (blk_cell BK341.out 1).trans rfl
                        have hcz21_2 : wr.cell? ⟨gb341, 2, none⟩ = some (.slice A0_2 l0_2.length c0_2) := (blk_cell BK341.out 2).trans rfl
                        have hfz21_0 := blk_frozen BK341.out 0
                        have hfz21_1 := blk_frozen BK341.out 1
                        have hfz21_2 := blk_frozen BK341.out 2
                        try go_wp2
                        have n0_ := Aside0.mk (Kd.R_drew HO_3.out)
                        have n1_ := Aside0.mk (blk_drew BK341.out)
                        have n2_ := Aside0.mk (below_drew1 HB.out)
                        clear HO_3
                        clear BK341
                        clear HB
                        have HO_3 := n0_
                        have BK341 := n1_
                        have HB := n2_
                        clear n0_ n1_ n2_
                        refine start_ (n := 7) (S := fun w' => w'.cell? ⟨gb341, 0, none⟩ = some (.int .i64 a0_0) ∧ w'.cell? ⟨gb341, 1, none⟩ = some (.int .i64 a0_1) ∧ w'.cell? ⟨gb341, 2, none⟩ = some (.slice A0_2 l0_2.length c0_2)) (ds := []) #[false, false, false, false, false, false, false] (by kernel_rfl) rfl rfl ⟨(blk_cell BK341.out 0).trans rfl, (blk_cell BK341.out 1).trans rfl, (blk_cell BK341.out 2).trans rfl⟩ (fun hHeld => ?_)
                        generalize wr.drew = w22 at HO_3 BK341 HB hHeld ⊢
                        refine pure_ (i := 1) (N := some 26) (v := ?_) (a' := ?_) #[false, true, false, false, false, false, false] rfl rfl (by kernel_rfl) (fun _ _ _ h => h) (Or.inl ⟨by rfl, ?_⟩) ?_ ?_
                        rotate_left
                        · intro w'
                          go_simp
                          with_reducible rfl
                        rotate_left
                        · simp only [Act.put, List.setIfInBounds_toArray, List.set_cons_zero, List.set_cons_succ, i64_w, i32_w]
                          rfl
                        refine pure_ (i := 2) (N := some 27) (v := ?_) (a' := ?_) #[false, true, true, false, false, false, false] rfl rfl (by kernel_rfl) (fun _ _ _ h => h) (Or.inl ⟨by rfl, ?_⟩) ?_ ?_
                        rotate_left
                        · intro w'
                          go_simp
                          with_reducible rfl
                        rotate_left
                        · simp only [Act.put, List.setIfInBounds_toArray, List.set_cons_zero, List.set_cons_succ, i64_w, i32_w]
                          rfl
                        refine pure_ (i := 3) (N := some 28) (v := ?_) (a' := ?_) #[false, true, true, true, false, false, false] rfl rfl (by kernel_rfl) (fun _ _ _ h => h) (Or.inl ⟨by rfl, ?_⟩) ?_ ?_
                        rotate_left
                        · intro w'
                          go_simp
                          with_reducible rfl
                        rotate_left
                        · simp only [Act.put, List.setIfInBounds_toArray, List.set_cons_zero, List.set_cons_succ, i64_w, i32_w]
                          rfl
                        refine take_ (i := 0) (N := some 25) (v := ?_) (a' := ?_) #[true, true, true, true, false, false, false] rfl rfl (by kernel_rfl) (fun _ _ _ h => h) (Or.inl ⟨by rfl, ?_⟩) hHeld ?_ ?_
                        rotate_left
                        · rintro w' ⟨s0, s1, s2⟩
                          go_simp
                          with_reducible rfl
                        rotate_left
                        · simp only [Act.put, List.setIfInBounds_toArray, List.set_cons_zero, List.set_cons_succ, i64_w, i32_w]
                          rfl
                        refine take_ (i := 4) (N := some 29) (v := ?_) (a' := ?_) #[true, true, true, true, true, false, false] rfl rfl (by kernel_rfl) (fun _ _ _ h => h) (Or.inl ⟨by rfl, ?_⟩) hHeld ?_ ?_
                        rotate_left
                        · rintro w' ⟨s0, s1, s2⟩
                          go_simp
                          with_reducible rfl
                        rotate_left
                        · simp only [Act.put, List.setIfInBounds_toArray, List.set_cons_zero, List.set_cons_succ, i64_w, i32_w]
                          rfl
                        refine one_ (i := 5) (N := some 30) #[true, true, true, true, true, true, false] rfl rfl (by kernel_rfl) (by decide) (fun K hK => ?_)
                        refine Kd.R_make_step Kd.bool _ 4 (by rfl) (N := 30) rfl 65 _ _ rfl a0_1 rfl rfl Try.underlying65 (.bool false) 1 info4 rfl (by decide) (by omega) false (ok := fun _ => True) (okp := fun _ => True) rfl (fun _ hk => hk) trivial (of_decide_eq_true (by first | (with_reducible assumption) | assumption)) (Nat.le_trans (Nat.mul_le_mul_right _ (of_decide_eq_true (by first | (with_reducible assumption) | assumption) : a0_1.toNat ≤ 281474976710656)) (by omega)) (Below.refl _ _) (Nat.le_refl _) ?_
                        intro v347 w23 ho24 hb hg_ hnew_
                        clear hg_ hnew_
                        (first | rw [← Ny346.out] at ho24 | (simp only [Int.reduceToNat] at ho24; rw [← Ny346.out] at ho24))
                        have n0_ := Aside0.mk (Kd.R_below (by (with_reducible repeat (first | apply Kd.R_alloc | apply Kd.R_drewN | apply Kd.R_drew)); exact HO_3.out) hb)
                        have n1_ := Aside0.mk (Kd.R_lower ho24 (below_size (by repeat (first | (with_reducible first | exact HB.out | apply below_alloc | apply pw_below_drewN | apply below_drew1 | refine below_set ?_ GE341.out) | exact HB.out))))
                        have n2_ := Aside0.mk (blk_below (g := gb341) (o := .cells #[.int .i64 a0_0, .int .i64 a0_1, .slice A0_2 l0_2.length c0_2] 27 (0, 0)) (by (with_reducible repeat (first | refine blk_drewN ?_ _ | refine blk_drew ?_ | refine blk_alloc ?_ _)); exact BK341.out) hb)
                        have n3_ := Aside0.mk (below_step (by repeat (first | (with_reducible first | exact HB.out | apply below_alloc | apply pw_below_drewN | apply below_drew1 | refine below_set ?_ GE341.out) | exact HB.out)) hb)
                        clear HO_3
                        clear BK341
                        clear HB
                        have HO_3 := n0_
                        have HO348 := n1_
                        have BK341 := n2_
                        have HB := n3_
                        clear n0_ n1_ n2_ n3_
                        clear hb ho24
                        obtain ⟨Ao25, co25, eo25⟩ := Kd.R_slice HO_3.out
                        (first | subst eo25 | (injection eo25 with f1_ f2_ f3_; have f4_ := f1_.symm; have f5_ := f3_.symm; clear f1_ f2_ f3_; subst f4_; subst f5_))
                        obtain ⟨Ao26, co26, eo26⟩ := Kd.R_slice HO348.out
                        (first | subst eo26 | (injection eo26 with f1_ f2_ f3_; have f4_ := f1_.symm; have f5_ := f3_.symm; clear f1_ f2_ f3_; subst f4_; subst f5_))
                        refine hK.out _ _ ⟨(blk_cell BK341.out 0).trans rfl, (blk_cell BK341.out 1).trans rfl, (blk_cell BK341.out 2).trans rfl⟩ (fun hHeld => ?_)
                        clear hK K
                        refine norm_ (a' := ?_) ?_ ?_
                        rotate_left
                        · show Act.put _ (some 30) _ = _
                          simp only [Act.put, List.setIfInBounds_toArray, List.set_cons_zero, List.set_cons_succ, i64_w, i32_w]
                          rfl
                        refine one_ (i := 6) (N := some 31) #[true, true, true, true, true, true, true] rfl rfl (by kernel_rfl) (by decide) (fun K hK => ?_)
                        refine goes_ Try.func51 (by kernel_rfl) rfl #[.agg #[.int .i64 a0_0, .int .i64 a0_1, .slice A0_2 l0_2.length c0_2], .int .i64 x6_2, .slice Ao25 x3_2.length co25, .slice Ao26 y346.length co26] (by rfl) rfl rfl (by (try simp only [List.map_toArray, List.map_cons, List.map_nil]); first | done | rfl | (simp only [List.length_drop, List.length_take]; rfl)) ?_
                        with_reducible refine (torusref30_Find.calls k2 a0_0 a0_1 _ _ l0_2 x6_2 (fun k_ => some k_ = (.slice Ao25 x3_2.length co25 : Value).ownBlock) (.slice Ao25 x3_2.length co25) x3_2 (fun k_ => some k_ = (.slice Ao26 y346.length co26 : Value).ownBlock) (.slice Ao26 y346.length co26) y346 true t350 t351 w _ ?side1 ?side2 ?side3 ?side4 ?side5 A19.out).mono ?_
                        (case side1 => repeat (first | (with_reducible first | exact HB.out | apply below_alloc | apply pw_below_drewN | apply below_drew1 | refine below_set ?_ GE341.out) | exact HB.out))
                        (case side2 => exact Kd.C_kept_came k40_heap HR0_2.out (by repeat (first | (with_reducible first | exact HB.out | apply below_alloc | apply pw_below_drewN | apply below_drew1 | refine below_set ?_ GE341.out) | exact HB.out)) (fun k_ hs_ => Or.elim hs_ (fun e_ => (fun e_ => Kd.R_base HO_3.out k_ e_.symm) e_) (fun e_ => (fun e_ => Kd.R_base HO348.out k_ e_.symm) e_)))
                        (case side3 => exact HC0_2.out)
                        (case side4 => exact Kd.R_tight rfl HO_3.out)
                        (case side5 => exact Kd.R_tight rfl HO348.out)
                        rintro e w27 ⟨rfl, hy0, hy1, hb, hkp⟩
                        refine ⟨_, rfl, ?_⟩
                        have n0_ := Aside0.mk (Kd.R_reok rfl hy0 (fun k_ e_ => HO_3.out.1 k_ e_))
                        have n1_ := Aside0.mk (blk_kept (by (with_reducible repeat (first | refine blk_drewN ?_ _ | refine blk_drew ?_ | refine blk_alloc ?_ _)); exact BK341.out) hkp (fun hs_ => Or.elim hs_ (fun e_ => (fun e_ => (Kd.R_ne HO_3.out BK341.out (by decide)) e_) e_) (fun e_ => (fun e_ => (Kd.R_ne HO348.out BK341.out (by decide)) e_) e_)))
                        have n2_ := Aside0.mk (Kd.R_reok rfl hy1 (fun k_ e_ => HO348.out.1 k_ e_))
                        have n3_ := Aside0.mk (hb)
                        clear HO_3
                        clear BK341
                        clear HO348
                        clear HB
                        have HO_3 := n0_
                        have BK341 := n1_
                        have HO348 := n2_
                        have HB := n3_
                        clear n0_ n1_ n2_ n3_
                        (try clear hb)
                        (try clear hkp)
                        (try clear hy0)
                        (try clear hy1)
                        refine hK.out _ _ ⟨(blk_cell BK341.out 0).trans rfl, (blk_cell BK341.out 1).trans rfl, (blk_cell BK341.out 2).trans rfl⟩ (fun hHeld => ?_)
                        clear hK K
                        refine norm_ (a' := ?_) ?_ ?_
                        rotate_left
                        · show Act.put _ (some 31) _ = _
                          simp only [Act.put, List.setIfInBounds_toArray, List.set_cons_zero, List.set_cons_succ, i64_w, i32_w]
                          rfl
                        refine done_ (by kernel_rfl) ?_
                        try go_wp2
                        go_roundg k2
                        case measure => have := HK1.out; have := HK2.out; omega
                        case rel => exact ⟨(t350), (wrap64 (x5_2 + 1)), (wrap64 (x6_2 + 1)), (by first | rfl | (simp; done) | (simp [*]; done)), (by first | rfl | (simp; done) | (simp [*]; done)), H', ⟨by have := HK1.out; have := HK2.out; omega⟩, ⟨by (with_reducible repeat (first | apply Kd.R_alloc | apply Kd.R_drewN | apply Kd.R_drew)); exact HO_3.out⟩, ⟨by (with_reducible repeat (first | refine blk_drewN ?_ _ | refine blk_drew ?_ | refine blk_alloc ?_ _)); exact BK341.out⟩, ⟨by repeat (first | (with_reducible first | exact HB.out | apply below_alloc | apply pw_below_drewN | apply below_drew1 | refine below_set ?_ GE341.out) | exact HB.out)⟩⟩
                      · replace c20 := Bool.eq_false_iff.mpr c20
                        subst c20
                        have H1 : (torusref30_Number.l1 k2 t350 x5_2 (wrap64 (x6_2 + 1)) a0_0 a0_1 l0_2) = some r := by rw [if_neg (show ¬ (false = true) by decide)] at H; exact H
                        clear H
                        have H := H1
                        clear H1
                        have H' := Aside0.mk H
                        clear H
                        have hcz28_0 : wr.cell? ⟨gb341, 0, none⟩ = some (.int .i64 a0_0) := (blk_cell BK341.out 0).trans rfl
                        have hcz28_1 : wr.cell? ⟨gb341, 1, none⟩ = some (.int .i64 a0_1) := (blk_cell BK341.out 1).trans rfl
                        have hcz28_2 : wr.cell? ⟨gb341, 2, none⟩ = some (.slice A0_2 l0_2.length c0_2) := (blk_cell BK341.out 2).trans rfl
                        have hfz28_0 := blk_frozen BK341.out 0
                        have hfz28_1 := blk_frozen BK341.out 1
                        have hfz28_2 := blk_frozen BK341.out 2
                        try go_wp2
                        have n0_ := Aside0.mk (Kd.R_drew HO_3.out)
                        have n1_ := Aside0.mk (blk_drew BK341.out)
                        have n2_ := Aside0.mk (below_drew1 HB.out)
                        clear HO_3
                        clear BK341
                        clear HB
                        have HO_3 := n0_
                        have BK341 := n1_
                        have HB := n2_
                        clear n0_ n1_ n2_
                        refine start_ (n := 7) (S := fun w' => w'.cell? ⟨gb341, 0, none⟩ = some (.int .i64 a0_0) ∧ w'.cell? ⟨gb341, 1, none⟩ = some (.int .i64 a0_1) ∧ w'.cell? ⟨gb341, 2, none⟩ = some (.slice A0_2 l0_2.length c0_2)) (ds := []) #[false, false, false, false, false, false, false] (by kernel_rfl) rfl rfl ⟨(blk_cell BK341.out 0).trans rfl, (blk_cell BK341.out 1).trans rfl, (blk_cell BK341.out 2).trans rfl⟩ (fun hHeld => ?_)
                        generalize wr.drew = w29 at HO_3 BK341 HB hHeld ⊢
                        refine pure_ (i := 1) (N := some 26) (v := ?_) (a' := ?_) #[false, true, false, false, false, false, false] rfl rfl (by kernel_rfl) (fun _ _ _ h => h) (Or.inl ⟨by rfl, ?_⟩) ?_ ?_
                        rotate_left
                        · intro w'
                          go_simp
                          with_reducible rfl
                        rotate_left
                        · simp only [Act.put, List.setIfInBounds_toArray, List.set_cons_zero, List.set_cons_succ, i64_w, i32_w]
                          rfl
                        refine pure_ (i := 2) (N := some 27) (v := ?_) (a' := ?_) #[false, true, true, false, false, false, false] rfl rfl (by kernel_rfl) (fun _ _ _ h => h) (Or.inl ⟨by rfl, ?_⟩) ?_ ?_
                        rotate_left
                        · intro w'
                          go_simp
                          with_reducible rfl
                        rotate_left
                        · simp only [Act.put, List.setIfInBounds_toArray, List.set_cons_zero, List.set_cons_succ, i64_w, i32_w]
                          rfl
                        refine pure_ (i := 3) (N := some 28) (v := ?_) (a' := ?_) #[false, true, true, true, false, false, false] rfl rfl (by kernel_rfl) (fun _ _ _ h => h) (Or.inl ⟨by rfl, ?_⟩) ?_ ?_
                        rotate_left
                        · intro w'
                          go_simp
                          with_reducible rfl
                        rotate_left
                        · simp only [Act.put, List.setIfInBounds_toArray, List.set_cons_zero, List.set_cons_succ, i64_w, i32_w]
                          rfl
                        refine take_ (i := 0) (N := some 25) (v := ?_) (a' := ?_) #[true, true, true, true, false, false, false] rfl rfl (by kernel_rfl) (fun _ _ _ h => h) (Or.inl ⟨by rfl, ?_⟩) hHeld ?_ ?_
                        rotate_left
                        · rintro w' ⟨s0, s1, s2⟩
                          go_simp
                          with_reducible rfl
                        rotate_left
                        · simp only [Act.put, List.setIfInBounds_toArray, List.set_cons_zero, List.set_cons_succ, i64_w, i32_w]
                          rfl
                        refine take_ (i := 4) (N := some 29) (v := ?_) (a' := ?_) #[true, true, true, true, true, false, false] rfl rfl (by kernel_rfl) (fun _ _ _ h => h) (Or.inl ⟨by rfl, ?_⟩) hHeld ?_ ?_
                        rotate_left
                        · rintro w' ⟨s0, s1, s2⟩
                          go_simp
                          with_reducible rfl
                        rotate_left
                        · simp only [Act.put, List.setIfInBounds_toArray, List.set_cons_zero, List.set_cons_succ, i64_w, i32_w]
                          rfl
                        refine one_ (i := 5) (N := some 30) #[true, true, true, true, true, true, false] rfl rfl (by kernel_rfl) (by decide) (fun K hK => ?_)
                        refine Kd.R_make_step Kd.bool _ 4 (by rfl) (N := 30) rfl 65 _ _ rfl a0_1 rfl rfl Try.underlying65 (.bool false) 1 info4 rfl (by decide) (by omega) false (ok := fun _ => True) (okp := fun _ => True) rfl (fun _ hk => hk) trivial (of_decide_eq_true (by first | (with_reducible assumption) | assumption)) (Nat.le_trans (Nat.mul_le_mul_right _ (of_decide_eq_true (by first | (with_reducible assumption) | assumption) : a0_1.toNat ≤ 281474976710656)) (by omega)) (Below.refl _ _) (Nat.le_refl _) ?_
                        intro v347 w30 ho31 hb hg_ hnew_
                        clear hg_ hnew_
                        (first | rw [← Ny346.out] at ho31 | (simp only [Int.reduceToNat] at ho31; rw [← Ny346.out] at ho31))
                        have n0_ := Aside0.mk (Kd.R_below (by (with_reducible repeat (first | apply Kd.R_alloc | apply Kd.R_drewN | apply Kd.R_drew)); exact HO_3.out) hb)
                        have n1_ := Aside0.mk (Kd.R_lower ho31 (below_size (by repeat (first | (with_reducible first | exact HB.out | apply below_alloc | apply pw_below_drewN | apply below_drew1 | refine below_set ?_ GE341.out) | exact HB.out))))
                        have n2_ := Aside0.mk (blk_below (g := gb341) (o := .cells #[.int .i64 a0_0, .int .i64 a0_1, .slice A0_2 l0_2.length c0_2] 27 (0, 0)) (by (with_reducible repeat (first | refine blk_drewN ?_ _ | refine blk_drew ?_ | refine blk_alloc ?_ _)); exact BK341.out) hb)
                        have n3_ := Aside0.mk (below_step (by repeat (first | (with_reducible first | exact HB.out | apply below_alloc | apply pw_below_drewN | apply below_drew1 | refine below_set ?_ GE341.out) | exact HB.out)) hb)
                        clear HO_3
                        clear BK341
                        clear HB
                        have HO_3 := n0_
                        have HO348 := n1_
                        have BK341 := n2_
                        have HB := n3_
                        clear n0_ n1_ n2_ n3_
                        clear hb ho31
                        obtain ⟨Ao32, co32, eo32⟩ := Kd.R_slice HO_3.out
                        (first | subst eo32 | (injection eo32 with f1_ f2_ f3_; have f4_ := f1_.symm; have f5_ := f3_.symm; clear f1_ f2_ f3_; subst f4_; subst f5_))
                        obtain ⟨Ao33, co33, eo33⟩ := Kd.R_slice HO348.out
                        (first | subst eo33 | (injection eo33 with f1_ f2_ f3_; have f4_ := f1_.symm; have f5_ := f3_.symm; clear f1_ f2_ f3_; subst f4_; subst f5_))
                        refine hK.out _ _ ⟨(blk_cell BK341.out 0).trans rfl, (blk_cell BK341.out 1).trans rfl, (blk_cell BK341.out 2).trans rfl⟩ (fun hHeld => ?_)
                        clear hK K
                        refine norm_ (a' := ?_) ?_ ?_
                        rotate_left
                        · show Act.put _ (some 30) _ = _
                          simp only [Act.put, List.setIfInBounds_toArray, List.set_cons_zero, List.set_cons_succ, i64_w, i32_w]
                          rfl
                        refine one_ (i := 6) (N := some 31) #[true, true, true, true, true, true, true] rfl rfl (by kernel_rfl) (by decide) (fun K hK => ?_)
                        refine goes_ Try.func51 (by kernel_rfl) rfl #[.agg #[.int .i64 a0_0, .int .i64 a0_1, .slice A0_2 l0_2.length c0_2], .int .i64 x6_2, .slice Ao32 x3_2.length co32, .slice Ao33 y346.length co33] (by rfl) rfl rfl (by (try simp only [List.map_toArray, List.map_cons, List.map_nil]); first | done | rfl | (simp only [List.length_drop, List.length_take]; rfl)) ?_
                        with_reducible refine (torusref30_Find.calls k2 a0_0 a0_1 _ _ l0_2 x6_2 (fun k_ => some k_ = (.slice Ao32 x3_2.length co32 : Value).ownBlock) (.slice Ao32 x3_2.length co32) x3_2 (fun k_ => some k_ = (.slice Ao33 y346.length co33 : Value).ownBlock) (.slice Ao33 y346.length co33) y346 false t350 t351 w _ ?side1 ?side2 ?side3 ?side4 ?side5 A19.out).mono ?_
                        (case side1 => repeat (first | (with_reducible first | exact HB.out | apply below_alloc | apply pw_below_drewN | apply below_drew1 | refine below_set ?_ GE341.out) | exact HB.out))
                        (case side2 => exact Kd.C_kept_came k40_heap HR0_2.out (by repeat (first | (with_reducible first | exact HB.out | apply below_alloc | apply pw_below_drewN | apply below_drew1 | refine below_set ?_ GE341.out) | exact HB.out)) (fun k_ hs_ => Or.elim hs_ (fun e_ => (fun e_ => Kd.R_base HO_3.out k_ e_.symm) e_) (fun e_ => (fun e_ => Kd.R_base HO348.out k_ e_.symm) e_)))
                        (case side3 => exact HC0_2.out)
                        (case side4 => exact Kd.R_tight rfl HO_3.out)
                        (case side5 => exact Kd.R_tight rfl HO348.out)
                        rintro e w34 ⟨rfl, hy0, hy1, hb, hkp⟩
                        refine ⟨_, rfl, ?_⟩
                        have n0_ := Aside0.mk (Kd.R_reok rfl hy0 (fun k_ e_ => HO_3.out.1 k_ e_))
                        have n1_ := Aside0.mk (blk_kept (by (with_reducible repeat (first | refine blk_drewN ?_ _ | refine blk_drew ?_ | refine blk_alloc ?_ _)); exact BK341.out) hkp (fun hs_ => Or.elim hs_ (fun e_ => (fun e_ => (Kd.R_ne HO_3.out BK341.out (by decide)) e_) e_) (fun e_ => (fun e_ => (Kd.R_ne HO348.out BK341.out (by decide)) e_) e_)))
                        have n2_ := Aside0.mk (Kd.R_reok rfl hy1 (fun k_ e_ => HO348.out.1 k_ e_))
                        have n3_ := Aside0.mk (hb)
                        clear HO_3
                        clear BK341
                        clear HO348
                        clear HB
                        have HO_3 := n0_
                        have BK341 := n1_
                        have HO348 := n2_
                        have HB := n3_
                        clear n0_ n1_ n2_ n3_
                        (try clear hb)
                        (try clear hkp)
                        (try clear hy0)
                        (try clear hy1)
                        refine hK.out _ _ ⟨(blk_cell BK341.out 0).trans rfl, (blk_cell BK341.out 1).trans rfl, (blk_cell BK341.out 2).trans rfl⟩ (fun hHeld => ?_)
                        clear hK K
                        refine norm_ (a' := ?_) ?_ ?_
                        rotate_left
                        · show Act.put _ (some 31) _ = _
                          simp only [Act.put, List.setIfInBounds_toArray, List.set_cons_zero, List.set_cons_succ, i64_w, i32_w]
                          rfl
                        refine done_ (by kernel_rfl) ?_
                        try go_wp2
                        go_roundg k2
                        case measure => have := HK1.out; have := HK2.out; omega
                        case rel => exact ⟨(t350), (x5_2), (wrap64 (x6_2 + 1)), (by first | rfl | (simp; done) | (simp [*]; done)), (by first | rfl | (simp; done) | (simp [*]; done)), H', ⟨by have := HK1.out; have := HK2.out; omega⟩, ⟨by (with_reducible repeat (first | apply Kd.R_alloc | apply Kd.R_drewN | apply Kd.R_drew)); exact HO_3.out⟩, ⟨by (with_reducible repeat (first | refine blk_drewN ?_ _ | refine blk_drew ?_ | refine blk_alloc ?_ _)); exact BK341.out⟩, ⟨by repeat (first | (with_reducible first | exact HB.out | apply below_alloc | apply pw_below_drewN | apply below_drew1 | refine below_set ?_ GE341.out) | exact HB.out)⟩⟩
                    · rw [if_neg c18] at H
                      exact absurd H (by simp)
                  · rw [if_neg c17] at H
                    exact absurd H (by simp)
                · rw [if_neg c16] at H
                  have c16b0 : decide (x6_2 < a0_0) = false := decide_eq_false c16
                  clear c16
                  obtain rfl := Option.some.inj H
                  have hcz35_0 : wr.cell? ⟨gb341, 0, none⟩ = some (.int .i64 a0_0) := (blk_cell BK341.out 0).trans rfl
                  have hcz35_1 : wr.cell? ⟨gb341, 1, none⟩ = some (.int .i64 a0_1) := (blk_cell BK341.out 1).trans rfl
                  have hcz35_2 : wr.cell? ⟨gb341, 2, none⟩ = some (.slice A0_2 l0_2.length c0_2) := (blk_cell BK341.out 2).trans rfl
                  have hfz35_0 := blk_frozen BK341.out 0
                  have hfz35_1 := blk_frozen BK341.out 1
                  have hfz35_2 := blk_frozen BK341.out 2
                  go_wp2
                  go_ret
                  exact ⟨by first | rfl | (simp [errW_none, errW_some] <;> rfl) | (simp [*, errW_none, errW_some] <;> rfl), by repeat (first | (with_reducible first | exact HB.out | apply below_alloc | apply pw_below_drewN | apply below_drew1 | refine below_set ?_ GE341.out) | exact HB.out)⟩
    · rw [if_neg c3] at H
      exact absurd H (by simp)
  · rw [if_neg c2] at H
    exact absurd H (by simp)
def torusref30_Size.f (k : Nat) (a0_0 : Int) (a0_1 : Int) (l0_2 : List (S40)) : Option (Int × Int) := (torusref30_Check.f k a0_0 a0_1 l0_2).bind fun t353 => (if t353 = 0 then ((torusref30_Number.f k a0_0 a0_1 l0_2).bind fun t354 => (some (t354, 0))) else (some (0, t353)))
theorem torusref30_Size.mono : ∀ a0 a1 a2 k, LeO (torusref30_Size.f k a0 a1 a2) (torusref30_Size.f (k + 1) a0 a1 a2) := by
  intro a0 a1 a2 k
  unfold torusref30_Size.f
  repeat' first
      | (with_reducible exact torusref30_Check.mono _ _ _ _)
      | (with_reducible exact torusref30_Number.mono _ _ _ _)
      | (with_reducible exact LeO.refl _)
      | (with_reducible exact LeO.none _)
      | (with_reducible refine LeO.ite ?_ ?_)
      | (with_reducible refine LeO.bind ?_ (fun _ => ?_))
      | exact torusref30_Check.mono _ _ _ _
      | exact torusref30_Number.mono _ _ _ _
      | exact LeO.none _
      | refine LeO.ite ?_ ?_
      | refine LeO.bind ?_ (fun _ => ?_)
set_option maxHeartbeats 8000000 in
set_option maxRecDepth 100000 in
theorem torusref30_Size.calls (k : Nat) (a0_0 : Int) (a0_1 : Int) (A0_2 : Option Addr) (c0_2 : Nat) (l0_2 : List (S40)) (r1 : Int) (r2 : Int) (w : World) (hr0_2 : Kd.C k40 w A0_2 l0_2.length l0_2) (hc0_2 : l0_2.length ≤ c0_2) (h : torusref30_Size.f k a0_0 a0_1 l0_2 = some (r1, r2)) :
    Calls Try.prog 22 #[.agg #[.int .i64 a0_0, .int .i64 a0_1, .slice A0_2 l0_2.length c0_2]] w fun e w' => e = .returned (.tuple #[.int .i64 r1, .int .i64 r2]) ∧ Below w.heap.size w w' := by
  have hu27 := Try.underlying27
  have HR0_2 := Aside0.mk hr0_2
  have HC0_2 := Aside0.mk hc0_2
  clear hr0_2 hc0_2
  have HB := Aside0.mk (Below.refl w.heap.size w)
  have H : ((torusref30_Check.f k a0_0 a0_1 l0_2).bind fun t353 => (if t353 = 0 then ((torusref30_Number.f k a0_0 a0_1 l0_2).bind fun t354 => (some (t354, 0))) else (some (0, t353)))) = some (r1, r2) := h
  clear h
  replace H := Option.bind_eq_some_iff.mp H
  obtain ⟨t353, A20, H⟩ := H
  replace H : (if t353 = 0 then ((torusref30_Number.f k a0_0 a0_1 l0_2).bind fun t354 => (some (t354, 0))) else (some (0, t353))) = some (r1, r2) := H
  have A2 := Aside0.mk A20
  clear A20
  by_cases c3 : t353 = 0
  · rw [if_pos c3] at H
    have c3b0 : (t353 == 0) = true := beq_iff_eq.mpr c3
    have c3b1 : (t353 != 0) = false := bne_eq_false_iff_eq.mpr c3
    clear c3
    replace H := Option.bind_eq_some_iff.mp H
    obtain ⟨t354, A40, H⟩ := H
    replace H : (some (t354, 0)) = some (r1, r2) := H
    have A4 := Aside0.mk A40
    clear A40
    simp only [Option.some.injEq, Prod.mk.injEq] at H
    obtain ⟨rfl, rfl⟩ := H
    go_enter Try.func22, Try.ntmps22
    go_wp2_with (first | ((with_reducible refine gate_dst (N := 1) rfl ?_); refine box_event ?hg (N := 1) ?hd (cs := #[.int .i64 a0_0, .int .i64 a0_1, .slice A0_2 l0_2.length c0_2]) (t := 27) ?hr ?_; (case hd => rfl); (case hg => rfl); (case hr => first | (go_simp; done) | (go_simp; rfl)); intro gb352 hg w5 hbox hb; have n0_ := Aside0.mk (below_step (by repeat (first | (with_reducible first | exact HB.out | apply below_alloc | apply pw_below_drewN | apply below_drew1) | exact HB.out)) hb); have n1_ := Aside0.mk (hbox); have n2_ := Aside0.mk ((by rw [hg]; exact (below_size (by repeat (first | (with_reducible first | exact HB.out | apply below_alloc | apply pw_below_drewN | apply below_drew1) | exact HB.out))) : w.heap.size ≤ gb352)); have n3_ := Aside0.mk ((by rw [hg]; exact (below_size (by repeat (first | (with_reducible first | exact HB.out | apply below_alloc | apply pw_below_drewN | apply below_drew1) | exact HB.out))) : w.heap.size ≤ gb352)); clear HB; have HB := n0_; have BK352 := n1_; have GW352 := n2_; have GE352 := n3_; clear n0_ n1_ n2_ n3_; clear hb hbox hg; have hcz6_0 : w5.cell? ⟨gb352, 0, none⟩ = some (.int .i64 a0_0) := (blk_cell BK352.out 0).trans rfl; have hcz6_1 : w5.cell? ⟨gb352, 1, none⟩ = some (.int .i64 a0_1) := (blk_cell BK352.out 1).trans rfl; have hcz6_2 : w5.cell? ⟨gb352, 2, none⟩ = some (.slice A0_2 l0_2.length c0_2) := (blk_cell BK352.out 2).trans rfl; have hfz6_0 := blk_frozen BK352.out 0; have hfz6_1 := blk_frozen BK352.out 1; have hfz6_2 := blk_frozen BK352.out 2) | ((with_reducible refine gate_callee (f := 24) rfl ?_); refine goesL_ (some 6) rfl rfl Try.func24 (by kernel_rfl) rfl #[.agg #[.int .i64 a0_0, .int .i64 a0_1, .slice A0_2 l0_2.length c0_2]] rfl (by (try simp only [List.map_toArray, List.map_cons, List.map_nil]); first | done | rfl | (simp only [List.length_drop, List.length_take]; rfl)) ?_; (with_reducible refine (torusref30_Check.calls k a0_0 a0_1 _ _ l0_2 t353 _ ?side1 ?side2 A2.out).mono ?_); (case side1 => repeat (first | exact (Kd.C_below HR0_2.out HB.out) | (with_reducible refine Kd.C_alloc ?_ _) | (with_reducible refine Kd.C_drewN ?_ _) | (with_reducible refine Kd.C_drew ?_))); (case side2 => exact HC0_2.out); rintro e w7 ⟨rfl, hb⟩; refine ⟨_, rfl, ?_⟩; have n0_ := Aside0.mk (blk_below (g := gb352) (o := .cells #[.int .i64 a0_0, .int .i64 a0_1, .slice A0_2 l0_2.length c0_2] 27 (0, 0)) (by (with_reducible repeat (first | refine blk_drewN ?_ _ | refine blk_drew ?_ | refine blk_alloc ?_ _)); exact BK352.out) hb); have n1_ := Aside0.mk (below_step (by repeat (first | (with_reducible first | exact HB.out | apply below_alloc | apply pw_below_drewN | apply below_drew1 | refine below_set ?_ GE352.out) | exact HB.out)) hb); clear BK352; clear HB; have BK352 := n0_; have HB := n1_; clear n0_ n1_; (try clear hb); (try clear hb2); (try clear hk); (try clear hi); have hcz8_0 : w7.cell? ⟨gb352, 0, none⟩ = some (.int .i64 a0_0) := (blk_cell BK352.out 0).trans rfl; have hcz8_1 : w7.cell? ⟨gb352, 1, none⟩ = some (.int .i64 a0_1) := (blk_cell BK352.out 1).trans rfl; have hcz8_2 : w7.cell? ⟨gb352, 2, none⟩ = some (.slice A0_2 l0_2.length c0_2) := (blk_cell BK352.out 2).trans rfl; have hfz8_0 := blk_frozen BK352.out 0; have hfz8_1 := blk_frozen BK352.out 1; have hfz8_2 := blk_frozen BK352.out 2) | ((with_reducible refine gate_callee (f := 44) rfl ?_); refine goesL_ (some 11) rfl rfl Try.func44 (by kernel_rfl) rfl #[.agg #[.int .i64 a0_0, .int .i64 a0_1, .slice A0_2 l0_2.length c0_2]] rfl (by (try simp only [List.map_toArray, List.map_cons, List.map_nil]); first | done | rfl | (simp only [List.length_drop, List.length_take]; rfl)) ?_; (with_reducible refine (torusref30_Number.calls k a0_0 a0_1 _ _ l0_2 t354 _ ?side1 ?side2 A4.out).mono ?_); (case side1 => repeat (first | exact (Kd.C_below HR0_2.out HB.out) | (with_reducible refine Kd.C_alloc ?_ _) | (with_reducible refine Kd.C_drewN ?_ _) | (with_reducible refine Kd.C_drew ?_))); (case side2 => exact HC0_2.out); rintro e w9 ⟨rfl, hb⟩; refine ⟨_, rfl, ?_⟩; have n0_ := Aside0.mk (blk_below (g := gb352) (o := .cells #[.int .i64 a0_0, .int .i64 a0_1, .slice A0_2 l0_2.length c0_2] 27 (0, 0)) (by (with_reducible repeat (first | refine blk_drewN ?_ _ | refine blk_drew ?_ | refine blk_alloc ?_ _)); exact BK352.out) hb); have n1_ := Aside0.mk (below_step (by repeat (first | (with_reducible first | exact HB.out | apply below_alloc | apply pw_below_drewN | apply below_drew1 | refine below_set ?_ GE352.out) | exact HB.out)) hb); clear BK352; clear HB; have BK352 := n0_; have HB := n1_; clear n0_ n1_; (try clear hb); (try clear hb2); (try clear hk); (try clear hi)))
    go_ret2
    exact ⟨by first | rfl | (simp [errW_none, errW_some] <;> rfl) | (simp [*, errW_none, errW_some] <;> rfl), by repeat (first | (with_reducible first | exact HB.out | apply below_alloc | apply pw_below_drewN | apply below_drew1 | refine below_set ?_ GE352.out) | exact HB.out)⟩
  · rw [if_neg c3] at H
    have c3b0 : (t353 == 0) = false := beq_eq_false_iff_ne.mpr c3
    have c3b1 : (t353 != 0) = true := bne_iff_ne.mpr c3
    simp only [Option.some.injEq, Prod.mk.injEq] at H
    obtain ⟨rfl, rfl⟩ := H
    go_enter Try.func22, Try.ntmps22
    go_wp2_with (first | ((with_reducible refine gate_dst (N := 1) rfl ?_); refine box_event ?hg (N := 1) ?hd (cs := #[.int .i64 a0_0, .int .i64 a0_1, .slice A0_2 l0_2.length c0_2]) (t := 27) ?hr ?_; (case hd => rfl); (case hg => rfl); (case hr => first | (go_simp; done) | (go_simp; rfl)); intro gb352 hg w10 hbox hb; have n0_ := Aside0.mk (below_step (by repeat (first | (with_reducible first | exact HB.out | apply below_alloc | apply pw_below_drewN | apply below_drew1) | exact HB.out)) hb); have n1_ := Aside0.mk (hbox); have n2_ := Aside0.mk ((by rw [hg]; exact (below_size (by repeat (first | (with_reducible first | exact HB.out | apply below_alloc | apply pw_below_drewN | apply below_drew1) | exact HB.out))) : w.heap.size ≤ gb352)); have n3_ := Aside0.mk ((by rw [hg]; exact (below_size (by repeat (first | (with_reducible first | exact HB.out | apply below_alloc | apply pw_below_drewN | apply below_drew1) | exact HB.out))) : w.heap.size ≤ gb352)); clear HB; have HB := n0_; have BK352 := n1_; have GW352 := n2_; have GE352 := n3_; clear n0_ n1_ n2_ n3_; clear hb hbox hg; have hcz11_0 : w10.cell? ⟨gb352, 0, none⟩ = some (.int .i64 a0_0) := (blk_cell BK352.out 0).trans rfl; have hcz11_1 : w10.cell? ⟨gb352, 1, none⟩ = some (.int .i64 a0_1) := (blk_cell BK352.out 1).trans rfl; have hcz11_2 : w10.cell? ⟨gb352, 2, none⟩ = some (.slice A0_2 l0_2.length c0_2) := (blk_cell BK352.out 2).trans rfl; have hfz11_0 := blk_frozen BK352.out 0; have hfz11_1 := blk_frozen BK352.out 1; have hfz11_2 := blk_frozen BK352.out 2) | ((with_reducible refine gate_callee (f := 24) rfl ?_); refine goesL_ (some 6) rfl rfl Try.func24 (by kernel_rfl) rfl #[.agg #[.int .i64 a0_0, .int .i64 a0_1, .slice A0_2 l0_2.length c0_2]] rfl (by (try simp only [List.map_toArray, List.map_cons, List.map_nil]); first | done | rfl | (simp only [List.length_drop, List.length_take]; rfl)) ?_; (with_reducible refine (torusref30_Check.calls k a0_0 a0_1 _ _ l0_2 t353 _ ?side1 ?side2 A2.out).mono ?_); (case side1 => repeat (first | exact (Kd.C_below HR0_2.out HB.out) | (with_reducible refine Kd.C_alloc ?_ _) | (with_reducible refine Kd.C_drewN ?_ _) | (with_reducible refine Kd.C_drew ?_))); (case side2 => exact HC0_2.out); rintro e w12 ⟨rfl, hb⟩; refine ⟨_, rfl, ?_⟩; have n0_ := Aside0.mk (blk_below (g := gb352) (o := .cells #[.int .i64 a0_0, .int .i64 a0_1, .slice A0_2 l0_2.length c0_2] 27 (0, 0)) (by (with_reducible repeat (first | refine blk_drewN ?_ _ | refine blk_drew ?_ | refine blk_alloc ?_ _)); exact BK352.out) hb); have n1_ := Aside0.mk (below_step (by repeat (first | (with_reducible first | exact HB.out | apply below_alloc | apply pw_below_drewN | apply below_drew1 | refine below_set ?_ GE352.out) | exact HB.out)) hb); clear BK352; clear HB; have BK352 := n0_; have HB := n1_; clear n0_ n1_; (try clear hb); (try clear hb2); (try clear hk); (try clear hi)))
    go_ret2
    exact ⟨by first | rfl | (simp [errW_none, errW_some] <;> rfl) | (simp [*, errW_none, errW_some] <;> rfl), by repeat (first | (with_reducible first | exact HB.out | apply below_alloc | apply pw_below_drewN | apply below_drew1 | refine below_set ?_ GE352.out) | exact HB.out)⟩
end Go.Proofs.Ytlleokhmgblfnaa.M
end

section
namespace Go.Proofs.Ytlleokhmgblfnaa.H
open Go.RowKit Go.Proofs.YtlleokhmgblfnaaW.PrintWords
theorem info3 : (Try.prog.info? 3).map (fun i => (i.zero, i.size, i.bytes)) = some (some (.int .i64 0), 1, 8) := by kernel_rfl
theorem info4 : (Try.prog.info? 4).map (fun i => (i.zero, i.size, i.bytes)) = some (some (.bool false), 1, 1) := by kernel_rfl
theorem info29 : (Try.prog.info? 29).map (fun i => (i.zero, i.size, i.bytes)) = some (some (.slice none 0 0), 1, 24) := by kernel_rfl
theorem info40 : (Try.prog.info? 40).map (fun i => (i.zero, i.size, i.bytes)) = some (some (.agg #[.int .i64 0, .int .i64 0]), 2, 16) := by kernel_rfl
def kE : Kd (Int × Int) := Kd.pair (Kd.int .i64) (Kd.int .i64)
theorem kE_sz : kE.sz = 2 := rfl
def rdE (xs : List (Int × Int)) (i : Int) : Int × Int := xs.getD i.toNat (0, 0)
theorem at_E {w : World} {A : Option Addr} {n : Nat} {xs : List (Int × Int)} (h : kE.C w A n xs) (i : Int) (h0 : 0 ≤ i) (h1 : i < n) :
    ∃ ad, A = some ad ∧ w.cell? (ad.add (i.toNat * 2)) = some (.int .i64 (rdE xs i).1) ∧ w.cell? ⟨(ad.add (i.toNat * 2)).block, (ad.add (i.toNat * 2)).off + 1, none⟩ = some (.int .i64 (rdE xs i).2) := by
  obtain ⟨ad, c, e, _, ⟨c0, c1, rfl, h0', h1'⟩, hc⟩ := Kd.C_get h ((0, 0) : Int × Int) i h0 h1
  have e0 : c0 = [.int .i64 (rdE xs i).1] := h0'
  have e1 : c1 = [.int .i64 (rdE xs i).2] := h1'
  subst e0 e1
  refine ⟨ad, e, ?_, ?_⟩
  · simpa [kE_sz] using hc 0 _ rfl
  · rw [← add_field ad _ 1 (by omega)]; simpa [kE_sz] using hc 1 _ rfl
theorem drop_E (xs : List (Int × Int)) (i : Int) (h0 : 0 ≤ i) (h1 : i < xs.length) : xs.drop i.toNat = rdE xs i :: xs.drop (i.toNat + 1) := by
  rw [List.drop_eq_getElem_cons (by omega)]
  simp [rdE, show i.toNat < xs.length by omega]
theorem eqE_d (n : Nat) (w : World) (a b c d : Int) : (Op.equalIn (n + 2) 40 (.agg #[.int .i64 a, .int .i64 b]) (.agg #[.int .i64 c, .int .i64 d])).run Try.prog w = .ok (a == c && b == d) w := by
  have hs : (sizeOf 3).run Try.prog w = .ok 1 w := by kernel_rfl
  have p0 : ∀ x y : Int, (part 3 #[.int .i64 x, .int .i64 y] 0).run Try.prog w = .ok (.int .i64 x) w := fun x y => by go_simp
  have p1 : ∀ x y : Int, (part 3 #[.int .i64 x, .int .i64 y] 1).run Try.prog w = .ok (.int .i64 y) w := fun x y => by go_simp
  have e0 : ∀ x y : Int, (Op.equalIn (n + 1) 3 (.int .i64 x) (.int .i64 y)).run Try.prog w = .ok (x == y) w := fun x y => run_equalIn_int w n 3 .i64 .i64 x y Try.underlying3
  rw [Op.equalIn]
  simp only [Sem.run_bind, run_underlying Try.underlying40, Result.andThen_ok, hs]
  simp [Std.Legacy.Range.forIn_eq_forIn_range', List.range', p0, p1, e0]
  cases h1 : a == c <;> cases h2 : b == d <;> simp_all
theorem eqE (w : World) (a b c d : Int) : (Op.equalIn 10000 40 (.agg #[.int .i64 a, .int .i64 b]) (.agg #[.int .i64 c, .int .i64 d])).run Try.prog w = .ok (a == c && b == d) w := eqE_d 9998 w a b c d
end Go.Proofs.Ytlleokhmgblfnaa.H
end

section
namespace Go.Proofs.Ytlleokhmgblfnaa.H
open Go.RowKit Go.Proofs.YtlleokhmgblfnaaW.PrintWords
def Row (w : World) (g : Nat) (xs : List Int) : Prop := w.heap[g]? = some (.cells (xs.map (Value.int .i64)).toArray 3 (0, 0))
section
variable {w w1 : World} {g : Nat} {xs : List Int}
theorem Row.lt (h : Row w g xs) : g < w.heap.size := blk_lt h
theorem Row.cell (h : Row w g xs) (i : Int) (h0 : 0 ≤ i) (h1 : i < xs.length) : w.cell? ⟨g, i.toNat, none⟩ = some (.int .i64 (rd xs i)) := by
  rw [blk_cell h]
  simp [rd, show i.toNat < xs.length by omega]
theorem Row.frozen (h : Row w g xs) (i : Int) : w.frozen? ⟨g, i.toNat, none⟩ = false := blk_frozen h _
theorem Row.set (h : Row w g xs) (i x : Int) : Row (w.setCell ⟨g, i.toNat, none⟩ (.int .i64 x)) g (xs.set i.toNat x) := by
  have := blk_set h i.toNat (.int .i64 x)
  unfold Row
  rw [this]
  simp [List.map_set]
theorem Row.ne (h : Row w g xs) {g' t : Nat} {cs : Array Value} (hb : w.heap[g']? = some (.cells cs t (0, 0))) (ht : t ≠ 3) : g' ≠ g := blk_ne hb h ht
theorem Row.far (h : Row w g xs) {p : Addr} (hp : g ≠ p.block) (u : Value) : Row (w.setCell p u) g xs := blk_far h hp u
theorem Row.move (h : Row w g xs) (hm : w1.heap[g]? = w.heap[g]?) : Row w1 g xs := hm.trans h
theorem Row.alloc (h : Row w g xs) (o : Obj) : Row (w.alloc o) g xs := blk_alloc h o
theorem Row.drewN (h : Row w g xs) (n : Nat) : Row (w.drewN n) g xs := h
theorem Row.reads (h : Row w g xs) (hm : xs.length ≤ 9223372036854775807) : Kd.C (Kd.int .i64) w (some ⟨g, 0, none⟩) xs.length xs := by
  refine Kd.C_of_reads (d := (0 : Int)) ⟨rfl, hm, fun _ => ⟨_, rfl, fun j hj => ?_⟩⟩
  rw [add_plain]
  have := h.cell j (by omega) (by omega)
  simpa [rd, rdOf] using this
end
end Go.Proofs.Ytlleokhmgblfnaa.H
namespace Go.Proofs.Ytlleokhmgblfnaa.H
open Go.RowKit Go.Proofs.YtlleokhmgblfnaaW.PrintWords
def rdL (xs : List (List Int)) (i : Int) : List Int := xs.getD i.toNat []
theorem at_L {w : World} {A : Option Addr} {n : Nat} {xs : List (List Int)} (h : Kd.C (Kd.slice 3 (Kd.int .i64)) w A n xs) (i : Int) (h0 : 0 ≤ i) (h1 : i < n) :
    ∃ ad A0 c0, A = some ad ∧ w.cell? (ad.add i.toNat) = some (.slice A0 (rdL xs i).length c0) ∧ (rdL xs i).length ≤ c0 ∧ (Kd.int .i64).C w A0 (rdL xs i).length (rdL xs i) := by
  obtain ⟨ad, c, e, _, hK, hc0⟩ := Kd.C_get h ([] : List Int) i h0 h1
  have hc : ∀ j u, c[j]? = some u → w.cell? (ad.add (i.toNat * 1 + j)) = some u := hc0
  obtain ⟨A0, c0, rfl, l0, g0⟩ := hK
  exact ⟨ad, A0, c0, e, by have hq := hc 0 _ rfl; rwa [Nat.mul_one, Nat.add_zero] at hq, l0, g0⟩
def extG (next : List (List Int)) : Nat → Int → Int → List Int → List Int → List Int → Option (Bool × List Int × List Int × List Int)
  | 0, _, _, _, _, _ => none
  | k + 1, v, j, m, b, l =>
    if j < (rdL next v).length then
      if 0 ≤ rd (rdL next v) j then
        if rd (rdL next v) j < b.length then
          if rd b (rd (rdL next v) j) < 0 then some (true, m.set v.toNat (rd (rdL next v) j), b.set (rd (rdL next v) j).toNat v, l)
          else if rd b (rd (rdL next v) j) < l.length then
            if rd b (rd (rdL next v) j) < next.length then
              if rd l (rd b (rd (rdL next v) j)) = wrap64 (rd l v + 1) then
                match extG next k (rd b (rd (rdL next v) j)) 0 m b l with
                | none => none
                | some (true, m1, b1, l1) => some (true, m1.set v.toNat (rd (rdL next v) j), b1.set (rd (rdL next v) j).toNat v, l1)
                | some (false, m1, b1, l1) => extG next k v (j + 1) m1 b1 l1
              else extG next k v (j + 1) m b l
            else none
          else none
        else none
      else none
    else some (false, m, b, l.set v.toNat (-1))
structure ExtW (w0 : World) (next : List (List Int)) (R : Nat) (A0 : Option Addr) (c0 Bn Bm Bb Bl Bx gm gb gl : Nat) (m b l : List Int) (w : World) : Prop where
  below : Below w0.heap.size w0 w
  hn : w.heap[Bn]? = some (.cells #[.slice A0 next.length c0] 69 (0, 0))
  hm : w.heap[Bm]? = some (.cells #[.slice (some ⟨gm, 0, none⟩) next.length next.length] 29 (0, 0))
  hb : w.heap[Bb]? = some (.cells #[.slice (some ⟨gb, 0, none⟩) R R] 29 (0, 0))
  hl : w.heap[Bl]? = some (.cells #[.slice (some ⟨gl, 0, none⟩) next.length next.length] 29 (0, 0))
  hx : w.heap[Bx]? = some (.cells #[.func (.func 53) #[] #[.pointer (some ⟨Bn, 0, none⟩), .pointer (some ⟨Bb, 0, none⟩), .pointer (some ⟨Bl, 0, none⟩), .pointer (some ⟨Bx, 0, none⟩), .pointer (some ⟨Bm, 0, none⟩)]] 84 (0, 0))
  rm : Row w gm m
  rb : Row w gb b
  rl : Row w gl l
  lm : m.length = next.length
  lb : b.length = R
  ll : l.length = next.length
  gmb : gm ≠ gb
  gml : gm ≠ gl
  gbl : gb ≠ gl
  om : w0.heap.size ≤ gm
  ob : w0.heap.size ≤ gb
  ol : w0.heap.size ≤ gl
section
variable {w0 w : World} {next : List (List Int)} {R : Nat} {A0 : Option Addr} {c0 Bn Bm Bb Bl Bx gm gb gl : Nat} {m b l : List Int}
theorem ExtW.drewN (h : ExtW w0 next R A0 c0 Bn Bm Bb Bl Bx gm gb gl m b l w) (n : Nat) : ExtW w0 next R A0 c0 Bn Bm Bb Bl Bx gm gb gl m b l (w.drewN n) :=
  ⟨pw_below_drewN h.below n, h.hn, h.hm, h.hb, h.hl, h.hx, h.rm, h.rb, h.rl, h.lm, h.lb, h.ll, h.gmb, h.gml, h.gbl, h.om, h.ob, h.ol⟩
theorem ExtW.drew (h : ExtW w0 next R A0 c0 Bn Bm Bb Bl Bx gm gb gl m b l w) : ExtW w0 next R A0 c0 Bn Bm Bb Bl Bx gm gb gl m b l w.drew :=
  ⟨h.below.drew, h.hn, h.hm, h.hb, h.hl, h.hx, h.rm, h.rb, h.rl, h.lm, h.lb, h.ll, h.gmb, h.gml, h.gbl, h.om, h.ob, h.ol⟩
theorem ExtW.setM (h : ExtW w0 next R A0 c0 Bn Bm Bb Bl Bx gm gb gl m b l w) (v x : Int) : ExtW w0 next R A0 c0 Bn Bm Bb Bl Bx gm gb gl (m.set v.toNat x) b l (w.setCell ⟨gm, v.toNat, none⟩ (.int .i64 x)) :=
  ⟨below_set h.below h.om, blk_far h.hn (h.rm.ne h.hn (by decide)) _, blk_far h.hm (h.rm.ne h.hm (by decide)) _, blk_far h.hb (h.rm.ne h.hb (by decide)) _, blk_far h.hl (h.rm.ne h.hl (by decide)) _, blk_far h.hx (h.rm.ne h.hx (by decide)) _,
    h.rm.set v x, h.rb.far h.gmb.symm _, h.rl.far h.gml.symm _, by rw [List.length_set]; exact h.lm, h.lb, h.ll, h.gmb, h.gml, h.gbl, h.om, h.ob, h.ol⟩
theorem ExtW.setB (h : ExtW w0 next R A0 c0 Bn Bm Bb Bl Bx gm gb gl m b l w) (v x : Int) : ExtW w0 next R A0 c0 Bn Bm Bb Bl Bx gm gb gl m (b.set v.toNat x) l (w.setCell ⟨gb, v.toNat, none⟩ (.int .i64 x)) :=
  ⟨below_set h.below h.ob, blk_far h.hn (h.rb.ne h.hn (by decide)) _, blk_far h.hm (h.rb.ne h.hm (by decide)) _, blk_far h.hb (h.rb.ne h.hb (by decide)) _, blk_far h.hl (h.rb.ne h.hl (by decide)) _, blk_far h.hx (h.rb.ne h.hx (by decide)) _,
    h.rm.far h.gmb _, h.rb.set v x, h.rl.far h.gbl.symm _, h.lm, by rw [List.length_set]; exact h.lb, h.ll, h.gmb, h.gml, h.gbl, h.om, h.ob, h.ol⟩
theorem ExtW.setL (h : ExtW w0 next R A0 c0 Bn Bm Bb Bl Bx gm gb gl m b l w) (v x : Int) : ExtW w0 next R A0 c0 Bn Bm Bb Bl Bx gm gb gl m b (l.set v.toNat x) (w.setCell ⟨gl, v.toNat, none⟩ (.int .i64 x)) :=
  ⟨below_set h.below h.ol, blk_far h.hn (h.rl.ne h.hn (by decide)) _, blk_far h.hm (h.rl.ne h.hm (by decide)) _, blk_far h.hb (h.rl.ne h.hb (by decide)) _, blk_far h.hl (h.rl.ne h.hl (by decide)) _, blk_far h.hx (h.rl.ne h.hx (by decide)) _,
    h.rm.far h.gml _, h.rb.far h.gbl _, h.rl.set v x, h.lm, h.lb, by rw [List.length_set]; exact h.ll, h.gmb, h.gml, h.gbl, h.om, h.ob, h.ol⟩
end
def ExtPost (w0 : World) (next : List (List Int)) (R : Nat) (A0 : Option Addr) (c0 Bn Bm Bb Bl Bx gm gb gl : Nat) (r : Bool × List Int × List Int × List Int) (e : Ending) (w' : World) : Prop :=
  e = .returned (.bool r.1) ∧ ExtW w0 next R A0 c0 Bn Bm Bb Bl Bx gm gb gl r.2.1 r.2.2.1 r.2.2.2 w'
set_option maxHeartbeats 4000000 in
set_option maxRecDepth 100000 in
theorem ext_calls (w0 : World) (next : List (List Int)) (R : Nat) (A0 : Option Addr) (c0 Bn Bm Bb Bl Bx gm gb gl : Nat) (hN : Kd.C (Kd.slice 3 (Kd.int .i64)) w0 A0 next.length next) (hc : next.length ≤ c0) :
    ∀ (k : Nat) (v : Int) (m b l : List Int) (r : Bool × List Int × List Int × List Int) (w : World), 0 ≤ v → v < next.length → ExtW w0 next R A0 c0 Bn Bm Bb Bl Bx gm gb gl m b l w → extG next k v 0 m b l = some r →
      Calls Try.prog 53 #[.int .i64 v, .pointer (some ⟨Bn, 0, none⟩), .pointer (some ⟨Bb, 0, none⟩), .pointer (some ⟨Bl, 0, none⟩), .pointer (some ⟨Bx, 0, none⟩), .pointer (some ⟨Bm, 0, none⟩)] w (ExtPost w0 next R A0 c0 Bn Bm Bb Bl Bx gm gb gl r) := by
  have hmax := Kd.C_max hN
  have HN := Aside0.mk hN
  clear hN
  intro k
  induction k using Nat.strongRecOn with
  | ind k ih =>
  have IH := Aside0.mk ih
  clear ih
  intro v m b l r w hv0 hv1 hw hr
  have HW := Aside0.mk hw
  have HR := Aside0.mk hr
  clear hw hr
  obtain ⟨ad, A1, c1, eA, hx0, hl0, hI⟩ := at_L HN.out v hv0 hv1
  subst eA
  have HI := Aside0.mk hI
  have HL := Aside0.mk hl0
  have hmaxI := Kd.C_max hI
  clear hI hl0
  replace hx0 := pw_cell_below HW.out.below hx0
  have cn := blk_cell HW.out.hn 0
  simp only [List.getElem?_toArray, List.getElem?_cons_zero, List.getElem?_cons_succ] at cn
  go_enter Try.func53, Try.ntmps53
  go_wp2_with fail
  clear hx0 cn
  go_loopg [16] k (fun kq v16 wr => ∃ (j : Int) (m' b' l' : List Int), v16 = .int .i64 j ∧ Aside0 (0 ≤ j ∧ kq ≤ k ∧ extG next kq v j m' b' l' = some r) ∧ Aside0 (ExtW w0 next R (some ad) c0 Bn Bm Bb Bl Bx gm gb gl m' b' l' wr))
  case atStart => exact ⟨0, m, b, l, rfl, ⟨by omega, Nat.le_refl _, HR.out⟩, HW⟩
  case round =>
    clear HW HR
    obtain ⟨j, m', b', l', rfl, HA, HW⟩ := hrel
    have hj0 : 0 ≤ j := HA.out.1
    cases gk with
    | zero => exact absurd HA.out.2.2 (by simp [extG])
    | succ k1 =>
      have H := HA.out.2.2
      have HK := Aside0.mk HA.out.2.1
      clear HA
      simp only [extG] at H
      have dm := blk_cell HW.out.hm 0
      have db := blk_cell HW.out.hb 0
      have dl := blk_cell HW.out.hl 0
      have dx := blk_cell HW.out.hx 0
      simp only [List.getElem?_toArray, List.getElem?_cons_zero, List.getElem?_cons_succ] at dm db dl dx
      by_cases hlt : j < (rdL next v).length
      · rw [if_pos hlt] at H
        obtain ⟨ad1, eA, hy⟩ := Kd.at_int HI.out j hj0 hlt
        subst eA
        replace hy := pw_cell_below HW.out.below hy
        obtain ⟨x, hX⟩ : ∃ x, rd (rdL next v) j = x := ⟨_, rfl⟩
        rw [hX] at hy H
        have HX := Aside0.mk hX
        clear hX
        by_cases hx0 : 0 ≤ x
        · rw [if_pos hx0] at H
          by_cases hx1 : x < b'.length
          · rw [if_pos hx1, HW.out.lb] at *
            have hz := HW.out.rb.cell x hx0 (by rw [HW.out.lb]; exact hx1)
            obtain ⟨u, hU⟩ : ∃ u, rd b' x = u := ⟨_, rfl⟩
            rw [hU] at hz H
            have HU := Aside0.mk hU
            clear hU
            by_cases hu : u < 0
            · rw [if_pos hu] at H
              have hr := Option.some.inj H
              have HR := Aside0.mk hr
              clear H hr
              have hd : decide (u < 0) = true := decide_eq_true hu
              have fm := HW.out.rm.frozen v
              have cm := HW.out.rm.cell v hv0 (by rw [HW.out.lm]; exact hv1)
              have fb := HW.out.rb.frozen x
              have n1 := HW.out.gmb
              have n2 := n1.symm
              have n3 := HW.out.rm.ne HW.out.hb (by decide)
              have n4 := HW.out.rb.ne HW.out.hm (by decide)
              have n5 := n3.symm
              have n6 := n4.symm
              go_wp2
              go_quiet (fail)
              go_wp2
              go_region
              all_goals go_wp2
              all_goals go_ret
              all_goals exact ⟨by rw [← HR.out]; rfl, by rw [← HR.out]; exact (((HW.out.drewN _).setM v x).setB x v)⟩
            · rw [if_neg hu] at H
              have hu0 : 0 ≤ u := by omega
              by_cases hu1 : u < l'.length
              · rw [if_pos hu1] at H
                by_cases hu2 : u < next.length
                · rw [if_pos hu2] at H
                  have ll := HW.out.ll
                  have cu := HW.out.rl.cell u hu0 hu1
                  have cv := HW.out.rl.cell v hv0 (by rw [ll]; exact hv1)
                  have hd : decide (u < 0) = false := decide_eq_false hu
                  clear hu hu1 ll
                  by_cases he : rd l' u = wrap64 (rd l' v + 1)
                  · rw [if_pos he] at H
                    have heb : (rd l' u == wrap64 (rd l' v + 1)) = true := beq_iff_eq.2 he
                    clear he
                    cases hq : extG next k1 u 0 m' b' l' with
                    | none => rw [hq] at H; exact absurd H (by simp)
                    | some q =>
                      rw [hq] at H
                      obtain ⟨q0, q1, q2, q3⟩ := q
                      have hq' := Aside0.mk hq
                      have HH := Aside0.mk H
                      clear hq H
                      have hk1 : k1 < k := HK.out
                      have hk2 := Aside0.mk hk1
                      clear hk1
                      have heb2 : (rd l' u == IntKind.i64.wrap (rd l' v + 1)) = true := by rw [IntWalk.i64_left]; exact heb
                      go_wp2
                      go_still_tail 16, (by kernel_rfl)
                      change wpList _ _ _ _ _ wr.drew
                      go_wp2_with (go_at_call 53; refine (IH.out k1 hk2.out u m' b' l' (q0, q1, q2, q3) _ hu0 hu2 (HW.out.drew) hq'.out).mono ?_; rintro e w1 ⟨rfl, hw1⟩; have HW1 := Aside0.mk hw1; clear hw1)
                      · have hq0 : q0 = true := by assumption
                        subst hq0
                        have hr := Option.some.inj HH.out
                        have HR := Aside0.mk hr
                        clear hr HH HW
                        have dm := blk_cell HW1.out.hm 0
                        have db := blk_cell HW1.out.hb 0
                        simp only [List.getElem?_toArray, List.getElem?_cons_zero] at dm db
                        have fm := HW1.out.rm.frozen v
                        have cm := HW1.out.rm.cell v hv0 (by rw [HW1.out.lm]; exact hv1)
                        have fb := HW1.out.rb.frozen x
                        have cb := HW1.out.rb.cell x hx0 (by rw [HW1.out.lb]; exact hx1)
                        have n1 := HW1.out.gmb
                        have n2 := n1.symm
                        have n3 := HW1.out.rm.ne HW1.out.hb (by decide)
                        have n4 := HW1.out.rb.ne HW1.out.hm (by decide)
                        have n5 := n3.symm
                        have n6 := n4.symm
                        go_wp2
                        go_region
                        all_goals go_wp2
                        all_goals go_ret
                        all_goals exact ⟨by rw [← HR.out]; rfl, by rw [← HR.out]; exact (((HW1.out.drew).setM v x).setB x v)⟩
                      · have hq0 : q0 = false := by assumption
                        subst hq0
                        have HH2 := Aside0.mk (show extG next k1 v (j + 1) q1 q2 q3 = some r from HH.out)
                        clear HH
                        go_roundg k1
                        case measure => omega
                        case rel => exact ⟨j + 1, q1, q2, q3, by go_num, ⟨by omega, by have := HK.out; omega, HH2.out⟩, HW1⟩
                  · rw [if_neg he] at H
                    have heb : (rd l' u == wrap64 (rd l' v + 1)) = false := beq_eq_false_iff_ne.2 he
                    have HH := Aside0.mk H
                    clear he H
                    go_wp2
                    go_quiet (fail)
                    go_wp2
                    go_roundg k1
                    case measure => omega
                    case rel => exact ⟨j + 1, m', b', l', by go_num, ⟨by omega, by have := HK.out; omega, HH.out⟩, ⟨HW.out.drewN _⟩⟩
                · rw [if_neg hu2] at H
                  exact absurd H (by simp)
              · rw [if_neg hu1] at H
                exact absurd H (by simp)
          · rw [if_neg hx1] at H
            exact absurd H (by simp)
        · rw [if_neg hx0] at H
          exact absurd H (by simp)
      · rw [if_neg hlt] at H
        have hr := Option.some.inj H
        have HR := Aside0.mk hr
        clear H hr
        have cv := HW.out.rl.cell v hv0 (by rw [HW.out.ll]; exact hv1)
        have fv := HW.out.rl.frozen v
        go_wp2
        go_ret
        exact ⟨by rw [← HR.out]; rfl, by rw [← HR.out]; exact HW.out.setL v (-1)⟩
end Go.Proofs.Ytlleokhmgblfnaa.H
end

section
namespace Go.Proofs.Ytlleokhmgblfnaa.H
open Go.RowKit Go.Proofs.YtlleokhmgblfnaaW.PrintWords
def levA (mate : List Int) (n : Int) : Nat → Int → List Int → List Int → Option (List Int × List Int)
  | 0, _, _, _ => none
  | k + 1, i, l, q =>
    if i < n then
      if i < l.length then
        if i < mate.length then
          if rd mate i < 0 then
            if q.length < 17592186044416 then levA mate n k (i + 1) ((l.set i.toNat (-1)).set i.toNat 0) (q ++ [i]) else none
          else levA mate n k (i + 1) (l.set i.toNat (-1)) q
        else none
      else none
    else some (l, q)
def levC (back ws : List Int) (v : Int) : Nat → Int → Bool → List Int → List Int → Option (Bool × List Int × List Int)
  | 0, _, _, _, _ => none
  | k + 1, j, f, l, q =>
    if j < ws.length then
      if 0 ≤ rd ws j then
        if rd ws j < back.length then
          if rd back (rd ws j) < 0 then levC back ws v k (j + 1) true l q
          else if rd back (rd ws j) < l.length then
            if rd l (rd back (rd ws j)) < 0 then
              if v < l.length then
                if q.length < 17592186044416 then levC back ws v k (j + 1) f (l.set (rd back (rd ws j)).toNat (wrap64 (rd l v + 1))) (q ++ [rd back (rd ws j)]) else none
              else none
            else levC back ws v k (j + 1) f l q
          else none
        else none
      else none
    else some (f, l, q)
def levB (next : List (List Int)) (back : List Int) : Nat → Bool → List Int → List Int → Option (Bool × List Int)
  | 0, _, _, _ => none
  | k + 1, f, l, [] => some (f, l)
  | k + 1, f, l, v :: q =>
    if 0 ≤ v then
      if v < next.length then (levC back (rdL next v) v k 0 f l q).bind fun s => levB next back k s.1 s.2.1 s.2.2
      else none
    else none
def levF (next : List (List Int)) (mate back : List Int) (k : Nat) (l : List Int) : Option (Bool × List Int) :=
  (levA mate next.length k 0 l []).bind fun s => levB next back k false s.1 s.2
structure LevW (w0 w : World) (gm gb gl : Nat) (mate back l : List Int) (wr : World) : Prop where
  below : Below w0.heap.size w0 wr
  keep : KeepBut w wr gl none
  rm : Row wr gm mate
  rb : Row wr gb back
  rl : Row wr gl l
theorem Q_put {w : World} {base g : Nat} {v : Value} {xs : List Int} (h : Kd.Q (Kd.int .i64) 3 w base (fun _ => True) v xs) (hg : g < base) (i : Nat) (u : Value) : Kd.Q (Kd.int .i64) 3 (w.setCell ⟨g, i, none⟩ u) base (fun _ => True) v xs :=
  Kd.Q_mono (Kd.Q_far (p := ⟨g, i, none⟩) (Kd.Q_bound h) (fun k hk => by have := hk.2.1; show k ≠ g; omega) u) (fun _ _ => trivial)
section
variable {w0 w wr : World} {gm gb gl : Nat} {mate back l : List Int}
theorem LevW.put (h : LevW w0 w gm gb gl mate back l wr) (n1 : gm ≠ gl) (n2 : gb ≠ gl) (ol : w0.heap.size ≤ gl) (i x : Int) : LevW w0 w gm gb gl mate back (l.set i.toNat x) (wr.setCell ⟨gl, i.toNat, none⟩ (.int .i64 x)) :=
  ⟨below_set h.below ol, h.keep.set_ _ _, h.rm.far n1 _, h.rb.far n2 _, h.rl.set i x⟩
theorem LevW.alloc (h : LevW w0 w gm gb gl mate back l wr) (o : Obj) : LevW w0 w gm gb gl mate back l (wr.alloc o) :=
  ⟨below_alloc h.below o, keep_alloc h.keep o, h.rm.alloc o, h.rb.alloc o, h.rl.alloc o⟩
theorem LevW.grown {w1 : World} {row : Option Nat} (h : LevW w0 w gm gb gl mate back l wr) (ow : w0.heap.size ≤ w.heap.size) (hg : wr.grownBy w1 row) (hr : ∀ k, row = some k → w.heap.size ≤ k) (b1 : gm < w.heap.size) (b2 : gb < w.heap.size) (b3 : gl < w.heap.size) : LevW w0 w gm gb gl mate back l w1 := by
  have ne : ∀ g, g < w.heap.size → some g ≠ row := fun g hg e => by have := hr g e.symm; omega
  refine ⟨pw_below_grown h.below row h.below.size hg (fun k hk => Nat.le_trans ow (hr k hk)), ?_, h.rm.move (hg.block gm h.rm.lt (ne _ b1)), h.rb.move (hg.block gb h.rb.lt (ne _ b2)), h.rl.move (hg.block gl h.rl.lt (ne _ b3))⟩
  refine ⟨Nat.le_trans h.keep.1 hg.size, fun i hi hne _ => ?_⟩
  exact (hg.block i (Nat.lt_of_lt_of_le hi h.keep.1) (ne i hi)).trans (h.keep.2 i hi hne (by simp))
end
def LevPost (w0 w : World) (gm gb gl : Nat) (mate back : List Int) (r : Bool × List Int) (e : Ending) (w' : World) : Prop :=
  e = .returned (.bool r.1) ∧ LevW w0 w gm gb gl mate back r.2 w'
set_option maxHeartbeats 4000000 in
set_option maxRecDepth 100000 in
theorem levels_calls (w0 w : World) (next : List (List Int)) (A0 : Option Addr) (c0 gm gb gl nm nb : Nat) (mate back l : List Int) (k : Nat) (r : Bool × List Int)
    (hN : Kd.C (Kd.slice 3 (Kd.int .i64)) w0 A0 next.length next) (hc : next.length ≤ c0) (hB : Below w0.heap.size w0 w) (hm : Row w gm mate) (hb : Row w gb back) (hl : Row w gl l)
    (n1 : gm ≠ gl) (n2 : gb ≠ gl) (ol : w0.heap.size ≤ gl) (em : mate.length = nm) (eb : back.length = nb) (el : l.length = next.length) (h : levF next mate back k l = some r) :
    Calls Try.prog 54 #[.slice A0 next.length c0, .slice (some ⟨gm, 0, none⟩) nm nm, .slice (some ⟨gb, 0, none⟩) nb nb, .slice (some ⟨gl, 0, none⟩) next.length next.length] w (LevPost w0 w gm gb gl mate back r) := by
  have hmax := Kd.C_max hN
  have HN := Aside0.mk hN
  have b1 := hm.lt
  have b2 := hb.lt
  have b3 := hl.lt
  have OW := Aside0.mk hB.size
  have B1 := Aside0.mk b1
  have B2 := Aside0.mk b2
  have B3 := Aside0.mk b3
  have N1 := Aside0.mk n1
  have N2 := Aside0.mk n2
  have OL := Aside0.mk ol
  have EM := Aside0.mk em
  have EB := Aside0.mk eb
  have EL := Aside0.mk el
  have HW : Aside0 (LevW w0 w gm gb gl mate back l w) := ⟨⟨hB, KeepBut.refl _ _ _, hm, hb, hl⟩⟩
  unfold levF at h
  have H := Aside0.mk h
  clear hN hB hm hb hl n1 n2 ol em eb el h b1 b2 b3
  go_enter Try.func54, Try.ntmps54
  go_wp2_with fail
  go_loopg [9, 18] k (fun kq v9 v18 wr => ∃ (i : Int) (l' q' : List Int), v18 = .int .i64 i ∧ Aside0 (0 ≤ i ∧ (levA mate next.length kq i l' q').bind (fun s => levB next back k false s.1 s.2) = some r) ∧ Aside0 (l'.length = next.length ∧ LevW w0 w gm gb gl mate back l' wr) ∧ Aside0 (Kd.Q (Kd.int .i64) 3 wr w.heap.size (fun _ => True) v9 q'))
  case atStart => exact ⟨0, l, [], rfl, ⟨by omega, H.out⟩, ⟨EL.out, HW.out⟩, ⟨Kd.Q_nil _ _ _ _ _⟩⟩
  case round =>
    clear HW H
    obtain ⟨i, l', q', rfl, HA, HL, HQ⟩ := hrel
    have hi0 : 0 ≤ i := HA.out.1
    have HW : Aside0 (LevW w0 w gm gb gl mate back l' wr) := ⟨HL.out.2⟩
    cases gk with
    | zero => exact absurd HA.out.2 (by simp [levA])
    | succ k1 =>
      have H := HA.out.2
      clear HA
      simp only [levA] at H
      by_cases hlt : i < next.length
      · rw [if_pos hlt, if_pos (by rw [HL.out.1]; exact hlt)] at H
        by_cases hi1 : i < mate.length
        · rw [if_pos hi1] at H
          have hi2 : i < nm := by have := EM.out; omega
          have cm := HW.out.rm.cell i hi0 hi1
          have cl := HW.out.rl.cell i hi0 (by rw [HL.out.1]; exact hlt)
          have fl := HW.out.rl.frozen i
          have n1 := N1.out
          by_cases hneg : rd mate i < 0
          · rw [if_pos hneg] at H
            by_cases hq : q'.length < 17592186044416
            · rw [if_pos hq] at H
              have HH := Aside0.mk H
              clear H
              go_wp2_with (first | ((with_reducible refine gate_store (t := 3) (p := 23) rfl ?_); refine store_event (t := 3) (p := 23) (v := ?vo1) (w1 := (wr.setCell ⟨gl, i.toNat, none⟩ (.int .i64 (-1)))) ?hg1 ?ho1 ?hn1 ?hr1 ?_; (case ho1 => rfl); (case hg1 => rfl); (case hn1 => rfl); (case hr1 => first | (go_simp; done) | (go_simp; rfl)); intro w2 hw; have HW2 : Aside0 (LevW w0 w gm gb gl mate back (l'.set i.toNat (-1)) w2) := ⟨by rw [hw]; exact HW.out.put N1.out N2.out OL.out i (-1)⟩; have HQ2 : Aside0 (Kd.Q (Kd.int .i64) 3 w2 w.heap.size (fun _ => True) u9 q') := ⟨by rw [hw]; exact Q_put HQ.out B3.out _ _⟩; clear hw cm cl fl; have cm := HW2.out.rm.cell i hi0 hi1; have cl := HW2.out.rl.cell i hi0 (by rw [List.length_set, HL.out.1]; exact hlt); have fl := HW2.out.rl.frozen i) | ((with_reducible refine gate_store (t := 3) (p := 31) rfl ?_); refine store_event (t := 3) (p := 31) (v := ?vo2) (w1 := (w2.setCell ⟨gl, i.toNat, none⟩ (.int .i64 0))) ?hg2 ?ho2 ?hn2 ?hr2 ?_; (case ho2 => rfl); (case hg2 => rfl); (case hn2 => rfl); (case hr2 => first | (go_simp; done) | (go_simp; rfl)); intro w3 hw; have HW3 : Aside0 (LevW w0 w gm gb gl mate back ((l'.set i.toNat (-1)).set i.toNat 0) w3) := ⟨by rw [hw]; exact HW2.out.put N1.out N2.out OL.out i 0⟩; have HQ3 : Aside0 (Kd.Q (Kd.int .i64) 3 w3 w.heap.size (fun _ => True) u9 q') := ⟨by rw [hw]; exact Q_put HQ2.out B3.out _ _⟩; clear hw cm cl fl) | ((with_reducible refine gate_builtin (b := .append) (xs := #[.tmp 32, .tmp 34]) rfl ?_); at_builtin; refine Kd.Q_append (Kd.int .i64) w.heap.size rfl (.tmp 32) (.tmp 34) 29 3 (.int .i64 0) 8 rfl Try.underlying29 info3 rfl (by decide) (by omega) u9 q' i [.int .i64 i] (fun _ => True) (fun _ => False) rfl rfl ?aP (fun _ hk => hk.elim) (fun _ _ => trivial) HQ3.out (Below.refl _ _) ?aS ?aL ?_; (case aP => exact rfl); (case aS => exact HW3.out.keep.1); (case aL => omega); intro v1 w1 ho hb hg hat; have HQ1 := Aside0.mk ho; have HG1 := Aside0.mk hg; clear ho hb hg hat))
              go_roundg k1
              case measure => omega
              case rel => exact ⟨i + 1, _, _, by go_num, ⟨by omega, HH.out⟩, ⟨by rw [List.length_set, List.length_set]; exact HL.out.1, HW3.out.grown OW.out HG1.out (Kd.Q_base HQ3.out) B1.out B2.out B3.out⟩, HQ1⟩
            · rw [if_neg hq] at H
              exact absurd H (by simp)
          · rw [if_neg hneg] at H
            have HH := Aside0.mk H
            clear H
            go_wp2
            go_roundg k1
            case measure => omega
            case rel => exact ⟨i + 1, _, q', by go_num, ⟨by omega, HH.out⟩, ⟨by rw [List.length_set]; exact HL.out.1, HW.out.put N1.out N2.out OL.out i (-1)⟩, ⟨Q_put HQ.out B3.out _ _⟩⟩
        · rw [if_neg hi1] at H
          exact absurd H (by simp)
      · rw [if_neg hlt] at H
        have HH := Aside0.mk (show levB next back k false l' q' = some r from H)
        have el := Aside0.mk HL.out.1
        clear H HL
        go_wp2_with fail
        go_loopg [9, 11] k (fun kq v9 v11 wr => ∃ (f : Bool) (l' q' : List Int), v11 = .bool f ∧ Aside0 (levB next back kq f l' q' = some r ∧ kq ≤ k) ∧ Aside0 (l'.length = next.length ∧ LevW w0 w gm gb gl mate back l' wr) ∧ Aside0 (Kd.Q (Kd.int .i64) 3 wr w.heap.size (fun _ => True) v9 q'))
        case atStart => exact ⟨false, l', q', rfl, ⟨HH.out, Nat.le_refl _⟩, ⟨el.out, HW.out⟩, HQ⟩
        case round =>
          clear HW HH el HQ
          obtain ⟨f, l', q', rfl, HA, HL, HQ⟩ := hrel
          have HW : Aside0 (LevW w0 w gm gb gl mate back l' wr) := ⟨HL.out.2⟩
          obtain ⟨A9, c9, rfl, hc9⟩ := Kd.Q_slice HQ.out
          cases gk with
          | zero => exact absurd HA.out.1 (by simp [levB])
          | succ k2 =>
            have H := HA.out.1
            have HK := Aside0.mk HA.out.2
            clear HA
            obtain hq | ⟨v, q2, hq⟩ : q' = [] ∨ ∃ v q2, q' = v :: q2 := by cases q' <;> simp
            · subst hq
              have hr := Option.some.inj (show some (f, l') = some r from H)
              have HR := Aside0.mk hr
              clear H hr
              go_wp2
              go_ret
              exact ⟨by rw [← HR.out]; rfl, by rw [← HR.out]; exact HW.out⟩
            · have hlen : 0 < q'.length := by rw [hq]; simp
              have hlen2 : (0 : Int) < q'.length := by omega
              have hlen3 : (1 : Int) ≤ q'.length := by omega
              rw [hq] at H
              simp only [levB] at H
              by_cases hv0 : 0 ≤ v
              · rw [if_pos hv0] at H
                by_cases hv1 : v < next.length
                · rw [if_pos hv1] at H
                  have HH := Aside0.mk H
                  clear H
                  obtain ⟨ad9, e9, hx9⟩ := Kd.at_int (Kd.Q_reads' HQ.out).2.2 0 (by omega) hlen2
                  subst e9
                  rw [show ((0 : Int)).toNat = 0 from rfl, Addr.add_zero', show rd q' 0 = v by rw [hq]; rfl] at hx9
                  obtain ⟨i0, hi0, _, hsz0, _⟩ := info_parts info3
                  have hcut := cut_from (P := Try.prog) 29 3 .i64 Try.underlying29 hi0 1 hsz0 (some ad9) q'.length c9 1 (by omega) hlen3
                  have hQ := Kd.Q_drop (k := (1 : Int).toNat) HQ.out (by omega)
                  obtain ⟨A2, hA2⟩ : ∃ A1, A1 = (if c9 = (1 : Int).toNat then (some ad9) else ((some ad9) : Option Addr).map (·.add ((1 : Int).toNat * 1))) := ⟨_, rfl⟩
                  obtain ⟨c2, hc2⟩ : ∃ c1, c1 = c9 - (1 : Int).toNat := ⟨_, rfl⟩
                  have hy2 : q2.length = q'.length - (1 : Int).toNat := by rw [hq]; simp
                  rw [← hy2, ← hA2, ← hc2] at hcut
                  replace hQ : Kd.Q (Kd.int .i64) 3 wr w.heap.size (fun _ => True) (.slice A2 q2.length c2) q2 := by
                    have e : q'.drop (1 : Int).toNat = q2 := by rw [hq]; rfl
                    rw [e] at hQ
                    rw [hA2, hc2, hy2]
                    exact hQ
                  clear hy2 hi0 hsz0 hA2 hc2 hq HQ
                  have HQ := Aside0.mk hQ
                  clear hQ
                  obtain ⟨ad, A1, c1, eA, hx1, hl1, hI⟩ := at_L HN.out v hv0 hv1
                  subst eA
                  have HI := Aside0.mk hI
                  have hmaxI := Kd.C_max hI
                  have HL1 := Aside0.mk hl1
                  replace hx1 := pw_cell_below HW.out.below hx1
                  clear hI hl1
                  go_wp2_with fail
                  have el := Aside0.mk HL.out.1
                  clear HL hx9 hx1 hcut hlen hlen2 hlen3
                  go_loopg [9, 11, 50] k2 (fun kq v9 v11 v50 wr => ∃ (f : Bool) (j : Int) (l' q' : List Int), v11 = .bool f ∧ v50 = .int .i64 j ∧ Aside0 (0 ≤ j ∧ (levC back (rdL next v) v kq j f l' q').bind (fun s => levB next back k2 s.1 s.2.1 s.2.2) = some r) ∧ Aside0 (l'.length = next.length ∧ LevW w0 w gm gb gl mate back l' wr) ∧ Aside0 (Kd.Q (Kd.int .i64) 3 wr w.heap.size (fun _ => True) v9 q'))
                  case atStart => exact ⟨f, 0, l', q2, rfl, rfl, ⟨by omega, HH.out⟩, ⟨el.out, HW.out⟩, HQ⟩
                  case round =>
                    clear HW HH el HQ
                    obtain ⟨f, j, l', q', rfl, rfl, HA, HL, HQ⟩ := hrel
                    have HW : Aside0 (LevW w0 w gm gb gl mate back l' wr) := ⟨HL.out.2⟩
                    have el := Aside0.mk HL.out.1
                    clear HL
                    have hj0 : 0 ≤ j := HA.out.1
                    cases gk with
                    | zero => exact absurd HA.out.2 (by simp [levC])
                    | succ k3 =>
                      have H := HA.out.2
                      clear HA
                      simp only [levC] at H
                      by_cases hlt : j < (rdL next v).length
                      · rw [if_pos hlt] at H
                        obtain ⟨ad1, eA, hy⟩ := Kd.at_int HI.out j hj0 hlt
                        subst eA
                        replace hy := pw_cell_below HW.out.below hy
                        obtain ⟨x, hX⟩ : ∃ x, rd (rdL next v) j = x := ⟨_, rfl⟩
                        rw [hX] at hy H
                        clear hX
                        by_cases hx0 : 0 ≤ x
                        · rw [if_pos hx0] at H
                          by_cases hx1 : x < back.length
                          · rw [if_pos hx1] at H
                            have hx2 : x < nb := by have := EB.out; omega
                            have hz := HW.out.rb.cell x hx0 hx1
                            obtain ⟨u, hU⟩ : ∃ u, rd back x = u := ⟨_, rfl⟩
                            rw [hU] at hz H
                            clear hU
                            by_cases hu : u < 0
                            · rw [if_pos hu] at H
                              have HH := Aside0.mk H
                              clear H
                              go_wp2
                              go_roundg k3
                              case measure => omega
                              case rel => exact ⟨true, j + 1, l', q', rfl, by go_num, ⟨by omega, HH.out⟩, ⟨el.out, HW.out⟩, HQ⟩
                            · rw [if_neg hu] at H
                              have hu0 : 0 ≤ u := by omega
                              by_cases hu1 : u < l'.length
                              · rw [if_pos hu1] at H
                                have hu2 : u < next.length := by have := el.out; omega
                                have cu := HW.out.rl.cell u hu0 hu1
                                have fu := HW.out.rl.frozen u
                                clear hu
                                by_cases hz0 : rd l' u < 0
                                · rw [if_pos hz0] at H
                                  by_cases hv2 : v < l'.length
                                  · rw [if_pos hv2] at H
                                    have cv := HW.out.rl.cell v hv0 hv2
                                    by_cases hq : q'.length < 17592186044416
                                    · rw [if_pos hq] at H
                                      have HH := Aside0.mk H
                                      have LQ := Aside0.mk hq
                                      clear H hq hx1 hu1 hv2
                                      go_wp2_with (first | ((with_reducible refine gate_store (t := 3) (p := 72) rfl ?_); refine store_event (t := 3) (p := 72) (v := ?vo3) (w1 := (wr.setCell ⟨gl, u.toNat, none⟩ (.int .i64 (wrap64 (rd l' v + 1))))) ?hg3 ?ho3 ?hn3 ?hr3 ?_; (case ho3 => rfl); (case hg3 => rfl); (case hn3 => rfl); (case hr3 => first | (go_simp; done) | (go_simp; rfl)); intro w2 hw; have HW2 : Aside0 (LevW w0 w gm gb gl mate back (l'.set u.toNat (wrap64 (rd l' v + 1))) w2) := ⟨by rw [hw]; exact HW.out.put N1.out N2.out OL.out u _⟩; have HQ2 : Aside0 (Kd.Q (Kd.int .i64) 3 w2 w.heap.size (fun _ => True) u9 q') := ⟨by rw [hw]; exact Q_put HQ.out B3.out _ _⟩; clear hw cu cv fu hy hz) | ((with_reducible refine gate_builtin (b := .append) (xs := #[.tmp 73, .tmp 75]) rfl ?_); at_builtin; refine Kd.Q_append (Kd.int .i64) w.heap.size rfl (.tmp 73) (.tmp 75) 29 3 (.int .i64 0) 8 rfl Try.underlying29 info3 rfl (by decide) (by omega) u9 q' u [.int .i64 u] (fun _ => True) (fun _ => False) rfl rfl ?aP (fun _ hk => hk.elim) (fun _ _ => trivial) HQ2.out (Below.refl _ _) ?aS ?aL ?_; (case aP => exact rfl); (case aS => exact HW2.out.keep.1); (case aL => have := LQ.out; omega); intro v1 w1 ho hb hg hat; have HQ1 := Aside0.mk ho; have HG1 := Aside0.mk hg; clear ho hb hg hat))
                                      go_roundg k3
                                      case measure => omega
                                      case rel => exact ⟨f, j + 1, _, _, rfl, by go_num, ⟨by omega, HH.out⟩, ⟨by rw [List.length_set]; exact el.out, HW2.out.grown OW.out HG1.out (Kd.Q_base HQ2.out) B1.out B2.out B3.out⟩, HQ1⟩
                                    · rw [if_neg hq] at H
                                      exact absurd H (by simp)
                                  · rw [if_neg hv2] at H
                                    exact absurd H (by simp)
                                · rw [if_neg hz0] at H
                                  have HH := Aside0.mk H
                                  clear H
                                  go_wp2
                                  go_roundg k3
                                  case measure => omega
                                  case rel => exact ⟨f, j + 1, l', q', rfl, by go_num, ⟨by omega, HH.out⟩, ⟨el.out, HW.out⟩, HQ⟩
                              · rw [if_neg hu1] at H
                                exact absurd H (by simp)
                          · rw [if_neg hx1] at H
                            exact absurd H (by simp)
                        · rw [if_neg hx0] at H
                          exact absurd H (by simp)
                      · rw [if_neg hlt] at H
                        have HH := Aside0.mk (show levB next back k2 f l' q' = some r from H)
                        clear H
                        go_wp2
                        go_roundg k2
                        case measure => omega
                        case rel => exact ⟨f, l', q', rfl, ⟨HH.out, by have := HK.out; omega⟩, ⟨el.out, HW.out⟩, HQ⟩
                · rw [if_neg hv1] at H
                  exact absurd H (by simp)
              · rw [if_neg hv0] at H
                exact absurd H (by simp)
end Go.Proofs.Ytlleokhmgblfnaa.H
end

section
namespace Go.Proofs.Ytlleokhmgblfnaa.H
open Go.RowKit Go.Proofs.YtlleokhmgblfnaaW.PrintWords
def nones (n : Nat) : List Int := List.replicate n (-1)
theorem made_row (w : World) (n : Nat) : Row (w.alloc (.cells (madeCells #[.int .i64 0] n) 3)) w.heap.size (List.replicate n 0) := by
  unfold Row
  rw [blk_new]
  congr 2
  apply Array.ext
  · simp [size_madeCells]
  · intro i h1 h2
    simp [madeCells, Nat.mod_one]
theorem rep_cons (a : Nat) (x : Int) (l : List Int) : List.replicate a x ++ x :: l = x :: (List.replicate a x ++ l) := by
  induction a with
  | zero => rfl
  | succ a ih => simp only [List.replicate_succ, List.cons_append, ih]
theorem Row.R {w : World} {g base : Nat} {xs : List Int} {ok : Nat → Prop} (h : Row w g xs) (hb : base ≤ g) (hm : xs.length ≤ 9223372036854775807) (hok : ok g) : Kd.R (Kd.int .i64) 3 w base ok (.slice (some ⟨g, 0, none⟩) xs.length xs.length) xs := by
  refine Kd.R_of_own ⟨by simp [encs], .inr ⟨g, xs.length, _, rfl, hb, h, Nat.le_refl _, hm, by simp, ?_⟩⟩ (fun k hk => ?_)
  · simp [encs]
    exact List.take_of_length_le (by simp)
  · have : g = k := by simpa [Value.ownBlock] using hk
    exact this ▸ hok
def phase (next : List (List Int)) : Nat → Int → List Int → List Int → List Int → Option (List Int × List Int × List Int)
  | 0, _, _, _, _ => none
  | k + 1, v, m, b, l =>
    if v < next.length then
      if rd m v < 0 then (extG next k v 0 m b l).bind fun q => phase next k (v + 1) q.2.1 q.2.2.1 q.2.2.2
      else phase next k (v + 1) m b l
    else some (m, b, l)
def great (next : List (List Int)) : Nat → List Int → List Int → List Int → Option (List Int × List Int)
  | 0, _, _, _ => none
  | k + 1, m, b, l => (levF next m b k l).bind fun s => if s.1 then (phase next k 0 m b s.2).bind fun t => great next k t.1 t.2.1 t.2.2 else some (m, b)
def greatF (k : Nat) (next : List (List Int)) (R : Int) : Option (List Int × List Int) :=
  if 0 ≤ R then if R.toNat ≤ 35184372088832 then if next.length ≤ 35184372088832 then great next k (nones next.length) (nones R.toNat) (List.replicate next.length 0) else none else none else none
def NonePost (n : Nat) (w : World) (e : Ending) (w' : World) : Prop :=
  ∃ g, e = .returned (.slice (some ⟨g, 0, none⟩) n n) ∧ w.heap.size ≤ g ∧ Row w' g (nones n) ∧ Below w.heap.size w w'
set_option maxHeartbeats 1000000 in
set_option maxRecDepth 100000 in
theorem none_calls (n : Nat) (hn : n ≤ 35184372088832) (w : World) : Calls Try.prog 52 #[.int .i64 n] w (NonePost n w) := by
  have hmk := run_make_row' (P := Try.prog) 29 3 (.int .i64 0) 8 Try.underlying29 info3 rfl .i64 .i64 n (by omega) (by omega)
  have HR := Aside0.mk (made_row w n)
  go_enter Try.func52, Try.ntmps52
  go_wp2_with fail
  go_loopg [9] (n + 1) (fun kq v9 wr => ∃ i : Int, v9 = .int .i64 i ∧ Aside0 (0 ≤ i ∧ i ≤ n ∧ (n : Int) < i + kq) ∧ Aside0 (Row wr w.heap.size (List.replicate i.toNat (-1) ++ List.replicate (n - i.toNat) 0)) ∧ Aside0 (Below w.heap.size w wr))
  case atStart => exact ⟨0, rfl, ⟨by omega, by omega, by omega⟩, ⟨by simpa using HR.out⟩, ⟨below_alloc (Below.refl _ _) _⟩⟩
  case round =>
    clear HR hmk
    obtain ⟨i, rfl, HA, HR, HB⟩ := hrel
    have hi0 : 0 ≤ i := HA.out.1
    by_cases hlt : i < n
    · have ci := HR.out.cell i hi0 (by simp; omega)
      have fi := HR.out.frozen i
      go_wp2
      go_roundg (gk - 1)
      case measure => have := HA.out; omega
      case rel =>
        have := HA.out
        refine ⟨i + 1, by go_num, ⟨by omega, by omega, by omega⟩, ⟨?_⟩, ⟨below_set HB.out (Nat.le_refl _)⟩⟩
        have h := HR.out.set i (-1)
        have e : (List.replicate i.toNat (-1 : Int) ++ List.replicate (n - i.toNat) 0).set i.toNat (-1) = List.replicate (i + 1).toNat (-1) ++ List.replicate (n - (i + 1).toNat) 0 := by
          rw [List.set_append_right _ _ (by simp)]
          obtain ⟨m, hm⟩ : ∃ m, n - i.toNat = m + 1 := ⟨n - i.toNat - 1, by omega⟩
          rw [hm, show (i + 1).toNat = i.toNat + 1 by omega, show n - (i.toNat + 1) = m by omega]
          simp [List.replicate_succ, rep_cons]
        rw [e] at h
        exact h
    · have hi : i.toNat = n := by have := HA.out; omega
      have HI := Aside0.mk hi
      clear hi
      go_wp2
      go_ret
      exact ⟨_, rfl, Nat.le_refl _, by have := HR.out; rw [HI.out] at this; simpa [nones] using this, HB.out⟩
theorem ExtW.lev {w0 wr w1 : World} {next : List (List Int)} {R : Nat} {A0 : Option Addr} {c0 Bn Bm Bb Bl Bx gm gb gl : Nat} {m b l l' : List Int} (h : ExtW w0 next R A0 c0 Bn Bm Bb Bl Bx gm gb gl m b l wr) (k : LevW w0 wr gm gb gl m b l' w1) (hl : l'.length = next.length) : ExtW w0 next R A0 c0 Bn Bm Bb Bl Bx gm gb gl m b l' w1 :=
  ⟨k.below, k.keep.blk h.hn (h.rl.ne h.hn (by decide)) (by simp), k.keep.blk h.hm (h.rl.ne h.hm (by decide)) (by simp), k.keep.blk h.hb (h.rl.ne h.hb (by decide)) (by simp), k.keep.blk h.hl (h.rl.ne h.hl (by decide)) (by simp), k.keep.blk h.hx (h.rl.ne h.hx (by decide)) (by simp),
    k.rm, k.rb, k.rl, h.lm, h.lb, hl, h.gmb, h.gml, h.gbl, h.om, h.ob, h.ol⟩
theorem levA_len (mate : List Int) (n : Int) : ∀ k i l q s, levA mate n k i l q = some s → s.1.length = l.length := by
  intro k
  induction k with
  | zero => intro i l q s h; exact absurd h (by simp [levA])
  | succ k ih =>
    intro i l q s h
    simp only [levA] at h
    repeat' split at h
    all_goals first
      | (have := ih _ _ _ _ h; simpa using this)
      | (cases h; rfl)
      | cases h
theorem levC_len (back ws : List Int) (v : Int) : ∀ k j f l q s, levC back ws v k j f l q = some s → s.2.1.length = l.length := by
  intro k
  induction k with
  | zero => intro j f l q s h; exact absurd h (by simp [levC])
  | succ k ih =>
    intro j f l q s h
    simp only [levC] at h
    repeat' split at h
    all_goals first
      | (have := ih _ _ _ _ _ h; simpa using this)
      | (cases h; rfl)
      | cases h
theorem levB_len (next : List (List Int)) (back : List Int) : ∀ k f l q s, levB next back k f l q = some s → s.2.length = l.length := by
  intro k
  induction k with
  | zero => intro f l q s h; exact absurd h (by simp [levB])
  | succ k ih =>
    intro f l q s h
    cases q with
    | nil => cases h; rfl
    | cons v q =>
      simp only [levB] at h
      repeat' split at h
      · cases hc : levC back (rdL next v) v k 0 f l q with
        | none => rw [hc] at h; exact absurd h (by simp)
        | some t =>
          rw [hc] at h
          have h1 := ih _ _ _ _ h
          have h2 := levC_len _ _ _ _ _ _ _ _ _ hc
          exact h1.trans h2
      all_goals exact absurd h (by simp)
theorem levF_len {next : List (List Int)} {mate back : List Int} {k : Nat} {l : List Int} {s : Bool × List Int} (h : levF next mate back k l = some s) : s.2.length = l.length := by
  unfold levF at h
  cases ha : levA mate next.length k 0 l [] with
  | none => rw [ha] at h; exact absurd h (by simp)
  | some t =>
    rw [ha] at h
    exact (levB_len _ _ _ _ _ _ _ h).trans (levA_len _ _ _ _ _ _ _ ha)
def GreatPost (w : World) (r : List Int × List Int) (e : Ending) (w' : World) : Prop :=
  ∃ v0 v1 : Value, e = .returned (.tuple #[v0, v1]) ∧ Kd.R (Kd.int .i64) 3 w' w.heap.size (fun k => some k ≠ v1.ownBlock) v0 r.1 ∧ Kd.R (Kd.int .i64) 3 w' w.heap.size (fun k => some k ≠ v0.ownBlock) v1 r.2 ∧ Below w.heap.size w w'
set_option maxHeartbeats 4000000 in
set_option maxRecDepth 100000 in
theorem great_calls (k : Nat) (A0 : Option Addr) (c0 : Nat) (next : List (List Int)) (R : Int) (r : List Int × List Int) (w : World) (hN : Kd.C (Kd.slice 3 (Kd.int .i64)) w A0 next.length next) (hc : next.length ≤ c0) (h : greatF k next R = some r) :
    Calls Try.prog 46 #[.slice A0 next.length c0, .int .i64 R] w (GreatPost w r) := by
  unfold greatF at h
  by_cases h1 : 0 ≤ R
  case neg => rw [if_neg h1] at h; exact absurd h (by simp)
  rw [if_pos h1] at h
  by_cases h2 : R.toNat ≤ 35184372088832
  case neg => rw [if_neg h2] at h; exact absurd h (by simp)
  rw [if_pos h2] at h
  by_cases h3 : next.length ≤ 35184372088832
  case neg => rw [if_neg h3] at h; exact absurd h (by simp)
  rw [if_pos h3] at h
  obtain ⟨n, rfl⟩ := Int.eq_ofNat_of_zero_le h1
  rw [Int.toNat_natCast] at h h2
  have HN := Aside0.mk hN
  have H := Aside0.mk h
  clear hN h h1
  have hmk := run_make_row' (P := Try.prog) 29 3 (.int .i64 0) 8 Try.underlying29 info3 rfl .i64 .i64 next.length (by omega) (by omega)
  go_enter Try.func46, Try.ntmps46
  go_wp2_with fail
  have hW : ∃ W : World, W = (((w.alloc (Obj.cells #[Value.slice A0 next.length c0] 69)).alloc (Obj.cells #[Value.slice none 0 0] 29)).alloc (Obj.cells #[Value.slice none 0 0] 29)) := ⟨_, rfl⟩
  obtain ⟨W, hW⟩ := hW
  rw [← hW]
  have kn : W.heap[w.heap.size]? = some (.cells #[.slice A0 next.length c0] 69 (0, 0)) := by rw [hW]; exact blk_alloc (blk_alloc (blk_new _ _) _) _
  have km : W.heap[w.heap.size + 1]? = some (.cells #[.slice none 0 0] 29 (0, 0)) := by rw [hW]; have := blk_alloc (blk_new (w.alloc (Obj.cells #[Value.slice A0 next.length c0] 69)) (Obj.cells #[Value.slice none 0 0] 29)) (Obj.cells #[Value.slice none 0 0] 29); simpa using this
  have kb : W.heap[w.heap.size + 1 + 1]? = some (.cells #[.slice none 0 0] 29 (0, 0)) := by rw [hW]; have := blk_new ((w.alloc (Obj.cells #[Value.slice A0 next.length c0] 69)).alloc (Obj.cells #[Value.slice none 0 0] 29)) (Obj.cells #[Value.slice none 0 0] 29); simpa using this
  have kB : Below w.heap.size w W := by rw [hW]; exact below_alloc (below_alloc (below_alloc (Below.refl _ _) _) _) _
  have ks : W.heap.size = w.heap.size + 3 := by rw [hW]; simp
  clear hW
  refine (none_calls next.length h3 _).mono ?_
  rintro e w1 ⟨gm, rfl, hg1, hr1, hb1⟩
  replace kn := blk_below kn hb1
  replace km := blk_below km hb1
  replace kb := blk_below kb hb1
  have ks1 := hb1.size
  replace kB := below_step kB hb1
  clear hb1
  have KN := Aside0.mk kn
  have KM := Aside0.mk km
  have KB := Aside0.mk kb
  have KBe := Aside0.mk kB
  have HR1 := Aside0.mk hr1
  have HG1 := Aside0.mk (show w.heap.size + 3 ≤ gm by omega)
  have KS := Aside0.mk (show w.heap.size + 3 ≤ w1.heap.size by omega)
  clear kn km kb kB hr1 hg1 ks ks1 W
  go_wp2_with fail
  refine (none_calls n h2 _).mono ?_
  rintro e w2 ⟨gb, rfl, hg2, hr2, hb2⟩
  have KN2 := Aside0.mk (blk_below KN.out hb2)
  have KM2 := Aside0.mk (blk_below KM.out hb2)
  have KB2 := Aside0.mk (blk_below KB.out hb2)
  have KBe2 := Aside0.mk (below_step KBe.out hb2)
  have HR12 := Aside0.mk (HR1.out.move (hb2.block gm HR1.out.lt))
  have HR2 := Aside0.mk hr2
  have hgne : gm ≠ gb := by have := HR1.out.lt; omega
  have HNE := Aside0.mk hgne
  have HG2 := Aside0.mk (show w.heap.size + 3 ≤ gb by have := KS.out; omega)
  have KS2 := Aside0.mk (show w.heap.size + 3 ≤ w2.heap.size by have := KS.out; have := hb2.size; omega)
  clear hr2 hb2 hgne hg2 KN KM KB KBe HR1 KS
  have cn := blk_cell KN2.out 0
  have cm := blk_cell KM2.out 0
  have cb := blk_cell KB2.out 0
  have fm := blk_frozen KM2.out 0
  have fb := blk_frozen KB2.out 0
  simp only [List.getElem?_toArray, List.getElem?_cons_zero] at cn cm cb
  go_wp2_with fail
  generalize hW : (((((w2.setCell { block := w.heap.size + 1, off := 0 } (Value.slice (some { block := gm, off := 0 }) next.length next.length)).setCell { block := w.heap.size + 1 + 1, off := 0 } (Value.slice (some { block := gb, off := 0 }) n n)).alloc (Obj.cells (madeCells #[Value.int IntKind.i64 0] next.length) 3)).alloc (Obj.cells #[Value.slice (some { block := w2.heap.size, off := 0 }) next.length next.length] 29)).alloc (Obj.cells #[Value.func (Fn.func 53) #[] #[Value.pointer (some { block := w.heap.size, off := 0 }), Value.pointer (some { block := w.heap.size + 1 + 1, off := 0 }), Value.pointer (some { block := w2.heap.size + 1, off := 0 }), Value.pointer (some { block := w2.heap.size + 1 + 1, off := 0 }), Value.pointer (some { block := w.heap.size + 1, off := 0 })]] 84)) = W
  have HX : Aside0 (ExtW w next n A0 c0 w.heap.size (w.heap.size + 1) (w.heap.size + 1 + 1) (w2.heap.size + 1) (w2.heap.size + 1 + 1) gm gb w2.heap.size (nones next.length) (nones n) (List.replicate next.length 0) W) := by
    have ns := KS2.out
    have e1 : ∀ (X : World) (o : Obj), (X.alloc o).heap.size = X.heap.size + 1 := fun X o => by simp
    have hN1 : w.heap.size ≠ w.heap.size + 1 := by omega
    have hN2 : w.heap.size ≠ w.heap.size + 1 + 1 := by omega
    have hN3 : w.heap.size + 1 ≠ w.heap.size + 1 + 1 := by omega
    have hM1 : gm ≠ w.heap.size + 1 := by have := HG1.out; omega
    have hM2 : gm ≠ w.heap.size + 1 + 1 := by have := HG1.out; omega
    have hG1 : gb ≠ w.heap.size + 1 := by have := HG2.out; omega
    have hG2 : gb ≠ w.heap.size + 1 + 1 := by have := HG2.out; omega
    obtain ⟨Wa, hWa⟩ : ∃ X, X = w2.setCell { block := w.heap.size + 1, off := 0 } (Value.slice (some { block := gm, off := 0 }) next.length next.length) := ⟨_, rfl⟩
    obtain ⟨Wb, hWb⟩ : ∃ X, X = Wa.setCell { block := w.heap.size + 1 + 1, off := 0 } (Value.slice (some { block := gb, off := 0 }) n n) := ⟨_, rfl⟩
    have sb : Wb.heap.size = w2.heap.size := by rw [hWb, hWa]; simp
    have a1 : Wb.heap[w.heap.size]? = some (.cells #[.slice A0 next.length c0] 69 (0, 0)) := by rw [hWb, hWa]; exact blk_far (blk_far KN2.out hN1 _) hN2 _
    have a2 : Wb.heap[w.heap.size + 1]? = some (.cells #[.slice (some ⟨gm, 0, none⟩) next.length next.length] 29 (0, 0)) := by rw [hWb, hWa]; exact blk_far (by have := blk_set KM2.out 0 (Value.slice (some { block := gm, off := 0 }) next.length next.length); simpa using this) hN3 _
    have a3 : Wb.heap[w.heap.size + 1 + 1]? = some (.cells #[.slice (some ⟨gb, 0, none⟩) n n] 29 (0, 0)) := by
      rw [hWb]
      have h1 : Wa.heap[w.heap.size + 1 + 1]? = some (.cells #[.slice none 0 0] 29 (0, 0)) := by rw [hWa]; exact blk_far KB2.out hN3.symm _
      have := blk_set h1 0 (Value.slice (some { block := gb, off := 0 }) n n)
      simpa using this
    have a4 : Row Wb gm (nones next.length) := by rw [hWb, hWa]; exact (HR12.out.far hM1 _).far hM2 _
    have a5 : Row Wb gb (nones n) := by rw [hWb, hWa]; exact (HR2.out.far hG1 _).far hG2 _
    have a6 : Below w.heap.size w Wb := by rw [hWb, hWa]; exact below_set (below_set KBe2.out (by omega)) (by omega)
    rw [← hWa, ← hWb] at hW
    clear hWa hWb
    subst hW
    refine ⟨⟨below_alloc (below_alloc (below_alloc a6 _) _) _, blk_alloc (blk_alloc (blk_alloc a1 _) _) _, blk_alloc (blk_alloc (blk_alloc a2 _) _) _, blk_alloc (blk_alloc (blk_alloc a3 _) _) _, ?_, ?_, ((a4.alloc _).alloc _).alloc _, ((a5.alloc _).alloc _).alloc _, ?_, by simp [nones], by simp [nones], by simp, HNE.out, ?_, ?_, by have := HG1.out; omega, by have := HG2.out; omega, by omega⟩⟩
    · refine blk_alloc ?_ _
      have := blk_new (Wb.alloc (Obj.cells (madeCells #[Value.int IntKind.i64 0] next.length) 3)) (Obj.cells #[Value.slice (some { block := w2.heap.size, off := 0 }) next.length next.length] 29)
      rw [e1, sb] at this
      exact this
    · have := blk_new ((Wb.alloc (Obj.cells (madeCells #[Value.int IntKind.i64 0] next.length) 3)).alloc (Obj.cells #[Value.slice (some { block := w2.heap.size, off := 0 }) next.length next.length] 29)) (Obj.cells #[Value.func (Fn.func 53) #[] #[Value.pointer (some { block := w.heap.size, off := 0 }), Value.pointer (some { block := w.heap.size + 1 + 1, off := 0 }), Value.pointer (some { block := w2.heap.size + 1, off := 0 }), Value.pointer (some { block := w2.heap.size + 1 + 1, off := 0 }), Value.pointer (some { block := w.heap.size + 1, off := 0 })]] 84)
      rw [e1, e1, sb] at this
      exact this
    · have := made_row Wb next.length
      rw [sb] at this
      exact (this.alloc _).alloc _
    · have := HR12.out.lt; omega
    · have := HR2.out.lt; omega
  clear hW cn cm cb fm fb KN2 KM2 KB2 KBe2 HR12 HR2 HNE HG1 HG2 hmk
  have hmn : next.length ≤ 9223372036854775807 := by omega
  go_loopg [25] k (fun kq v25 wr => ∃ (m b l : List Int), Aside0 (great next kq m b l = some r ∧ kq ≤ k) ∧ Aside0 (ExtW w next n A0 c0 w.heap.size (w.heap.size + 1) (w.heap.size + 1 + 1) (w2.heap.size + 1) (w2.heap.size + 1 + 1) gm gb w2.heap.size m b l wr))
  case atStart => exact ⟨_, _, _, ⟨H.out, Nat.le_refl _⟩, HX⟩
  case round =>
    clear HX H
    obtain ⟨m, b, l, HA, HX⟩ := hrel
    cases gk with
    | zero => exact absurd HA.out.1 (by simp [great])
    | succ k1 =>
      have H0 := HA.out.1
      have HK := Aside0.mk HA.out.2
      clear HA
      simp only [great] at H0
      cases hs : levF next m b k1 l with
      | none => rw [hs] at H0; exact absurd H0 (by simp)
      | some s =>
        rw [hs] at H0
        have HS := Aside0.mk hs
        have HL := Aside0.mk ((levF_len hs).trans HX.out.ll)
        have H := Aside0.mk (show (if s.1 then (phase next k1 0 m b s.2).bind fun t => great next k1 t.1 t.2.1 t.2.2 else some (m, b)) = some r from H0)
        clear H0 hs
        have cn := blk_cell HX.out.hn 0
        have cm := blk_cell HX.out.hm 0
        have cb := blk_cell HX.out.hb 0
        have cl := blk_cell HX.out.hl 0
        simp only [List.getElem?_toArray, List.getElem?_cons_zero] at cn cm cb cl
        go_wp2_with fail
        refine (levels_calls w _ next A0 c0 gm gb w2.heap.size next.length n m b l k1 s HN.out hc HX.out.below HX.out.rm HX.out.rb HX.out.rl HX.out.gml HX.out.gbl HX.out.ol HX.out.lm HX.out.lb HX.out.ll HS.out).mono ?_
        rintro e w3 ⟨rfl, hw3⟩
        have HX2 := Aside0.mk (HX.out.lev hw3 HL.out)
        clear hw3 HX HS HL cn cm cb cl
        obtain ⟨s1, s2⟩ := s
        cases s1 with
        | false =>
          have hr := Option.some.inj (show some (m, b) = some r from H.out)
          have HR := Aside0.mk hr
          clear hr H
          have cm := blk_cell HX2.out.hm 0
          have cb := blk_cell HX2.out.hb 0
          have fm := blk_frozen HX2.out.hm 0
          have fb := blk_frozen HX2.out.hb 0
          simp only [List.getElem?_toArray, List.getElem?_cons_zero] at cm cb
          go_wp2
          go_region
          all_goals go_wp2
          have n1 : w.heap.size + 1 ≠ w.heap.size + 1 + 1 := by omega
          have m1 : gm ≠ w.heap.size + 1 := HX2.out.rm.ne HX2.out.hm (by decide) |>.symm
          have m2 : gm ≠ w.heap.size + 1 + 1 := HX2.out.rm.ne HX2.out.hb (by decide) |>.symm
          have g1 : gb ≠ w.heap.size + 1 := HX2.out.rb.ne HX2.out.hm (by decide) |>.symm
          have g2 : gb ≠ w.heap.size + 1 + 1 := HX2.out.rb.ne HX2.out.hb (by decide) |>.symm
          obtain ⟨W4, hW4⟩ : ∃ X, X = ((w3.setCell { block := w.heap.size + 1, off := 0 } (Value.slice (some { block := gm, off := 0 }) next.length next.length)).setCell { block := w.heap.size + 1 + 1, off := 0 } (Value.slice (some { block := gb, off := 0 }) n n)).drew := ⟨_, rfl⟩
          have k1 : W4.heap[w.heap.size + 1]? = some (.cells #[.slice (some ⟨gm, 0, none⟩) next.length next.length] 29 (0, 0)) := by
            rw [hW4]; exact blk_drew (blk_far (by have := blk_set HX2.out.hm 0 (Value.slice (some { block := gm, off := 0 }) next.length next.length); simpa using this) n1 _)
          have k2 : W4.heap[w.heap.size + 1 + 1]? = some (.cells #[.slice (some ⟨gb, 0, none⟩) n n] 29 (0, 0)) := by
            rw [hW4]
            refine blk_drew ?_
            have h1 : (w3.setCell { block := w.heap.size + 1, off := 0 } (Value.slice (some { block := gm, off := 0 }) next.length next.length)).heap[w.heap.size + 1 + 1]? = some (.cells #[.slice (some ⟨gb, 0, none⟩) n n] 29 (0, 0)) := blk_far HX2.out.hb n1.symm _
            have := blk_set h1 0 (Value.slice (some { block := gb, off := 0 }) n n)
            simpa using this
          have r1 : Row W4 gm m := by rw [hW4]; exact (HX2.out.rm.far m1 _).far m2 _
          have r2 : Row W4 gb b := by rw [hW4]; exact (HX2.out.rb.far g1 _).far g2 _
          have bl : Below w.heap.size w W4 := by rw [hW4]; exact below_drew1 (below_set (below_set HX2.out.below (by omega)) (by omega))
          rw [← hW4]
          have q1 := blk_cell k1 0
          have q2 := blk_cell k2 0
          simp only [List.getElem?_toArray, List.getElem?_cons_zero] at q1 q2
          clear hW4
          refine bodyPost_ret (v := .tuple #[.slice (some ⟨gm, 0, none⟩) next.length next.length, .slice (some ⟨gb, 0, none⟩) n n]) (by simp [results, Try.results46, go_sem, q1, q2]) rfl ⟨_, _, rfl, ?_, ?_, bl⟩
          · have := r1.R (base := w.heap.size) (ok := fun k => some k ≠ (Value.slice (some ⟨gb, 0, none⟩) n n).ownBlock) HX2.out.om (by rw [HX2.out.lm]; exact hmn) (by simp [Value.ownBlock]; exact HX2.out.gmb)
            rw [← HR.out]
            rw [HX2.out.lm] at this
            exact this
          · have := r2.R (base := w.heap.size) (ok := fun k => some k ≠ (Value.slice (some ⟨gm, 0, none⟩) next.length next.length).ownBlock) HX2.out.ob (by rw [HX2.out.lb]; omega) (by simp [Value.ownBlock]; exact HX2.out.gmb.symm)
            rw [← HR.out]
            rw [HX2.out.lb] at this
            exact this
        | true =>
          have H2 := Aside0.mk (show ((phase next k1 0 m b s2).bind fun t => great next k1 t.1 t.2.1 t.2.2) = some r from H.out)
          clear H
          have cn := blk_cell HX2.out.hn 0
          simp only [List.getElem?_toArray, List.getElem?_cons_zero] at cn
          go_wp2_with fail
          clear cn
          go_loopg [25] k1 (fun kq v25 wr => ∃ (v : Int) (m b l : List Int), v25 = .int .i64 v ∧ Aside0 (0 ≤ v ∧ (phase next kq v m b l).bind (fun t => great next k1 t.1 t.2.1 t.2.2) = some r ∧ kq ≤ k1) ∧ Aside0 (ExtW w next n A0 c0 w.heap.size (w.heap.size + 1) (w.heap.size + 1 + 1) (w2.heap.size + 1) (w2.heap.size + 1 + 1) gm gb w2.heap.size m b l wr))
          case atStart => exact ⟨0, m, b, s2, rfl, ⟨by omega, H2.out, Nat.le_refl _⟩, HX2⟩
          case round =>
            clear HX2 H2
            obtain ⟨v, m, b, l, rfl, HA, HX⟩ := hrel
            have hv0 : 0 ≤ v := HA.out.1
            cases gk with
            | zero => exact absurd HA.out.2.1 (by simp [phase])
            | succ k2 =>
              have H0 := HA.out.2.1
              have HK2 := Aside0.mk HA.out.2.2
              clear HA
              simp only [phase] at H0
              by_cases hlt : v < next.length
              · rw [if_pos hlt] at H0
                have cm := blk_cell HX.out.hm 0
                have cx := blk_cell HX.out.hx 0
                simp only [List.getElem?_toArray, List.getElem?_cons_zero] at cm cx
                have cv := HX.out.rm.cell v hv0 (by rw [HX.out.lm]; exact hlt)
                by_cases hneg : rd m v < 0
                · rw [if_pos hneg] at H0
                  cases hq : extG next k2 v 0 m b l with
                  | none => rw [hq] at H0; exact absurd H0 (by simp)
                  | some q =>
                    rw [hq] at H0
                    have HQ := Aside0.mk hq
                    have H := Aside0.mk (show ((phase next k2 (v + 1) q.2.1 q.2.2.1 q.2.2.2).bind fun t => great next k1 t.1 t.2.1 t.2.2) = some r from H0)
                    clear H0 hq
                    go_wp2_with fail
                    refine (ext_calls w next n A0 c0 w.heap.size (w.heap.size + 1) (w.heap.size + 1 + 1) (w2.heap.size + 1) (w2.heap.size + 1 + 1) gm gb w2.heap.size HN.out hc k2 v m b l q _ hv0 hlt HX.out HQ.out).mono ?_
                    rintro e w4 ⟨rfl, hw4⟩
                    have HX4 := Aside0.mk hw4
                    clear hw4 HX cm cx cv HQ
                    go_wp2_with fail
                    go_roundg k2
                    case measure => omega
                    case rel => exact ⟨v + 1, _, _, _, by go_num, ⟨by omega, H.out, by have := HK2.out; omega⟩, HX4⟩
                · rw [if_neg hneg] at H0
                  have H := Aside0.mk H0
                  clear H0
                  go_wp2_with fail
                  go_roundg k2
                  case measure => omega
                  case rel => exact ⟨v + 1, _, _, _, by go_num, ⟨by omega, H.out, by have := HK2.out; omega⟩, HX⟩
              · rw [if_neg hlt] at H0
                have H := Aside0.mk (show great next k1 m b l = some r from H0)
                clear H0
                go_wp2_with fail
                go_roundg k1
                case measure => omega
                case rel => exact ⟨m, b, l, ⟨H.out, by have := HK.out; omega⟩, HX⟩
end Go.Proofs.Ytlleokhmgblfnaa.H
end

section
namespace Go.Proofs.Ytlleokhmgblfnaa.H
open Go.RowKit Go.Proofs.YtlleokhmgblfnaaW.PrintWords
theorem extG_mono (next : List (List Int)) : ∀ k v j m b l, LeO (extG next k v j m b l) (extG next (k + 1) v j m b l) := by
  intro k
  induction k with
  | zero => intro v j m b l r h; exact absurd h (by simp [extG])
  | succ k ih =>
    intro v j m b l
    rw [extG, extG]
    refine LeO.ite (LeO.ite (LeO.ite (LeO.ite (LeO.refl _) (LeO.ite (LeO.ite (LeO.ite ?_ (ih _ _ _ _ _)) (LeO.refl _)) (LeO.refl _))) (LeO.refl _)) (LeO.refl _)) (LeO.refl _)
    intro r h
    cases hq : extG next k (rd b (rd (rdL next v) j)) 0 m b l with
    | none => rw [hq] at h; cases h
    | some q =>
      rw [hq] at h
      rw [ih _ _ _ _ _ _ hq]
      obtain ⟨q0, q1, q2, q3⟩ := q
      cases q0 with
      | true => exact h
      | false => exact ih _ _ _ _ _ _ h
theorem levA_mono (mate : List Int) (n : Int) : ∀ k i l q, LeO (levA mate n k i l q) (levA mate n (k + 1) i l q) := by
  intro k
  induction k with
  | zero => intro i l q r h; exact absurd h (by simp [levA])
  | succ k ih =>
    intro i l q
    rw [levA, levA]
    repeat' first
      | exact ih _ _ _
      | exact LeO.refl _
      | refine LeO.ite ?_ ?_
theorem levC_mono (back ws : List Int) (v : Int) : ∀ k j f l q, LeO (levC back ws v k j f l q) (levC back ws v (k + 1) j f l q) := by
  intro k
  induction k with
  | zero => intro j f l q r h; exact absurd h (by simp [levC])
  | succ k ih =>
    intro j f l q
    rw [levC, levC]
    repeat' first
      | exact ih _ _ _ _
      | exact LeO.refl _
      | refine LeO.ite ?_ ?_
theorem levB_mono (next : List (List Int)) (back : List Int) : ∀ k f l q, LeO (levB next back k f l q) (levB next back (k + 1) f l q) := by
  intro k
  induction k with
  | zero => intro f l q r h; exact absurd h (by simp [levB])
  | succ k ih =>
    intro f l q
    cases q with
    | nil => exact LeO.refl _
    | cons v q =>
      rw [levB, levB]
      repeat' first
        | exact LeO.refl _
        | refine LeO.ite ?_ ?_
        | refine LeO.bind (levC_mono _ _ _ _ _ _ _ _) (fun _ => ih _ _ _)
theorem levF_mono (next : List (List Int)) (m b : List Int) (k : Nat) (l : List Int) : LeO (levF next m b k l) (levF next m b (k + 1) l) :=
  LeO.bind (levA_mono _ _ _ _ _ _) (fun _ => levB_mono _ _ _ _ _ _)
theorem phase_mono (next : List (List Int)) : ∀ k v m b l, LeO (phase next k v m b l) (phase next (k + 1) v m b l) := by
  intro k
  induction k with
  | zero => intro v m b l r h; exact absurd h (by simp [phase])
  | succ k ih =>
    intro v m b l
    rw [phase, phase]
    repeat' first
      | exact ih _ _ _ _
      | exact LeO.refl _
      | refine LeO.ite ?_ ?_
      | refine LeO.bind (extG_mono _ _ _ _ _ _ _) (fun _ => ih _ _ _ _)
theorem great_mono (next : List (List Int)) : ∀ k m b l, LeO (great next k m b l) (great next (k + 1) m b l) := by
  intro k
  induction k with
  | zero => intro m b l r h; exact absurd h (by simp [great])
  | succ k ih =>
    intro m b l
    rw [great, great]
    refine LeO.bind (levF_mono _ _ _ _ _) (fun _ => LeO.ite ?_ (LeO.refl _))
    exact LeO.bind (phase_mono _ _ _ _ _ _) (fun _ => ih _ _ _)
theorem greatF_mono (next : List (List Int)) (R : Int) (k : Nat) : LeO (greatF k next R) (greatF (k + 1) next R) := by
  unfold greatF
  exact LeO.ite (LeO.ite (LeO.ite (great_mono _ _ _ _ _) (LeO.refl _)) (LeO.refl _)) (LeO.refl _)
theorem C_iso {α β : Type} {d : Kd α} {f : β → α} {w : World} {A : Option Addr} {n : Nat} {xs : List β} (h : (Kd.iso d f).C w A n xs) : d.C w A n (xs.map f) := by
  refine ⟨by simpa using h.1, h.2.1, fun hn => ?_⟩
  obtain ⟨ad, e, hc⟩ := h.2.2 hn
  refine ⟨ad, e, fun j p hp => ?_⟩
  rw [List.getElem?_map] at hp
  cases hj : xs[j]? with
  | none => rw [hj] at hp; cases hp
  | some q =>
    rw [hj] at hp
    cases hp
    exact hc j q hj
end Go.Proofs.Ytlleokhmgblfnaa.H
namespace Go.Proofs.Ytlleokhmgblfnaa.M
open Go.RowKit Go.Proofs.YtlleokhmgblfnaaW.PrintWords
def pairing_Greatest.f (k : Nat) (l0 : List (List Int)) (a1 : Int) : Option (List Int × List Int) := H.greatF k l0 a1
theorem pairing_Greatest.mono : ∀ a0 a1 k, LeO (pairing_Greatest.f k a0 a1) (pairing_Greatest.f (k + 1) a0 a1) := fun a0 a1 k => H.greatF_mono a0 a1 k
theorem pairing_Greatest.calls (k : Nat) (A0 : Option Addr) (c0 : Nat) (l0 : List (List Int)) (a1 : Int) (r1 : List Int) (r2 : List Int) (w : World) (hr0 : Kd.C (Kd.slice 3 (Kd.int .i64)) w A0 l0.length l0) (hc0 : l0.length ≤ c0) (h : pairing_Greatest.f k l0 a1 = some (r1, r2)) :
    Calls Try.prog 46 #[.slice A0 l0.length c0, .int .i64 a1] w fun e w' => ∃ v0_ v1_ : Value, e = .returned (.tuple #[v0_, v1_]) ∧ Kd.R (Kd.int .i64) 3 w' w.heap.size (fun k_ => some k_ ≠ (v1_ : Value).ownBlock) v0_ r1 ∧ Kd.R (Kd.int .i64) 3 w' w.heap.size (fun k_ => some k_ ≠ (v0_ : Value).ownBlock) v1_ r2 ∧ Below w.heap.size w w' :=
  (H.great_calls k A0 c0 l0 a1 (r1, r2) w hr0 hc0 h).mono fun _ _ hp => hp
end Go.Proofs.Ytlleokhmgblfnaa.M
end
