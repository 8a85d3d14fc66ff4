/- A part of the proof: texts of this seat joined (printed and by hand), without what is not used. -/
import Derived.Test.YtlleokhmgblfnaaBMatches4
set_option linter.unusedVariables false
set_option linter.unusedSimpArgs false
set_option linter.unusedSectionVars false
section
namespace Go.Proofs.Ytlleokhmgblfnaa.M
open Go.RowKit Go.Proofs.YtlleokhmgblfnaaW.PrintWords Go.Proofs.YtlleokhmgblfnaaW.PrintLast Go.Proofs.YtlleokhmgblfnaaW.PrintMore
attribute [local go_sem] max2_int min2_int max_two min_two max_three min_three max_four min_four   -- for this text's walks alone
attribute [local go_sem high] eqA40
mutual
def torusref30_Same.j0 : Nat → Bool → Int → Int → List (S40) → Int → Int → List (S40) → Option (Bool)
  | 0, _, _, _, _, _, _, _ => none
  | k + 1, x26, x439000, x439001, x439002, x440000, x440001, x440002 => if x26 = true then (some false) else (torusref30_Same.l0 k 0 x439000 x439001 x439002 x440000 x440001 x440002)
def torusref30_Same.l0 : Nat → Int → Int → Int → List (S40) → Int → Int → List (S40) → Option (Bool)
  | 0, _, _, _, _, _, _, _ => none
  | k + 1, x5, x439000, x439001, x439002, x440000, x440001, x440002 => if x5 < (x439002.length : Int) then (if 0 ≤ x5 then (if x5 < (x440002.length : Int) then (if (!(((rd_T40 x439002 x5).f0) == ((rd_T40 x440002 x5).f0)) || (!(((rd_T40 x439002 x5).f1) == ((rd_T40 x440002 x5).f1)))) = true then (some false) else (torusref30_Same.l0 k (wrap64 (x5 + 1)) x439000 x439001 x439002 x440000 x440001 x440002)) else (none)) else (none)) else (some true)
end
def torusref30_Same.f (k : Nat) (a0_0 : Int) (a0_1 : Int) (l0_2 : List (S40)) (a1_0 : Int) (a1_1 : Int) (l1_2 : List (S40)) : Option (Bool) := if a0_0 = a1_0 then (if a0_1 = a1_1 then (torusref30_Same.j0 k ((l0_2.length : Int) != (l1_2.length : Int)) a0_0 a0_1 l0_2 a1_0 a1_1 l1_2) else (torusref30_Same.j0 k true a0_0 a0_1 l0_2 a1_0 a1_1 l1_2)) else (torusref30_Same.j0 k true a0_0 a0_1 l0_2 a1_0 a1_1 l1_2)
theorem torusref30_Same.mono_l : ∀ k, (∀ y0 y1 y2 y3 y4 y5 y6, LeO (torusref30_Same.j0 k y0 y1 y2 y3 y4 y5 y6) (torusref30_Same.j0 (k + 1) y0 y1 y2 y3 y4 y5 y6)) ∧ (∀ y0 y1 y2 y3 y4 y5 y6, LeO (torusref30_Same.l0 k y0 y1 y2 y3 y4 y5 y6) (torusref30_Same.l0 (k + 1) y0 y1 y2 y3 y4 y5 y6))
  | 0 => ⟨fun _ _ _ _ _ _ _ r h => by simp [torusref30_Same.j0] at h, fun _ _ _ _ _ _ _ r h => by simp [torusref30_Same.l0] at h⟩
  | k + 1 => by
    obtain ⟨ih0, ih1⟩ := torusref30_Same.mono_l k
    refine ⟨?_, ?_⟩
    · intro y0 y1 y2 y3 y4 y5 y6
      unfold torusref30_Same.j0
      repeat' first
      | (with_reducible exact ih0 _ _ _ _ _ _ _)
      | (with_reducible exact ih1 _ _ _ _ _ _ _)
      | (with_reducible exact LeO.refl _)
      | (with_reducible exact LeO.none _)
      | (with_reducible refine LeO.ite ?_ ?_)
      | (with_reducible refine LeO.bind ?_ (fun _ => ?_))
      | exact ih0 _ _ _ _ _ _ _
      | exact ih1 _ _ _ _ _ _ _
      | exact LeO.none _
      | refine LeO.ite ?_ ?_
      | refine LeO.bind ?_ (fun _ => ?_)
    · intro y0 y1 y2 y3 y4 y5 y6
      unfold torusref30_Same.l0
      repeat' first
      | (with_reducible exact ih0 _ _ _ _ _ _ _)
      | (with_reducible exact ih1 _ _ _ _ _ _ _)
      | (with_reducible exact LeO.refl _)
      | (with_reducible exact LeO.none _)
      | (with_reducible refine LeO.ite ?_ ?_)
      | (with_reducible refine LeO.bind ?_ (fun _ => ?_))
      | exact ih0 _ _ _ _ _ _ _
      | exact ih1 _ _ _ _ _ _ _
      | exact LeO.none _
      | refine LeO.ite ?_ ?_
      | refine LeO.bind ?_ (fun _ => ?_)
theorem torusref30_Same.mono : ∀ a0 a1 a2 a3 a4 a5 k, LeO (torusref30_Same.f k a0 a1 a2 a3 a4 a5) (torusref30_Same.f (k + 1) a0 a1 a2 a3 a4 a5) := by
  intro a0 a1 a2 a3 a4 a5 k
  obtain ⟨ih0, ih1⟩ := torusref30_Same.mono_l k
  unfold torusref30_Same.f
  repeat' first
      | (with_reducible exact ih0 _ _ _ _ _ _ _)
      | (with_reducible exact ih1 _ _ _ _ _ _ _)
      | (with_reducible exact LeO.refl _)
      | (with_reducible exact LeO.none _)
      | (with_reducible refine LeO.ite ?_ ?_)
      | (with_reducible refine LeO.bind ?_ (fun _ => ?_))
      | exact ih0 _ _ _ _ _ _ _
      | exact ih1 _ _ _ _ _ _ _
      | exact LeO.none _
      | refine LeO.ite ?_ ?_
      | refine LeO.bind ?_ (fun _ => ?_)
set_option maxHeartbeats 8000000 in
set_option maxRecDepth 100000 in
theorem torusref30_Same.calls (k : Nat) (a0_0 : Int) (a0_1 : Int) (A0_2 : Option Addr) (c0_2 : Nat) (l0_2 : List (S40)) (a1_0 : Int) (a1_1 : Int) (A1_2 : Option Addr) (c1_2 : Nat) (l1_2 : List (S40)) (r : Bool) (w : World) (hr0_2 : Kd.C k40 w A0_2 l0_2.length l0_2) (hc0_2 : l0_2.length ≤ c0_2) (hr1_2 : Kd.C k40 w A1_2 l1_2.length l1_2) (hc1_2 : l1_2.length ≤ c1_2) (h : torusref30_Same.f k a0_0 a0_1 l0_2 a1_0 a1_1 l1_2 = some r) :
    Calls Try.prog 30 #[.agg #[.int .i64 a0_0, .int .i64 a0_1, .slice A0_2 l0_2.length c0_2], .agg #[.int .i64 a1_0, .int .i64 a1_1, .slice A1_2 l1_2.length c1_2]] w fun e w' => e = .returned (.bool r) ∧ Below w.heap.size w w' := by
  have hu27 := Try.underlying27
  have hu40 := Try.underlying40
  have HR0_2 := Aside0.mk hr0_2
  have HC0_2 := Aside0.mk hc0_2
  clear hr0_2 hc0_2
  have HR1_2 := Aside0.mk hr1_2
  have HC1_2 := Aside0.mk hc1_2
  clear hr1_2 hc1_2
  have HB := Aside0.mk (Below.refl w.heap.size w)
  have H : (if a0_0 = a1_0 then (if a0_1 = a1_1 then (torusref30_Same.j0 k ((l0_2.length : Int) != (l1_2.length : Int)) a0_0 a0_1 l0_2 a1_0 a1_1 l1_2) else (torusref30_Same.j0 k true a0_0 a0_1 l0_2 a1_0 a1_1 l1_2)) else (torusref30_Same.j0 k true a0_0 a0_1 l0_2 a1_0 a1_1 l1_2)) = some r := h
  clear h
  have HC3 := Aside0.mk H
  clear H
  go_enter Try.func30, Try.ntmps30
  go_upto_region 1 with (first | ((with_reducible refine gate_dst (N := 2) rfl ?_); (try (refine gate_guard (by rfl) ?_; dsimp only)); refine box_event ?hg (N := 2) ?hd (cs := #[.int .i64 a0_0, .int .i64 a0_1, .slice A0_2 l0_2.length c0_2]) (t := 27) ?hr ?_; (case hd => rfl); (case hg => rfl); (case hr => first | (go_simp; done) | (go_simp; rfl)); intro gb438 hg w4 hbox hb; have n0_ := Aside0.mk (below_step (by repeat (first | (with_reducible first | exact HB.out | apply below_alloc | apply pw_below_drewN | apply below_drew1) | exact HB.out)) hb); have n1_ := Aside0.mk (hbox); have n2_ := Aside0.mk ((by rw [hg]; exact (below_size (by repeat (first | (with_reducible first | exact HB.out | apply below_alloc | apply pw_below_drewN | apply below_drew1) | exact HB.out))) : w.heap.size ≤ gb438)); have n3_ := Aside0.mk ((by rw [hg]; exact (below_size (by repeat (first | (with_reducible first | exact HB.out | apply below_alloc | apply pw_below_drewN | apply below_drew1) | exact HB.out))) : w.heap.size ≤ gb438)); clear HB; have HB := n0_; have BK438 := n1_; have GW438 := n2_; have GE438 := n3_; clear n0_ n1_ n2_ n3_; clear hb hbox hg) | ((with_reducible refine gate_dst (N := 3) rfl ?_); (try (refine gate_guard (by rfl) ?_; dsimp only)); refine box_event ?hg (N := 3) ?hd (cs := #[.int .i64 a1_0, .int .i64 a1_1, .slice A1_2 l1_2.length c1_2]) (t := 27) ?hr ?_; (case hd => rfl); (case hg => rfl); (case hr => first | (go_simp; done) | (go_simp; rfl)); intro gb439 hg w5 hbox hb; have n0_ := Aside0.mk (blk_below (g := gb438) (o := .cells #[.int .i64 a0_0, .int .i64 a0_1, .slice A0_2 l0_2.length c0_2] 27 (0, 0)) (by (with_reducible repeat (first | refine blk_drewN ?_ _ | refine blk_drew ?_ | refine blk_alloc ?_ _)); exact BK438.out) hb); have n1_ := Aside0.mk (below_step (by repeat (first | (with_reducible first | exact HB.out | apply below_alloc | apply pw_below_drewN | apply below_drew1 | refine below_set ?_ GE438.out) | exact HB.out)) hb); have n2_ := Aside0.mk (hbox); have n3_ := Aside0.mk ((by rw [hg]; exact (below_size (by repeat (first | (with_reducible first | exact HB.out | apply below_alloc | apply pw_below_drewN | apply below_drew1 | refine below_set ?_ GE438.out) | exact HB.out))) : w.heap.size ≤ gb439)); have n4_ := Aside0.mk ((by rw [hg]; exact (below_size (by repeat (first | (with_reducible first | exact HB.out | apply below_alloc | apply pw_below_drewN | apply below_drew1 | refine below_set ?_ GE438.out) | exact HB.out))) : w.heap.size ≤ gb439)); have n5_ := Aside0.mk ((by rw [hg]; exact Nat.ne_of_lt (blk_lt (g := gb438) (o := .cells #[.int .i64 a0_0, .int .i64 a0_1, .slice A0_2 l0_2.length c0_2] 27 (0, 0)) (by (with_reducible repeat (first | refine blk_drewN ?_ _ | refine blk_drew ?_ | refine blk_alloc ?_ _)); exact BK438.out)) : gb438 ≠ gb439)); have n6_ := Aside0.mk ((by rw [hg]; exact Nat.ne_of_gt (blk_lt (g := gb438) (o := .cells #[.int .i64 a0_0, .int .i64 a0_1, .slice A0_2 l0_2.length c0_2] 27 (0, 0)) (by (with_reducible repeat (first | refine blk_drewN ?_ _ | refine blk_drew ?_ | refine blk_alloc ?_ _)); exact BK438.out)) : gb439 ≠ gb438)); clear BK438; clear HB; have BK438 := n0_; have HB := n1_; have BK439 := n2_; have GW439 := n3_; have GE439 := n4_; have NB438_439 := n5_; have NB439_438 := n6_; clear n0_ n1_ n2_ n3_ n4_ n5_ n6_; clear hb hbox hg))
  repeat (go_quiet (first | ((with_reducible refine gate_dst (N := 2) rfl ?_); (try (refine gate_guard (by rfl) ?_; dsimp only)); refine box_event ?hg (N := 2) ?hd (cs := #[.int .i64 a0_0, .int .i64 a0_1, .slice A0_2 l0_2.length c0_2]) (t := 27) ?hr ?_; (case hd => rfl); (case hg => rfl); (case hr => first | (go_simp; done) | (go_simp; rfl)); intro gb438 hg w4 hbox hb; have n0_ := Aside0.mk (below_step (by repeat (first | (with_reducible first | exact HB.out | apply below_alloc | apply pw_below_drewN | apply below_drew1) | exact HB.out)) hb); have n1_ := Aside0.mk (hbox); have n2_ := Aside0.mk ((by rw [hg]; exact (below_size (by repeat (first | (with_reducible first | exact HB.out | apply below_alloc | apply pw_below_drewN | apply below_drew1) | exact HB.out))) : w.heap.size ≤ gb438)); have n3_ := Aside0.mk ((by rw [hg]; exact (below_size (by repeat (first | (with_reducible first | exact HB.out | apply below_alloc | apply pw_below_drewN | apply below_drew1) | exact HB.out))) : w.heap.size ≤ gb438)); clear HB; have HB := n0_; have BK438 := n1_; have GW438 := n2_; have GE438 := n3_; clear n0_ n1_ n2_ n3_; clear hb hbox hg) | ((with_reducible refine gate_dst (N := 3) rfl ?_); (try (refine gate_guard (by rfl) ?_; dsimp only)); refine box_event ?hg (N := 3) ?hd (cs := #[.int .i64 a1_0, .int .i64 a1_1, .slice A1_2 l1_2.length c1_2]) (t := 27) ?hr ?_; (case hd => rfl); (case hg => rfl); (case hr => first | (go_simp; done) | (go_simp; rfl)); intro gb439 hg w5 hbox hb; have n0_ := Aside0.mk (blk_below (g := gb438) (o := .cells #[.int .i64 a0_0, .int .i64 a0_1, .slice A0_2 l0_2.length c0_2] 27 (0, 0)) (by (with_reducible repeat (first | refine blk_drewN ?_ _ | refine blk_drew ?_ | refine blk_alloc ?_ _)); exact BK438.out) hb); have n1_ := Aside0.mk (below_step (by repeat (first | (with_reducible first | exact HB.out | apply below_alloc | apply pw_below_drewN | apply below_drew1 | refine below_set ?_ GE438.out) | exact HB.out)) hb); have n2_ := Aside0.mk (hbox); have n3_ := Aside0.mk ((by rw [hg]; exact (below_size (by repeat (first | (with_reducible first | exact HB.out | apply below_alloc | apply pw_below_drewN | apply below_drew1 | refine below_set ?_ GE438.out) | exact HB.out))) : w.heap.size ≤ gb439)); have n4_ := Aside0.mk ((by rw [hg]; exact (below_size (by repeat (first | (with_reducible first | exact HB.out | apply below_alloc | apply pw_below_drewN | apply below_drew1 | refine below_set ?_ GE438.out) | exact HB.out))) : w.heap.size ≤ gb439)); have n5_ := Aside0.mk ((by rw [hg]; exact Nat.ne_of_lt (blk_lt (g := gb438) (o := .cells #[.int .i64 a0_0, .int .i64 a0_1, .slice A0_2 l0_2.length c0_2] 27 (0, 0)) (by (with_reducible repeat (first | refine blk_drewN ?_ _ | refine blk_drew ?_ | refine blk_alloc ?_ _)); exact BK438.out)) : gb438 ≠ gb439)); have n6_ := Aside0.mk ((by rw [hg]; exact Nat.ne_of_gt (blk_lt (g := gb438) (o := .cells #[.int .i64 a0_0, .int .i64 a0_1, .slice A0_2 l0_2.length c0_2] 27 (0, 0)) (by (with_reducible repeat (first | refine blk_drewN ?_ _ | refine blk_drew ?_ | refine blk_alloc ?_ _)); exact BK438.out)) : gb439 ≠ gb438)); clear BK438; clear HB; have BK438 := n0_; have HB := n1_; have BK439 := n2_; have GW439 := n3_; have GE439 := n4_; have NB438_439 := n5_; have NB439_438 := n6_; clear n0_ n1_ n2_ n3_ n4_ n5_ n6_; clear hb hbox hg)); go_upto_region 1 with (first | ((with_reducible refine gate_dst (N := 2) rfl ?_); (try (refine gate_guard (by rfl) ?_; dsimp only)); refine box_event ?hg (N := 2) ?hd (cs := #[.int .i64 a0_0, .int .i64 a0_1, .slice A0_2 l0_2.length c0_2]) (t := 27) ?hr ?_; (case hd => rfl); (case hg => rfl); (case hr => first | (go_simp; done) | (go_simp; rfl)); intro gb438 hg w4 hbox hb; have n0_ := Aside0.mk (below_step (by repeat (first | (with_reducible first | exact HB.out | apply below_alloc | apply pw_below_drewN | apply below_drew1) | exact HB.out)) hb); have n1_ := Aside0.mk (hbox); have n2_ := Aside0.mk ((by rw [hg]; exact (below_size (by repeat (first | (with_reducible first | exact HB.out | apply below_alloc | apply pw_below_drewN | apply below_drew1) | exact HB.out))) : w.heap.size ≤ gb438)); have n3_ := Aside0.mk ((by rw [hg]; exact (below_size (by repeat (first | (with_reducible first | exact HB.out | apply below_alloc | apply pw_below_drewN | apply below_drew1) | exact HB.out))) : w.heap.size ≤ gb438)); clear HB; have HB := n0_; have BK438 := n1_; have GW438 := n2_; have GE438 := n3_; clear n0_ n1_ n2_ n3_; clear hb hbox hg) | ((with_reducible refine gate_dst (N := 3) rfl ?_); (try (refine gate_guard (by rfl) ?_; dsimp only)); refine box_event ?hg (N := 3) ?hd (cs := #[.int .i64 a1_0, .int .i64 a1_1, .slice A1_2 l1_2.length c1_2]) (t := 27) ?hr ?_; (case hd => rfl); (case hg => rfl); (case hr => first | (go_simp; done) | (go_simp; rfl)); intro gb439 hg w5 hbox hb; have n0_ := Aside0.mk (blk_below (g := gb438) (o := .cells #[.int .i64 a0_0, .int .i64 a0_1, .slice A0_2 l0_2.length c0_2] 27 (0, 0)) (by (with_reducible repeat (first | refine blk_drewN ?_ _ | refine blk_drew ?_ | refine blk_alloc ?_ _)); exact BK438.out) hb); have n1_ := Aside0.mk (below_step (by repeat (first | (with_reducible first | exact HB.out | apply below_alloc | apply pw_below_drewN | apply below_drew1 | refine below_set ?_ GE438.out) | exact HB.out)) hb); have n2_ := Aside0.mk (hbox); have n3_ := Aside0.mk ((by rw [hg]; exact (below_size (by repeat (first | (with_reducible first | exact HB.out | apply below_alloc | apply pw_below_drewN | apply below_drew1 | refine below_set ?_ GE438.out) | exact HB.out))) : w.heap.size ≤ gb439)); have n4_ := Aside0.mk ((by rw [hg]; exact (below_size (by repeat (first | (with_reducible first | exact HB.out | apply below_alloc | apply pw_below_drewN | apply below_drew1 | refine below_set ?_ GE438.out) | exact HB.out))) : w.heap.size ≤ gb439)); have n5_ := Aside0.mk ((by rw [hg]; exact Nat.ne_of_lt (blk_lt (g := gb438) (o := .cells #[.int .i64 a0_0, .int .i64 a0_1, .slice A0_2 l0_2.length c0_2] 27 (0, 0)) (by (with_reducible repeat (first | refine blk_drewN ?_ _ | refine blk_drew ?_ | refine blk_alloc ?_ _)); exact BK438.out)) : gb438 ≠ gb439)); have n6_ := Aside0.mk ((by rw [hg]; exact Nat.ne_of_gt (blk_lt (g := gb438) (o := .cells #[.int .i64 a0_0, .int .i64 a0_1, .slice A0_2 l0_2.length c0_2] 27 (0, 0)) (by (with_reducible repeat (first | refine blk_drewN ?_ _ | refine blk_drew ?_ | refine blk_alloc ?_ _)); exact BK438.out)) : gb439 ≠ gb438)); clear BK438; clear HB; have BK438 := n0_; have HB := n1_; have BK439 := n2_; have GW439 := n3_; have GE439 := n4_; have NB438_439 := n5_; have NB439_438 := n6_; clear n0_ n1_ n2_ n3_ n4_ n5_ n6_; clear hb hbox hg)))
  (try simp only [Act.put, List.setIfInBounds_toArray, List.set_cons_zero, List.set_cons_succ])
  go_cut [26] (fun v26 wc => ∃ (kq : Nat) (x26_2 : Bool), v26 = .bool x26_2 ∧ Aside0 (torusref30_Same.j0 kq x26_2 a0_0 a0_1 l0_2 a1_0 a1_1 l1_2 = some r) ∧ Aside0 (kq ≤ k) ∧ Aside0 (wc.heap[gb438]? = some (.cells #[.int .i64 a0_0, .int .i64 a0_1, (.slice A0_2 l0_2.length c0_2)] 27 (0, 0))) ∧ Aside0 (wc.heap[gb439]? = some (.cells #[.int .i64 a1_0, .int .i64 a1_1, (.slice A1_2 l1_2.length c1_2)] 27 (0, 0))) ∧ Aside0 (Below w.heap.size w wc))
  case first =>
    have H := HC3.out
    clear HC3
    by_cases c6 : a0_0 = a1_0
    · rw [if_pos c6] at H
      have c6b0 : (a0_0 == a1_0) = true := beq_iff_eq.mpr c6
      have c6b1 : (a0_0 != a1_0) = false := bne_eq_false_iff_eq.mpr c6
      clear c6
      (first | rw [c6b0] | (simp only [i64_w, i32_w]; rw [c6b0]) | skip)
      by_cases c7 : a0_1 = a1_1
      · rw [if_pos c7] at H
        have c7b0 : (a0_1 == a1_1) = true := beq_iff_eq.mpr c7
        have c7b1 : (a0_1 != a1_1) = false := bne_eq_false_iff_eq.mpr c7
        clear c7
        have H' := Aside0.mk H
        clear H
        have hnb8 := NB438_439.out
        have hnc8 := NB439_438.out
        have hcz9_0 : w5.cell? ⟨gb438, 0, none⟩ = some (.int .i64 a0_0) := (blk_cell BK438.out 0).trans rfl
        have hcz9_1 : w5.cell? ⟨gb438, 1, none⟩ = some (.int .i64 a0_1) := (blk_cell BK438.out 1).trans rfl
        have hcz9_2 : w5.cell? ⟨gb438, 2, none⟩ = some (.slice A0_2 l0_2.length c0_2) := (blk_cell BK438.out 2).trans rfl
        have hfz9_0 := blk_frozen BK438.out 0
        have hfz9_1 := blk_frozen BK438.out 1
        have hfz9_2 := blk_frozen BK438.out 2
        have hcz10_0 : w5.cell? ⟨gb439, 0, none⟩ = some (.int .i64 a1_0) := (blk_cell BK439.out 0).trans rfl
        have hcz10_1 : w5.cell? ⟨gb439, 1, none⟩ = some (.int .i64 a1_1) := (blk_cell BK439.out 1).trans rfl
        have hcz10_2 : w5.cell? ⟨gb439, 2, none⟩ = some (.slice A1_2 l1_2.length c1_2) := (blk_cell BK439.out 2).trans rfl
        have hfz10_0 := blk_frozen BK439.out 0
        have hfz10_1 := blk_frozen BK439.out 1
        have hfz10_2 := blk_frozen BK439.out 2
        go_wp2
        repeat (go_quiet (fail); try go_wp2)
        go_meet
        case rel => exact ⟨_, (((l0_2.length : Int) != (l1_2.length : Int))), (by first | rfl | (simp; done) | (simp [*]; done)), H', ⟨by first | omega | exact Nat.le_refl _⟩, ⟨by (with_reducible repeat (first | refine blk_drewN ?_ _ | refine blk_drew ?_ | refine blk_alloc ?_ _)); exact BK438.out⟩, ⟨by (with_reducible repeat (first | refine blk_drewN ?_ _ | refine blk_drew ?_ | refine blk_alloc ?_ _)); exact BK439.out⟩, ⟨by repeat (first | (with_reducible first | exact HB.out | apply below_alloc | apply pw_below_drewN | apply below_drew1 | refine below_set ?_ GE438.out | refine below_set ?_ GE439.out) | exact HB.out)⟩⟩
      · rw [if_neg c7] at H
        have c7b0 : (a0_1 == a1_1) = false := beq_eq_false_iff_ne.mpr c7
        have c7b1 : (a0_1 != a1_1) = true := bne_iff_ne.mpr c7
        have H' := Aside0.mk H
        clear H
        have hnb11 := NB438_439.out
        have hnc11 := NB439_438.out
        have hcz12_0 : w5.cell? ⟨gb438, 0, none⟩ = some (.int .i64 a0_0) := (blk_cell BK438.out 0).trans rfl
        have hcz12_1 : w5.cell? ⟨gb438, 1, none⟩ = some (.int .i64 a0_1) := (blk_cell BK438.out 1).trans rfl
        have hcz12_2 : w5.cell? ⟨gb438, 2, none⟩ = some (.slice A0_2 l0_2.length c0_2) := (blk_cell BK438.out 2).trans rfl
        have hfz12_0 := blk_frozen BK438.out 0
        have hfz12_1 := blk_frozen BK438.out 1
        have hfz12_2 := blk_frozen BK438.out 2
        have hcz13_0 : w5.cell? ⟨gb439, 0, none⟩ = some (.int .i64 a1_0) := (blk_cell BK439.out 0).trans rfl
        have hcz13_1 : w5.cell? ⟨gb439, 1, none⟩ = some (.int .i64 a1_1) := (blk_cell BK439.out 1).trans rfl
        have hcz13_2 : w5.cell? ⟨gb439, 2, none⟩ = some (.slice A1_2 l1_2.length c1_2) := (blk_cell BK439.out 2).trans rfl
        have hfz13_0 := blk_frozen BK439.out 0
        have hfz13_1 := blk_frozen BK439.out 1
        have hfz13_2 := blk_frozen BK439.out 2
        go_wp2
        repeat (go_quiet (fail); try go_wp2)
        go_meet
        case rel => exact ⟨_, (true), (by first | rfl | (simp; done) | (simp [*]; done)), H', ⟨by first | omega | exact Nat.le_refl _⟩, ⟨by (with_reducible repeat (first | refine blk_drewN ?_ _ | refine blk_drew ?_ | refine blk_alloc ?_ _)); exact BK438.out⟩, ⟨by (with_reducible repeat (first | refine blk_drewN ?_ _ | refine blk_drew ?_ | refine blk_alloc ?_ _)); exact BK439.out⟩, ⟨by repeat (first | (with_reducible first | exact HB.out | apply below_alloc | apply pw_below_drewN | apply below_drew1 | refine below_set ?_ GE438.out | refine below_set ?_ GE439.out) | exact HB.out)⟩⟩
    · rw [if_neg c6] at H
      have c6b0 : (a0_0 == a1_0) = false := beq_eq_false_iff_ne.mpr c6
      have c6b1 : (a0_0 != a1_0) = true := bne_iff_ne.mpr c6
      (first | rw [c6b0] | (simp only [i64_w, i32_w]; rw [c6b0]) | skip)
      have H' := Aside0.mk H
      clear H
      have hnb14 := NB438_439.out
      have hnc14 := NB439_438.out
      have hcz15_0 : w5.cell? ⟨gb438, 0, none⟩ = some (.int .i64 a0_0) := (blk_cell BK438.out 0).trans rfl
      have hcz15_1 : w5.cell? ⟨gb438, 1, none⟩ = some (.int .i64 a0_1) := (blk_cell BK438.out 1).trans rfl
      have hcz15_2 : w5.cell? ⟨gb438, 2, none⟩ = some (.slice A0_2 l0_2.length c0_2) := (blk_cell BK438.out 2).trans rfl
      have hfz15_0 := blk_frozen BK438.out 0
      have hfz15_1 := blk_frozen BK438.out 1
      have hfz15_2 := blk_frozen BK438.out 2
      have hcz16_0 : w5.cell? ⟨gb439, 0, none⟩ = some (.int .i64 a1_0) := (blk_cell BK439.out 0).trans rfl
      have hcz16_1 : w5.cell? ⟨gb439, 1, none⟩ = some (.int .i64 a1_1) := (blk_cell BK439.out 1).trans rfl
      have hcz16_2 : w5.cell? ⟨gb439, 2, none⟩ = some (.slice A1_2 l1_2.length c1_2) := (blk_cell BK439.out 2).trans rfl
      have hfz16_0 := blk_frozen BK439.out 0
      have hfz16_1 := blk_frozen BK439.out 1
      have hfz16_2 := blk_frozen BK439.out 2
      go_wp2
      repeat (go_quiet (fail); try go_wp2)
      go_meet
      case rel => exact ⟨_, (true), (by first | rfl | (simp; done) | (simp [*]; done)), H', ⟨by first | omega | exact Nat.le_refl _⟩, ⟨by (with_reducible repeat (first | refine blk_drewN ?_ _ | refine blk_drew ?_ | refine blk_alloc ?_ _)); exact BK438.out⟩, ⟨by (with_reducible repeat (first | refine blk_drewN ?_ _ | refine blk_drew ?_ | refine blk_alloc ?_ _)); exact BK439.out⟩, ⟨by repeat (first | (with_reducible first | exact HB.out | apply below_alloc | apply pw_below_drewN | apply below_drew1 | refine below_set ?_ GE438.out | refine below_set ?_ GE439.out) | exact HB.out)⟩⟩
  case rest =>
    clear HC3
    try clear c1
    try clear p2
    try clear c3
    try clear c6
    try clear c6b0
    try clear c6b1
    try clear c7
    try clear c7b0
    try clear c7b1
    try clear c8
    try clear c11
    try clear c14
    try clear hcz10_0
    try clear hcz10_1
    try clear hcz10_2
    try clear hcz12_0
    try clear hcz12_1
    try clear hcz12_2
    try clear hcz13_0
    try clear hcz13_1
    try clear hcz13_2
    try clear hcz15_0
    try clear hcz15_1
    try clear hcz15_2
    try clear hcz16_0
    try clear hcz16_1
    try clear hcz16_2
    try clear hcz9_0
    try clear hcz9_1
    try clear hcz9_2
    try clear hfz10_0
    try clear hfz10_1
    try clear hfz10_2
    try clear hfz12_0
    try clear hfz12_1
    try clear hfz12_2
    try clear hfz13_0
    try clear hfz13_1
    try clear hfz13_2
    try clear hfz15_0
    try clear hfz15_1
    try clear hfz15_2
    try clear hfz16_0
    try clear hfz16_1
    try clear hfz16_2
    try clear hfz9_0
    try clear hfz9_1
    try clear hfz9_2
    obtain ⟨kq, x26_2, rfl, HA, HJ2, BK438, BK439, HB⟩ := hcut
    cases kq with
    | zero => exact absurd HA.out (by simp [torusref30_Same.j0])
    | succ kj2 =>
      have H := HA.out
      clear HA
      simp only [torusref30_Same.j0] at H
      by_cases c17 : x26_2 = true
      · subst c17
        have H1 : (some false) = some r := by rw [if_pos rfl] at H; exact H
        clear H
        have H := H1
        clear H1
        obtain rfl := Option.some.inj H
        go_wp2
        repeat (go_quiet (fail); try go_wp2)
        go_ret
        exact ⟨by first | rfl | (simp [errW_none, errW_some] <;> rfl) | (simp [*, errW_none, errW_some] <;> rfl), by repeat (first | (with_reducible first | exact HB.out | apply below_alloc | apply pw_below_drewN | apply below_drew1 | refine below_set ?_ GE438.out | refine below_set ?_ GE439.out) | exact HB.out)⟩
      · replace c17 := Bool.eq_false_iff.mpr c17
        subst c17
        have H1 : (torusref30_Same.l0 kj2 0 a0_0 a0_1 l0_2 a1_0 a1_1 l1_2) = some r := by rw [if_neg (show ¬ (false = true) by decide)] at H; exact H
        clear H
        have H := H1
        clear H1
        have H' := Aside0.mk H
        clear H
        go_wp2
        repeat (go_quiet (fail); try go_wp2)
        go_loopg [5] kj2 (fun kq v5 w' => ∃ (x5_2 : Int), v5 = .int .i64 x5_2 ∧ Aside0 (torusref30_Same.l0 kq x5_2 a0_0 a0_1 l0_2 a1_0 a1_1 l1_2 = some r) ∧ Aside0 (kq ≤ kj2) ∧ Aside0 (w'.heap[gb438]? = some (.cells #[.int .i64 a0_0, .int .i64 a0_1, (.slice A0_2 l0_2.length c0_2)] 27 (0, 0))) ∧ Aside0 (w'.heap[gb439]? = some (.cells #[.int .i64 a1_0, .int .i64 a1_1, (.slice A1_2 l1_2.length c1_2)] 27 (0, 0))) ∧ Aside0 (Below w.heap.size w w'))
        case atStart => exact ⟨(0), (by first | rfl | (simp; done) | (simp [*]; done)), H', ⟨Nat.le_refl _⟩, ⟨by (with_reducible repeat (first | refine blk_drewN ?_ _ | refine blk_drew ?_ | refine blk_alloc ?_ _)); exact BK438.out⟩, ⟨by (with_reducible repeat (first | refine blk_drewN ?_ _ | refine blk_drew ?_ | refine blk_alloc ?_ _)); exact BK439.out⟩, ⟨by repeat (first | (with_reducible first | exact HB.out | apply below_alloc | apply pw_below_drewN | apply below_drew1 | refine below_set ?_ GE438.out | refine below_set ?_ GE439.out) | exact HB.out)⟩⟩
        case round =>
          clear H'
          try clear c1
          try clear p2
          try clear c3
          try clear c6
          try clear c6b0
          try clear c6b1
          try clear c7
          try clear c7b0
          try clear c7b1
          try clear c8
          try clear c11
          try clear c14
          try clear c17
          try clear hcz10_0
          try clear hcz10_1
          try clear hcz10_2
          try clear hcz12_0
          try clear hcz12_1
          try clear hcz12_2
          try clear hcz13_0
          try clear hcz13_1
          try clear hcz13_2
          try clear hcz15_0
          try clear hcz15_1
          try clear hcz15_2
          try clear hcz16_0
          try clear hcz16_1
          try clear hcz16_2
          try clear hcz9_0
          try clear hcz9_1
          try clear hcz9_2
          try clear hfz10_0
          try clear hfz10_1
          try clear hfz10_2
          try clear hfz12_0
          try clear hfz12_1
          try clear hfz12_2
          try clear hfz13_0
          try clear hfz13_1
          try clear hfz13_2
          try clear hfz15_0
          try clear hfz15_1
          try clear hfz15_2
          try clear hfz16_0
          try clear hfz16_1
          try clear hfz16_2
          try clear hfz9_0
          try clear hfz9_1
          try clear hfz9_2
          try clear p2
          obtain ⟨x5_2, rfl, HA, HK2, BK438, BK439, HB⟩ := hrel
          cases gk with
          | zero => exact absurd HA.out (by simp [torusref30_Same.l0])
          | succ k2 =>
            have H := HA.out
            clear HA
            simp only [torusref30_Same.l0] at H
            by_cases c18 : x5_2 < (l0_2.length : Int)
            · rw [if_pos c18] at H
              have c18b0 : decide (x5_2 < (l0_2.length : Int)) = true := decide_eq_true c18
              clear c18
              by_cases c19 : 0 ≤ x5_2
              · rw [if_pos c19] at H
                have c19b0 : decide (0 ≤ x5_2) = true := decide_eq_true c19
                clear c19
                by_cases c20 : x5_2 < (l1_2.length : Int)
                · rw [if_pos c20] at H
                  have c20b0 : decide (x5_2 < (l1_2.length : Int)) = true := decide_eq_true c20
                  clear c20
                  by_cases c21 : (!(((rd_T40 l0_2 x5_2).f0) == ((rd_T40 l1_2 x5_2).f0)) || (!(((rd_T40 l0_2 x5_2).f1) == ((rd_T40 l1_2 x5_2).f1)))) = true
                  · rw [if_pos c21] at H
                    have c21b0 : (!(((rd_T40 l0_2 x5_2).f0) == ((rd_T40 l1_2 x5_2).f0)) || (!(((rd_T40 l0_2 x5_2).f1) == ((rd_T40 l1_2 x5_2).f1)))) = true := c21
                    clear c21
                    obtain rfl := Option.some.inj H
                    have hnb22 := NB438_439.out
                    have hnc22 := NB439_438.out
                    have hcz23_0 : wr.cell? ⟨gb438, 0, none⟩ = some (.int .i64 a0_0) := (blk_cell BK438.out 0).trans rfl
                    have hcz23_1 : wr.cell? ⟨gb438, 1, none⟩ = some (.int .i64 a0_1) := (blk_cell BK438.out 1).trans rfl
                    have hcz23_2 : wr.cell? ⟨gb438, 2, none⟩ = some (.slice A0_2 l0_2.length c0_2) := (blk_cell BK438.out 2).trans rfl
                    have hfz23_0 := blk_frozen BK438.out 0
                    have hfz23_1 := blk_frozen BK438.out 1
                    have hfz23_2 := blk_frozen BK438.out 2
                    have p440 : 0 ≤ (x5_2 : Int) := of_decide_eq_true (by first | (with_reducible assumption) | assumption)
                    have q440 : x5_2 < (l0_2.length : Int) := of_decide_eq_true (by first | (with_reducible assumption) | assumption)
                    obtain ⟨ad440, e440, hx440_0, hx440_1⟩ := at_T40 HR0_2.out x5_2 p440 q440
                    cases e440
                    replace hx440_0 := (HB.out.cell (World.block_lt_of_cell? w _ hx440_0)).trans hx440_0
                    replace hx440_1 := (HB.out.cell (World.block_lt_of_cell? w _ hx440_1)).trans hx440_1
                    replace p440 := eq_true p440
                    replace q440 := eq_true q440
                    have hcz24_0 : wr.cell? ⟨gb439, 0, none⟩ = some (.int .i64 a1_0) := (blk_cell BK439.out 0).trans rfl
                    have hcz24_1 : wr.cell? ⟨gb439, 1, none⟩ = some (.int .i64 a1_1) := (blk_cell BK439.out 1).trans rfl
                    have hcz24_2 : wr.cell? ⟨gb439, 2, none⟩ = some (.slice A1_2 l1_2.length c1_2) := (blk_cell BK439.out 2).trans rfl
                    have hfz24_0 := blk_frozen BK439.out 0
                    have hfz24_1 := blk_frozen BK439.out 1
                    have hfz24_2 := blk_frozen BK439.out 2
                    have p441 : 0 ≤ (x5_2 : Int) := of_decide_eq_true (by first | (with_reducible assumption) | assumption)
                    have q441 : x5_2 < (l1_2.length : Int) := of_decide_eq_true (by first | (with_reducible assumption) | assumption)
                    obtain ⟨ad441, e441, hx441_0, hx441_1⟩ := at_T40 HR1_2.out x5_2 p441 q441
                    cases e441
                    replace hx441_0 := (HB.out.cell (World.block_lt_of_cell? w _ hx441_0)).trans hx441_0
                    replace hx441_1 := (HB.out.cell (World.block_lt_of_cell? w _ hx441_1)).trans hx441_1
                    replace p441 := eq_true p441
                    replace q441 := eq_true q441
                    go_wp2
                    repeat (go_quiet (fail); try go_wp2)
                    go_ret
                    exact ⟨by first | rfl | (simp [errW_none, errW_some] <;> rfl) | (simp [*, errW_none, errW_some] <;> rfl), by repeat (first | (with_reducible first | exact HB.out | apply below_alloc | apply pw_below_drewN | apply below_drew1 | refine below_set ?_ GE438.out | refine below_set ?_ GE439.out) | exact HB.out)⟩
                  · rw [if_neg c21] at H
                    have c21b0 : (!(((rd_T40 l0_2 x5_2).f0) == ((rd_T40 l1_2 x5_2).f0)) || (!(((rd_T40 l0_2 x5_2).f1) == ((rd_T40 l1_2 x5_2).f1)))) = false := by simpa using c21
                    clear c21
                    have H' := Aside0.mk H
                    clear H
                    have hnb25 := NB438_439.out
                    have hnc25 := NB439_438.out
                    have hcz26_0 : wr.cell? ⟨gb438, 0, none⟩ = some (.int .i64 a0_0) := (blk_cell BK438.out 0).trans rfl
                    have hcz26_1 : wr.cell? ⟨gb438, 1, none⟩ = some (.int .i64 a0_1) := (blk_cell BK438.out 1).trans rfl
                    have hcz26_2 : wr.cell? ⟨gb438, 2, none⟩ = some (.slice A0_2 l0_2.length c0_2) := (blk_cell BK438.out 2).trans rfl
                    have hfz26_0 := blk_frozen BK438.out 0
                    have hfz26_1 := blk_frozen BK438.out 1
                    have hfz26_2 := blk_frozen BK438.out 2
                    have p440 : 0 ≤ (x5_2 : Int) := of_decide_eq_true (by first | (with_reducible assumption) | assumption)
                    have q440 : x5_2 < (l0_2.length : Int) := of_decide_eq_true (by first | (with_reducible assumption) | assumption)
                    obtain ⟨ad440, e440, hx440_0, hx440_1⟩ := at_T40 HR0_2.out x5_2 p440 q440
                    cases e440
                    replace hx440_0 := (HB.out.cell (World.block_lt_of_cell? w _ hx440_0)).trans hx440_0
                    replace hx440_1 := (HB.out.cell (World.block_lt_of_cell? w _ hx440_1)).trans hx440_1
                    replace p440 := eq_true p440
                    replace q440 := eq_true q440
                    have hcz27_0 : wr.cell? ⟨gb439, 0, none⟩ = some (.int .i64 a1_0) := (blk_cell BK439.out 0).trans rfl
                    have hcz27_1 : wr.cell? ⟨gb439, 1, none⟩ = some (.int .i64 a1_1) := (blk_cell BK439.out 1).trans rfl
                    have hcz27_2 : wr.cell? ⟨gb439, 2, none⟩ = some (.slice A1_2 l1_2.length c1_2) := (blk_cell BK439.out 2).trans rfl
                    have hfz27_0 := blk_frozen BK439.out 0
                    have hfz27_1 := blk_frozen BK439.out 1
                    have hfz27_2 := blk_frozen BK439.out 2
                    have p441 : 0 ≤ (x5_2 : Int) := of_decide_eq_true (by first | (with_reducible assumption) | assumption)
                    have q441 : x5_2 < (l1_2.length : Int) := of_decide_eq_true (by first | (with_reducible assumption) | assumption)
                    obtain ⟨ad441, e441, hx441_0, hx441_1⟩ := at_T40 HR1_2.out x5_2 p441 q441
                    cases e441
                    replace hx441_0 := (HB.out.cell (World.block_lt_of_cell? w _ hx441_0)).trans hx441_0
                    replace hx441_1 := (HB.out.cell (World.block_lt_of_cell? w _ hx441_1)).trans hx441_1
                    replace p441 := eq_true p441
                    replace q441 := eq_true q441
                    go_wp2
                    repeat (go_quiet (fail); try go_wp2)
                    go_roundg k2
                    case measure => have := HJ2.out; have := HK2.out; omega
                    case rel => exact ⟨(wrap64 (x5_2 + 1)), (by first | rfl | (simp; done) | (simp [*]; done)), H', ⟨by have := HJ2.out; have := HK2.out; omega⟩, ⟨by (with_reducible repeat (first | refine blk_drewN ?_ _ | refine blk_drew ?_ | refine blk_alloc ?_ _)); exact BK438.out⟩, ⟨by (with_reducible repeat (first | refine blk_drewN ?_ _ | refine blk_drew ?_ | refine blk_alloc ?_ _)); exact BK439.out⟩, ⟨by repeat (first | (with_reducible first | exact HB.out | apply below_alloc | apply pw_below_drewN | apply below_drew1 | refine below_set ?_ GE438.out | refine below_set ?_ GE439.out) | exact HB.out)⟩⟩
                · rw [if_neg c20] at H
                  exact absurd H (by simp)
              · rw [if_neg c19] at H
                exact absurd H (by simp)
            · rw [if_neg c18] at H
              have c18b0 : decide (x5_2 < (l0_2.length : Int)) = false := decide_eq_false c18
              clear c18
              obtain rfl := Option.some.inj H
              have hnb28 := NB438_439.out
              have hnc28 := NB439_438.out
              have hcz29_0 : wr.cell? ⟨gb438, 0, none⟩ = some (.int .i64 a0_0) := (blk_cell BK438.out 0).trans rfl
              have hcz29_1 : wr.cell? ⟨gb438, 1, none⟩ = some (.int .i64 a0_1) := (blk_cell BK438.out 1).trans rfl
              have hcz29_2 : wr.cell? ⟨gb438, 2, none⟩ = some (.slice A0_2 l0_2.length c0_2) := (blk_cell BK438.out 2).trans rfl
              have hfz29_0 := blk_frozen BK438.out 0
              have hfz29_1 := blk_frozen BK438.out 1
              have hfz29_2 := blk_frozen BK438.out 2
              go_wp2
              repeat (go_quiet (fail); try go_wp2)
              go_ret
              exact ⟨by first | rfl | (simp [errW_none, errW_some] <;> rfl) | (simp [*, errW_none, errW_some] <;> rfl), by repeat (first | (with_reducible first | exact HB.out | apply below_alloc | apply pw_below_drewN | apply below_drew1 | refine below_set ?_ GE438.out | refine below_set ?_ GE439.out) | exact HB.out)⟩
end Go.Proofs.Ytlleokhmgblfnaa.M
end

section
namespace Go.Proofs.Ytlleokhmgblfnaa.M
open Go.RowKit Go.Proofs.YtlleokhmgblfnaaW.PrintWords Go.Proofs.YtlleokhmgblfnaaW.PrintLast Go.Proofs.YtlleokhmgblfnaaW.PrintMore
attribute [local go_sem] max2_int min2_int max_two min_two max_three min_three max_four min_four   -- for this text's walks alone
mutual
def pairing_Turned.l0 : Nat → List (List Int) → List (List Int) → Int → Int → Option ((List (List Int)))
  | 0, _, _, _, _ => none
  | k + 1, x5, x12, x13, x14 => if x14 < x13 then (if 0 ≤ x14 then (if x14 < (x12.length : Int) then (pairing_Turned.l1 k x5 x14 x12 x13 x14 (rd_L5 x12 x14) ((rd_L5 x12 x14).length : Int) 0) else (none)) else (none)) else (some x5)
def pairing_Turned.l1 : Nat → List (List Int) → Int → List (List Int) → Int → Int → List Int → Int → Int → Option ((List (List Int)))
  | 0, _, _, _, _, _, _, _, _ => none
  | k + 1, x5, x6, x12, x13, x14, x19, x20, x21 => if x21 < x20 then (if 0 ≤ x21 then (if x21 < (x19.length : Int) then (if 0 ≤ (rd x19 x21) then (if (rd x19 x21) < (x5.length : Int) then (if (rd_L5 x5 (rd x19 x21)).length < 17592186044416 then (pairing_Turned.l1 k (x5.set ((rd x19 x21) : Int).toNat ((rd_L5 x5 (rd x19 x21)) ++ [x6])) x6 x12 x13 x14 x19 x20 (wrap64 (x21 + 1))) else (none)) else (none)) else (none)) else (none)) else (none)) else (pairing_Turned.l0 k x5 x12 x13 (wrap64 (x14 + 1)))
end
def pairing_Turned.f (k : Nat) (l0 : List (List Int)) (a1 : Int) : Option ((List (List Int))) := if 0 ≤ a1 then (if (a1 : Int).toNat ≤ 11728124029610 then (pairing_Turned.l0 k (List.replicate (a1 : Int).toNat []) l0 (l0.length : Int) 0) else (none)) else (none)
theorem pairing_Turned.mono_l : ∀ k, (∀ y0 y1 y2 y3, LeO (pairing_Turned.l0 k y0 y1 y2 y3) (pairing_Turned.l0 (k + 1) y0 y1 y2 y3)) ∧ (∀ y0 y1 y2 y3 y4 y5 y6 y7, LeO (pairing_Turned.l1 k y0 y1 y2 y3 y4 y5 y6 y7) (pairing_Turned.l1 (k + 1) y0 y1 y2 y3 y4 y5 y6 y7))
  | 0 => ⟨fun _ _ _ _ r h => by simp [pairing_Turned.l0] at h, fun _ _ _ _ _ _ _ _ r h => by simp [pairing_Turned.l1] at h⟩
  | k + 1 => by
    obtain ⟨ih0, ih1⟩ := pairing_Turned.mono_l k
    refine ⟨?_, ?_⟩
    · intro y0 y1 y2 y3
      unfold pairing_Turned.l0
      repeat' first
      | (with_reducible exact ih0 _ _ _ _)
      | (with_reducible exact ih1 _ _ _ _ _ _ _ _)
      | (with_reducible exact LeO.refl _)
      | (with_reducible exact LeO.none _)
      | (with_reducible refine LeO.ite ?_ ?_)
      | (with_reducible refine LeO.bind ?_ (fun _ => ?_))
      | exact ih0 _ _ _ _
      | exact ih1 _ _ _ _ _ _ _ _
      | exact LeO.none _
      | refine LeO.ite ?_ ?_
      | refine LeO.bind ?_ (fun _ => ?_)
    · intro y0 y1 y2 y3 y4 y5 y6 y7
      unfold pairing_Turned.l1
      repeat' first
      | (with_reducible exact ih0 _ _ _ _)
      | (with_reducible exact ih1 _ _ _ _ _ _ _ _)
      | (with_reducible exact LeO.refl _)
      | (with_reducible exact LeO.none _)
      | (with_reducible refine LeO.ite ?_ ?_)
      | (with_reducible refine LeO.bind ?_ (fun _ => ?_))
      | exact ih0 _ _ _ _
      | exact ih1 _ _ _ _ _ _ _ _
      | exact LeO.none _
      | refine LeO.ite ?_ ?_
      | refine LeO.bind ?_ (fun _ => ?_)
theorem pairing_Turned.mono : ∀ a0 a1 k, LeO (pairing_Turned.f k a0 a1) (pairing_Turned.f (k + 1) a0 a1) := by
  intro a0 a1 k
  obtain ⟨ih0, ih1⟩ := pairing_Turned.mono_l k
  unfold pairing_Turned.f
  repeat' first
      | (with_reducible exact ih0 _ _ _ _)
      | (with_reducible exact ih1 _ _ _ _ _ _ _ _)
      | (with_reducible exact LeO.refl _)
      | (with_reducible exact LeO.none _)
      | (with_reducible refine LeO.ite ?_ ?_)
      | (with_reducible refine LeO.bind ?_ (fun _ => ?_))
      | exact ih0 _ _ _ _
      | exact ih1 _ _ _ _ _ _ _ _
      | exact LeO.none _
      | refine LeO.ite ?_ ?_
      | refine LeO.bind ?_ (fun _ => ?_)
set_option maxHeartbeats 8000000 in
set_option maxRecDepth 100000 in
theorem pairing_Turned.calls (k : Nat) (A0 : Option Addr) (c0 : Nat) (l0 : List (List Int)) (a1 : Int) (r : List (List Int)) (w : World) (hr0 : Kd.C (Kd.slice 3 (Kd.int .i64)) w A0 l0.length l0) (hc0 : l0.length ≤ c0) (h : pairing_Turned.f k l0 a1 = some r) :
    Calls Try.prog 45 #[.slice A0 l0.length c0, .int .i64 a1] w fun e w' => ∃ v0_ : Value, e = .returned (v0_) ∧ Kd.S (Kd.slice 3 (Kd.int .i64)) 29 w' w.heap.size (fun _ => True) v0_ r ∧ Below w.heap.size w w' := by
  have HR0 := Aside0.mk hr0
  have HC0 := Aside0.mk hc0
  clear hr0 hc0
  have HB := Aside0.mk (Below.refl w.heap.size w)
  have H : (if 0 ≤ a1 then (if (a1 : Int).toNat ≤ 11728124029610 then (pairing_Turned.l0 k (List.replicate (a1 : Int).toNat []) l0 (l0.length : Int) 0) else (none)) else (none)) = some r := h
  clear h
  by_cases c3 : 0 ≤ a1
  · rw [if_pos c3] at H
    have c3b0 := eq_true c3
    have c3b1 : decide (0 ≤ a1) = true := decide_eq_true c3
    clear c3
    by_cases c4 : (a1 : Int).toNat ≤ 11728124029610
    · rw [if_pos c4] at H
      have c4b0 := eq_true c4
      have c4b1 : decide ((a1 : Int).toNat ≤ 11728124029610) = true := decide_eq_true c4
      clear c4
      obtain ⟨y355, hy355⟩ : ∃ y_ : List (List Int), y_ = (List.replicate (a1 : Int).toNat []) := ⟨_, rfl⟩
      replace H : (pairing_Turned.l0 k y355 l0 (l0.length : Int) 0) = some r := by first | (rw [hy355]; with_reducible exact H) | (have H2_ := (Option.bind_some _ _).symm.trans H; rw [hy355]; with_reducible exact H2_) | (have H2_ := (Option.bind_some _ _).symm.trans H; with_reducible exact H2_) | with_reducible exact H | (rw [hy355]; exact H) | exact H
      have Ny355 := Aside0.mk hy355
      clear hy355
      have H' := Aside0.mk H
      clear H
      go_enter Try.func45, Try.ntmps45
      go_wp2_with (first | ((with_reducible refine gate_dst (N := 11) rfl ?_); refine Kd.S_make (Kd.slice 3 (Kd.int .i64)) _ 29 rfl (N := 11) rfl 69 _ _ rfl a1 rfl rfl Try.underlying69 (.slice none 0 0) 24 info29 rfl (by decide) (by omega) [] (ok := fun _ => True) (okp := fun _ => True) ⟨_, rfl, Kd.R_nil _ _ _ _ _⟩ (fun _ hk => hk) trivial (of_decide_eq_true (by first | (with_reducible assumption) | assumption)) (Nat.le_trans (Nat.mul_le_mul_right _ (of_decide_eq_true (by first | (with_reducible assumption) | assumption) : a1.toNat ≤ 11728124029610)) (by omega)) (Below.refl _ _) (Nat.le_refl _) ?_; intro v356 w5 ho6 hb hg_ hnew_; clear hg_ hnew_; (first | rw [← Ny355.out] at ho6 | (simp only [Int.reduceToNat] at ho6; rw [← Ny355.out] at ho6)); have n0_ := Aside0.mk (Kd.S_lower ho6 (below_size (by repeat (first | (with_reducible first | exact HB.out | apply below_alloc | apply pw_below_drewN | apply below_drew1) | exact HB.out)))); have n1_ := Aside0.mk (below_step (by repeat (first | (with_reducible first | exact HB.out | apply below_alloc | apply pw_below_drewN | apply below_drew1) | exact HB.out)) hb); clear HB; have HO357 := n0_; have HB := n1_; clear n0_ n1_; clear hb ho6))
      go_loopg [14] k (fun kq v14 w' => ∃ (x5_1 : List (List Int)) (x14_1 : Int), v14 = .int .i64 x14_1 ∧ Aside0 (pairing_Turned.l0 kq x5_1 l0 (l0.length : Int) x14_1 = some r) ∧ Aside0 (kq ≤ k) ∧ Aside0 (Kd.S (Kd.slice 3 (Kd.int .i64)) 29 w' w.heap.size (fun _ => True) v356 x5_1) ∧ Aside0 (Below w.heap.size w w'))
      case atStart => exact ⟨(y355), (0), (by first | rfl | (simp; done) | (simp [*]; done)), H', ⟨Nat.le_refl _⟩, ⟨by (with_reducible repeat (first | apply Kd.S_alloc | apply Kd.S_drewN | apply Kd.S_drew)); exact HO357.out⟩, ⟨by repeat (first | (with_reducible first | exact HB.out | apply below_alloc | apply pw_below_drewN | apply below_drew1) | exact HB.out)⟩⟩
      case round =>
        clear H'
        try clear p2
        try clear c3
        try clear c3b0
        try clear c3b1
        try clear c4
        try clear c4b0
        try clear c4b1
        obtain ⟨x5_1, x14_1, rfl, HA, HK1, HO_5, HB⟩ := hrel
        cases gk with
        | zero => exact absurd HA.out (by simp [pairing_Turned.l0])
        | succ k1 =>
          have H := HA.out
          clear HA
          simp only [pairing_Turned.l0] at H
          by_cases c7 : x14_1 < (l0.length : Int)
          · rw [if_pos c7] at H
            have c7b0 : decide (x14_1 < (l0.length : Int)) = true := decide_eq_true c7
            clear c7
            by_cases c8 : 0 ≤ x14_1
            · rw [if_pos c8] at H
              have c8b0 : decide (0 ≤ x14_1) = true := decide_eq_true c8
              clear c8
              by_cases c9 : x14_1 < (l0.length : Int)
              · rw [if_pos c9] at H
                have c9b0 : decide (x14_1 < (l0.length : Int)) = true := decide_eq_true c9
                clear c9
                have H' := Aside0.mk H
                clear H
                have p358 : 0 ≤ (x14_1 : Int) := of_decide_eq_true (by first | (with_reducible assumption) | assumption)
                have q358 : x14_1 < (l0.length : Int) := of_decide_eq_true (by first | (with_reducible assumption) | assumption)
                obtain ⟨ad358, A358_0, c358_0, e358, hx358_0, hl358_0, hi358_0⟩ := at_L5 HR0.out x14_1 p358 q358
                cases e358
                replace hx358_0 := (HB.out.cell (World.block_lt_of_cell? w _ hx358_0)).trans hx358_0
                have HR358_0 := Aside0.mk hi358_0
                have HC358_0 := Aside0.mk hl358_0
                clear hi358_0 hl358_0
                replace p358 := eq_true p358
                replace q358 := eq_true q358
                go_wp2
                go_loopg [21] k1 (fun kq v21 w' => ∃ (x5_2 : List (List Int)) (x21_2 : Int), v21 = .int .i64 x21_2 ∧ Aside0 (pairing_Turned.l1 kq x5_2 x14_1 l0 (l0.length : Int) x14_1 (rd_L5 l0 x14_1) ((rd_L5 l0 x14_1).length : Int) x21_2 = some r) ∧ Aside0 (kq ≤ k1) ∧ Aside0 (Kd.S (Kd.slice 3 (Kd.int .i64)) 29 w' w.heap.size (fun _ => True) v356 x5_2) ∧ Aside0 (Below w.heap.size w w'))
                case atStart => exact ⟨(x5_1), (0), (by first | rfl | (simp; done) | (simp [*]; done)), H', ⟨Nat.le_refl _⟩, ⟨by (with_reducible repeat (first | apply Kd.S_alloc | apply Kd.S_drewN | apply Kd.S_drew)); exact HO_5.out⟩, ⟨by repeat (first | (with_reducible first | exact HB.out | apply below_alloc | apply pw_below_drewN | apply below_drew1) | exact HB.out)⟩⟩
                case round =>
                  clear H'
                  try clear p2
                  try clear c3
                  try clear c3b0
                  try clear c3b1
                  try clear p3
                  try clear q3
                  try clear hx3
                  try clear c4
                  try clear c4b0
                  try clear c4b1
                  try clear c7
                  try clear c7b0
                  try clear c8
                  try clear c8b0
                  try clear c9
                  try clear c9b0
                  try clear hx358_0
                  try clear p2
                  try clear p358
                  try clear q358
                  obtain ⟨x5_2, x21_2, rfl, HA, HK2, HO_5, HB⟩ := hrel
                  cases gk with
                  | zero => exact absurd HA.out (by simp [pairing_Turned.l1])
                  | succ k2 =>
                    have H := HA.out
                    clear HA
                    simp only [pairing_Turned.l1] at H
                    by_cases c10 : x21_2 < ((rd_L5 l0 x14_1).length : Int)
                    · rw [if_pos c10] at H
                      have c10b0 : decide (x21_2 < ((rd_L5 l0 x14_1).length : Int)) = true := decide_eq_true c10
                      clear c10
                      by_cases c11 : 0 ≤ x21_2
                      · rw [if_pos c11] at H
                        have c11b0 : decide (0 ≤ x21_2) = true := decide_eq_true c11
                        clear c11
                        by_cases c12 : x21_2 < ((rd_L5 l0 x14_1).length : Int)
                        · rw [if_pos c12] at H
                          have c12b0 : decide (x21_2 < ((rd_L5 l0 x14_1).length : Int)) = true := decide_eq_true c12
                          clear c12
                          by_cases c13 : 0 ≤ (rd (rd_L5 l0 x14_1) x21_2)
                          · rw [if_pos c13] at H
                            have c13b0 : decide (0 ≤ (rd (rd_L5 l0 x14_1) x21_2)) = true := decide_eq_true c13
                            clear c13
                            by_cases c14 : (rd (rd_L5 l0 x14_1) x21_2) < (x5_2.length : Int)
                            · rw [if_pos c14] at H
                              have c14b0 : decide ((rd (rd_L5 l0 x14_1) x21_2) < (x5_2.length : Int)) = true := decide_eq_true c14
                              clear c14
                              by_cases c15 : (rd_L5 x5_2 (rd (rd_L5 l0 x14_1) x21_2)).length < 17592186044416
                              · rw [if_pos c15] at H
                                have LMc15 := Aside0.mk c15
                                clear c15
                                obtain ⟨y361, hy361⟩ : ∃ y_ : List Int, y_ = ((rd_L5 x5_2 (rd (rd_L5 l0 x14_1) x21_2)) ++ [x14_1]) := ⟨_, rfl⟩
                                replace H : (pairing_Turned.l1 k2 (x5_2.set ((rd (rd_L5 l0 x14_1) x21_2) : Int).toNat y361) x14_1 l0 (l0.length : Int) x14_1 (rd_L5 l0 x14_1) ((rd_L5 l0 x14_1).length : Int) (wrap64 (x21_2 + 1))) = some r := by first | (rw [hy361]; with_reducible exact H) | (have H2_ := (Option.bind_some _ _).symm.trans H; rw [hy361]; with_reducible exact H2_) | (have H2_ := (Option.bind_some _ _).symm.trans H; with_reducible exact H2_) | with_reducible exact H | (rw [hy361]; exact H) | exact H
                                have Ny361 := Aside0.mk hy361
                                clear hy361
                                obtain ⟨y364, hy364⟩ : ∃ y_ : List (List Int), y_ = (x5_2.set ((rd (rd_L5 l0 x14_1) x21_2) : Int).toNat y361) := ⟨_, rfl⟩
                                replace H : (pairing_Turned.l1 k2 y364 x14_1 l0 (l0.length : Int) x14_1 (rd_L5 l0 x14_1) ((rd_L5 l0 x14_1).length : Int) (wrap64 (x21_2 + 1))) = some r := by first | (rw [hy364]; with_reducible exact H) | (have H2_ := (Option.bind_some _ _).symm.trans H; rw [hy364]; with_reducible exact H2_) | (have H2_ := (Option.bind_some _ _).symm.trans H; with_reducible exact H2_) | with_reducible exact H | (rw [hy364]; exact H) | exact H
                                have Ny364 := Aside0.mk hy364
                                clear hy364
                                have H' := Aside0.mk H
                                clear H
                                have p359 : 0 ≤ (x21_2 : Int) := of_decide_eq_true (by first | (with_reducible assumption) | assumption)
                                have q359 : x21_2 < ((rd_L5 l0 x14_1).length : Int) := of_decide_eq_true (by first | (with_reducible assumption) | assumption)
                                obtain ⟨ad359, e359, hx359_0⟩ := Kd.at_int HR358_0.out x21_2 p359 q359
                                cases e359
                                replace hx359_0 := (HB.out.cell (World.block_lt_of_cell? w _ hx359_0)).trans hx359_0
                                replace p359 := eq_true p359
                                replace q359 := eq_true q359
                                obtain ⟨Ao17, co17, eo17⟩ := Kd.S_slice HO_5.out
                                subst eo17
                                have p360 : 0 ≤ ((rd (rd_L5 l0 x14_1) x21_2) : Int) := of_decide_eq_true (by first | (with_reducible assumption) | assumption)
                                have q360 : (rd (rd_L5 l0 x14_1) x21_2) < (x5_2.length : Int) := of_decide_eq_true (by first | (with_reducible assumption) | assumption)
                                obtain ⟨ad360, A360_0, c360_0, e360, hx360_0, hl360_0, hi360_0⟩ := at_L5 (Kd.S_reads' HO_5.out).2.2 (rd (rd_L5 l0 x14_1) x21_2) p360 q360
                                cases e360
                                obtain ⟨ce360, hce360, hMe360, hcc360⟩ := Kd.S_get HO_5.out [] (rd (rd_L5 l0 x14_1) x21_2) p360 (by first | exact q360 | exact of_decide_eq_true (by first | (with_reducible assumption) | assumption) | (have e_ := (Kd.S_reads' HO_5.out).1; omega))
                                obtain ⟨ve360_0, rfl, ge360_0⟩ := hMe360
                                have hv360_0 := hcc360 0 _ rfl
                                rw [Nat.add_zero, show ((Kd.slice 3 (Kd.int .i64))).sz = 1 from rfl, Nat.mul_one] at hv360_0
                                replace hv360_0 := Option.some.inj (hv360_0.symm.trans hx360_0)
                                rw [hv360_0] at ge360_0
                                have HL360_0 := Aside0.mk (show Kd.R (Kd.int .i64) 3 _ _ _ _ (rd_L5 x5_2 (rd (rd_L5 l0 x14_1) x21_2)) from ge360_0)
                                clear hv360_0 ge360_0
                                have HX360_0 := Aside0.mk hx360_0
                                clear hcc360 hce360
                                have HR360_0 := Aside0.mk hi360_0
                                have HC360_0 := Aside0.mk hl360_0
                                clear hi360_0 hl360_0
                                replace p360 := eq_true p360
                                replace q360 := eq_true q360
                                obtain ⟨go18, co18, eo18, gb18, gl18, cl18, HG18⟩ := Kd.S_form HO_5.out (by have h_ : ((rd (rd_L5 l0 x14_1) x21_2) : Int) < ((x5_2.length : Int) : Int) := of_decide_eq_true (by first | (with_reducible assumption) | assumption); have h2_ : 0 ≤ ((rd (rd_L5 l0 x14_1) x21_2) : Int) := (of_decide_eq_true (by first | (with_reducible assumption) | assumption)); omega)
                                (first | cases eo18 | (injection eo18 with ea_ en_ ec_; (first | subst ea_ | (injection ea_ with ea_; subst ea_)); subst ec_; clear en_))
                                have GB18 := Aside0.mk gb18
                                have GG18 := Aside0.mk HG18
                                clear gb18 gl18 HG18
                                (first | simp only [add_plain] at hx360_0 | skip)
                                obtain ⟨oki18, ce18, hcl18, hM18, hcc18, _, _, hH18⟩ := Kd.S_elem HO_5.out [] ((rd (rd_L5 l0 x14_1) x21_2) : Int) (of_decide_eq_true (by first | (with_reducible assumption) | assumption)) (by have h_ : ((rd (rd_L5 l0 x14_1) x21_2) : Int) < ((x5_2.length : Int) : Int) := of_decide_eq_true (by first | (with_reducible assumption) | assumption); first | exact h_ | (have e_ := (Kd.S_reads' HO_5.out).1; omega) | simpa using h_)
                                obtain ⟨ve18_0, rfl, ge18_0⟩ := hM18
                                have hv18 := hcc18 0 _ rfl
                                have hX18 := HX360_0.out
                                (try simp only [add_plain] at hX18)
                                (try simp only [Nat.add_zero] at hv18)
                                (try rw [show ((Kd.slice 3 (Kd.int .i64))).sz = 1 from rfl, Nat.mul_one] at hv18)
                                replace hv18 := Option.some.inj (hv18.symm.trans hX18)
                                subst hv18
                                clear hX18 hcc18 hcl18
                                have UU18 := Aside0.mk (show Kd.R (Kd.int .i64) 3 _ w.heap.size oki18 (.slice A360_0 (rd_L5 x5_2 (rd (rd_L5 l0 x14_1) x21_2)).length c360_0) (rd_L5 x5_2 (rd (rd_L5 l0 x14_1) x21_2)) from ge18_0)
                                have HH18 := Aside0.mk hH18
                                have HN18 := Aside0.mk (Kd.S_reads' HO_5.out).1
                                clear hH18 ge18_0
                                go_wp2_with (first | ((with_reducible refine gate_builtin (b := .append) (xs := #[.tmp 30, .tmp 32]) rfl ?_); at_builtin; refine Kd.R_append (Kd.int .i64) (w0 := w) w.heap.size rfl (.tmp 30) (.tmp 32) 29 3 (.int .i64 0) 8 rfl Try.underlying29 info3 rfl (by decide) (by omega) (.slice A360_0 (rd_L5 x5_2 (rd (rd_L5 l0 x14_1) x21_2)).length c360_0) (rd_L5 x5_2 (rd (rd_L5 l0 x14_1) x21_2)) x14_1 [.int .i64 x14_1] (fun k_ => oki18 k_ ∨ ((fun _ => True)) k_ ∧ wr.heap.size ≤ k_) (fun _ => False) rfl rfl ?aP (fun _ hk => hk.elim) ?aF ?aO ?aB ?aS ?aL ?_; (case aP => exact rfl); (case aB => exact (by repeat (first | (with_reducible first | exact HB.out | apply below_alloc | apply pw_below_drewN | apply below_drew1) | exact HB.out))); (case aF => exact (fun k_ hk => .inr ⟨trivial, hk⟩)); (case aO => exact (by (with_reducible repeat (first | apply Kd.R_alloc | apply Kd.R_drewN | apply Kd.R_drew)); exact Kd.R_mono UU18.out (fun _ hk => .inl hk))); (case aS => exact (below_size (by repeat (first | (with_reducible first | exact HB.out | apply below_alloc | apply pw_below_drewN | apply below_drew1) | exact HB.out)))); (case aL => have := LMc15.out; omega); intro v362 w19 ho hb hg hat; rw [← Ny361.out] at ho; have n0_ := Aside0.mk (hb); have n1_ := Aside0.mk (Kd.H_grown (Kd.H_widen (by repeat (first | exact HH18.out | refine Kd.H_alloc ?_ _ | refine Kd.H_drewN ?_ _ | refine Kd.H_drew ?_))) hg (fun k_ e_ => .inl (UU18.out.1 k_ e_))); have n2_ := Aside0.mk (ho); clear HB; clear HH18; clear HO_5; clear UU18; clear HL360_0; have HB := n0_; have HH18 := n1_; have HO363 := n2_; clear n0_ n1_ n2_; clear ho hb hg hat; have p16 : 0 ≤ ((rd (rd_L5 l0 x14_1) x21_2) : Int) := of_decide_eq_true (by first | (with_reducible assumption) | assumption); have q16 : ((rd (rd_L5 l0 x14_1) x21_2) : Int) < ((x5_2.length : Int) : Int) := of_decide_eq_true (by first | (with_reducible assumption) | assumption); replace p16 := eq_true p16; replace q16 := eq_true q16; obtain ⟨Ao22, co22, eo22⟩ := Kd.R_slice HO363.out; subst eo22; obtain ⟨_, _, hraw20, _, _, hcc20, _⟩ := Kd.H_raw HH18.out (of_decide_eq_true (by first | (with_reducible assumption) | assumption)) (by have h_ : ((rd (rd_L5 l0 x14_1) x21_2) : Int) < ((x5_2.length : Int) : Int) := of_decide_eq_true (by first | (with_reducible assumption) | assumption); first | exact h_ | (have e_ := (HN18.out); omega) | simpa using h_); obtain ⟨_, hfr20⟩ := Kd.H_at HH18.out (of_decide_eq_true (by first | (with_reducible assumption) | assumption)) (by have h_ : ((rd (rd_L5 l0 x14_1) x21_2) : Int) < ((x5_2.length : Int) : Int) := of_decide_eq_true (by first | (with_reducible assumption) | assumption); first | exact h_ | (have e_ := (HN18.out); omega) | simpa using h_); have hx20_0 := hcc20 0 _ rfl; have hf20_0 := hfr20 0; (try simp only [Nat.add_zero] at hx20_0 hf20_0); (try rw [show ((Kd.slice 3 (Kd.int .i64))).sz = 1 from rfl, Nat.mul_one] at hx20_0); (try rw [show ((Kd.slice 3 (Kd.int .i64))).sz = 1 from rfl, Nat.mul_one] at hf20_0); have HP20 := Kd.S_seg0 HH18.out (of_decide_eq_true (by first | (with_reducible assumption) | assumption)) (by have h_ : ((rd (rd_L5 l0 x14_1) x21_2) : Int) < ((x5_2.length : Int) : Int) := of_decide_eq_true (by first | (with_reducible assumption) | assumption); first | exact h_ | (have e_ := (HN18.out); omega) | simpa using h_) (seg := [.slice Ao22 y361.length co22]) (j := 0) (show 1 ≤ 1 from by decide) (x' := y361) (Kd.M_row HO363.out) (fun _ hk => hk); (try simp only [show ((Kd.slice 3 (Kd.int .i64))).sz = 1 from rfl, Nat.mul_one, Nat.add_zero] at HP20); clear hcc20 hfr20) | ((with_reducible refine gate_store (t := 29) (p := 34) rfl ?_); refine store_event (t := 29) (p := 34) (v := ?vo_w21) (w1 := (w19.setCell ⟨go18, ((rd (rd_L5 l0 x14_1) x21_2) : Int).toNat, none⟩ (.slice Ao22 y361.length co22))) ?hg ?ho ?hn ?hr ?_; (case ho => rfl); (case hg => rfl); (case hn => rfl); (case hr => first | (go_simp; done) | (go_simp; rfl)); intro w21 hw; have hg : w19.grownBy w21 (some go18) := (by rw [hw]; exact HP20.2); have hp_ : Kd.S (Kd.slice 3 (Kd.int .i64)) 29 w21 w.heap.size (fun _ => True) (.slice (some ⟨go18, 0, none⟩) x5_2.length co17) y364 := (by rw [hw, Ny364.out]; exact HP20.1); clear HP20; have n0_ := Aside0.mk ((by rw [hw]; exact below_set HB.out GB18.out : Below w.heap.size w w21)); have n1_ := Aside0.mk (hp_); clear HB; clear HO363; clear HH18; have HB := n0_; have HO_5 := n1_; clear n0_ n1_; clear hg hw hp_ hraw20))
                                go_roundg k2
                                case measure => have := HK1.out; have := HK2.out; omega
                                case rel => exact ⟨(y364), (wrap64 (x21_2 + 1)), (by first | rfl | (simp; done) | (simp [*]; done)), H', ⟨by have := HK1.out; have := HK2.out; omega⟩, ⟨by (with_reducible repeat (first | apply Kd.S_alloc | apply Kd.S_drewN | apply Kd.S_drew)); exact HO_5.out⟩, ⟨by repeat (first | (with_reducible first | exact HB.out | apply below_alloc | apply pw_below_drewN | apply below_drew1) | exact HB.out)⟩⟩
                              · rw [if_neg c15] at H
                                exact absurd H (by simp)
                            · rw [if_neg c14] at H
                              exact absurd H (by simp)
                          · rw [if_neg c13] at H
                            exact absurd H (by simp)
                        · rw [if_neg c12] at H
                          exact absurd H (by simp)
                      · rw [if_neg c11] at H
                        exact absurd H (by simp)
                    · rw [if_neg c10] at H
                      have c10b0 : decide (x21_2 < ((rd_L5 l0 x14_1).length : Int)) = false := decide_eq_false c10
                      clear c10
                      have H' := Aside0.mk H
                      clear H
                      go_wp2
                      go_roundg k2
                      case measure => have := HK1.out; have := HK2.out; omega
                      case rel => exact ⟨(x5_2), (wrap64 (x14_1 + 1)), (by first | rfl | (simp; done) | (simp [*]; done)), H', ⟨by have := HK1.out; have := HK2.out; omega⟩, ⟨by (with_reducible repeat (first | apply Kd.S_alloc | apply Kd.S_drewN | apply Kd.S_drew)); exact HO_5.out⟩, ⟨by repeat (first | (with_reducible first | exact HB.out | apply below_alloc | apply pw_below_drewN | apply below_drew1) | exact HB.out)⟩⟩
              · rw [if_neg c9] at H
                exact absurd H (by simp)
            · rw [if_neg c8] at H
              exact absurd H (by simp)
          · rw [if_neg c7] at H
            have c7b0 : decide (x14_1 < (l0.length : Int)) = false := decide_eq_false c7
            clear c7
            obtain rfl := Option.some.inj H
            go_wp2
            go_ret
            exact ⟨_, by first | rfl | (simp [errW_none, errW_some] <;> rfl) | (simp [*, errW_none, errW_some] <;> rfl), by (with_reducible repeat (first | apply Kd.S_alloc | apply Kd.S_drewN | apply Kd.S_drew)); exact HO_5.out, by repeat (first | (with_reducible first | exact HB.out | apply below_alloc | apply pw_below_drewN | apply below_drew1) | exact HB.out)⟩
    · rw [if_neg c4] at H
      exact absurd H (by simp)
  · rw [if_neg c3] at H
    exact absurd H (by simp)
def match_Free.f (k : Nat) (a0_0 : Int) (a0_1 : Int) (l0_2 : List (S40)) : Option (List Int × List Int × Int) := (match_Check.f a0_0 a0_1 l0_2).bind fun t366 => (if t366 = 0 then ((match_Graph_neighbours.f k a0_0 a0_1 l0_2).bind fun t367 => ((match_reach.f k t367 a0_1).bind fun bt370 => ((pairing_Turned.f k t367 a0_1).bind fun t376 => ((match_reach.f k t376 a0_0).bind fun bt379 => ((pairing_Chosen.f k bt370.1 true).bind fun t385 => ((pairing_Chosen.f k bt379.1 true).bind fun t388 => (some (t385, t388, 0)))))))) else (some (([] : List Int), ([] : List Int), t366)))
theorem match_Free.mono : ∀ a0 a1 a2 k, LeO (match_Free.f k a0 a1 a2) (match_Free.f (k + 1) a0 a1 a2) := by
  intro a0 a1 a2 k
  unfold match_Free.f
  repeat' first
      | (with_reducible exact match_Graph_neighbours.mono _ _ _ _)
      | (with_reducible exact match_reach.mono _ _ _)
      | (with_reducible exact pairing_Chosen.mono _ _ _)
      | (with_reducible exact pairing_Turned.mono _ _ _)
      | (with_reducible exact LeO.refl _)
      | (with_reducible exact LeO.none _)
      | (with_reducible refine LeO.ite ?_ ?_)
      | (with_reducible refine LeO.bind ?_ (fun _ => ?_))
      | exact match_Graph_neighbours.mono _ _ _ _
      | exact match_reach.mono _ _ _
      | exact pairing_Chosen.mono _ _ _
      | exact pairing_Turned.mono _ _ _
      | exact LeO.none _
      | refine LeO.ite ?_ ?_
      | refine LeO.bind ?_ (fun _ => ?_)
def match_Free.T6 : Bool × List (List Nat × List Nat) := (true, [([], []), ([], []), ([1], [1]), ([0, 2], [0, 2]), ([], []), ([4], [4]), ([3, 5, 3], [3, 5]), ([6], [6]), ([7], [7]), ([7], [7]), ([8, 6, 0, 1, 2, 3, 4, 5, 6, 7, 8], [8]), ([9, 10, 0, 1, 2, 3, 4, 5, 6, 7, 8, 9, 10], [9])])
def match_Free.B6 : List Nat := [0, 0, 2, 7, 0, 16, 63, 127, 255, 255, 511, 2047]
theorem match_Free.tab6 : rtab .any (opsOf Try.f25 6) = match_Free.T6 := by kernel_rfl
theorem match_Free.bits6 : waitsOk match_Free.T6.2 match_Free.B6 = true := by kernel_rfl
set_option maxHeartbeats 8000000 in
set_option maxRecDepth 100000 in
theorem match_Free.calls (k : Nat) (a0_0 : Int) (a0_1 : Int) (A0_2 : Option Addr) (c0_2 : Nat) (l0_2 : List (S40)) (r1 : List Int) (r2 : List Int) (r3 : Int) (w : World) (hr0_2 : Kd.C k40 w A0_2 l0_2.length l0_2) (hc0_2 : l0_2.length ≤ c0_2) (h : match_Free.f k a0_0 a0_1 l0_2 = some (r1, r2, r3)) :
    Calls Try.prog 25 #[.agg #[.int .i64 a0_0, .int .i64 a0_1, .slice A0_2 l0_2.length c0_2]] w fun e w' => ∃ v0_ v1_ : Value, e = .returned (.tuple #[v0_, v1_, .int .i64 r3]) ∧ Kd.R (Kd.int .i64) 3 w' w.heap.size (fun k_ => some k_ ≠ (v1_ : Value).ownBlock) v0_ r1 ∧ Kd.R (Kd.int .i64) 3 w' w.heap.size (fun k_ => some k_ ≠ (v0_ : Value).ownBlock) v1_ r2 ∧ Below w.heap.size w w' := by
  have hu33 := Try.underlying33
  have HR0_2 := Aside0.mk hr0_2
  have HC0_2 := Aside0.mk hc0_2
  clear hr0_2 hc0_2
  have HB := Aside0.mk (Below.refl w.heap.size w)
  have H : ((match_Check.f a0_0 a0_1 l0_2).bind fun t366 => (if t366 = 0 then ((match_Graph_neighbours.f k a0_0 a0_1 l0_2).bind fun t367 => ((match_reach.f k t367 a0_1).bind fun bt370 => ((pairing_Turned.f k t367 a0_1).bind fun t376 => ((match_reach.f k t376 a0_0).bind fun bt379 => ((pairing_Chosen.f k bt370.1 true).bind fun t385 => ((pairing_Chosen.f k bt379.1 true).bind fun t388 => (some (t385, t388, 0)))))))) else (some (([] : List Int), ([] : List Int), t366)))) = some (r1, r2, r3) := h
  clear h
  replace H := Option.bind_eq_some_iff.mp H
  obtain ⟨t366, A20, H⟩ := H
  replace H : (if t366 = 0 then ((match_Graph_neighbours.f k a0_0 a0_1 l0_2).bind fun t367 => ((match_reach.f k t367 a0_1).bind fun bt370 => ((pairing_Turned.f k t367 a0_1).bind fun t376 => ((match_reach.f k t376 a0_0).bind fun bt379 => ((pairing_Chosen.f k bt370.1 true).bind fun t385 => ((pairing_Chosen.f k bt379.1 true).bind fun t388 => (some (t385, t388, 0)))))))) else (some (([] : List Int), ([] : List Int), t366))) = some (r1, r2, r3) := H
  have A2 := Aside0.mk A20
  clear A20
  by_cases c3 : t366 = 0
  · rw [if_pos c3] at H
    have c3b0 : (t366 == 0) = true := beq_iff_eq.mpr c3
    have c3b1 : (t366 != 0) = false := bne_eq_false_iff_eq.mpr c3
    clear c3
    replace H := Option.bind_eq_some_iff.mp H
    obtain ⟨t367, A40, H⟩ := H
    replace H : ((match_reach.f k t367 a0_1).bind fun bt370 => ((pairing_Turned.f k t367 a0_1).bind fun t376 => ((match_reach.f k t376 a0_0).bind fun bt379 => ((pairing_Chosen.f k bt370.1 true).bind fun t385 => ((pairing_Chosen.f k bt379.1 true).bind fun t388 => (some (t385, t388, 0))))))) = some (r1, r2, r3) := H
    have A4 := Aside0.mk A40
    clear A40
    replace H := Option.bind_eq_some_iff.mp H
    obtain ⟨⟨t370, t371⟩, A50, H⟩ := H
    replace H : ((pairing_Turned.f k t367 a0_1).bind fun t376 => ((match_reach.f k t376 a0_0).bind fun bt379 => ((pairing_Chosen.f k t370 true).bind fun t385 => ((pairing_Chosen.f k bt379.1 true).bind fun t388 => (some (t385, t388, 0)))))) = some (r1, r2, r3) := H
    have A5 := Aside0.mk A50
    clear A50
    replace H := Option.bind_eq_some_iff.mp H
    obtain ⟨t376, A60, H⟩ := H
    replace H : ((match_reach.f k t376 a0_0).bind fun bt379 => ((pairing_Chosen.f k t370 true).bind fun t385 => ((pairing_Chosen.f k bt379.1 true).bind fun t388 => (some (t385, t388, 0))))) = some (r1, r2, r3) := H
    have A6 := Aside0.mk A60
    clear A60
    replace H := Option.bind_eq_some_iff.mp H
    obtain ⟨⟨t379, t380⟩, A70, H⟩ := H
    replace H : ((pairing_Chosen.f k t370 true).bind fun t385 => ((pairing_Chosen.f k t379 true).bind fun t388 => (some (t385, t388, 0)))) = some (r1, r2, r3) := H
    have A7 := Aside0.mk A70
    clear A70
    replace H := Option.bind_eq_some_iff.mp H
    obtain ⟨t385, A80, H⟩ := H
    replace H : ((pairing_Chosen.f k t379 true).bind fun t388 => (some (t385, t388, 0))) = some (r1, r2, r3) := H
    have A8 := Aside0.mk A80
    clear A80
    replace H := Option.bind_eq_some_iff.mp H
    obtain ⟨t388, A90, H⟩ := H
    replace H : (some (t385, t388, 0)) = some (r1, r2, r3) := H
    have A9 := Aside0.mk A90
    clear A90
    simp only [Option.some.injEq, Prod.mk.injEq] at H
    obtain ⟨rfl, rfl, rfl⟩ := H
    go_enter Try.func25, Try.ntmps25
    try go_wp2_with (first | ((with_reducible refine gate_dst (N := 1) rfl ?_); refine box_event ?hg (N := 1) ?hd (cs := #[.int .i64 a0_0, .int .i64 a0_1, .slice A0_2 l0_2.length c0_2]) (t := 33) ?hr ?_; (case hd => rfl); (case hg => rfl); (case hr => first | (go_simp; done) | (go_simp; rfl)); intro gb365 hg w10 hbox hb; have n0_ := Aside0.mk (below_step (by repeat (first | (with_reducible first | exact HB.out | apply below_alloc | apply pw_below_drewN | apply below_drew1) | exact HB.out)) hb); have n1_ := Aside0.mk (hbox); have n2_ := Aside0.mk ((by rw [hg]; exact (below_size (by repeat (first | (with_reducible first | exact HB.out | apply below_alloc | apply pw_below_drewN | apply below_drew1) | exact HB.out))) : w.heap.size ≤ gb365)); have n3_ := Aside0.mk ((by rw [hg]; exact (below_size (by repeat (first | (with_reducible first | exact HB.out | apply below_alloc | apply pw_below_drewN | apply below_drew1) | exact HB.out))) : w.heap.size ≤ gb365)); clear HB; have HB := n0_; have BK365 := n1_; have GW365 := n2_; have GE365 := n3_; clear n0_ n1_ n2_ n3_; clear hb hbox hg; have hcz11_0 : w10.cell? ⟨gb365, 0, none⟩ = some (.int .i64 a0_0) := (blk_cell BK365.out 0).trans rfl; have hcz11_1 : w10.cell? ⟨gb365, 1, none⟩ = some (.int .i64 a0_1) := (blk_cell BK365.out 1).trans rfl; have hcz11_2 : w10.cell? ⟨gb365, 2, none⟩ = some (.slice A0_2 l0_2.length c0_2) := (blk_cell BK365.out 2).trans rfl; have hfz11_0 := blk_frozen BK365.out 0; have hfz11_1 := blk_frozen BK365.out 1; have hfz11_2 := blk_frozen BK365.out 2) | ((with_reducible refine gate_callee (f := 23) rfl ?_); refine goesL_ (some 12) rfl rfl Try.func23 (by kernel_rfl) rfl #[.agg #[.int .i64 a0_0, .int .i64 a0_1, .slice A0_2 l0_2.length c0_2]] rfl (by (try simp only [List.map_toArray, List.map_cons, List.map_nil]); first | done | rfl | (simp only [List.length_drop, List.length_take]; rfl)) ?_; (with_reducible refine (match_Check.calls a0_0 a0_1 _ _ l0_2 t366 _ ?side1 ?side2 A2.out).mono ?_); (case side1 => repeat (first | exact (Kd.C_below HR0_2.out HB.out) | (with_reducible refine Kd.C_alloc ?_ _) | (with_reducible refine Kd.C_drewN ?_ _) | (with_reducible refine Kd.C_drew ?_))); (case side2 => exact HC0_2.out); rintro e w12 ⟨rfl, hb⟩; refine ⟨_, rfl, ?_⟩; have n0_ := Aside0.mk (blk_below (g := gb365) (o := .cells #[.int .i64 a0_0, .int .i64 a0_1, .slice A0_2 l0_2.length c0_2] 33 (0, 0)) (by (with_reducible repeat (first | refine blk_drewN ?_ _ | refine blk_drew ?_ | refine blk_alloc ?_ _)); exact BK365.out) hb); have n1_ := Aside0.mk (below_step (by repeat (first | (with_reducible first | exact HB.out | apply below_alloc | apply pw_below_drewN | apply below_drew1 | refine below_set ?_ GE365.out) | exact HB.out)) hb); clear BK365; clear HB; have BK365 := n0_; have HB := n1_; clear n0_ n1_; (try clear hb); (try clear hb2); (try clear hk); (try clear hi); have hcz13_0 : w12.cell? ⟨gb365, 0, none⟩ = some (.int .i64 a0_0) := (blk_cell BK365.out 0).trans rfl; have hcz13_1 : w12.cell? ⟨gb365, 1, none⟩ = some (.int .i64 a0_1) := (blk_cell BK365.out 1).trans rfl; have hcz13_2 : w12.cell? ⟨gb365, 2, none⟩ = some (.slice A0_2 l0_2.length c0_2) := (blk_cell BK365.out 2).trans rfl; have hfz13_0 := blk_frozen BK365.out 0; have hfz13_1 := blk_frozen BK365.out 1; have hfz13_2 := blk_frozen BK365.out 2) | ((with_reducible refine gate_callee (f := 42) rfl ?_); refine goesL_ (some 17) rfl rfl Try.func42 (by kernel_rfl) rfl #[.agg #[.int .i64 a0_0, .int .i64 a0_1, .slice A0_2 l0_2.length c0_2]] rfl (by (try simp only [List.map_toArray, List.map_cons, List.map_nil]); first | done | rfl | (simp only [List.length_drop, List.length_take]; rfl)) ?_; (with_reducible refine (match_Graph_neighbours.calls k a0_0 a0_1 _ _ l0_2 t367 _ ?side1 ?side2 A4.out).mono ?_); (case side1 => repeat (first | exact (Kd.C_below HR0_2.out HB.out) | (with_reducible refine Kd.C_alloc ?_ _) | (with_reducible refine Kd.C_drewN ?_ _) | (with_reducible refine Kd.C_drew ?_))); (case side2 => exact HC0_2.out); rintro e w14 ⟨v368, rfl, ho0, hb⟩; refine ⟨_, rfl, ?_⟩; have n0_ := Aside0.mk (Kd.S_lower ho0 (below_size (by repeat (first | (with_reducible first | exact HB.out | apply below_alloc | apply pw_below_drewN | apply below_drew1 | refine below_set ?_ GE365.out) | exact HB.out)))); have n1_ := Aside0.mk (blk_below (g := gb365) (o := .cells #[.int .i64 a0_0, .int .i64 a0_1, .slice A0_2 l0_2.length c0_2] 33 (0, 0)) (by (with_reducible repeat (first | refine blk_drewN ?_ _ | refine blk_drew ?_ | refine blk_alloc ?_ _)); exact BK365.out) hb); have n2_ := Aside0.mk (below_step (by repeat (first | (with_reducible first | exact HB.out | apply below_alloc | apply pw_below_drewN | apply below_drew1 | refine below_set ?_ GE365.out) | exact HB.out)) hb); clear BK365; clear HB; have HO369 := n0_; have BK365 := n1_; have HB := n2_; clear n0_ n1_ n2_; (try clear hb); (try clear hb2); (try clear hk); (try clear hi); (try clear ho0); have hcz15_0 : w14.cell? ⟨gb365, 0, none⟩ = some (.int .i64 a0_0) := (blk_cell BK365.out 0).trans rfl; have hcz15_1 : w14.cell? ⟨gb365, 1, none⟩ = some (.int .i64 a0_1) := (blk_cell BK365.out 1).trans rfl; have hcz15_2 : w14.cell? ⟨gb365, 2, none⟩ = some (.slice A0_2 l0_2.length c0_2) := (blk_cell BK365.out 2).trans rfl; have hfz15_0 := blk_frozen BK365.out 0; have hfz15_1 := blk_frozen BK365.out 1; have hfz15_2 := blk_frozen BK365.out 2; obtain ⟨Ao16, co16, eo16⟩ := Kd.S_slice HO369.out; subst eo16) | ((with_reducible refine gate_callee (f := 41) rfl ?_); refine goesL_ (some 22) rfl rfl Try.func41 (by kernel_rfl) rfl #[.slice Ao16 t367.length co16, .int .i64 a0_1] rfl (by (try simp only [List.map_toArray, List.map_cons, List.map_nil]); first | done | rfl | (simp only [List.length_drop, List.length_take]; rfl)) ?_; (with_reducible refine (match_reach.calls k _ _ t367 a0_1 t370 t371 _ ?side1 ?side2 A5.out).mono ?_); (case side1 => repeat (first | exact (Kd.S_reads' HO369.out).2.2 | (with_reducible refine Kd.C_alloc ?_ _) | (with_reducible refine Kd.C_drewN ?_ _) | (with_reducible refine Kd.C_drew ?_))); (case side2 => exact (Kd.S_reads' HO369.out).2.1); rintro e w17 ⟨v372, v374, rfl, ho0, ho1, hb⟩; refine ⟨_, rfl, ?_⟩; have n0_ := Aside0.mk (Kd.S_below (by (with_reducible repeat (first | apply Kd.S_alloc | apply Kd.S_drewN | apply Kd.S_drew)); exact HO369.out) hb); have n1_ := Aside0.mk (Kd.R_lower ho0 (below_size (by repeat (first | (with_reducible first | exact HB.out | apply below_alloc | apply pw_below_drewN | apply below_drew1 | refine below_set ?_ GE365.out) | exact HB.out)))); have n2_ := Aside0.mk (Kd.R_lower ho1 (below_size (by repeat (first | (with_reducible first | exact HB.out | apply below_alloc | apply pw_below_drewN | apply below_drew1 | refine below_set ?_ GE365.out) | exact HB.out)))); have n3_ := Aside0.mk (blk_below (g := gb365) (o := .cells #[.int .i64 a0_0, .int .i64 a0_1, .slice A0_2 l0_2.length c0_2] 33 (0, 0)) (by (with_reducible repeat (first | refine blk_drewN ?_ _ | refine blk_drew ?_ | refine blk_alloc ?_ _)); exact BK365.out) hb); have n4_ := Aside0.mk (below_step (by repeat (first | (with_reducible first | exact HB.out | apply below_alloc | apply pw_below_drewN | apply below_drew1 | refine below_set ?_ GE365.out) | exact HB.out)) hb); clear HO369; clear BK365; clear HB; have HO369 := n0_; have HO373 := n1_; have HO375 := n2_; have BK365 := n3_; have HB := n4_; clear n0_ n1_ n2_ n3_ n4_; (try clear hb); (try clear hb2); (try clear hk); (try clear hi); (try clear ho0); (try clear ho1)))
    have n0_ := Aside0.mk (Kd.S_drew HO369.out)
    have n1_ := Aside0.mk (Kd.R_drew HO373.out)
    have n2_ := Aside0.mk (Kd.R_drew HO375.out)
    have n3_ := Aside0.mk (blk_drew BK365.out)
    have n4_ := Aside0.mk (below_drew1 HB.out)
    clear HO369
    clear HO373
    clear HO375
    clear BK365
    clear HB
    have HO369 := n0_
    have HO373 := n1_
    have HO375 := n2_
    have BK365 := n3_
    have HB := n4_
    clear n0_ n1_ n2_ n3_ n4_
    refine start_ (n := 12) (S := fun w' => w'.cell? ⟨gb365, 0, none⟩ = some (.int .i64 a0_0) ∧ w'.cell? ⟨gb365, 1, none⟩ = some (.int .i64 a0_1) ∧ w'.cell? ⟨gb365, 2, none⟩ = some (.slice A0_2 l0_2.length c0_2)) (ds := []) #[false, false, false, false, false, false, false, false, false, false, false, false] (by kernel_rfl) rfl rfl ⟨(blk_cell BK365.out 0).trans rfl, (blk_cell BK365.out 1).trans rfl, (blk_cell BK365.out 2).trans rfl⟩ (fun hHeld => ?_); refine with_tabW match_Free.tab6 match_Free.bits6 (fun HT_ HW_ => ?_)
    generalize w17.drew = w18 at HO369 HO373 HO375 BK365 HB hHeld ⊢
    refine pure_ (i := 0) (N := some 26) (v := ?_) (a' := ?_) #[true, false, false, false, false, false, false, false, false, false, false, false] rfl rfl (any_of HT_.out (by kernel_rfl)) (fun _ _ _ h => h) (Or.inl ⟨by rfl, ?_⟩) ?_ ?_
    rotate_left
    · intro w'
      go_simp
      with_reducible rfl
    rotate_left
    · simp only [Act.put, List.setIfInBounds_toArray, List.set_cons_zero, List.set_cons_succ, i64_w, i32_w]
      rfl
    refine pure_ (i := 1) (N := some 27) (v := ?_) (a' := ?_) #[true, true, false, false, false, false, false, false, false, false, false, false] rfl rfl (any_of HT_.out (by kernel_rfl)) (fun _ _ _ h => h) (Or.inl ⟨by rfl, ?_⟩) ?_ ?_
    rotate_left
    · intro w'
      go_simp
      with_reducible rfl
    rotate_left
    · simp only [Act.put, List.setIfInBounds_toArray, List.set_cons_zero, List.set_cons_succ, i64_w, i32_w]
      rfl
    refine pure_ (i := 4) (N := some 30) (v := ?_) (a' := ?_) #[true, true, false, false, true, false, false, false, false, false, false, false] rfl rfl (any_of HT_.out (by kernel_rfl)) (fun _ _ _ h => h) (Or.inl ⟨by rfl, ?_⟩) ?_ ?_
    rotate_left
    · intro w'
      go_simp
      with_reducible rfl
    rotate_left
    · simp only [Act.put, List.setIfInBounds_toArray, List.set_cons_zero, List.set_cons_succ, i64_w, i32_w]
      rfl
    refine take_ (i := 2) (N := some 28) (v := ?_) (a' := ?_) #[true, true, true, false, true, false, false, false, false, false, false, false] rfl rfl (take_ofW HT_.out HW_.out (by kernel_rfl)) (fun _ _ _ h => h) (Or.inl ⟨by rfl, ?_⟩) hHeld ?_ ?_
    rotate_left
    · rintro w' ⟨s0, s1, s2⟩
      go_simp
      with_reducible rfl
    rotate_left
    · simp only [Act.put, List.setIfInBounds_toArray, List.set_cons_zero, List.set_cons_succ, i64_w, i32_w]
      rfl
    refine take_ (i := 5) (N := some 31) (v := ?_) (a' := ?_) #[true, true, true, false, true, true, false, false, false, false, false, false] rfl rfl (take_ofW HT_.out HW_.out (by kernel_rfl)) (fun _ _ _ h => h) (Or.inl ⟨by rfl, ?_⟩) hHeld ?_ ?_
    rotate_left
    · rintro w' ⟨s0, s1, s2⟩
      go_simp
      with_reducible rfl
    rotate_left
    · simp only [Act.put, List.setIfInBounds_toArray, List.set_cons_zero, List.set_cons_succ, i64_w, i32_w]
      rfl
    refine one_ (i := 3) (N := some 29) #[true, true, true, true, true, true, false, false, false, false, false, false] rfl rfl (one_of HT_.out (by kernel_rfl)) (by decide) (fun K hK => ?_)
    refine goes_ Try.func45 (by kernel_rfl) rfl #[.slice Ao16 t367.length co16, .int .i64 a0_1] (by rfl) rfl rfl (by (try simp only [List.map_toArray, List.map_cons, List.map_nil]); first | done | rfl | (simp only [List.length_drop, List.length_take]; rfl)) ?_
    with_reducible refine (pairing_Turned.calls k _ _ t367 a0_1 t376 _ ?side1 ?side2 A6.out).mono ?_
    (case side1 => repeat (first | exact (Kd.S_reads' HO369.out).2.2 | (with_reducible refine Kd.C_alloc ?_ _) | (with_reducible refine Kd.C_drewN ?_ _) | (with_reducible refine Kd.C_drew ?_)))
    (case side2 => exact (Kd.S_reads' HO369.out).2.1)
    rintro e w19 ⟨v377, rfl, ho0, hb⟩
    refine ⟨_, rfl, ?_⟩
    have n0_ := Aside0.mk (Kd.S_elder' (by (with_reducible repeat (first | apply Kd.S_alloc | apply Kd.S_drewN | apply Kd.S_drew)); exact HO369.out) (Kd.S_base ho0) hb)
    have n1_ := Aside0.mk (Kd.R_below (by (with_reducible repeat (first | apply Kd.R_alloc | apply Kd.R_drewN | apply Kd.R_drew)); exact HO373.out) hb)
    have n2_ := Aside0.mk (Kd.R_below (by (with_reducible repeat (first | apply Kd.R_alloc | apply Kd.R_drewN | apply Kd.R_drew)); exact HO375.out) hb)
    have n3_ := Aside0.mk (Kd.S_lower (Kd.S_new' ho0 (Kd.S_lt (by (with_reducible repeat (first | apply Kd.S_alloc | apply Kd.S_drewN | apply Kd.S_drew)); exact HO369.out))) (below_size (by repeat (first | (with_reducible first | exact HB.out | apply below_alloc | apply pw_below_drewN | apply below_drew1 | refine below_set ?_ GE365.out) | exact HB.out))))
    have n4_ := Aside0.mk (blk_below (g := gb365) (o := .cells #[.int .i64 a0_0, .int .i64 a0_1, .slice A0_2 l0_2.length c0_2] 33 (0, 0)) (by (with_reducible repeat (first | refine blk_drewN ?_ _ | refine blk_drew ?_ | refine blk_alloc ?_ _)); exact BK365.out) hb)
    have n5_ := Aside0.mk (below_step (by repeat (first | (with_reducible first | exact HB.out | apply below_alloc | apply pw_below_drewN | apply below_drew1 | refine below_set ?_ GE365.out) | exact HB.out)) hb)
    clear HO369
    clear HO373
    clear HO375
    clear BK365
    clear HB
    have HO369 := n0_
    have HO373 := n1_
    have HO375 := n2_
    have HO378 := n3_
    have BK365 := n4_
    have HB := n5_
    clear n0_ n1_ n2_ n3_ n4_ n5_
    (try clear hb)
    (try clear hb2)
    (try clear hk)
    (try clear hi)
    (try clear ho0)
    obtain ⟨Ao20, co20, eo20⟩ := Kd.S_slice HO378.out
    (first | subst eo20 | (injection eo20 with f1_ f2_ f3_; have f4_ := f1_.symm; have f5_ := f3_.symm; clear f1_ f2_ f3_; subst f4_; subst f5_))
    refine hK.out _ _ ⟨(blk_cell BK365.out 0).trans rfl, (blk_cell BK365.out 1).trans rfl, (blk_cell BK365.out 2).trans rfl⟩ (fun hHeld => ?_)
    clear hK K
    refine norm_ (a' := ?_) ?_ ?_
    rotate_left
    · show Act.put _ (some 29) _ = _
      simp only [Act.put, List.setIfInBounds_toArray, List.set_cons_zero, List.set_cons_succ, i64_w, i32_w]
      rfl
    refine one_ (i := 6) (N := some 32) #[true, true, true, true, true, true, true, false, false, false, false, false] rfl rfl (one_of HT_.out (by kernel_rfl)) (by decide) (fun K hK => ?_)
    refine goes_ Try.func41 (by kernel_rfl) rfl #[.slice Ao20 t376.length co20, .int .i64 a0_0] (by rfl) rfl rfl (by (try simp only [List.map_toArray, List.map_cons, List.map_nil]); first | done | rfl | (simp only [List.length_drop, List.length_take]; rfl)) ?_
    with_reducible refine (match_reach.calls k _ _ t376 a0_0 t379 t380 _ ?side1 ?side2 A7.out).mono ?_
    (case side1 => repeat (first | exact (Kd.S_reads' HO378.out).2.2 | (with_reducible refine Kd.C_alloc ?_ _) | (with_reducible refine Kd.C_drewN ?_ _) | (with_reducible refine Kd.C_drew ?_)))
    (case side2 => exact (Kd.S_reads' HO378.out).2.1)
    rintro e w21 ⟨v381, v383, rfl, ho0, ho1, hb⟩
    refine ⟨_, rfl, ?_⟩
    have n0_ := Aside0.mk (Kd.S_below (by (with_reducible repeat (first | apply Kd.S_alloc | apply Kd.S_drewN | apply Kd.S_drew)); exact HO369.out) hb)
    have n1_ := Aside0.mk (Kd.R_mono (Kd.R_told (Kd.R_told (Kd.R_old (by (with_reducible repeat (first | apply Kd.R_alloc | apply Kd.R_drewN | apply Kd.R_drew)); exact HO373.out) hb) (Kd.R_base ho0)) (Kd.R_base ho1)) (fun _ h_ => h_.1))
    have n2_ := Aside0.mk (Kd.R_mono (Kd.R_told (Kd.R_told (Kd.R_old (by (with_reducible repeat (first | apply Kd.R_alloc | apply Kd.R_drewN | apply Kd.R_drew)); exact HO375.out) hb) (Kd.R_base ho0)) (Kd.R_base ho1)) (fun _ h_ => h_.1))
    have n3_ := Aside0.mk (Kd.S_below (by (with_reducible repeat (first | apply Kd.S_alloc | apply Kd.S_drewN | apply Kd.S_drew)); exact HO378.out) hb)
    have n4_ := Aside0.mk (Kd.R_lower (Kd.R_new' (Kd.R_new' ho0 (Kd.R_lt (by (with_reducible repeat (first | apply Kd.R_alloc | apply Kd.R_drewN | apply Kd.R_drew)); exact HO373.out))) (Kd.R_lt (by (with_reducible repeat (first | apply Kd.R_alloc | apply Kd.R_drewN | apply Kd.R_drew)); exact HO375.out))) (below_size (by repeat (first | (with_reducible first | exact HB.out | apply below_alloc | apply pw_below_drewN | apply below_drew1 | refine below_set ?_ GE365.out) | exact HB.out))))
    have n5_ := Aside0.mk (Kd.R_lower (Kd.R_new' (Kd.R_new' ho1 (Kd.R_lt (by (with_reducible repeat (first | apply Kd.R_alloc | apply Kd.R_drewN | apply Kd.R_drew)); exact HO373.out))) (Kd.R_lt (by (with_reducible repeat (first | apply Kd.R_alloc | apply Kd.R_drewN | apply Kd.R_drew)); exact HO375.out))) (below_size (by repeat (first | (with_reducible first | exact HB.out | apply below_alloc | apply pw_below_drewN | apply below_drew1 | refine below_set ?_ GE365.out) | exact HB.out))))
    have n6_ := Aside0.mk (blk_below (g := gb365) (o := .cells #[.int .i64 a0_0, .int .i64 a0_1, .slice A0_2 l0_2.length c0_2] 33 (0, 0)) (by (with_reducible repeat (first | refine blk_drewN ?_ _ | refine blk_drew ?_ | refine blk_alloc ?_ _)); exact BK365.out) hb)
    have n7_ := Aside0.mk (below_step (by repeat (first | (with_reducible first | exact HB.out | apply below_alloc | apply pw_below_drewN | apply below_drew1 | refine below_set ?_ GE365.out) | exact HB.out)) hb)
    clear HO369
    clear HO373
    clear HO375
    clear HO378
    clear BK365
    clear HB
    have HO369 := n0_
    have HO373 := n1_
    have HO375 := n2_
    have HO378 := n3_
    have HO382 := n4_
    have HO384 := n5_
    have BK365 := n6_
    have HB := n7_
    clear n0_ n1_ n2_ n3_ n4_ n5_ n6_ n7_
    (try clear hb)
    (try clear hb2)
    (try clear hk)
    (try clear hi)
    (try clear ho0)
    (try clear ho1)
    refine hK.out _ _ ⟨(blk_cell BK365.out 0).trans rfl, (blk_cell BK365.out 1).trans rfl, (blk_cell BK365.out 2).trans rfl⟩ (fun hHeld => ?_)
    clear hK K
    refine norm_ (a' := ?_) ?_ ?_
    rotate_left
    · show Act.put _ (some 32) _ = _
      simp only [Act.put, List.setIfInBounds_toArray, List.set_cons_zero, List.set_cons_succ, i64_w, i32_w]
      rfl
    refine pure_ (i := 7) (N := some 25) (v := ?_) (a' := ?_) #[true, true, true, true, true, true, true, true, false, false, false, false] rfl rfl (any_of HT_.out (by kernel_rfl)) (fun _ _ _ h => h) (Or.inl ⟨by rfl, ?_⟩) ?_ ?_
    rotate_left
    · intro w'
      go_simp
      with_reducible rfl
    rotate_left
    · simp only [Act.put, List.setIfInBounds_toArray, List.set_cons_zero, List.set_cons_succ, i64_w, i32_w]
      rfl
    refine pure_ (i := 8) (N := some 33) (v := ?_) (a' := ?_) #[true, true, true, true, true, true, true, true, true, false, false, false] rfl rfl (any_of HT_.out (by kernel_rfl)) (fun _ _ _ h => h) (Or.inl ⟨by rfl, ?_⟩) ?_ ?_
    rotate_left
    · intro w'
      go_simp
      with_reducible rfl
    rotate_left
    · simp only [Act.put, List.setIfInBounds_toArray, List.set_cons_zero, List.set_cons_succ, i64_w, i32_w]
      rfl
    refine pure_ (i := 9) (N := some 34) (v := ?_) (a' := ?_) #[true, true, true, true, true, true, true, true, true, true, false, false] rfl rfl (any_of HT_.out (by kernel_rfl)) (fun _ _ _ h => h) (Or.inl ⟨by rfl, ?_⟩) ?_ ?_
    rotate_left
    · intro w'
      go_simp
      with_reducible rfl
    rotate_left
    · simp only [Act.put, List.setIfInBounds_toArray, List.set_cons_zero, List.set_cons_succ, i64_w, i32_w]
      rfl
    refine pure_ (i := 10) (N := some 9) (v := ?_) (a' := ?_) #[true, true, true, true, true, true, true, true, true, true, true, false] rfl rfl (any_of HT_.out (by kernel_rfl)) (fun _ _ _ h => h) (Or.inl ⟨by rfl, ?_⟩) ?_ ?_
    rotate_left
    · intro w'
      go_simp
      with_reducible rfl
    rotate_left
    · simp only [Act.put, List.setIfInBounds_toArray, List.set_cons_zero, List.set_cons_succ, i64_w, i32_w]
      rfl
    refine pure_ (i := 11) (N := some 10) (v := ?_) (a' := ?_) #[true, true, true, true, true, true, true, true, true, true, true, true] rfl rfl (any_of HT_.out (by kernel_rfl)) (fun _ _ _ h => h) (Or.inl ⟨by rfl, ?_⟩) ?_ ?_
    rotate_left
    · intro w'
      go_simp
      with_reducible rfl
    rotate_left
    · simp only [Act.put, List.setIfInBounds_toArray, List.set_cons_zero, List.set_cons_succ, i64_w, i32_w]
      rfl
    refine done_ (done_of HT_.out (by kernel_rfl)) ?_
    obtain ⟨Ao22, co22, eo22⟩ := Kd.R_slice HO373.out
    subst eo22
    try go_wp2_with (first | ((with_reducible refine gate_callee (f := 43) rfl ?_); refine goesL_ (some 36) rfl rfl Try.func43 (by kernel_rfl) rfl #[.slice Ao22 t370.length co22, .bool true] rfl (by (try simp only [List.map_toArray, List.map_cons, List.map_nil]); first | done | rfl | (simp only [List.length_drop, List.length_take]; rfl)) ?_; (with_reducible refine (pairing_Chosen.calls k _ _ t370 true t385 _ ?side1 ?side2 A8.out).mono ?_); (case side1 => repeat (first | exact (Kd.R_reads' HO373.out).2.2 | (with_reducible refine Kd.C_alloc ?_ _) | (with_reducible refine Kd.C_drewN ?_ _) | (with_reducible refine Kd.C_drew ?_))); (case side2 => exact (Kd.R_reads' HO373.out).2.1); rintro e w23 ⟨v386, rfl, ho0, hb⟩; refine ⟨_, rfl, ?_⟩; have n0_ := Aside0.mk (Kd.S_elder' (by (with_reducible repeat (first | apply Kd.S_alloc | apply Kd.S_drewN | apply Kd.S_drew)); exact HO369.out) (Kd.R_base ho0) hb); have n1_ := Aside0.mk (Kd.R_below (by (with_reducible repeat (first | apply Kd.R_alloc | apply Kd.R_drewN | apply Kd.R_drew)); exact HO373.out) hb); have n2_ := Aside0.mk (Kd.R_below (by (with_reducible repeat (first | apply Kd.R_alloc | apply Kd.R_drewN | apply Kd.R_drew)); exact HO375.out) hb); have n3_ := Aside0.mk (Kd.S_elder' (by (with_reducible repeat (first | apply Kd.S_alloc | apply Kd.S_drewN | apply Kd.S_drew)); exact HO378.out) (Kd.R_base ho0) hb); have n4_ := Aside0.mk (Kd.R_below (by (with_reducible repeat (first | apply Kd.R_alloc | apply Kd.R_drewN | apply Kd.R_drew)); exact HO382.out) hb); have n5_ := Aside0.mk (Kd.R_below (by (with_reducible repeat (first | apply Kd.R_alloc | apply Kd.R_drewN | apply Kd.R_drew)); exact HO384.out) hb); have n6_ := Aside0.mk (Kd.R_lower ho0 (below_size (by repeat (first | (with_reducible first | exact HB.out | apply below_alloc | apply pw_below_drewN | apply below_drew1 | refine below_set ?_ GE365.out) | exact HB.out)))); have n7_ := Aside0.mk (blk_below (g := gb365) (o := .cells #[.int .i64 a0_0, .int .i64 a0_1, .slice A0_2 l0_2.length c0_2] 33 (0, 0)) (by (with_reducible repeat (first | refine blk_drewN ?_ _ | refine blk_drew ?_ | refine blk_alloc ?_ _)); exact BK365.out) hb); have n8_ := Aside0.mk (below_step (by repeat (first | (with_reducible first | exact HB.out | apply below_alloc | apply pw_below_drewN | apply below_drew1 | refine below_set ?_ GE365.out) | exact HB.out)) hb); clear HO369; clear HO373; clear HO375; clear HO378; clear HO382; clear HO384; clear BK365; clear HB; have HO369 := n0_; have HO373 := n1_; have HO375 := n2_; have HO378 := n3_; have HO382 := n4_; have HO384 := n5_; have HO387 := n6_; have BK365 := n7_; have HB := n8_; clear n0_ n1_ n2_ n3_ n4_ n5_ n6_ n7_ n8_; (try clear hb); (try clear hb2); (try clear hk); (try clear hi); (try clear ho0); obtain ⟨Ao24, co24, eo24⟩ := Kd.R_slice HO382.out; subst eo24) | ((with_reducible refine gate_callee (f := 43) rfl ?_); refine goesL_ (some 38) rfl rfl Try.func43 (by kernel_rfl) rfl #[.slice Ao24 t379.length co24, .bool true] rfl (by (try simp only [List.map_toArray, List.map_cons, List.map_nil]); first | done | rfl | (simp only [List.length_drop, List.length_take]; rfl)) ?_; (with_reducible refine (pairing_Chosen.calls k _ _ t379 true t388 _ ?side1 ?side2 A9.out).mono ?_); (case side1 => repeat (first | exact (Kd.R_reads' HO382.out).2.2 | (with_reducible refine Kd.C_alloc ?_ _) | (with_reducible refine Kd.C_drewN ?_ _) | (with_reducible refine Kd.C_drew ?_))); (case side2 => exact (Kd.R_reads' HO382.out).2.1); rintro e w25 ⟨v389, rfl, ho0, hb⟩; refine ⟨_, rfl, ?_⟩; have n0_ := Aside0.mk (Kd.S_elder' (by (with_reducible repeat (first | apply Kd.S_alloc | apply Kd.S_drewN | apply Kd.S_drew)); exact HO369.out) (Kd.R_base ho0) hb); have n1_ := Aside0.mk (Kd.R_below (by (with_reducible repeat (first | apply Kd.R_alloc | apply Kd.R_drewN | apply Kd.R_drew)); exact HO373.out) hb); have n2_ := Aside0.mk (Kd.R_below (by (with_reducible repeat (first | apply Kd.R_alloc | apply Kd.R_drewN | apply Kd.R_drew)); exact HO375.out) hb); have n3_ := Aside0.mk (Kd.S_elder' (by (with_reducible repeat (first | apply Kd.S_alloc | apply Kd.S_drewN | apply Kd.S_drew)); exact HO378.out) (Kd.R_base ho0) hb); have n4_ := Aside0.mk (Kd.R_below (by (with_reducible repeat (first | apply Kd.R_alloc | apply Kd.R_drewN | apply Kd.R_drew)); exact HO382.out) hb); have n5_ := Aside0.mk (Kd.R_below (by (with_reducible repeat (first | apply Kd.R_alloc | apply Kd.R_drewN | apply Kd.R_drew)); exact HO384.out) hb); have n6_ := Aside0.mk (Kd.R_elder' (by (with_reducible repeat (first | apply Kd.R_alloc | apply Kd.R_drewN | apply Kd.R_drew)); exact HO387.out) (Kd.R_base ho0) hb); have n7_ := Aside0.mk (Kd.R_lower (Kd.R_new' ho0 (Kd.R_lt (by (with_reducible repeat (first | apply Kd.R_alloc | apply Kd.R_drewN | apply Kd.R_drew)); exact HO387.out))) (below_size (by repeat (first | (with_reducible first | exact HB.out | apply below_alloc | apply pw_below_drewN | apply below_drew1 | refine below_set ?_ GE365.out) | exact HB.out)))); have n8_ := Aside0.mk (blk_below (g := gb365) (o := .cells #[.int .i64 a0_0, .int .i64 a0_1, .slice A0_2 l0_2.length c0_2] 33 (0, 0)) (by (with_reducible repeat (first | refine blk_drewN ?_ _ | refine blk_drew ?_ | refine blk_alloc ?_ _)); exact BK365.out) hb); have n9_ := Aside0.mk (below_step (by repeat (first | (with_reducible first | exact HB.out | apply below_alloc | apply pw_below_drewN | apply below_drew1 | refine below_set ?_ GE365.out) | exact HB.out)) hb); clear HO369; clear HO373; clear HO375; clear HO378; clear HO382; clear HO384; clear HO387; clear BK365; clear HB; have HO369 := n0_; have HO373 := n1_; have HO375 := n2_; have HO378 := n3_; have HO382 := n4_; have HO384 := n5_; have HO387 := n6_; have HO390 := n7_; have BK365 := n8_; have HB := n9_; clear n0_ n1_ n2_ n3_ n4_ n5_ n6_ n7_ n8_ n9_; (try clear hb); (try clear hb2); (try clear hk); (try clear hi); (try clear ho0)))
    go_ret3
    exact ⟨_, _, by first | rfl | (simp [errW_none, errW_some] <;> rfl) | (simp [*, errW_none, errW_some] <;> rfl), by (with_reducible repeat (first | apply Kd.R_alloc | apply Kd.R_drewN | apply Kd.R_drew)); exact Kd.R_mono HO387.out (fun _ hk => hk.2), by (with_reducible repeat (first | apply Kd.R_alloc | apply Kd.R_drewN | apply Kd.R_drew)); exact Kd.R_mono HO390.out (fun _ hk => hk.2), by repeat (first | (with_reducible first | exact HB.out | apply below_alloc | apply pw_below_drewN | apply below_drew1 | refine below_set ?_ GE365.out) | exact HB.out)⟩
  · rw [if_neg c3] at H
    have c3b0 : (t366 == 0) = false := beq_eq_false_iff_ne.mpr c3
    have c3b1 : (t366 != 0) = true := bne_iff_ne.mpr c3
    simp only [Option.some.injEq, Prod.mk.injEq] at H
    obtain ⟨rfl, rfl, rfl⟩ := H
    go_enter Try.func25, Try.ntmps25
    go_wp2_with (first | ((with_reducible refine gate_dst (N := 1) rfl ?_); refine box_event ?hg (N := 1) ?hd (cs := #[.int .i64 a0_0, .int .i64 a0_1, .slice A0_2 l0_2.length c0_2]) (t := 33) ?hr ?_; (case hd => rfl); (case hg => rfl); (case hr => first | (go_simp; done) | (go_simp; rfl)); intro gb365 hg w26 hbox hb; have n0_ := Aside0.mk (below_step (by repeat (first | (with_reducible first | exact HB.out | apply below_alloc | apply pw_below_drewN | apply below_drew1) | exact HB.out)) hb); have n1_ := Aside0.mk (hbox); have n2_ := Aside0.mk ((by rw [hg]; exact (below_size (by repeat (first | (with_reducible first | exact HB.out | apply below_alloc | apply pw_below_drewN | apply below_drew1) | exact HB.out))) : w.heap.size ≤ gb365)); have n3_ := Aside0.mk ((by rw [hg]; exact (below_size (by repeat (first | (with_reducible first | exact HB.out | apply below_alloc | apply pw_below_drewN | apply below_drew1) | exact HB.out))) : w.heap.size ≤ gb365)); clear HB; have HB := n0_; have BK365 := n1_; have GW365 := n2_; have GE365 := n3_; clear n0_ n1_ n2_ n3_; clear hb hbox hg; have hcz27_0 : w26.cell? ⟨gb365, 0, none⟩ = some (.int .i64 a0_0) := (blk_cell BK365.out 0).trans rfl; have hcz27_1 : w26.cell? ⟨gb365, 1, none⟩ = some (.int .i64 a0_1) := (blk_cell BK365.out 1).trans rfl; have hcz27_2 : w26.cell? ⟨gb365, 2, none⟩ = some (.slice A0_2 l0_2.length c0_2) := (blk_cell BK365.out 2).trans rfl; have hfz27_0 := blk_frozen BK365.out 0; have hfz27_1 := blk_frozen BK365.out 1; have hfz27_2 := blk_frozen BK365.out 2) | ((with_reducible refine gate_callee (f := 23) rfl ?_); refine goesL_ (some 12) rfl rfl Try.func23 (by kernel_rfl) rfl #[.agg #[.int .i64 a0_0, .int .i64 a0_1, .slice A0_2 l0_2.length c0_2]] rfl (by (try simp only [List.map_toArray, List.map_cons, List.map_nil]); first | done | rfl | (simp only [List.length_drop, List.length_take]; rfl)) ?_; (with_reducible refine (match_Check.calls a0_0 a0_1 _ _ l0_2 t366 _ ?side1 ?side2 A2.out).mono ?_); (case side1 => repeat (first | exact (Kd.C_below HR0_2.out HB.out) | (with_reducible refine Kd.C_alloc ?_ _) | (with_reducible refine Kd.C_drewN ?_ _) | (with_reducible refine Kd.C_drew ?_))); (case side2 => exact HC0_2.out); rintro e w28 ⟨rfl, hb⟩; refine ⟨_, rfl, ?_⟩; have n0_ := Aside0.mk (blk_below (g := gb365) (o := .cells #[.int .i64 a0_0, .int .i64 a0_1, .slice A0_2 l0_2.length c0_2] 33 (0, 0)) (by (with_reducible repeat (first | refine blk_drewN ?_ _ | refine blk_drew ?_ | refine blk_alloc ?_ _)); exact BK365.out) hb); have n1_ := Aside0.mk (below_step (by repeat (first | (with_reducible first | exact HB.out | apply below_alloc | apply pw_below_drewN | apply below_drew1 | refine below_set ?_ GE365.out) | exact HB.out)) hb); clear BK365; clear HB; have BK365 := n0_; have HB := n1_; clear n0_ n1_; (try clear hb); (try clear hb2); (try clear hk); (try clear hi)))
    go_ret3
    exact ⟨_, _, by first | rfl | (simp [errW_none, errW_some] <;> rfl) | (simp [*, errW_none, errW_some] <;> rfl), by first | exact Kd.R_nil _ _ _ _ _ | exact Kd.N_nil _ _ _ _ _ | exact Kd.V_nil _ _ _ _ _ | exact Kd.Q_nil _ _ _ _ _ | exact Kd.S_nil _ _ _ _ _, by first | exact Kd.R_nil _ _ _ _ _ | exact Kd.N_nil _ _ _ _ _ | exact Kd.V_nil _ _ _ _ _ | exact Kd.Q_nil _ _ _ _ _ | exact Kd.S_nil _ _ _ _ _, by repeat (first | (with_reducible first | exact HB.out | apply below_alloc | apply pw_below_drewN | apply below_drew1 | refine below_set ?_ GE365.out) | exact HB.out)⟩
end Go.Proofs.Ytlleokhmgblfnaa.M
end

section
namespace Go.Proofs.Ytlleokhmgblfnaa.M
open Go.RowKit Go.Proofs.YtlleokhmgblfnaaW.PrintWords
theorem aw_max : match_Maximum.f 60 2 2 [⟨0, 0⟩, ⟨0, 1⟩, ⟨1, 0⟩] = some ([1, 0], 0) := by decide +kernel
theorem aw_size : match_Size.f 60 3 2 [⟨0, 0⟩, ⟨1, 0⟩, ⟨2, 1⟩] = some (2, 0) := by decide +kernel
theorem aw_hall : match_Hall.f 60 3 2 [⟨0, 0⟩, ⟨1, 0⟩, ⟨2, 1⟩] = some ([0, 1], [0], 0) := by decide +kernel
theorem aw_cover : match_Cover.f 60 3 2 [⟨0, 0⟩, ⟨1, 0⟩, ⟨2, 1⟩] = some ([2], [0], 0) := by decide +kernel
theorem aw_ex : toruslaw30_ex.f = some (3, 2, [⟨0, 0⟩, ⟨1, 0⟩, ⟨2, 1⟩]) := rfl
theorem aw_s1 : torusref01_Same.f 60 [1, 0] [1, 0] = some true := by decide +kernel
theorem aw_s2 : torusref01_Same.f 60 [0, 1] [0, 1] = some true := by decide +kernel
theorem aw_s3 : torusref01_Same.f 60 [0] [0] = some true := by decide +kernel
theorem aw_s4 : torusref01_Same.f 60 [2] [2] = some true := by decide +kernel
theorem C_E3 {W : World} {g : Nat} (a b c : S40) (h : W.heap[g]? = some (.cells #[.int .i64 a.f0, .int .i64 a.f1, .int .i64 b.f0, .int .i64 b.f1, .int .i64 c.f0, .int .i64 c.f1] 40 (0, 0))) : Kd.C k40 W (some ⟨g, 0, none⟩) ([a, b, c] : List S40).length [a, b, c] := by
  refine ⟨rfl, by simp, fun _ => ⟨_, rfl, fun j p hp => ?_⟩⟩
  match j, hp with
  | 0, hp =>
    cases hp
    refine ⟨_, rfl, k40_mk W a, fun i u hu => ?_⟩
    rw [add_plain, blk_cell h]
    match i, hu with
    | 0, hu => exact hu
    | 1, hu => exact hu
  | 1, hp =>
    cases hp
    refine ⟨_, rfl, k40_mk W b, fun i u hu => ?_⟩
    rw [add_plain, blk_cell h]
    match i, hu with
    | 0, hu => exact hu
    | 1, hu => exact hu
  | 2, hp =>
    cases hp
    refine ⟨_, rfl, k40_mk W c, fun i u hu => ?_⟩
    rw [add_plain, blk_cell h]
    match i, hu with
    | 0, hu => exact hu
    | 1, hu => exact hu
theorem aw_hold {w W w1 : World} (hb : Below w.heap.size w W) (o : Obj) (h : Below (W.alloc o).heap.size (W.alloc o) w1) : Below w.heap.size w w1 := below_step (below_alloc hb o) h
set_option maxHeartbeats 1000000 in
set_option maxRecDepth 100000 in
theorem awake_calls (w : World) : Calls Try.prog 16 #[] w fun e w' => e = .returned (.bool true) ∧ Below w.heap.size w w' := by
  go_enter Try.func16, Try.ntmps16
  go_wp2_with fail
  refine (match_Maximum.calls 60 2 2 _ _ [⟨0, 0⟩, ⟨0, 1⟩, ⟨1, 0⟩] [1, 0] 0 _ (C_E3 ⟨0, 0⟩ ⟨0, 1⟩ ⟨1, 0⟩ (blk_new _ _)) (Nat.le_refl _) aw_max).mono ?_
  rintro e w1 ⟨v0, rfl, hr0, hb⟩
  have HB1 := Aside0.mk (below_step (below_alloc (Below.refl w.heap.size w) _) hb)
  obtain ⟨A0, c0, rfl, hl0, hC0⟩ := Kd.R_reads hr0
  have HC0 := Aside0.mk hC0
  have HL0 := Aside0.mk hl0
  clear hb hr0 hC0 hl0
  go_wp2_with fail
  refine (toruslaw30_ex.calls 3 2 _ _ aw_ex).mono ?_
  rintro e w2 ⟨v1, rfl, hr1, hb⟩
  obtain ⟨A1, c1, rfl, hl1, hC1⟩ := Kd.R_reads hr1
  have HB2 := Aside0.mk (below_step HB1.out hb)
  replace HC0 := Aside0.mk (Kd.C_below HC0.out hb)
  have HC1 := Aside0.mk hC1
  have HL1 := Aside0.mk hl1
  clear hb hr1 hC1 hl1 HB1
  go_wp2_with fail
  refine (match_Size.calls 60 3 2 _ _ _ 2 0 _ HC1.out HL1.out aw_size).mono ?_
  rintro e w3 ⟨rfl, hb⟩
  have HB3 := Aside0.mk (below_step HB2.out hb)
  replace HC0 := Aside0.mk (Kd.C_below HC0.out hb)
  clear hb HB2 HC1 HL1
  go_wp2_with fail
  refine (toruslaw30_ex.calls 3 2 _ _ aw_ex).mono ?_
  rintro e w4 ⟨v2, rfl, hr1, hb⟩
  obtain ⟨A2, c2, rfl, hl1, hC1⟩ := Kd.R_reads hr1
  have HB4 := Aside0.mk (below_step HB3.out hb)
  replace HC0 := Aside0.mk (Kd.C_below HC0.out hb)
  have HC2 := Aside0.mk hC1
  have HL2 := Aside0.mk hl1
  clear hb hr1 hC1 hl1 HB3
  go_wp2_with fail
  refine (match_Hall.calls 60 3 2 _ _ _ [0, 1] [0] 0 _ HC2.out HL2.out aw_hall).mono ?_
  rintro e w5 ⟨v3, v4, rfl, hr3, hr4, hb⟩
  obtain ⟨A3, c3, rfl, hl3, hC3⟩ := Kd.R_reads hr3
  obtain ⟨A4, c4, rfl, hl4, hC4⟩ := Kd.R_reads hr4
  have HB5 := Aside0.mk (below_step HB4.out hb)
  replace HC0 := Aside0.mk (Kd.C_below HC0.out hb)
  have HC3 := Aside0.mk hC3
  have HC4 := Aside0.mk hC4
  have HL3 := Aside0.mk hl3
  have HL4 := Aside0.mk hl4
  clear hb hr3 hr4 hC3 hC4 hl3 hl4 HB4 HC2 HL2
  go_wp2_with fail
  refine (toruslaw30_ex.calls 3 2 _ _ aw_ex).mono ?_
  rintro e w6 ⟨v5, rfl, hr1, hb⟩
  obtain ⟨A5, c5, rfl, hl1, hC1⟩ := Kd.R_reads hr1
  have HB6 := Aside0.mk (below_step HB5.out hb)
  replace HC0 := Aside0.mk (Kd.C_below HC0.out hb)
  replace HC3 := Aside0.mk (Kd.C_below HC3.out hb)
  replace HC4 := Aside0.mk (Kd.C_below HC4.out hb)
  have HC5 := Aside0.mk hC1
  have HL5 := Aside0.mk hl1
  clear hb hr1 hC1 hl1 HB5
  go_wp2_with fail
  refine (match_Cover.calls 60 3 2 _ _ _ [2] [0] 0 _ HC5.out HL5.out aw_cover).mono ?_
  rintro e w7 ⟨v6, v7, rfl, hr3, hr4, hb⟩
  obtain ⟨A6, c6, rfl, hl3, hC3⟩ := Kd.R_reads hr3
  obtain ⟨A7, c7, rfl, hl4, hC4⟩ := Kd.R_reads hr4
  have HB7 := Aside0.mk (below_step HB6.out hb)
  replace HC0 := Aside0.mk (Kd.C_below HC0.out hb)
  replace HC3 := Aside0.mk (Kd.C_below HC3.out hb)
  replace HC4 := Aside0.mk (Kd.C_below HC4.out hb)
  have HC6 := Aside0.mk hC3
  have HC7 := Aside0.mk hC4
  have HL6 := Aside0.mk hl3
  have HL7 := Aside0.mk hl4
  clear hb hr3 hr4 hC3 hC4 hl3 hl4 HB6 HC5 HL5
  go_wp2_with fail
  refine (torusref01_Same.calls 60 _ _ [1, 0] _ _ [1, 0] true _ (Kd.C_alloc HC0.out _) HL0.out (H.Row.reads (xs := [1, 0]) (blk_new _ _) (by decide)) (Nat.le_refl _) aw_s1).mono ?_
  rintro e w8 ⟨rfl, hd⟩
  have hb := hd.below
  have HB8 := Aside0.mk (aw_hold HB7.out _ hb)
  replace HC3 := Aside0.mk (Kd.C_below (Kd.C_alloc HC3.out _) hb)
  replace HC4 := Aside0.mk (Kd.C_below (Kd.C_alloc HC4.out _) hb)
  replace HC6 := Aside0.mk (Kd.C_below (Kd.C_alloc HC6.out _) hb)
  replace HC7 := Aside0.mk (Kd.C_below (Kd.C_alloc HC7.out _) hb)
  clear hb hd HB7 HC0 HL0
  go_wp2_with fail
  refine (torusref01_Same.calls 60 _ _ [0, 1] _ _ [0, 1] true _ (Kd.C_alloc HC3.out _) HL3.out (H.Row.reads (xs := [0, 1]) (blk_new _ _) (by decide)) (Nat.le_refl _) aw_s2).mono ?_
  rintro e w9 ⟨rfl, hd⟩
  have hb := hd.below
  have HB9 := Aside0.mk (aw_hold HB8.out _ hb)
  replace HC4 := Aside0.mk (Kd.C_below (Kd.C_alloc HC4.out _) hb)
  replace HC6 := Aside0.mk (Kd.C_below (Kd.C_alloc HC6.out _) hb)
  replace HC7 := Aside0.mk (Kd.C_below (Kd.C_alloc HC7.out _) hb)
  clear hb hd HB8 HC3 HL3
  go_wp2_with fail
  refine (torusref01_Same.calls 60 _ _ [0] _ _ [0] true _ (Kd.C_alloc HC4.out _) HL4.out (H.Row.reads (xs := [0]) (blk_new _ _) (by decide)) (Nat.le_refl _) aw_s3).mono ?_
  rintro e w10 ⟨rfl, hd⟩
  have hb := hd.below
  have HB10 := Aside0.mk (aw_hold HB9.out _ hb)
  replace HC6 := Aside0.mk (Kd.C_below (Kd.C_alloc HC6.out _) hb)
  replace HC7 := Aside0.mk (Kd.C_below (Kd.C_alloc HC7.out _) hb)
  clear hb hd HB9 HC4 HL4
  go_wp2_with fail
  refine (torusref01_Same.calls 60 _ _ [2] _ _ [2] true _ (Kd.C_alloc HC6.out _) HL6.out (H.Row.reads (xs := [2]) (blk_new _ _) (by decide)) (Nat.le_refl _) aw_s4).mono ?_
  rintro e w11 ⟨rfl, hd⟩
  have hb := hd.below
  have HB11 := Aside0.mk (aw_hold HB10.out _ hb)
  replace HC7 := Aside0.mk (Kd.C_below (Kd.C_alloc HC7.out _) hb)
  clear hb hd HB10 HC6 HL6
  go_wp2_with fail
  refine (torusref01_Same.calls 60 _ _ [0] _ _ [0] true _ (Kd.C_alloc HC7.out _) HL7.out (H.Row.reads (xs := [0]) (blk_new _ _) (by decide)) (Nat.le_refl _) aw_s3).mono ?_
  rintro e w12 ⟨rfl, hd⟩
  have hb := hd.below
  have HB12 := Aside0.mk (aw_hold HB11.out _ hb)
  clear hb hd HB11 HC7 HL7
  go_wp2_with fail
  go_ret
  exact ⟨rfl, HB12.out⟩
def toruslaw30_awake.f : Option Bool := some true
theorem toruslaw30_awake.calls (r : Bool) (w : World) (h : toruslaw30_awake.f = some r) : Calls Try.prog 16 #[] w fun e w' => e = .returned (.bool r) ∧ Below w.heap.size w w' := by
  cases h
  exact awake_calls w
end Go.Proofs.Ytlleokhmgblfnaa.M
end

section
namespace Go.Proofs.Ytlleokhmgblfnaa.M
open Go.RowKit Go.Proofs.YtlleokhmgblfnaaW.PrintWords Go.Proofs.YtlleokhmgblfnaaW.PrintLast Go.Proofs.YtlleokhmgblfnaaW.PrintMore
attribute [local go_sem] max2_int min2_int max_two min_two max_three min_three max_four min_four   -- for this text's walks alone
mutual
def toruslaw30_MatchMatches.j0 : Nat → Bool → Int → Int → List (S40) → Int → Int → List (S40) → Option (Bool)
  | 0, _, _, _, _, _, _, _ => none
  | k + 1, x41, x443000, x443001, x443002, x451000, x451001, x451002 => if x41 = true then (some false) else ((match_Free.f k x451000 x451001 x451002).bind fun bt457 => ((torusref30_Free.f k x443000 x443001 x443002).bind fun bt464 => ((torusref01_Same.f k bt457.1 bt464.1).bind fun t471 => (if t471 = true then ((torusref01_Same.f k bt457.2.1 bt464.2.1).bind fun t472 => (if t472 = true then (toruslaw30_MatchMatches.j1 k (bt457.2.2 != bt464.2.2) x443000 x443001 x443002 x451000 x451001 x451002) else (toruslaw30_MatchMatches.j1 k true x443000 x443001 x443002 x451000 x451001 x451002))) else (toruslaw30_MatchMatches.j1 k true x443000 x443001 x443002 x451000 x451001 x451002)))))
def toruslaw30_MatchMatches.j1 : Nat → Bool → Int → Int → List (S40) → Int → Int → List (S40) → Option (Bool)
  | 0, _, _, _, _, _, _, _ => none
  | k + 1, x68, x443000, x443001, x443002, x451000, x451001, x451002 => if x68 = true then (some false) else ((match_Cover.f k x451000 x451001 x451002).bind fun bt473 => ((torusref30_Cover.f k x443000 x443001 x443002).bind fun bt480 => ((torusref01_Same.f k bt473.1 bt480.1).bind fun t487 => (if t487 = true then ((torusref01_Same.f k bt473.2.1 bt480.2.1).bind fun t488 => (if t488 = true then (toruslaw30_MatchMatches.j2 k (bt473.2.2 != bt480.2.2) x443000 x443001 x443002 x451000 x451001 x451002) else (toruslaw30_MatchMatches.j2 k true x443000 x443001 x443002 x451000 x451001 x451002))) else (toruslaw30_MatchMatches.j2 k true x443000 x443001 x443002 x451000 x451001 x451002)))))
def toruslaw30_MatchMatches.j2 : Nat → Bool → Int → Int → List (S40) → Int → Int → List (S40) → Option (Bool)
  | 0, _, _, _, _, _, _, _ => none
  | k + 1, x95, x443000, x443001, x443002, x451000, x451001, x451002 => if x95 = true then (some false) else ((match_Hall.f k x451000 x451001 x451002).bind fun bt489 => ((torusref30_Hall.f k x443000 x443001 x443002).bind fun bt496 => ((torusref01_Same.f k bt489.1 bt496.1).bind fun t503 => (if t503 = true then ((torusref01_Same.f k bt489.2.1 bt496.2.1).bind fun t504 => (if t504 = true then (if bt489.2.2 = bt496.2.2 then ((torusref30_Same.f k x451000 x451001 x451002 x443000 x443001 x443002).bind fun t505 => (if t505 = true then ((toruslaw30_awake.f).bind fun t506 => (some t506)) else (some false))) else (some false)) else (some false))) else (some false)))))
end
def toruslaw30_MatchMatches.f (k : Nat) (a0_0 : Int) (a0_1 : Int) (l0_2 : List (S40)) : Option (Bool) := (toruslaw30_long.f k a0_0 a0_1 l0_2).bind fun t443 => (if t443 = true then ((toruslaw30_awake.f).bind fun t444 => (some t444)) else ((toruslaw30_given.f a0_0 a0_1 l0_2).bind fun bt445 => ((match_Size.f k bt445.1 bt445.2.1 bt445.2.2).bind fun bt451 => ((torusref30_Size.f k a0_0 a0_1 l0_2).bind fun bt453 => ((match_Check.f bt445.1 bt445.2.1 bt445.2.2).bind fun t455 => ((torusref30_Check.f k a0_0 a0_1 l0_2).bind fun t456 => (if t455 = t456 then (if bt451.1 = bt453.1 then (toruslaw30_MatchMatches.j0 k (bt451.2 != bt453.2) a0_0 a0_1 l0_2 bt445.1 bt445.2.1 bt445.2.2) else (toruslaw30_MatchMatches.j0 k true a0_0 a0_1 l0_2 bt445.1 bt445.2.1 bt445.2.2)) else (toruslaw30_MatchMatches.j0 k true a0_0 a0_1 l0_2 bt445.1 bt445.2.1 bt445.2.2))))))))
theorem toruslaw30_MatchMatches.mono_l : ∀ k, (∀ y0 y1 y2 y3 y4 y5 y6, LeO (toruslaw30_MatchMatches.j0 k y0 y1 y2 y3 y4 y5 y6) (toruslaw30_MatchMatches.j0 (k + 1) y0 y1 y2 y3 y4 y5 y6)) ∧ (∀ y0 y1 y2 y3 y4 y5 y6, LeO (toruslaw30_MatchMatches.j1 k y0 y1 y2 y3 y4 y5 y6) (toruslaw30_MatchMatches.j1 (k + 1) y0 y1 y2 y3 y4 y5 y6)) ∧ (∀ y0 y1 y2 y3 y4 y5 y6, LeO (toruslaw30_MatchMatches.j2 k y0 y1 y2 y3 y4 y5 y6) (toruslaw30_MatchMatches.j2 (k + 1) y0 y1 y2 y3 y4 y5 y6))
  | 0 => ⟨fun _ _ _ _ _ _ _ r h => by simp [toruslaw30_MatchMatches.j0] at h, fun _ _ _ _ _ _ _ r h => by simp [toruslaw30_MatchMatches.j1] at h, fun _ _ _ _ _ _ _ r h => by simp [toruslaw30_MatchMatches.j2] at h⟩
  | k + 1 => by
    obtain ⟨ih0, ih1, ih2⟩ := toruslaw30_MatchMatches.mono_l k
    refine ⟨?_, ?_, ?_⟩
    · intro y0 y1 y2 y3 y4 y5 y6
      unfold toruslaw30_MatchMatches.j0
      repeat' first
      | (with_reducible exact ih0 _ _ _ _ _ _ _)
      | (with_reducible exact ih1 _ _ _ _ _ _ _)
      | (with_reducible exact ih2 _ _ _ _ _ _ _)
      | (with_reducible exact match_Cover.mono _ _ _ _)
      | (with_reducible exact match_Free.mono _ _ _ _)
      | (with_reducible exact match_Hall.mono _ _ _ _)
      | (with_reducible exact match_Size.mono _ _ _ _)
      | (with_reducible exact toruslaw30_long.mono _ _ _ _)
      | (with_reducible exact torusref01_Same.mono _ _ _)
      | (with_reducible exact torusref30_Check.mono _ _ _ _)
      | (with_reducible exact torusref30_Cover.mono _ _ _ _)
      | (with_reducible exact torusref30_Free.mono _ _ _ _)
      | (with_reducible exact torusref30_Hall.mono _ _ _ _)
      | (with_reducible exact torusref30_Same.mono _ _ _ _ _ _ _)
      | (with_reducible exact torusref30_Size.mono _ _ _ _)
      | (with_reducible exact LeO.refl _)
      | (with_reducible exact LeO.none _)
      | (with_reducible refine LeO.ite ?_ ?_)
      | (with_reducible refine LeO.bind ?_ (fun _ => ?_))
      | exact ih0 _ _ _ _ _ _ _
      | exact ih1 _ _ _ _ _ _ _
      | exact ih2 _ _ _ _ _ _ _
      | exact match_Cover.mono _ _ _ _
      | exact match_Free.mono _ _ _ _
      | exact match_Hall.mono _ _ _ _
      | exact match_Size.mono _ _ _ _
      | exact toruslaw30_long.mono _ _ _ _
      | exact torusref01_Same.mono _ _ _
      | exact torusref30_Check.mono _ _ _ _
      | exact torusref30_Cover.mono _ _ _ _
      | exact torusref30_Free.mono _ _ _ _
      | exact torusref30_Hall.mono _ _ _ _
      | exact torusref30_Same.mono _ _ _ _ _ _ _
      | exact torusref30_Size.mono _ _ _ _
      | exact LeO.none _
      | refine LeO.ite ?_ ?_
      | refine LeO.bind ?_ (fun _ => ?_)
    · intro y0 y1 y2 y3 y4 y5 y6
      unfold toruslaw30_MatchMatches.j1
      repeat' first
      | (with_reducible exact ih0 _ _ _ _ _ _ _)
      | (with_reducible exact ih1 _ _ _ _ _ _ _)
      | (with_reducible exact ih2 _ _ _ _ _ _ _)
      | (with_reducible exact match_Cover.mono _ _ _ _)
      | (with_reducible exact match_Free.mono _ _ _ _)
      | (with_reducible exact match_Hall.mono _ _ _ _)
      | (with_reducible exact match_Size.mono _ _ _ _)
      | (with_reducible exact toruslaw30_long.mono _ _ _ _)
      | (with_reducible exact torusref01_Same.mono _ _ _)
      | (with_reducible exact torusref30_Check.mono _ _ _ _)
      | (with_reducible exact torusref30_Cover.mono _ _ _ _)
      | (with_reducible exact torusref30_Free.mono _ _ _ _)
      | (with_reducible exact torusref30_Hall.mono _ _ _ _)
      | (with_reducible exact torusref30_Same.mono _ _ _ _ _ _ _)
      | (with_reducible exact torusref30_Size.mono _ _ _ _)
      | (with_reducible exact LeO.refl _)
      | (with_reducible exact LeO.none _)
      | (with_reducible refine LeO.ite ?_ ?_)
      | (with_reducible refine LeO.bind ?_ (fun _ => ?_))
      | exact ih0 _ _ _ _ _ _ _
      | exact ih1 _ _ _ _ _ _ _
      | exact ih2 _ _ _ _ _ _ _
      | exact match_Cover.mono _ _ _ _
      | exact match_Free.mono _ _ _ _
      | exact match_Hall.mono _ _ _ _
      | exact match_Size.mono _ _ _ _
      | exact toruslaw30_long.mono _ _ _ _
      | exact torusref01_Same.mono _ _ _
      | exact torusref30_Check.mono _ _ _ _
      | exact torusref30_Cover.mono _ _ _ _
      | exact torusref30_Free.mono _ _ _ _
      | exact torusref30_Hall.mono _ _ _ _
      | exact torusref30_Same.mono _ _ _ _ _ _ _
      | exact torusref30_Size.mono _ _ _ _
      | exact LeO.none _
      | refine LeO.ite ?_ ?_
      | refine LeO.bind ?_ (fun _ => ?_)
    · intro y0 y1 y2 y3 y4 y5 y6
      unfold toruslaw30_MatchMatches.j2
      repeat' first
      | (with_reducible exact ih0 _ _ _ _ _ _ _)
      | (with_reducible exact ih1 _ _ _ _ _ _ _)
      | (with_reducible exact ih2 _ _ _ _ _ _ _)
      | (with_reducible exact match_Cover.mono _ _ _ _)
      | (with_reducible exact match_Free.mono _ _ _ _)
      | (with_reducible exact match_Hall.mono _ _ _ _)
      | (with_reducible exact match_Size.mono _ _ _ _)
      | (with_reducible exact toruslaw30_long.mono _ _ _ _)
      | (with_reducible exact torusref01_Same.mono _ _ _)
      | (with_reducible exact torusref30_Check.mono _ _ _ _)
      | (with_reducible exact torusref30_Cover.mono _ _ _ _)
      | (with_reducible exact torusref30_Free.mono _ _ _ _)
      | (with_reducible exact torusref30_Hall.mono _ _ _ _)
      | (with_reducible exact torusref30_Same.mono _ _ _ _ _ _ _)
      | (with_reducible exact torusref30_Size.mono _ _ _ _)
      | (with_reducible exact LeO.refl _)
      | (with_reducible exact LeO.none _)
      | (with_reducible refine LeO.ite ?_ ?_)
      | (with_reducible refine LeO.bind ?_ (fun _ => ?_))
      | exact ih0 _ _ _ _ _ _ _
      | exact ih1 _ _ _ _ _ _ _
      | exact ih2 _ _ _ _ _ _ _
      | exact match_Cover.mono _ _ _ _
      | exact match_Free.mono _ _ _ _
      | exact match_Hall.mono _ _ _ _
      | exact match_Size.mono _ _ _ _
      | exact toruslaw30_long.mono _ _ _ _
      | exact torusref01_Same.mono _ _ _
      | exact torusref30_Check.mono _ _ _ _
      | exact torusref30_Cover.mono _ _ _ _
      | exact torusref30_Free.mono _ _ _ _
      | exact torusref30_Hall.mono _ _ _ _
      | exact torusref30_Same.mono _ _ _ _ _ _ _
      | exact torusref30_Size.mono _ _ _ _
      | exact LeO.none _
      | refine LeO.ite ?_ ?_
      | refine LeO.bind ?_ (fun _ => ?_)
theorem toruslaw30_MatchMatches.mono : ∀ a0 a1 a2 k, LeO (toruslaw30_MatchMatches.f k a0 a1 a2) (toruslaw30_MatchMatches.f (k + 1) a0 a1 a2) := by
  intro a0 a1 a2 k
  obtain ⟨ih0, ih1, ih2⟩ := toruslaw30_MatchMatches.mono_l k
  unfold toruslaw30_MatchMatches.f
  repeat' first
      | (with_reducible exact ih0 _ _ _ _ _ _ _)
      | (with_reducible exact ih1 _ _ _ _ _ _ _)
      | (with_reducible exact ih2 _ _ _ _ _ _ _)
      | (with_reducible exact match_Cover.mono _ _ _ _)
      | (with_reducible exact match_Free.mono _ _ _ _)
      | (with_reducible exact match_Hall.mono _ _ _ _)
      | (with_reducible exact match_Size.mono _ _ _ _)
      | (with_reducible exact toruslaw30_long.mono _ _ _ _)
      | (with_reducible exact torusref01_Same.mono _ _ _)
      | (with_reducible exact torusref30_Check.mono _ _ _ _)
      | (with_reducible exact torusref30_Cover.mono _ _ _ _)
      | (with_reducible exact torusref30_Free.mono _ _ _ _)
      | (with_reducible exact torusref30_Hall.mono _ _ _ _)
      | (with_reducible exact torusref30_Same.mono _ _ _ _ _ _ _)
      | (with_reducible exact torusref30_Size.mono _ _ _ _)
      | (with_reducible exact LeO.refl _)
      | (with_reducible exact LeO.none _)
      | (with_reducible refine LeO.ite ?_ ?_)
      | (with_reducible refine LeO.bind ?_ (fun _ => ?_))
      | exact ih0 _ _ _ _ _ _ _
      | exact ih1 _ _ _ _ _ _ _
      | exact ih2 _ _ _ _ _ _ _
      | exact match_Cover.mono _ _ _ _
      | exact match_Free.mono _ _ _ _
      | exact match_Hall.mono _ _ _ _
      | exact match_Size.mono _ _ _ _
      | exact toruslaw30_long.mono _ _ _ _
      | exact torusref01_Same.mono _ _ _
      | exact torusref30_Check.mono _ _ _ _
      | exact torusref30_Cover.mono _ _ _ _
      | exact torusref30_Free.mono _ _ _ _
      | exact torusref30_Hall.mono _ _ _ _
      | exact torusref30_Same.mono _ _ _ _ _ _ _
      | exact torusref30_Size.mono _ _ _ _
      | exact LeO.none _
      | refine LeO.ite ?_ ?_
      | refine LeO.bind ?_ (fun _ => ?_)
def toruslaw30_MatchMatches.T6 : Bool × List (List Nat × List Nat) := (true, [([], []), ([0], [0]), ([], []), ([2, 1], [2]), ([1, 3], [1, 3]), ([4, 3], [4]), ([5], [5]), ([5], [5]), ([6, 7, 5], [5, 6, 7]), ([5, 8], [5, 8]), ([9, 5], [9]), ([10], [10]), ([10], [10]), ([11, 12, 10], [10, 11, 12]), ([10, 13], [10, 13])])
def toruslaw30_MatchMatches.B6 : List Nat := [0, 1, 0, 7, 15, 31, 63, 63, 255, 511, 1023, 2047, 2047, 8191, 16383]
theorem toruslaw30_MatchMatches.tab6 : rtab .any (opsOf Try.f5 6) = toruslaw30_MatchMatches.T6 := by kernel_rfl
theorem toruslaw30_MatchMatches.bits6 : waitsOk toruslaw30_MatchMatches.T6.2 toruslaw30_MatchMatches.B6 = true := by kernel_rfl
set_option maxHeartbeats 8000000 in
set_option maxRecDepth 100000 in
theorem toruslaw30_MatchMatches.calls (k : Nat) (a0_0 : Int) (a0_1 : Int) (A0_2 : Option Addr) (c0_2 : Nat) (l0_2 : List (S40)) (r : Bool) (w : World) (hr0_2 : Kd.C k40 w A0_2 l0_2.length l0_2) (hc0_2 : l0_2.length ≤ c0_2) (h : toruslaw30_MatchMatches.f k a0_0 a0_1 l0_2 = some r) (hrt : r = true) :
    Calls Try.prog 5 #[.agg #[.int .i64 a0_0, .int .i64 a0_1, .slice A0_2 l0_2.length c0_2]] w fun e w' => e = .returned (.bool r) ∧ Below w.heap.size w w' := by
  have hu27 := Try.underlying27
  have hu33 := Try.underlying33
  have HR0_2 := Aside0.mk hr0_2
  have HC0_2 := Aside0.mk hc0_2
  clear hr0_2 hc0_2
  have HB := Aside0.mk (Below.refl w.heap.size w)
  have H : ((toruslaw30_long.f k a0_0 a0_1 l0_2).bind fun t443 => (if t443 = true then ((toruslaw30_awake.f).bind fun t444 => (some t444)) else ((toruslaw30_given.f a0_0 a0_1 l0_2).bind fun bt445 => ((match_Size.f k bt445.1 bt445.2.1 bt445.2.2).bind fun bt451 => ((torusref30_Size.f k a0_0 a0_1 l0_2).bind fun bt453 => ((match_Check.f bt445.1 bt445.2.1 bt445.2.2).bind fun t455 => ((torusref30_Check.f k a0_0 a0_1 l0_2).bind fun t456 => (if t455 = t456 then (if bt451.1 = bt453.1 then (toruslaw30_MatchMatches.j0 k (bt451.2 != bt453.2) a0_0 a0_1 l0_2 bt445.1 bt445.2.1 bt445.2.2) else (toruslaw30_MatchMatches.j0 k true a0_0 a0_1 l0_2 bt445.1 bt445.2.1 bt445.2.2)) else (toruslaw30_MatchMatches.j0 k true a0_0 a0_1 l0_2 bt445.1 bt445.2.1 bt445.2.2))))))))) = some r := h
  clear h
  replace H := Option.bind_eq_some_iff.mp H
  obtain ⟨t443, A20, H⟩ := H
  replace H : (if t443 = true then ((toruslaw30_awake.f).bind fun t444 => (some t444)) else ((toruslaw30_given.f a0_0 a0_1 l0_2).bind fun bt445 => ((match_Size.f k bt445.1 bt445.2.1 bt445.2.2).bind fun bt451 => ((torusref30_Size.f k a0_0 a0_1 l0_2).bind fun bt453 => ((match_Check.f bt445.1 bt445.2.1 bt445.2.2).bind fun t455 => ((torusref30_Check.f k a0_0 a0_1 l0_2).bind fun t456 => (if t455 = t456 then (if bt451.1 = bt453.1 then (toruslaw30_MatchMatches.j0 k (bt451.2 != bt453.2) a0_0 a0_1 l0_2 bt445.1 bt445.2.1 bt445.2.2) else (toruslaw30_MatchMatches.j0 k true a0_0 a0_1 l0_2 bt445.1 bt445.2.1 bt445.2.2)) else (toruslaw30_MatchMatches.j0 k true a0_0 a0_1 l0_2 bt445.1 bt445.2.1 bt445.2.2)))))))) = some r := H
  have A2 := Aside0.mk A20
  clear A20
  by_cases c3 : t443 = true
  · subst c3
    have H1 : ((toruslaw30_awake.f).bind fun t444 => (some t444)) = some r := by rw [if_pos rfl] at H; exact H
    clear H
    have H := H1
    clear H1
    replace H := Option.bind_eq_some_iff.mp H
    obtain ⟨t444, A40, H⟩ := H
    replace H : (some t444) = some r := H
    have A4 := Aside0.mk A40
    clear A40
    obtain rfl := Option.some.inj H
    go_enter Try.func5, Try.ntmps5
    go_wp2_with (first | ((with_reducible refine gate_dst (N := 1) rfl ?_); refine box_event ?hg (N := 1) ?hd (cs := #[.int .i64 a0_0, .int .i64 a0_1, .slice A0_2 l0_2.length c0_2]) (t := 27) ?hr ?_; (case hd => rfl); (case hg => rfl); (case hr => first | (go_simp; done) | (go_simp; rfl)); intro gb442 hg w5 hbox hb; have n0_ := Aside0.mk (below_step (by repeat (first | (with_reducible first | exact HB.out | apply below_alloc | apply pw_below_drewN | apply below_drew1) | exact HB.out)) hb); have n1_ := Aside0.mk (hbox); have n2_ := Aside0.mk ((by rw [hg]; exact (below_size (by repeat (first | (with_reducible first | exact HB.out | apply below_alloc | apply pw_below_drewN | apply below_drew1) | exact HB.out))) : w.heap.size ≤ gb442)); have n3_ := Aside0.mk ((by rw [hg]; exact (below_size (by repeat (first | (with_reducible first | exact HB.out | apply below_alloc | apply pw_below_drewN | apply below_drew1) | exact HB.out))) : w.heap.size ≤ gb442)); clear HB; have HB := n0_; have BK442 := n1_; have GW442 := n2_; have GE442 := n3_; clear n0_ n1_ n2_ n3_; clear hb hbox hg; have hcz6_0 : w5.cell? ⟨gb442, 0, none⟩ = some (.int .i64 a0_0) := (blk_cell BK442.out 0).trans rfl; have hcz6_1 : w5.cell? ⟨gb442, 1, none⟩ = some (.int .i64 a0_1) := (blk_cell BK442.out 1).trans rfl; have hcz6_2 : w5.cell? ⟨gb442, 2, none⟩ = some (.slice A0_2 l0_2.length c0_2) := (blk_cell BK442.out 2).trans rfl; have hfz6_0 := blk_frozen BK442.out 0; have hfz6_1 := blk_frozen BK442.out 1; have hfz6_2 := blk_frozen BK442.out 2) | ((with_reducible refine gate_callee (f := 20) rfl ?_); refine goesL_ (some 13) rfl rfl Try.func20 (by kernel_rfl) rfl #[.agg #[.int .i64 a0_0, .int .i64 a0_1, .slice A0_2 l0_2.length c0_2]] rfl (by (try simp only [List.map_toArray, List.map_cons, List.map_nil]); first | done | rfl | (simp only [List.length_drop, List.length_take]; rfl)) ?_; (with_reducible refine (toruslaw30_long.calls k a0_0 a0_1 _ _ l0_2 true _ ?side1 ?side2 A2.out).mono ?_); (case side1 => repeat (first | exact (Kd.C_below HR0_2.out HB.out) | (with_reducible refine Kd.C_alloc ?_ _) | (with_reducible refine Kd.C_drewN ?_ _) | (with_reducible refine Kd.C_drew ?_))); (case side2 => exact HC0_2.out); rintro e w7 ⟨rfl, hb⟩; refine ⟨_, rfl, ?_⟩; have n0_ := Aside0.mk (blk_below (g := gb442) (o := .cells #[.int .i64 a0_0, .int .i64 a0_1, .slice A0_2 l0_2.length c0_2] 27 (0, 0)) (by (with_reducible repeat (first | refine blk_drewN ?_ _ | refine blk_drew ?_ | refine blk_alloc ?_ _)); exact BK442.out) hb); have n1_ := Aside0.mk (below_step (by repeat (first | (with_reducible first | exact HB.out | apply below_alloc | apply pw_below_drewN | apply below_drew1 | refine below_set ?_ GE442.out) | exact HB.out)) hb); clear BK442; clear HB; have BK442 := n0_; have HB := n1_; clear n0_ n1_; (try clear hb); (try clear hb2); (try clear hk); (try clear hi)) | ((with_reducible refine gate_callee (f := 16) rfl ?_); refine goesL_ (some 14) rfl rfl Try.func16 (by kernel_rfl) rfl #[] rfl (by (try simp only [List.map_toArray, List.map_cons, List.map_nil]); first | done | rfl | (simp only [List.length_drop, List.length_take]; rfl)) ?_; (with_reducible refine (toruslaw30_awake.calls  t444 _ A4.out).mono ?_); rintro e w8 ⟨rfl, hb⟩; refine ⟨_, rfl, ?_⟩; have n0_ := Aside0.mk (blk_below (g := gb442) (o := .cells #[.int .i64 a0_0, .int .i64 a0_1, .slice A0_2 l0_2.length c0_2] 27 (0, 0)) (by (with_reducible repeat (first | refine blk_drewN ?_ _ | refine blk_drew ?_ | refine blk_alloc ?_ _)); exact BK442.out) hb); have n1_ := Aside0.mk (below_step (by repeat (first | (with_reducible first | exact HB.out | apply below_alloc | apply pw_below_drewN | apply below_drew1 | refine below_set ?_ GE442.out) | exact HB.out)) hb); clear BK442; clear HB; have BK442 := n0_; have HB := n1_; clear n0_ n1_; (try clear hb); (try clear hb2); (try clear hk); (try clear hi)))
    go_ret
    exact ⟨by first | rfl | (simp [errW_none, errW_some] <;> rfl) | (simp [*, errW_none, errW_some] <;> rfl), by repeat (first | (with_reducible first | exact HB.out | apply below_alloc | apply pw_below_drewN | apply below_drew1 | refine below_set ?_ GE442.out) | exact HB.out)⟩
  · replace c3 := Bool.eq_false_iff.mpr c3
    subst c3
    have H1 : ((toruslaw30_given.f a0_0 a0_1 l0_2).bind fun bt445 => ((match_Size.f k bt445.1 bt445.2.1 bt445.2.2).bind fun bt451 => ((torusref30_Size.f k a0_0 a0_1 l0_2).bind fun bt453 => ((match_Check.f bt445.1 bt445.2.1 bt445.2.2).bind fun t455 => ((torusref30_Check.f k a0_0 a0_1 l0_2).bind fun t456 => (if t455 = t456 then (if bt451.1 = bt453.1 then (toruslaw30_MatchMatches.j0 k (bt451.2 != bt453.2) a0_0 a0_1 l0_2 bt445.1 bt445.2.1 bt445.2.2) else (toruslaw30_MatchMatches.j0 k true a0_0 a0_1 l0_2 bt445.1 bt445.2.1 bt445.2.2)) else (toruslaw30_MatchMatches.j0 k true a0_0 a0_1 l0_2 bt445.1 bt445.2.1 bt445.2.2))))))) = some r := by rw [if_neg (show ¬ (false = true) by decide)] at H; exact H
    clear H
    have H := H1
    clear H1
    replace H := Option.bind_eq_some_iff.mp H
    obtain ⟨⟨t445, t446, t447⟩, A90, H⟩ := H
    replace H : ((match_Size.f k t445 t446 t447).bind fun bt451 => ((torusref30_Size.f k a0_0 a0_1 l0_2).bind fun bt453 => ((match_Check.f t445 t446 t447).bind fun t455 => ((torusref30_Check.f k a0_0 a0_1 l0_2).bind fun t456 => (if t455 = t456 then (if bt451.1 = bt453.1 then (toruslaw30_MatchMatches.j0 k (bt451.2 != bt453.2) a0_0 a0_1 l0_2 t445 t446 t447) else (toruslaw30_MatchMatches.j0 k true a0_0 a0_1 l0_2 t445 t446 t447)) else (toruslaw30_MatchMatches.j0 k true a0_0 a0_1 l0_2 t445 t446 t447)))))) = some r := H
    have A9 := Aside0.mk A90
    clear A90
    replace H := Option.bind_eq_some_iff.mp H
    obtain ⟨⟨t451, t452⟩, A100, H⟩ := H
    replace H : ((torusref30_Size.f k a0_0 a0_1 l0_2).bind fun bt453 => ((match_Check.f t445 t446 t447).bind fun t455 => ((torusref30_Check.f k a0_0 a0_1 l0_2).bind fun t456 => (if t455 = t456 then (if t451 = bt453.1 then (toruslaw30_MatchMatches.j0 k (t452 != bt453.2) a0_0 a0_1 l0_2 t445 t446 t447) else (toruslaw30_MatchMatches.j0 k true a0_0 a0_1 l0_2 t445 t446 t447)) else (toruslaw30_MatchMatches.j0 k true a0_0 a0_1 l0_2 t445 t446 t447))))) = some r := H
    have A10 := Aside0.mk A100
    clear A100
    replace H := Option.bind_eq_some_iff.mp H
    obtain ⟨⟨t453, t454⟩, A110, H⟩ := H
    replace H : ((match_Check.f t445 t446 t447).bind fun t455 => ((torusref30_Check.f k a0_0 a0_1 l0_2).bind fun t456 => (if t455 = t456 then (if t451 = t453 then (toruslaw30_MatchMatches.j0 k (t452 != t454) a0_0 a0_1 l0_2 t445 t446 t447) else (toruslaw30_MatchMatches.j0 k true a0_0 a0_1 l0_2 t445 t446 t447)) else (toruslaw30_MatchMatches.j0 k true a0_0 a0_1 l0_2 t445 t446 t447)))) = some r := H
    have A11 := Aside0.mk A110
    clear A110
    have HC12 := Aside0.mk H
    clear H
    go_enter Try.func5, Try.ntmps5
    go_upto_region 6 with (first | ((with_reducible refine gate_dst (N := 1) rfl ?_); refine box_event ?hg (N := 1) ?hd (cs := #[.int .i64 a0_0, .int .i64 a0_1, .slice A0_2 l0_2.length c0_2]) (t := 27) ?hr ?_; (case hd => rfl); (case hg => rfl); (case hr => first | (go_simp; done) | (go_simp; rfl)); intro gb442 hg w13 hbox hb; have n0_ := Aside0.mk (below_step (by repeat (first | (with_reducible first | exact HB.out | apply below_alloc | apply pw_below_drewN | apply below_drew1) | exact HB.out)) hb); have n1_ := Aside0.mk (hbox); have n2_ := Aside0.mk ((by rw [hg]; exact (below_size (by repeat (first | (with_reducible first | exact HB.out | apply below_alloc | apply pw_below_drewN | apply below_drew1) | exact HB.out))) : w.heap.size ≤ gb442)); have n3_ := Aside0.mk ((by rw [hg]; exact (below_size (by repeat (first | (with_reducible first | exact HB.out | apply below_alloc | apply pw_below_drewN | apply below_drew1) | exact HB.out))) : w.heap.size ≤ gb442)); clear HB; have HB := n0_; have BK442 := n1_; have GW442 := n2_; have GE442 := n3_; clear n0_ n1_ n2_ n3_; clear hb hbox hg; have hcz14_0 : w13.cell? ⟨gb442, 0, none⟩ = some (.int .i64 a0_0) := (blk_cell BK442.out 0).trans rfl; have hcz14_1 : w13.cell? ⟨gb442, 1, none⟩ = some (.int .i64 a0_1) := (blk_cell BK442.out 1).trans rfl; have hcz14_2 : w13.cell? ⟨gb442, 2, none⟩ = some (.slice A0_2 l0_2.length c0_2) := (blk_cell BK442.out 2).trans rfl; have hfz14_0 := blk_frozen BK442.out 0; have hfz14_1 := blk_frozen BK442.out 1; have hfz14_2 := blk_frozen BK442.out 2) | ((with_reducible refine gate_callee (f := 20) rfl ?_); refine goesL_ (some 13) rfl rfl Try.func20 (by kernel_rfl) rfl #[.agg #[.int .i64 a0_0, .int .i64 a0_1, .slice A0_2 l0_2.length c0_2]] rfl (by (try simp only [List.map_toArray, List.map_cons, List.map_nil]); first | done | rfl | (simp only [List.length_drop, List.length_take]; rfl)) ?_; (with_reducible refine (toruslaw30_long.calls k a0_0 a0_1 _ _ l0_2 false _ ?side1 ?side2 A2.out).mono ?_); (case side1 => repeat (first | exact (Kd.C_below HR0_2.out HB.out) | (with_reducible refine Kd.C_alloc ?_ _) | (with_reducible refine Kd.C_drewN ?_ _) | (with_reducible refine Kd.C_drew ?_))); (case side2 => exact HC0_2.out); rintro e w15 ⟨rfl, hb⟩; refine ⟨_, rfl, ?_⟩; have n0_ := Aside0.mk (blk_below (g := gb442) (o := .cells #[.int .i64 a0_0, .int .i64 a0_1, .slice A0_2 l0_2.length c0_2] 27 (0, 0)) (by (with_reducible repeat (first | refine blk_drewN ?_ _ | refine blk_drew ?_ | refine blk_alloc ?_ _)); exact BK442.out) hb); have n1_ := Aside0.mk (below_step (by repeat (first | (with_reducible first | exact HB.out | apply below_alloc | apply pw_below_drewN | apply below_drew1 | refine below_set ?_ GE442.out) | exact HB.out)) hb); clear BK442; clear HB; have BK442 := n0_; have HB := n1_; clear n0_ n1_; (try clear hb); (try clear hb2); (try clear hk); (try clear hi); have hcz16_0 : w15.cell? ⟨gb442, 0, none⟩ = some (.int .i64 a0_0) := (blk_cell BK442.out 0).trans rfl; have hcz16_1 : w15.cell? ⟨gb442, 1, none⟩ = some (.int .i64 a0_1) := (blk_cell BK442.out 1).trans rfl; have hcz16_2 : w15.cell? ⟨gb442, 2, none⟩ = some (.slice A0_2 l0_2.length c0_2) := (blk_cell BK442.out 2).trans rfl; have hfz16_0 := blk_frozen BK442.out 0; have hfz16_1 := blk_frozen BK442.out 1; have hfz16_2 := blk_frozen BK442.out 2) | ((with_reducible refine gate_callee (f := 14) rfl ?_); refine goesL_ (some 16) rfl rfl Try.func14 (by kernel_rfl) rfl #[.agg #[.int .i64 a0_0, .int .i64 a0_1, .slice A0_2 l0_2.length c0_2]] rfl (by (try simp only [List.map_toArray, List.map_cons, List.map_nil]); first | done | rfl | (simp only [List.length_drop, List.length_take]; rfl)) ?_; (with_reducible refine (toruslaw30_given.calls a0_0 a0_1 _ _ l0_2 t445 t446 t447 _ ?side1 ?side2 A9.out).mono ?_); (case side1 => repeat (first | exact (Kd.C_below HR0_2.out HB.out) | (with_reducible refine Kd.C_alloc ?_ _) | (with_reducible refine Kd.C_drewN ?_ _) | (with_reducible refine Kd.C_drew ?_))); (case side2 => exact HC0_2.out); rintro e w17 ⟨v448, rfl, ho0, hb⟩; refine ⟨_, rfl, ?_⟩; have n0_ := Aside0.mk (Kd.R_lower ho0 (below_size (by repeat (first | (with_reducible first | exact HB.out | apply below_alloc | apply pw_below_drewN | apply below_drew1 | refine below_set ?_ GE442.out) | exact HB.out)))); have n1_ := Aside0.mk (blk_below (g := gb442) (o := .cells #[.int .i64 a0_0, .int .i64 a0_1, .slice A0_2 l0_2.length c0_2] 27 (0, 0)) (by (with_reducible repeat (first | refine blk_drewN ?_ _ | refine blk_drew ?_ | refine blk_alloc ?_ _)); exact BK442.out) hb); have n2_ := Aside0.mk (below_step (by repeat (first | (with_reducible first | exact HB.out | apply below_alloc | apply pw_below_drewN | apply below_drew1 | refine below_set ?_ GE442.out) | exact HB.out)) hb); clear BK442; clear HB; have HO449 := n0_; have BK442 := n1_; have HB := n2_; clear n0_ n1_ n2_; (try clear hb); (try clear hb2); (try clear hk); (try clear hi); (try clear ho0)) | ((with_reducible refine gate_dst (N := 3) rfl ?_); refine box_event ?hg (N := 3) ?hd (cs := #[.int .i64 0, .int .i64 0, .slice none 0 0]) (t := 33) ?hr ?_; (case hd => rfl); (case hg => rfl); (case hr => first | (go_simp; done) | (go_simp; rfl)); intro gb450 hg w18 hbox hb; have n0_ := Aside0.mk (Kd.R_below (by (with_reducible repeat (first | apply Kd.R_alloc | apply Kd.R_drewN | apply Kd.R_drew)); exact HO449.out) hb); have n1_ := Aside0.mk (blk_below (g := gb442) (o := .cells #[.int .i64 a0_0, .int .i64 a0_1, .slice A0_2 l0_2.length c0_2] 27 (0, 0)) (by (with_reducible repeat (first | refine blk_drewN ?_ _ | refine blk_drew ?_ | refine blk_alloc ?_ _)); exact BK442.out) hb); have n2_ := Aside0.mk (below_step (by repeat (first | (with_reducible first | exact HB.out | apply below_alloc | apply pw_below_drewN | apply below_drew1 | refine below_set ?_ GE442.out) | exact HB.out)) hb); have n3_ := Aside0.mk (hbox); have n4_ := Aside0.mk ((by rw [hg]; exact (below_size (by repeat (first | (with_reducible first | exact HB.out | apply below_alloc | apply pw_below_drewN | apply below_drew1 | refine below_set ?_ GE442.out) | exact HB.out))) : w.heap.size ≤ gb450)); have n5_ := Aside0.mk ((by rw [hg]; exact (below_size (by repeat (first | (with_reducible first | exact HB.out | apply below_alloc | apply pw_below_drewN | apply below_drew1 | refine below_set ?_ GE442.out) | exact HB.out))) : w.heap.size ≤ gb450)); have n6_ := Aside0.mk ((by rw [hg]; exact Nat.ne_of_lt (blk_lt (g := gb442) (o := .cells #[.int .i64 a0_0, .int .i64 a0_1, .slice A0_2 l0_2.length c0_2] 27 (0, 0)) (by (with_reducible repeat (first | refine blk_drewN ?_ _ | refine blk_drew ?_ | refine blk_alloc ?_ _)); exact BK442.out)) : gb442 ≠ gb450)); have n7_ := Aside0.mk ((by rw [hg]; exact Nat.ne_of_gt (blk_lt (g := gb442) (o := .cells #[.int .i64 a0_0, .int .i64 a0_1, .slice A0_2 l0_2.length c0_2] 27 (0, 0)) (by (with_reducible repeat (first | refine blk_drewN ?_ _ | refine blk_drew ?_ | refine blk_alloc ?_ _)); exact BK442.out)) : gb450 ≠ gb442)); clear HO449; clear BK442; clear HB; have HO449 := n0_; have BK442 := n1_; have HB := n2_; have BK450 := n3_; have GW450 := n4_; have GE450 := n5_; have NB442_450 := n6_; have NB450_442 := n7_; clear n0_ n1_ n2_ n3_ n4_ n5_ n6_ n7_; clear hb hbox hg; have hnb19 := NB450_442.out; have hnc19 := NB442_450.out; have hcz20_0 : w18.cell? ⟨gb450, 0, none⟩ = some (.int .i64 0) := (blk_cell BK450.out 0).trans rfl; have hcz20_1 : w18.cell? ⟨gb450, 1, none⟩ = some (.int .i64 0) := (blk_cell BK450.out 1).trans rfl; have hcz20_2 : w18.cell? ⟨gb450, 2, none⟩ = some (.slice none 0 0) := (blk_cell BK450.out 2).trans rfl; have hfz20_0 := blk_frozen BK450.out 0; have hfz20_1 := blk_frozen BK450.out 1; have hfz20_2 := blk_frozen BK450.out 2; obtain ⟨Ao21, co21, eo21⟩ := Kd.R_slice HO449.out; subst eo21) | ((with_reducible refine gate_callee (f := 21) rfl ?_); refine goesL_ (some 19) rfl rfl Try.func21 (by kernel_rfl) rfl #[.agg #[.int .i64 t445, .int .i64 t446, .slice Ao21 t447.length co21]] rfl (by (try simp only [List.map_toArray, List.map_cons, List.map_nil]); first | done | rfl | (simp only [List.length_drop, List.length_take]; rfl)) ?_; (with_reducible refine (match_Size.calls k t445 t446 _ _ t447 t451 t452 _ ?side1 ?side2 A10.out).mono ?_); (case side1 => refine (Kd.R_reads' (e := 40) (base := w.heap.size) (ok := fun k_ => True) (n := t447.length) (c := co21) ?_).2.2; exact (by (with_reducible repeat (first | apply Kd.R_alloc | apply Kd.R_drewN | apply Kd.R_drew)); exact (Kd.R_mono (Kd.R_far (p := ⟨gb450, 2, none⟩) (Kd.R_far (p := ⟨gb450, 1, none⟩) (Kd.R_far (p := ⟨gb450, 0, none⟩) (Kd.R_types HO449.out BK450.out (by decide)) (fun _ hk => hk.2) (.int .i64 t445)) (fun _ hk => hk.2) (.int .i64 t446)) (fun _ hk => hk.2) (.slice Ao21 t447.length co21)) (fun _ h_ => h_.1)))); (case side2 => exact (Kd.R_reads' HO449.out).2.1); rintro e w22 ⟨rfl, hb⟩; refine ⟨_, rfl, ?_⟩; have n0_ := Aside0.mk (Kd.R_below (by (with_reducible repeat (first | apply Kd.R_alloc | apply Kd.R_drewN | apply Kd.R_drew)); exact (Kd.R_mono (Kd.R_far (p := ⟨gb450, 2, none⟩) (Kd.R_far (p := ⟨gb450, 1, none⟩) (Kd.R_far (p := ⟨gb450, 0, none⟩) (Kd.R_types HO449.out BK450.out (by decide)) (fun _ hk => hk.2) (.int .i64 t445)) (fun _ hk => hk.2) (.int .i64 t446)) (fun _ hk => hk.2) (.slice Ao21 t447.length co21)) (fun _ h_ => h_.1))) hb); have n1_ := Aside0.mk (blk_below (g := gb442) (o := .cells #[.int .i64 a0_0, .int .i64 a0_1, .slice A0_2 l0_2.length c0_2] 27 (0, 0)) (by (with_reducible repeat (first | refine blk_drewN ?_ _ | refine blk_drew ?_ | refine blk_alloc ?_ _)); refine blk_far ?_ NB442_450.out _; (with_reducible repeat (first | refine blk_drewN ?_ _ | refine blk_drew ?_ | refine blk_alloc ?_ _)); refine blk_far ?_ NB442_450.out _; (with_reducible repeat (first | refine blk_drewN ?_ _ | refine blk_drew ?_ | refine blk_alloc ?_ _)); refine blk_far ?_ NB442_450.out _; (with_reducible repeat (first | refine blk_drewN ?_ _ | refine blk_drew ?_ | refine blk_alloc ?_ _)); exact BK442.out) hb); have n2_ := Aside0.mk (blk_below (g := gb450) (o := .cells #[.int .i64 t445, .int .i64 t446, .slice Ao21 t447.length co21] 33 (0, 0)) (by (with_reducible repeat (first | refine blk_drewN ?_ _ | refine blk_drew ?_ | refine blk_alloc ?_ _)); refine blk_put (cs := #[.int .i64 t445, .int .i64 t446, .slice none 0 0]) ?_ 2 _ rfl; (with_reducible repeat (first | refine blk_drewN ?_ _ | refine blk_drew ?_ | refine blk_alloc ?_ _)); refine blk_put (cs := #[.int .i64 t445, .int .i64 0, .slice none 0 0]) ?_ 1 _ rfl; (with_reducible repeat (first | refine blk_drewN ?_ _ | refine blk_drew ?_ | refine blk_alloc ?_ _)); refine blk_put (cs := #[.int .i64 0, .int .i64 0, .slice none 0 0]) ?_ 0 _ rfl; (with_reducible repeat (first | refine blk_drewN ?_ _ | refine blk_drew ?_ | refine blk_alloc ?_ _)); exact BK450.out) hb); have n3_ := Aside0.mk (below_step (by repeat (first | (with_reducible first | exact HB.out | apply below_alloc | apply pw_below_drewN | apply below_drew1 | refine below_set ?_ GE442.out | refine below_set ?_ GE450.out) | exact HB.out)) hb); clear HO449; clear BK442; clear BK450; clear HB; have HO449 := n0_; have BK442 := n1_; have BK450 := n2_; have HB := n3_; clear n0_ n1_ n2_ n3_; (try clear hb); (try clear hb2); (try clear hk); (try clear hi); have hcz23_0 : w22.cell? ⟨gb442, 0, none⟩ = some (.int .i64 a0_0) := (blk_cell BK442.out 0).trans rfl; have hcz23_1 : w22.cell? ⟨gb442, 1, none⟩ = some (.int .i64 a0_1) := (blk_cell BK442.out 1).trans rfl; have hcz23_2 : w22.cell? ⟨gb442, 2, none⟩ = some (.slice A0_2 l0_2.length c0_2) := (blk_cell BK442.out 2).trans rfl; have hfz23_0 := blk_frozen BK442.out 0; have hfz23_1 := blk_frozen BK442.out 1; have hfz23_2 := blk_frozen BK442.out 2) | ((with_reducible refine gate_callee (f := 22) rfl ?_); refine goesL_ (some 24) rfl rfl Try.func22 (by kernel_rfl) rfl #[.agg #[.int .i64 a0_0, .int .i64 a0_1, .slice A0_2 l0_2.length c0_2]] rfl (by (try simp only [List.map_toArray, List.map_cons, List.map_nil]); first | done | rfl | (simp only [List.length_drop, List.length_take]; rfl)) ?_; (with_reducible refine (torusref30_Size.calls k a0_0 a0_1 _ _ l0_2 t453 t454 _ ?side1 ?side2 A11.out).mono ?_); (case side1 => repeat (first | exact (Kd.C_below HR0_2.out HB.out) | (with_reducible refine Kd.C_alloc ?_ _) | (with_reducible refine Kd.C_drewN ?_ _) | (with_reducible refine Kd.C_drew ?_))); (case side2 => exact HC0_2.out); rintro e w24 ⟨rfl, hb⟩; refine ⟨_, rfl, ?_⟩; have n0_ := Aside0.mk (Kd.R_below (by (with_reducible repeat (first | apply Kd.R_alloc | apply Kd.R_drewN | apply Kd.R_drew)); exact HO449.out) hb); have n1_ := Aside0.mk (blk_below (g := gb442) (o := .cells #[.int .i64 a0_0, .int .i64 a0_1, .slice A0_2 l0_2.length c0_2] 27 (0, 0)) (by (with_reducible repeat (first | refine blk_drewN ?_ _ | refine blk_drew ?_ | refine blk_alloc ?_ _)); exact BK442.out) hb); have n2_ := Aside0.mk (blk_below (g := gb450) (o := .cells #[.int .i64 t445, .int .i64 t446, .slice Ao21 t447.length co21] 33 (0, 0)) (by (with_reducible repeat (first | refine blk_drewN ?_ _ | refine blk_drew ?_ | refine blk_alloc ?_ _)); exact BK450.out) hb); have n3_ := Aside0.mk (below_step (by repeat (first | (with_reducible first | exact HB.out | apply below_alloc | apply pw_below_drewN | apply below_drew1 | refine below_set ?_ GE442.out | refine below_set ?_ GE450.out) | exact HB.out)) hb); clear HO449; clear BK442; clear BK450; clear HB; have HO449 := n0_; have BK442 := n1_; have BK450 := n2_; have HB := n3_; clear n0_ n1_ n2_ n3_; (try clear hb); (try clear hb2); (try clear hk); (try clear hi)))
    (try simp only [Act.put, List.setIfInBounds_toArray, List.set_cons_zero, List.set_cons_succ])
    go_cut [41] (fun v41 wc => ∃ (kq : Nat) (x41_11 : Bool), v41 = .bool x41_11 ∧ Aside0 (toruslaw30_MatchMatches.j0 kq x41_11 a0_0 a0_1 l0_2 t445 t446 t447 = some r) ∧ Aside0 (kq ≤ k) ∧ Aside0 (Kd.R k40 40 wc w.heap.size (fun _ => True) (.slice Ao21 t447.length co21) t447) ∧ Aside0 (wc.heap[gb442]? = some (.cells #[.int .i64 a0_0, .int .i64 a0_1, (.slice A0_2 l0_2.length c0_2)] 27 (0, 0))) ∧ Aside0 (wc.heap[gb450]? = some (.cells #[.int .i64 t445, .int .i64 t446, (.slice Ao21 t447.length co21)] 33 (0, 0))) ∧ Aside0 (Below w.heap.size w wc))
    case first =>
      have H := HC12.out
      clear HC12
      replace H := Option.bind_eq_some_iff.mp H
      obtain ⟨t455, A250, H⟩ := H
      replace H : ((torusref30_Check.f k a0_0 a0_1 l0_2).bind fun t456 => (if t455 = t456 then (if t451 = t453 then (toruslaw30_MatchMatches.j0 k (t452 != t454) a0_0 a0_1 l0_2 t445 t446 t447) else (toruslaw30_MatchMatches.j0 k true a0_0 a0_1 l0_2 t445 t446 t447)) else (toruslaw30_MatchMatches.j0 k true a0_0 a0_1 l0_2 t445 t446 t447))) = some r := H
      have A25 := Aside0.mk A250
      clear A250
      replace H := Option.bind_eq_some_iff.mp H
      obtain ⟨t456, A260, H⟩ := H
      replace H : (if t455 = t456 then (if t451 = t453 then (toruslaw30_MatchMatches.j0 k (t452 != t454) a0_0 a0_1 l0_2 t445 t446 t447) else (toruslaw30_MatchMatches.j0 k true a0_0 a0_1 l0_2 t445 t446 t447)) else (toruslaw30_MatchMatches.j0 k true a0_0 a0_1 l0_2 t445 t446 t447)) = some r := H
      have A26 := Aside0.mk A260
      clear A260
      by_cases c27 : t455 = t456
      · rw [if_pos c27] at H
        have c27b0 : (t455 == t456) = true := beq_iff_eq.mpr c27
        have c27b1 : (t455 != t456) = false := bne_eq_false_iff_eq.mpr c27
        clear c27
        (first | rw [c27b0] | (simp only [i64_w, i32_w]; rw [c27b0]) | skip)
        by_cases c28 : t451 = t453
        · rw [if_pos c28] at H
          have c28b0 : (t451 == t453) = true := beq_iff_eq.mpr c28
          have c28b1 : (t451 != t453) = false := bne_eq_false_iff_eq.mpr c28
          clear c28
          have H' := Aside0.mk H
          clear H
          try go_wp2
          have n0_ := Aside0.mk (Kd.R_drew HO449.out)
          have n1_ := Aside0.mk (blk_drew BK442.out)
          have n2_ := Aside0.mk (blk_drew BK450.out)
          have n3_ := Aside0.mk (below_drew1 HB.out)
          clear HO449
          clear BK442
          clear BK450
          clear HB
          have HO449 := n0_
          have BK442 := n1_
          have BK450 := n2_
          have HB := n3_
          clear n0_ n1_ n2_ n3_
          refine start_ (n := 15) (S := fun w' => w'.cell? ⟨gb450, 0, none⟩ = some (.int .i64 t445) ∧ w'.cell? ⟨gb450, 1, none⟩ = some (.int .i64 t446) ∧ w'.cell? ⟨gb450, 2, none⟩ = some (.slice Ao21 t447.length co21) ∧ w'.cell? ⟨gb442, 0, none⟩ = some (.int .i64 a0_0) ∧ w'.cell? ⟨gb442, 1, none⟩ = some (.int .i64 a0_1) ∧ w'.cell? ⟨gb442, 2, none⟩ = some (.slice A0_2 l0_2.length c0_2)) (ds := []) #[false, false, false, false, false, false, false, false, false, false, false, false, false, false, false] (by kernel_rfl) rfl rfl ⟨(blk_cell BK450.out 0).trans rfl, (blk_cell BK450.out 1).trans rfl, (blk_cell BK450.out 2).trans rfl, (blk_cell BK442.out 0).trans rfl, (blk_cell BK442.out 1).trans rfl, (blk_cell BK442.out 2).trans rfl⟩ (fun hHeld => ?_); refine with_tabW toruslaw30_MatchMatches.tab6 toruslaw30_MatchMatches.bits6 (fun HT_ HW_ => ?_)
          generalize w24.drew = w29 at HO449 BK442 BK450 HB hHeld ⊢
          refine take_ (i := 0) (N := some 27) (v := ?_) (a' := ?_) #[true, false, false, false, false, false, false, false, false, false, false, false, false, false, false] rfl rfl (take_ofW HT_.out HW_.out (by kernel_rfl)) (fun _ _ _ h => h) (Or.inl ⟨by rfl, ?_⟩) hHeld ?_ ?_
          rotate_left
          · rintro w' ⟨s0, s1, s2, s3, s4, s5⟩
            go_simp
            with_reducible rfl
          rotate_left
          · simp only [Act.put, List.setIfInBounds_toArray, List.set_cons_zero, List.set_cons_succ, i64_w, i32_w]
            rfl
          refine take_ (i := 2) (N := some 29) (v := ?_) (a' := ?_) #[true, false, true, false, false, false, false, false, false, false, false, false, false, false, false] rfl rfl (take_ofW HT_.out HW_.out (by kernel_rfl)) (fun _ _ _ h => h) (Or.inl ⟨by rfl, ?_⟩) hHeld ?_ ?_
          rotate_left
          · rintro w' ⟨s0, s1, s2, s3, s4, s5⟩
            go_simp
            with_reducible rfl
          rotate_left
          · simp only [Act.put, List.setIfInBounds_toArray, List.set_cons_zero, List.set_cons_succ, i64_w, i32_w]
            rfl
          refine one_ (i := 1) (N := some 28) #[true, true, true, false, false, false, false, false, false, false, false, false, false, false, false] rfl rfl (one_of HT_.out (by kernel_rfl)) (by decide) (fun K hK => ?_)
          refine goes_ Try.func23 (by kernel_rfl) rfl #[.agg #[.int .i64 t445, .int .i64 t446, .slice Ao21 t447.length co21]] (by rfl) rfl rfl (by (try simp only [List.map_toArray, List.map_cons, List.map_nil]); first | done | rfl | (simp only [List.length_drop, List.length_take]; rfl)) ?_
          with_reducible refine (match_Check.calls t445 t446 _ _ t447 t455 _ ?side1 ?side2 A25.out).mono ?_
          (case side1 => repeat (first | exact (Kd.R_reads' HO449.out).2.2 | (with_reducible refine Kd.C_alloc ?_ _) | (with_reducible refine Kd.C_drewN ?_ _) | (with_reducible refine Kd.C_drew ?_)))
          (case side2 => exact (Kd.R_reads' HO449.out).2.1)
          rintro e w30 ⟨rfl, hb⟩
          refine ⟨_, rfl, ?_⟩
          have n0_ := Aside0.mk (Kd.R_below (by (with_reducible repeat (first | apply Kd.R_alloc | apply Kd.R_drewN | apply Kd.R_drew)); exact HO449.out) hb)
          have n1_ := Aside0.mk (blk_below (g := gb442) (o := .cells #[.int .i64 a0_0, .int .i64 a0_1, .slice A0_2 l0_2.length c0_2] 27 (0, 0)) (by (with_reducible repeat (first | refine blk_drewN ?_ _ | refine blk_drew ?_ | refine blk_alloc ?_ _)); exact BK442.out) hb)
          have n2_ := Aside0.mk (blk_below (g := gb450) (o := .cells #[.int .i64 t445, .int .i64 t446, .slice Ao21 t447.length co21] 33 (0, 0)) (by (with_reducible repeat (first | refine blk_drewN ?_ _ | refine blk_drew ?_ | refine blk_alloc ?_ _)); exact BK450.out) hb)
          have n3_ := Aside0.mk (below_step (by repeat (first | (with_reducible first | exact HB.out | apply below_alloc | apply pw_below_drewN | apply below_drew1 | refine below_set ?_ GE442.out | refine below_set ?_ GE450.out) | exact HB.out)) hb)
          clear HO449
          clear BK442
          clear BK450
          clear HB
          have HO449 := n0_
          have BK442 := n1_
          have BK450 := n2_
          have HB := n3_
          clear n0_ n1_ n2_ n3_
          (try clear hb)
          (try clear hb2)
          (try clear hk)
          (try clear hi)
          refine hK.out _ _ ⟨(blk_cell BK450.out 0).trans rfl, (blk_cell BK450.out 1).trans rfl, (blk_cell BK450.out 2).trans rfl, (blk_cell BK442.out 0).trans rfl, (blk_cell BK442.out 1).trans rfl, (blk_cell BK442.out 2).trans rfl⟩ (fun hHeld => ?_)
          clear hK K
          refine norm_ (a' := ?_) ?_ ?_
          rotate_left
          · show Act.put _ (some 28) _ = _
            simp only [Act.put, List.setIfInBounds_toArray, List.set_cons_zero, List.set_cons_succ, i64_w, i32_w]
            rfl
          refine one_ (i := 3) (N := some 30) #[true, true, true, true, false, false, false, false, false, false, false, false, false, false, false] rfl rfl (one_of HT_.out (by kernel_rfl)) (by decide) (fun K hK => ?_)
          refine goes_ Try.func24 (by kernel_rfl) rfl #[.agg #[.int .i64 a0_0, .int .i64 a0_1, .slice A0_2 l0_2.length c0_2]] (by rfl) rfl rfl (by (try simp only [List.map_toArray, List.map_cons, List.map_nil]); first | done | rfl | (simp only [List.length_drop, List.length_take]; rfl)) ?_
          with_reducible refine (torusref30_Check.calls k a0_0 a0_1 _ _ l0_2 t456 _ ?side1 ?side2 A26.out).mono ?_
          (case side1 => repeat (first | exact (Kd.C_below HR0_2.out HB.out) | (with_reducible refine Kd.C_alloc ?_ _) | (with_reducible refine Kd.C_drewN ?_ _) | (with_reducible refine Kd.C_drew ?_)))
          (case side2 => exact HC0_2.out)
          rintro e w31 ⟨rfl, hb⟩
          refine ⟨_, rfl, ?_⟩
          have n0_ := Aside0.mk (Kd.R_below (by (with_reducible repeat (first | apply Kd.R_alloc | apply Kd.R_drewN | apply Kd.R_drew)); exact HO449.out) hb)
          have n1_ := Aside0.mk (blk_below (g := gb442) (o := .cells #[.int .i64 a0_0, .int .i64 a0_1, .slice A0_2 l0_2.length c0_2] 27 (0, 0)) (by (with_reducible repeat (first | refine blk_drewN ?_ _ | refine blk_drew ?_ | refine blk_alloc ?_ _)); exact BK442.out) hb)
          have n2_ := Aside0.mk (blk_below (g := gb450) (o := .cells #[.int .i64 t445, .int .i64 t446, .slice Ao21 t447.length co21] 33 (0, 0)) (by (with_reducible repeat (first | refine blk_drewN ?_ _ | refine blk_drew ?_ | refine blk_alloc ?_ _)); exact BK450.out) hb)
          have n3_ := Aside0.mk (below_step (by repeat (first | (with_reducible first | exact HB.out | apply below_alloc | apply pw_below_drewN | apply below_drew1 | refine below_set ?_ GE442.out | refine below_set ?_ GE450.out) | exact HB.out)) hb)
          clear HO449
          clear BK442
          clear BK450
          clear HB
          have HO449 := n0_
          have BK442 := n1_
          have BK450 := n2_
          have HB := n3_
          clear n0_ n1_ n2_ n3_
          (try clear hb)
          (try clear hb2)
          (try clear hk)
          (try clear hi)
          refine hK.out _ _ ⟨(blk_cell BK450.out 0).trans rfl, (blk_cell BK450.out 1).trans rfl, (blk_cell BK450.out 2).trans rfl, (blk_cell BK442.out 0).trans rfl, (blk_cell BK442.out 1).trans rfl, (blk_cell BK442.out 2).trans rfl⟩ (fun hHeld => ?_)
          clear hK K
          refine norm_ (a' := ?_) ?_ ?_
          rotate_left
          · show Act.put _ (some 30) _ = _
            simp only [Act.put, List.setIfInBounds_toArray, List.set_cons_zero, List.set_cons_succ, i64_w, i32_w]
            rfl
          refine pure_ (i := 4) (N := some 31) (v := ?_) (a' := ?_) #[true, true, true, true, true, false, false, false, false, false, false, false, false, false, false] rfl rfl (any_of HT_.out (by kernel_rfl)) (fun _ _ _ h => h) (Or.inl ⟨by rfl, ?_⟩) ?_ ?_
          rotate_left
          · intro w'
            go_simp
            with_reducible rfl
          rotate_left
          · simp only [Act.put, List.setIfInBounds_toArray, List.set_cons_zero, List.set_cons_succ, i64_w, i32_w]
            rfl
          refine pure_ (i := 5) (N := some 32) (v := ?_) (a' := ?_) #[true, true, true, true, true, true, false, false, false, false, false, false, false, false, false] rfl rfl (any_of HT_.out (by kernel_rfl)) (fun _ _ _ h => h) (Or.inl ⟨by rfl, ?_⟩) ?_ ?_
          rotate_left
          · intro w'
            go_simp
            with_reducible rfl
          rotate_left
          · simp only [Act.put, List.setIfInBounds_toArray, List.set_cons_zero, List.set_cons_succ, i64_w, i32_w]
            rfl
          refine pure_ (i := 6) (N := some 33) (v := ?_) (a' := ?_) #[true, true, true, true, true, true, true, false, false, false, false, false, false, false, false] rfl rfl (any_of HT_.out (by kernel_rfl)) (fun _ _ _ h => h) (Or.inl ⟨by rfl, ?_⟩) ?_ ?_
          rotate_left
          · intro w'
            go_simp
            with_reducible rfl
          rotate_left
          · simp only [Act.put, List.setIfInBounds_toArray, List.set_cons_zero, List.set_cons_succ, i64_w, i32_w]
            rfl
          refine pure_ (i := 7) (N := some 34) (v := ?_) (a' := ?_) #[true, true, true, true, true, true, true, true, false, false, false, false, false, false, false] rfl rfl (any_of HT_.out (by kernel_rfl)) (fun _ _ _ h => h) (Or.inl ⟨by rfl, ?_⟩) ?_ ?_
          rotate_left
          · intro w'
            go_simp
            with_reducible rfl
          rotate_left
          · simp only [Act.put, List.setIfInBounds_toArray, List.set_cons_zero, List.set_cons_succ, i64_w, i32_w]
            rfl
          refine pure_ (i := 8) (N := some 35) (v := ?_) (a' := ?_) #[true, true, true, true, true, true, true, true, true, false, false, false, false, false, false] rfl rfl (any_of HT_.out (by kernel_rfl)) (fun _ _ _ h => h) (Or.inl ⟨by rfl, ?_⟩) ?_ ?_
          rotate_left
          · intro w'
            go_simp
            with_reducible rfl
          rotate_left
          · simp only [Act.put, List.setIfInBounds_toArray, List.set_cons_zero, List.set_cons_succ, i64_w, i32_w]
            rfl
          refine pure_ (i := 9) (N := some 36) (v := ?_) (a' := ?_) #[true, true, true, true, true, true, true, true, true, true, false, false, false, false, false] rfl rfl (any_of HT_.out (by kernel_rfl)) (fun _ _ _ h => h) (Or.inl ⟨by rfl, ?_⟩) ?_ ?_
          rotate_left
          · intro w'
            go_simp
            with_reducible rfl
          rotate_left
          · simp only [Act.put, List.setIfInBounds_toArray, List.set_cons_zero, List.set_cons_succ, i64_w, i32_w]
            rfl
          refine pure_ (i := 10) (N := some 37) (v := ?_) (a' := ?_) #[true, true, true, true, true, true, true, true, true, true, true, false, false, false, false] rfl rfl (any_of HT_.out (by kernel_rfl)) (fun _ _ _ h => h) (Or.inl ⟨by rfl, ?_⟩) ?_ ?_
          rotate_left
          · intro w'
            go_simp
            with_reducible rfl
          rotate_left
          · simp only [Act.put, List.setIfInBounds_toArray, List.set_cons_zero, List.set_cons_succ, i64_w, i32_w]
            rfl
          refine pure_ (i := 11) (N := some 38) (v := ?_) (a' := ?_) #[true, true, true, true, true, true, true, true, true, true, true, true, false, false, false] rfl rfl (any_of HT_.out (by kernel_rfl)) (fun _ _ _ h => h) (Or.inl ⟨by rfl, ?_⟩) ?_ ?_
          rotate_left
          · intro w'
            go_simp
            with_reducible rfl
          rotate_left
          · simp only [Act.put, List.setIfInBounds_toArray, List.set_cons_zero, List.set_cons_succ, i64_w, i32_w]
            rfl
          refine pure_ (i := 12) (N := some 39) (v := ?_) (a' := ?_) #[true, true, true, true, true, true, true, true, true, true, true, true, true, false, false] rfl rfl (any_of HT_.out (by kernel_rfl)) (fun _ _ _ h => h) (Or.inl ⟨by rfl, ?_⟩) ?_ ?_
          rotate_left
          · intro w'
            go_simp
            with_reducible rfl
          rotate_left
          · simp only [Act.put, List.setIfInBounds_toArray, List.set_cons_zero, List.set_cons_succ, i64_w, i32_w]
            rfl
          refine pure_ (i := 13) (N := some 40) (v := ?_) (a' := ?_) #[true, true, true, true, true, true, true, true, true, true, true, true, true, true, false] rfl rfl (any_of HT_.out (by kernel_rfl)) (fun _ _ _ h => h) (Or.inl ⟨by rfl, ?_⟩) ?_ ?_
          rotate_left
          · intro w'
            go_simp
            with_reducible rfl
          rotate_left
          · simp only [Act.put, List.setIfInBounds_toArray, List.set_cons_zero, List.set_cons_succ, i64_w, i32_w]
            rfl
          refine pure_ (i := 14) (N := some 41) (v := ?_) (a' := ?_) #[true, true, true, true, true, true, true, true, true, true, true, true, true, true, true] rfl rfl (any_of HT_.out (by kernel_rfl)) (fun _ _ _ h => h) (Or.inl ⟨by rfl, ?_⟩) ?_ ?_
          rotate_left
          · intro w'
            go_simp
            with_reducible rfl
          rotate_left
          · simp only [Act.put, List.setIfInBounds_toArray, List.set_cons_zero, List.set_cons_succ, i64_w, i32_w]
            rfl
          refine done_ (done_of HT_.out (by kernel_rfl)) ?_
          try go_wp2
          go_meet
          case rel => exact ⟨_, ((t452 != t454)), (by first | rfl | (simp; done) | (simp [*]; done)), H', ⟨by first | omega | exact Nat.le_refl _⟩, ⟨by (with_reducible repeat (first | apply Kd.R_alloc | apply Kd.R_drewN | apply Kd.R_drew)); exact HO449.out⟩, ⟨by (with_reducible repeat (first | refine blk_drewN ?_ _ | refine blk_drew ?_ | refine blk_alloc ?_ _)); exact BK442.out⟩, ⟨by (with_reducible repeat (first | refine blk_drewN ?_ _ | refine blk_drew ?_ | refine blk_alloc ?_ _)); exact BK450.out⟩, ⟨by repeat (first | (with_reducible first | exact HB.out | apply below_alloc | apply pw_below_drewN | apply below_drew1 | refine below_set ?_ GE442.out | refine below_set ?_ GE450.out) | exact HB.out)⟩⟩
        · rw [if_neg c28] at H
          have c28b0 : (t451 == t453) = false := beq_eq_false_iff_ne.mpr c28
          have c28b1 : (t451 != t453) = true := bne_iff_ne.mpr c28
          have H' := Aside0.mk H
          clear H
          try go_wp2
          have n0_ := Aside0.mk (Kd.R_drew HO449.out)
          have n1_ := Aside0.mk (blk_drew BK442.out)
          have n2_ := Aside0.mk (blk_drew BK450.out)
          have n3_ := Aside0.mk (below_drew1 HB.out)
          clear HO449
          clear BK442
          clear BK450
          clear HB
          have HO449 := n0_
          have BK442 := n1_
          have BK450 := n2_
          have HB := n3_
          clear n0_ n1_ n2_ n3_
          refine start_ (n := 15) (S := fun w' => w'.cell? ⟨gb450, 0, none⟩ = some (.int .i64 t445) ∧ w'.cell? ⟨gb450, 1, none⟩ = some (.int .i64 t446) ∧ w'.cell? ⟨gb450, 2, none⟩ = some (.slice Ao21 t447.length co21) ∧ w'.cell? ⟨gb442, 0, none⟩ = some (.int .i64 a0_0) ∧ w'.cell? ⟨gb442, 1, none⟩ = some (.int .i64 a0_1) ∧ w'.cell? ⟨gb442, 2, none⟩ = some (.slice A0_2 l0_2.length c0_2)) (ds := []) #[false, false, false, false, false, false, false, false, false, false, false, false, false, false, false] (by kernel_rfl) rfl rfl ⟨(blk_cell BK450.out 0).trans rfl, (blk_cell BK450.out 1).trans rfl, (blk_cell BK450.out 2).trans rfl, (blk_cell BK442.out 0).trans rfl, (blk_cell BK442.out 1).trans rfl, (blk_cell BK442.out 2).trans rfl⟩ (fun hHeld => ?_); refine with_tabW toruslaw30_MatchMatches.tab6 toruslaw30_MatchMatches.bits6 (fun HT_ HW_ => ?_)
          generalize w24.drew = w32 at HO449 BK442 BK450 HB hHeld ⊢
          refine take_ (i := 0) (N := some 27) (v := ?_) (a' := ?_) #[true, false, false, false, false, false, false, false, false, false, false, false, false, false, false] rfl rfl (take_ofW HT_.out HW_.out (by kernel_rfl)) (fun _ _ _ h => h) (Or.inl ⟨by rfl, ?_⟩) hHeld ?_ ?_
          rotate_left
          · rintro w' ⟨s0, s1, s2, s3, s4, s5⟩
            go_simp
            with_reducible rfl
          rotate_left
          · simp only [Act.put, List.setIfInBounds_toArray, List.set_cons_zero, List.set_cons_succ, i64_w, i32_w]
            rfl
          refine take_ (i := 2) (N := some 29) (v := ?_) (a' := ?_) #[true, false, true, false, false, false, false, false, false, false, false, false, false, false, false] rfl rfl (take_ofW HT_.out HW_.out (by kernel_rfl)) (fun _ _ _ h => h) (Or.inl ⟨by rfl, ?_⟩) hHeld ?_ ?_
          rotate_left
          · rintro w' ⟨s0, s1, s2, s3, s4, s5⟩
            go_simp
            with_reducible rfl
          rotate_left
          · simp only [Act.put, List.setIfInBounds_toArray, List.set_cons_zero, List.set_cons_succ, i64_w, i32_w]
            rfl
          refine one_ (i := 1) (N := some 28) #[true, true, true, false, false, false, false, false, false, false, false, false, false, false, false] rfl rfl (one_of HT_.out (by kernel_rfl)) (by decide) (fun K hK => ?_)
          refine goes_ Try.func23 (by kernel_rfl) rfl #[.agg #[.int .i64 t445, .int .i64 t446, .slice Ao21 t447.length co21]] (by rfl) rfl rfl (by (try simp only [List.map_toArray, List.map_cons, List.map_nil]); first | done | rfl | (simp only [List.length_drop, List.length_take]; rfl)) ?_
          with_reducible refine (match_Check.calls t445 t446 _ _ t447 t455 _ ?side1 ?side2 A25.out).mono ?_
          (case side1 => repeat (first | exact (Kd.R_reads' HO449.out).2.2 | (with_reducible refine Kd.C_alloc ?_ _) | (with_reducible refine Kd.C_drewN ?_ _) | (with_reducible refine Kd.C_drew ?_)))
          (case side2 => exact (Kd.R_reads' HO449.out).2.1)
          rintro e w33 ⟨rfl, hb⟩
          refine ⟨_, rfl, ?_⟩
          have n0_ := Aside0.mk (Kd.R_below (by (with_reducible repeat (first | apply Kd.R_alloc | apply Kd.R_drewN | apply Kd.R_drew)); exact HO449.out) hb)
          have n1_ := Aside0.mk (blk_below (g := gb442) (o := .cells #[.int .i64 a0_0, .int .i64 a0_1, .slice A0_2 l0_2.length c0_2] 27 (0, 0)) (by (with_reducible repeat (first | refine blk_drewN ?_ _ | refine blk_drew ?_ | refine blk_alloc ?_ _)); exact BK442.out) hb)
          have n2_ := Aside0.mk (blk_below (g := gb450) (o := .cells #[.int .i64 t445, .int .i64 t446, .slice Ao21 t447.length co21] 33 (0, 0)) (by (with_reducible repeat (first | refine blk_drewN ?_ _ | refine blk_drew ?_ | refine blk_alloc ?_ _)); exact BK450.out) hb)
          have n3_ := Aside0.mk (below_step (by repeat (first | (with_reducible first | exact HB.out | apply below_alloc | apply pw_below_drewN | apply below_drew1 | refine below_set ?_ GE442.out | refine below_set ?_ GE450.out) | exact HB.out)) hb)
          clear HO449
          clear BK442
          clear BK450
          clear HB
          have HO449 := n0_
          have BK442 := n1_
          have BK450 := n2_
          have HB := n3_
          clear n0_ n1_ n2_ n3_
          (try clear hb)
          (try clear hb2)
          (try clear hk)
          (try clear hi)
          refine hK.out _ _ ⟨(blk_cell BK450.out 0).trans rfl, (blk_cell BK450.out 1).trans rfl, (blk_cell BK450.out 2).trans rfl, (blk_cell BK442.out 0).trans rfl, (blk_cell BK442.out 1).trans rfl, (blk_cell BK442.out 2).trans rfl⟩ (fun hHeld => ?_)
          clear hK K
          refine norm_ (a' := ?_) ?_ ?_
          rotate_left
          · show Act.put _ (some 28) _ = _
            simp only [Act.put, List.setIfInBounds_toArray, List.set_cons_zero, List.set_cons_succ, i64_w, i32_w]
            rfl
          refine one_ (i := 3) (N := some 30) #[true, true, true, true, false, false, false, false, false, false, false, false, false, false, false] rfl rfl (one_of HT_.out (by kernel_rfl)) (by decide) (fun K hK => ?_)
          refine goes_ Try.func24 (by kernel_rfl) rfl #[.agg #[.int .i64 a0_0, .int .i64 a0_1, .slice A0_2 l0_2.length c0_2]] (by rfl) rfl rfl (by (try simp only [List.map_toArray, List.map_cons, List.map_nil]); first | done | rfl | (simp only [List.length_drop, List.length_take]; rfl)) ?_
          with_reducible refine (torusref30_Check.calls k a0_0 a0_1 _ _ l0_2 t456 _ ?side1 ?side2 A26.out).mono ?_
          (case side1 => repeat (first | exact (Kd.C_below HR0_2.out HB.out) | (with_reducible refine Kd.C_alloc ?_ _) | (with_reducible refine Kd.C_drewN ?_ _) | (with_reducible refine Kd.C_drew ?_)))
          (case side2 => exact HC0_2.out)
          rintro e w34 ⟨rfl, hb⟩
          refine ⟨_, rfl, ?_⟩
          have n0_ := Aside0.mk (Kd.R_below (by (with_reducible repeat (first | apply Kd.R_alloc | apply Kd.R_drewN | apply Kd.R_drew)); exact HO449.out) hb)
          have n1_ := Aside0.mk (blk_below (g := gb442) (o := .cells #[.int .i64 a0_0, .int .i64 a0_1, .slice A0_2 l0_2.length c0_2] 27 (0, 0)) (by (with_reducible repeat (first | refine blk_drewN ?_ _ | refine blk_drew ?_ | refine blk_alloc ?_ _)); exact BK442.out) hb)
          have n2_ := Aside0.mk (blk_below (g := gb450) (o := .cells #[.int .i64 t445, .int .i64 t446, .slice Ao21 t447.length co21] 33 (0, 0)) (by (with_reducible repeat (first | refine blk_drewN ?_ _ | refine blk_drew ?_ | refine blk_alloc ?_ _)); exact BK450.out) hb)
          have n3_ := Aside0.mk (below_step (by repeat (first | (with_reducible first | exact HB.out | apply below_alloc | apply pw_below_drewN | apply below_drew1 | refine below_set ?_ GE442.out | refine below_set ?_ GE450.out) | exact HB.out)) hb)
          clear HO449
          clear BK442
          clear BK450
          clear HB
          have HO449 := n0_
          have BK442 := n1_
          have BK450 := n2_
          have HB := n3_
          clear n0_ n1_ n2_ n3_
          (try clear hb)
          (try clear hb2)
          (try clear hk)
          (try clear hi)
          refine hK.out _ _ ⟨(blk_cell BK450.out 0).trans rfl, (blk_cell BK450.out 1).trans rfl, (blk_cell BK450.out 2).trans rfl, (blk_cell BK442.out 0).trans rfl, (blk_cell BK442.out 1).trans rfl, (blk_cell BK442.out 2).trans rfl⟩ (fun hHeld => ?_)
          clear hK K
          refine norm_ (a' := ?_) ?_ ?_
          rotate_left
          · show Act.put _ (some 30) _ = _
            simp only [Act.put, List.setIfInBounds_toArray, List.set_cons_zero, List.set_cons_succ, i64_w, i32_w]
            rfl
          refine pure_ (i := 4) (N := some 31) (v := ?_) (a' := ?_) #[true, true, true, true, true, false, false, false, false, false, false, false, false, false, false] rfl rfl (any_of HT_.out (by kernel_rfl)) (fun _ _ _ h => h) (Or.inl ⟨by rfl, ?_⟩) ?_ ?_
          rotate_left
          · intro w'
            go_simp
            with_reducible rfl
          rotate_left
          · simp only [Act.put, List.setIfInBounds_toArray, List.set_cons_zero, List.set_cons_succ, i64_w, i32_w]
            rfl
          refine pure_ (i := 5) (N := some 32) (v := ?_) (a' := ?_) #[true, true, true, true, true, true, false, false, false, false, false, false, false, false, false] rfl rfl (any_of HT_.out (by kernel_rfl)) (fun _ _ _ h => h) (Or.inl ⟨by rfl, ?_⟩) ?_ ?_
          rotate_left
          · intro w'
            go_simp
            with_reducible rfl
          rotate_left
          · simp only [Act.put, List.setIfInBounds_toArray, List.set_cons_zero, List.set_cons_succ, i64_w, i32_w]
            rfl
          refine pure_ (i := 6) (N := some 33) (v := ?_) (a' := ?_) #[true, true, true, true, true, true, true, false, false, false, false, false, false, false, false] rfl rfl (any_of HT_.out (by kernel_rfl)) (fun _ _ _ h => h) (Or.inl ⟨by rfl, ?_⟩) ?_ ?_
          rotate_left
          · intro w'
            go_simp
            with_reducible rfl
          rotate_left
          · simp only [Act.put, List.setIfInBounds_toArray, List.set_cons_zero, List.set_cons_succ, i64_w, i32_w]
            rfl
          refine pure_ (i := 7) (N := some 34) (v := ?_) (a' := ?_) #[true, true, true, true, true, true, true, true, false, false, false, false, false, false, false] rfl rfl (any_of HT_.out (by kernel_rfl)) (fun _ _ _ h => h) (Or.inl ⟨by rfl, ?_⟩) ?_ ?_
          rotate_left
          · intro w'
            go_simp
            with_reducible rfl
          rotate_left
          · simp only [Act.put, List.setIfInBounds_toArray, List.set_cons_zero, List.set_cons_succ, i64_w, i32_w]
            rfl
          refine pure_ (i := 8) (N := some 35) (v := ?_) (a' := ?_) #[true, true, true, true, true, true, true, true, true, false, false, false, false, false, false] rfl rfl (any_of HT_.out (by kernel_rfl)) (fun _ _ _ h => h) (Or.inl ⟨by rfl, ?_⟩) ?_ ?_
          rotate_left
          · intro w'
            go_simp
            with_reducible rfl
          rotate_left
          · simp only [Act.put, List.setIfInBounds_toArray, List.set_cons_zero, List.set_cons_succ, i64_w, i32_w]
            rfl
          refine pure_ (i := 9) (N := some 36) (v := ?_) (a' := ?_) #[true, true, true, true, true, true, true, true, true, true, false, false, false, false, false] rfl rfl (any_of HT_.out (by kernel_rfl)) (fun _ _ _ h => h) (Or.inl ⟨by rfl, ?_⟩) ?_ ?_
          rotate_left
          · intro w'
            go_simp
            with_reducible rfl
          rotate_left
          · simp only [Act.put, List.setIfInBounds_toArray, List.set_cons_zero, List.set_cons_succ, i64_w, i32_w]
            rfl
          refine pure_ (i := 10) (N := some 37) (v := ?_) (a' := ?_) #[true, true, true, true, true, true, true, true, true, true, true, false, false, false, false] rfl rfl (any_of HT_.out (by kernel_rfl)) (fun _ _ _ h => h) (Or.inl ⟨by rfl, ?_⟩) ?_ ?_
          rotate_left
          · intro w'
            go_simp
            with_reducible rfl
          rotate_left
          · simp only [Act.put, List.setIfInBounds_toArray, List.set_cons_zero, List.set_cons_succ, i64_w, i32_w]
            rfl
          refine pure_ (i := 11) (N := some 38) (v := undef) (a' := ?_) #[true, true, true, true, true, true, true, true, true, true, true, true, false, false, false] rfl rfl (any_of HT_.out (by kernel_rfl)) (fun _ _ _ h => h) (Or.inr ⟨by rfl, rfl⟩) ?_ ?_
          rotate_left
          · simp only [Act.put, List.setIfInBounds_toArray, List.set_cons_zero, List.set_cons_succ, i64_w, i32_w]
            rfl
          refine pure_ (i := 12) (N := some 39) (v := undef) (a' := ?_) #[true, true, true, true, true, true, true, true, true, true, true, true, true, false, false] rfl rfl (any_of HT_.out (by kernel_rfl)) (fun _ _ _ h => h) (Or.inr ⟨by rfl, rfl⟩) ?_ ?_
          rotate_left
          · simp only [Act.put, List.setIfInBounds_toArray, List.set_cons_zero, List.set_cons_succ, i64_w, i32_w]
            rfl
          refine pure_ (i := 13) (N := some 40) (v := undef) (a' := ?_) #[true, true, true, true, true, true, true, true, true, true, true, true, true, true, false] rfl rfl (any_of HT_.out (by kernel_rfl)) (fun _ _ _ h => h) (Or.inr ⟨by rfl, rfl⟩) ?_ ?_
          rotate_left
          · simp only [Act.put, List.setIfInBounds_toArray, List.set_cons_zero, List.set_cons_succ, i64_w, i32_w]
            rfl
          refine pure_ (i := 14) (N := some 41) (v := ?_) (a' := ?_) #[true, true, true, true, true, true, true, true, true, true, true, true, true, true, true] rfl rfl (any_of HT_.out (by kernel_rfl)) (fun _ _ _ h => h) (Or.inl ⟨by rfl, ?_⟩) ?_ ?_
          rotate_left
          · intro w'
            go_simp
            with_reducible rfl
          rotate_left
          · simp only [Act.put, List.setIfInBounds_toArray, List.set_cons_zero, List.set_cons_succ, i64_w, i32_w]
            rfl
          refine done_ (done_of HT_.out (by kernel_rfl)) ?_
          try go_wp2
          go_meet
          case rel => exact ⟨_, (true), (by first | rfl | (simp; done) | (simp [*]; done)), H', ⟨by first | omega | exact Nat.le_refl _⟩, ⟨by (with_reducible repeat (first | apply Kd.R_alloc | apply Kd.R_drewN | apply Kd.R_drew)); exact HO449.out⟩, ⟨by (with_reducible repeat (first | refine blk_drewN ?_ _ | refine blk_drew ?_ | refine blk_alloc ?_ _)); exact BK442.out⟩, ⟨by (with_reducible repeat (first | refine blk_drewN ?_ _ | refine blk_drew ?_ | refine blk_alloc ?_ _)); exact BK450.out⟩, ⟨by repeat (first | (with_reducible first | exact HB.out | apply below_alloc | apply pw_below_drewN | apply below_drew1 | refine below_set ?_ GE442.out | refine below_set ?_ GE450.out) | exact HB.out)⟩⟩
      · rw [if_neg c27] at H
        have c27b0 : (t455 == t456) = false := beq_eq_false_iff_ne.mpr c27
        have c27b1 : (t455 != t456) = true := bne_iff_ne.mpr c27
        (first | rw [c27b0] | (simp only [i64_w, i32_w]; rw [c27b0]) | skip)
        have H' := Aside0.mk H
        clear H
        try go_wp2
        have n0_ := Aside0.mk (Kd.R_drew HO449.out)
        have n1_ := Aside0.mk (blk_drew BK442.out)
        have n2_ := Aside0.mk (blk_drew BK450.out)
        have n3_ := Aside0.mk (below_drew1 HB.out)
        clear HO449
        clear BK442
        clear BK450
        clear HB
        have HO449 := n0_
        have BK442 := n1_
        have BK450 := n2_
        have HB := n3_
        clear n0_ n1_ n2_ n3_
        refine start_ (n := 15) (S := fun w' => w'.cell? ⟨gb450, 0, none⟩ = some (.int .i64 t445) ∧ w'.cell? ⟨gb450, 1, none⟩ = some (.int .i64 t446) ∧ w'.cell? ⟨gb450, 2, none⟩ = some (.slice Ao21 t447.length co21) ∧ w'.cell? ⟨gb442, 0, none⟩ = some (.int .i64 a0_0) ∧ w'.cell? ⟨gb442, 1, none⟩ = some (.int .i64 a0_1) ∧ w'.cell? ⟨gb442, 2, none⟩ = some (.slice A0_2 l0_2.length c0_2)) (ds := []) #[false, false, false, false, false, false, false, false, false, false, false, false, false, false, false] (by kernel_rfl) rfl rfl ⟨(blk_cell BK450.out 0).trans rfl, (blk_cell BK450.out 1).trans rfl, (blk_cell BK450.out 2).trans rfl, (blk_cell BK442.out 0).trans rfl, (blk_cell BK442.out 1).trans rfl, (blk_cell BK442.out 2).trans rfl⟩ (fun hHeld => ?_); refine with_tabW toruslaw30_MatchMatches.tab6 toruslaw30_MatchMatches.bits6 (fun HT_ HW_ => ?_)
        generalize w24.drew = w35 at HO449 BK442 BK450 HB hHeld ⊢
        refine take_ (i := 0) (N := some 27) (v := ?_) (a' := ?_) #[true, false, false, false, false, false, false, false, false, false, false, false, false, false, false] rfl rfl (take_ofW HT_.out HW_.out (by kernel_rfl)) (fun _ _ _ h => h) (Or.inl ⟨by rfl, ?_⟩) hHeld ?_ ?_
        rotate_left
        · rintro w' ⟨s0, s1, s2, s3, s4, s5⟩
          go_simp
          with_reducible rfl
        rotate_left
        · simp only [Act.put, List.setIfInBounds_toArray, List.set_cons_zero, List.set_cons_succ, i64_w, i32_w]
          rfl
        refine take_ (i := 2) (N := some 29) (v := ?_) (a' := ?_) #[true, false, true, false, false, false, false, false, false, false, false, false, false, false, false] rfl rfl (take_ofW HT_.out HW_.out (by kernel_rfl)) (fun _ _ _ h => h) (Or.inl ⟨by rfl, ?_⟩) hHeld ?_ ?_
        rotate_left
        · rintro w' ⟨s0, s1, s2, s3, s4, s5⟩
          go_simp
          with_reducible rfl
        rotate_left
        · simp only [Act.put, List.setIfInBounds_toArray, List.set_cons_zero, List.set_cons_succ, i64_w, i32_w]
          rfl
        refine one_ (i := 1) (N := some 28) #[true, true, true, false, false, false, false, false, false, false, false, false, false, false, false] rfl rfl (one_of HT_.out (by kernel_rfl)) (by decide) (fun K hK => ?_)
        refine goes_ Try.func23 (by kernel_rfl) rfl #[.agg #[.int .i64 t445, .int .i64 t446, .slice Ao21 t447.length co21]] (by rfl) rfl rfl (by (try simp only [List.map_toArray, List.map_cons, List.map_nil]); first | done | rfl | (simp only [List.length_drop, List.length_take]; rfl)) ?_
        with_reducible refine (match_Check.calls t445 t446 _ _ t447 t455 _ ?side1 ?side2 A25.out).mono ?_
        (case side1 => repeat (first | exact (Kd.R_reads' HO449.out).2.2 | (with_reducible refine Kd.C_alloc ?_ _) | (with_reducible refine Kd.C_drewN ?_ _) | (with_reducible refine Kd.C_drew ?_)))
        (case side2 => exact (Kd.R_reads' HO449.out).2.1)
        rintro e w36 ⟨rfl, hb⟩
        refine ⟨_, rfl, ?_⟩
        have n0_ := Aside0.mk (Kd.R_below (by (with_reducible repeat (first | apply Kd.R_alloc | apply Kd.R_drewN | apply Kd.R_drew)); exact HO449.out) hb)
        have n1_ := Aside0.mk (blk_below (g := gb442) (o := .cells #[.int .i64 a0_0, .int .i64 a0_1, .slice A0_2 l0_2.length c0_2] 27 (0, 0)) (by (with_reducible repeat (first | refine blk_drewN ?_ _ | refine blk_drew ?_ | refine blk_alloc ?_ _)); exact BK442.out) hb)
        have n2_ := Aside0.mk (blk_below (g := gb450) (o := .cells #[.int .i64 t445, .int .i64 t446, .slice Ao21 t447.length co21] 33 (0, 0)) (by (with_reducible repeat (first | refine blk_drewN ?_ _ | refine blk_drew ?_ | refine blk_alloc ?_ _)); exact BK450.out) hb)
        have n3_ := Aside0.mk (below_step (by repeat (first | (with_reducible first | exact HB.out | apply below_alloc | apply pw_below_drewN | apply below_drew1 | refine below_set ?_ GE442.out | refine below_set ?_ GE450.out) | exact HB.out)) hb)
        clear HO449
        clear BK442
        clear BK450
        clear HB
        have HO449 := n0_
        have BK442 := n1_
        have BK450 := n2_
        have HB := n3_
        clear n0_ n1_ n2_ n3_
        (try clear hb)
        (try clear hb2)
        (try clear hk)
        (try clear hi)
        refine hK.out _ _ ⟨(blk_cell BK450.out 0).trans rfl, (blk_cell BK450.out 1).trans rfl, (blk_cell BK450.out 2).trans rfl, (blk_cell BK442.out 0).trans rfl, (blk_cell BK442.out 1).trans rfl, (blk_cell BK442.out 2).trans rfl⟩ (fun hHeld => ?_)
        clear hK K
        refine norm_ (a' := ?_) ?_ ?_
        rotate_left
        · show Act.put _ (some 28) _ = _
          simp only [Act.put, List.setIfInBounds_toArray, List.set_cons_zero, List.set_cons_succ, i64_w, i32_w]
          rfl
        refine one_ (i := 3) (N := some 30) #[true, true, true, true, false, false, false, false, false, false, false, false, false, false, false] rfl rfl (one_of HT_.out (by kernel_rfl)) (by decide) (fun K hK => ?_)
        refine goes_ Try.func24 (by kernel_rfl) rfl #[.agg #[.int .i64 a0_0, .int .i64 a0_1, .slice A0_2 l0_2.length c0_2]] (by rfl) rfl rfl (by (try simp only [List.map_toArray, List.map_cons, List.map_nil]); first | done | rfl | (simp only [List.length_drop, List.length_take]; rfl)) ?_
        with_reducible refine (torusref30_Check.calls k a0_0 a0_1 _ _ l0_2 t456 _ ?side1 ?side2 A26.out).mono ?_
        (case side1 => repeat (first | exact (Kd.C_below HR0_2.out HB.out) | (with_reducible refine Kd.C_alloc ?_ _) | (with_reducible refine Kd.C_drewN ?_ _) | (with_reducible refine Kd.C_drew ?_)))
        (case side2 => exact HC0_2.out)
        rintro e w37 ⟨rfl, hb⟩
        refine ⟨_, rfl, ?_⟩
        have n0_ := Aside0.mk (Kd.R_below (by (with_reducible repeat (first | apply Kd.R_alloc | apply Kd.R_drewN | apply Kd.R_drew)); exact HO449.out) hb)
        have n1_ := Aside0.mk (blk_below (g := gb442) (o := .cells #[.int .i64 a0_0, .int .i64 a0_1, .slice A0_2 l0_2.length c0_2] 27 (0, 0)) (by (with_reducible repeat (first | refine blk_drewN ?_ _ | refine blk_drew ?_ | refine blk_alloc ?_ _)); exact BK442.out) hb)
        have n2_ := Aside0.mk (blk_below (g := gb450) (o := .cells #[.int .i64 t445, .int .i64 t446, .slice Ao21 t447.length co21] 33 (0, 0)) (by (with_reducible repeat (first | refine blk_drewN ?_ _ | refine blk_drew ?_ | refine blk_alloc ?_ _)); exact BK450.out) hb)
        have n3_ := Aside0.mk (below_step (by repeat (first | (with_reducible first | exact HB.out | apply below_alloc | apply pw_below_drewN | apply below_drew1 | refine below_set ?_ GE442.out | refine below_set ?_ GE450.out) | exact HB.out)) hb)
        clear HO449
        clear BK442
        clear BK450
        clear HB
        have HO449 := n0_
        have BK442 := n1_
        have BK450 := n2_
        have HB := n3_
        clear n0_ n1_ n2_ n3_
        (try clear hb)
        (try clear hb2)
        (try clear hk)
        (try clear hi)
        refine hK.out _ _ ⟨(blk_cell BK450.out 0).trans rfl, (blk_cell BK450.out 1).trans rfl, (blk_cell BK450.out 2).trans rfl, (blk_cell BK442.out 0).trans rfl, (blk_cell BK442.out 1).trans rfl, (blk_cell BK442.out 2).trans rfl⟩ (fun hHeld => ?_)
        clear hK K
        refine norm_ (a' := ?_) ?_ ?_
        rotate_left
        · show Act.put _ (some 30) _ = _
          simp only [Act.put, List.setIfInBounds_toArray, List.set_cons_zero, List.set_cons_succ, i64_w, i32_w]
          rfl
        refine pure_ (i := 4) (N := some 31) (v := ?_) (a' := ?_) #[true, true, true, true, true, false, false, false, false, false, false, false, false, false, false] rfl rfl (any_of HT_.out (by kernel_rfl)) (fun _ _ _ h => h) (Or.inl ⟨by rfl, ?_⟩) ?_ ?_
        rotate_left
        · intro w'
          go_simp
          with_reducible rfl
        rotate_left
        · simp only [Act.put, List.setIfInBounds_toArray, List.set_cons_zero, List.set_cons_succ, i64_w, i32_w]
          rfl
        refine pure_ (i := 5) (N := some 32) (v := ?_) (a' := ?_) #[true, true, true, true, true, true, false, false, false, false, false, false, false, false, false] rfl rfl (any_of HT_.out (by kernel_rfl)) (fun _ _ _ h => h) (Or.inl ⟨by rfl, ?_⟩) ?_ ?_
        rotate_left
        · intro w'
          go_simp
          with_reducible rfl
        rotate_left
        · simp only [Act.put, List.setIfInBounds_toArray, List.set_cons_zero, List.set_cons_succ, i64_w, i32_w]
          rfl
        refine pure_ (i := 6) (N := some 33) (v := undef) (a' := ?_) #[true, true, true, true, true, true, true, false, false, false, false, false, false, false, false] rfl rfl (any_of HT_.out (by kernel_rfl)) (fun _ _ _ h => h) (Or.inr ⟨by rfl, rfl⟩) ?_ ?_
        rotate_left
        · simp only [Act.put, List.setIfInBounds_toArray, List.set_cons_zero, List.set_cons_succ, i64_w, i32_w]
          rfl
        refine pure_ (i := 7) (N := some 34) (v := undef) (a' := ?_) #[true, true, true, true, true, true, true, true, false, false, false, false, false, false, false] rfl rfl (any_of HT_.out (by kernel_rfl)) (fun _ _ _ h => h) (Or.inr ⟨by rfl, rfl⟩) ?_ ?_
        rotate_left
        · simp only [Act.put, List.setIfInBounds_toArray, List.set_cons_zero, List.set_cons_succ, i64_w, i32_w]
          rfl
        refine pure_ (i := 8) (N := some 35) (v := undef) (a' := ?_) #[true, true, true, true, true, true, true, true, true, false, false, false, false, false, false] rfl rfl (any_of HT_.out (by kernel_rfl)) (fun _ _ _ h => h) (Or.inr ⟨by rfl, rfl⟩) ?_ ?_
        rotate_left
        · simp only [Act.put, List.setIfInBounds_toArray, List.set_cons_zero, List.set_cons_succ, i64_w, i32_w]
          rfl
        refine pure_ (i := 9) (N := some 36) (v := ?_) (a' := ?_) #[true, true, true, true, true, true, true, true, true, true, false, false, false, false, false] rfl rfl (any_of HT_.out (by kernel_rfl)) (fun _ _ _ h => h) (Or.inl ⟨by rfl, ?_⟩) ?_ ?_
        rotate_left
        · intro w'
          go_simp
          with_reducible rfl
        rotate_left
        · simp only [Act.put, List.setIfInBounds_toArray, List.set_cons_zero, List.set_cons_succ, i64_w, i32_w]
          rfl
        refine pure_ (i := 10) (N := some 37) (v := ?_) (a' := ?_) #[true, true, true, true, true, true, true, true, true, true, true, false, false, false, false] rfl rfl (any_of HT_.out (by kernel_rfl)) (fun _ _ _ h => h) (Or.inl ⟨by rfl, ?_⟩) ?_ ?_
        rotate_left
        · intro w'
          go_simp
          with_reducible rfl
        rotate_left
        · simp only [Act.put, List.setIfInBounds_toArray, List.set_cons_zero, List.set_cons_succ, i64_w, i32_w]
          rfl
        refine pure_ (i := 11) (N := some 38) (v := undef) (a' := ?_) #[true, true, true, true, true, true, true, true, true, true, true, true, false, false, false] rfl rfl (any_of HT_.out (by kernel_rfl)) (fun _ _ _ h => h) (Or.inr ⟨by rfl, rfl⟩) ?_ ?_
        rotate_left
        · simp only [Act.put, List.setIfInBounds_toArray, List.set_cons_zero, List.set_cons_succ, i64_w, i32_w]
          rfl
        refine pure_ (i := 12) (N := some 39) (v := undef) (a' := ?_) #[true, true, true, true, true, true, true, true, true, true, true, true, true, false, false] rfl rfl (any_of HT_.out (by kernel_rfl)) (fun _ _ _ h => h) (Or.inr ⟨by rfl, rfl⟩) ?_ ?_
        rotate_left
        · simp only [Act.put, List.setIfInBounds_toArray, List.set_cons_zero, List.set_cons_succ, i64_w, i32_w]
          rfl
        refine pure_ (i := 13) (N := some 40) (v := undef) (a' := ?_) #[true, true, true, true, true, true, true, true, true, true, true, true, true, true, false] rfl rfl (any_of HT_.out (by kernel_rfl)) (fun _ _ _ h => h) (Or.inr ⟨by rfl, rfl⟩) ?_ ?_
        rotate_left
        · simp only [Act.put, List.setIfInBounds_toArray, List.set_cons_zero, List.set_cons_succ, i64_w, i32_w]
          rfl
        refine pure_ (i := 14) (N := some 41) (v := ?_) (a' := ?_) #[true, true, true, true, true, true, true, true, true, true, true, true, true, true, true] rfl rfl (any_of HT_.out (by kernel_rfl)) (fun _ _ _ h => h) (Or.inl ⟨by rfl, ?_⟩) ?_ ?_
        rotate_left
        · intro w'
          go_simp
          with_reducible rfl
        rotate_left
        · simp only [Act.put, List.setIfInBounds_toArray, List.set_cons_zero, List.set_cons_succ, i64_w, i32_w]
          rfl
        refine done_ (done_of HT_.out (by kernel_rfl)) ?_
        try go_wp2
        go_meet
        case rel => exact ⟨_, (true), (by first | rfl | (simp; done) | (simp [*]; done)), H', ⟨by first | omega | exact Nat.le_refl _⟩, ⟨by (with_reducible repeat (first | apply Kd.R_alloc | apply Kd.R_drewN | apply Kd.R_drew)); exact HO449.out⟩, ⟨by (with_reducible repeat (first | refine blk_drewN ?_ _ | refine blk_drew ?_ | refine blk_alloc ?_ _)); exact BK442.out⟩, ⟨by (with_reducible repeat (first | refine blk_drewN ?_ _ | refine blk_drew ?_ | refine blk_alloc ?_ _)); exact BK450.out⟩, ⟨by repeat (first | (with_reducible first | exact HB.out | apply below_alloc | apply pw_below_drewN | apply below_drew1 | refine below_set ?_ GE442.out | refine below_set ?_ GE450.out) | exact HB.out)⟩⟩
    case rest =>
      clear HC12
      try clear c1
      try clear c2
      try clear p2
      try clear c3
      try clear c5
      try clear c14
      try clear c16
      try clear c19
      try clear c20
      try clear c21
      try clear c22
      try clear c23
      try clear c24
      try clear c27
      try clear c27b0
      try clear c27b1
      try clear c28
      try clear c28b0
      try clear c28b1
      try clear hcz14_0
      try clear hcz14_1
      try clear hcz14_2
      try clear hcz16_0
      try clear hcz16_1
      try clear hcz16_2
      try clear hcz20_0
      try clear hcz20_1
      try clear hcz20_2
      try clear hcz23_0
      try clear hcz23_1
      try clear hcz23_2
      try clear hcz6_0
      try clear hcz6_1
      try clear hcz6_2
      try clear hfz14_0
      try clear hfz14_1
      try clear hfz14_2
      try clear hfz16_0
      try clear hfz16_1
      try clear hfz16_2
      try clear hfz20_0
      try clear hfz20_1
      try clear hfz20_2
      try clear hfz23_0
      try clear hfz23_1
      try clear hfz23_2
      try clear hfz6_0
      try clear hfz6_1
      try clear hfz6_2
      obtain ⟨kq, x41_11, rfl, HA, HJ11, HO_451002, BK442, BK450, HB⟩ := hcut
      cases kq with
      | zero => exact absurd HA.out (by simp [toruslaw30_MatchMatches.j0])
      | succ kj11 =>
        have H := HA.out
        clear HA
        simp only [toruslaw30_MatchMatches.j0] at H
        by_cases c38 : x41_11 = true
        · subst c38
          have H1 : (some false) = some r := by rw [if_pos rfl] at H; exact H
          clear H
          have H := H1
          clear H1
          exact absurd (Option.some.inj H) (by rw [hrt]; exact Bool.false_ne_true)
        · replace c38 := Bool.eq_false_iff.mpr c38
          subst c38
          have H1 : ((match_Free.f kj11 t445 t446 t447).bind fun bt457 => ((torusref30_Free.f kj11 a0_0 a0_1 l0_2).bind fun bt464 => ((torusref01_Same.f kj11 bt457.1 bt464.1).bind fun t471 => (if t471 = true then ((torusref01_Same.f kj11 bt457.2.1 bt464.2.1).bind fun t472 => (if t472 = true then (toruslaw30_MatchMatches.j1 kj11 (bt457.2.2 != bt464.2.2) a0_0 a0_1 l0_2 t445 t446 t447) else (toruslaw30_MatchMatches.j1 kj11 true a0_0 a0_1 l0_2 t445 t446 t447))) else (toruslaw30_MatchMatches.j1 kj11 true a0_0 a0_1 l0_2 t445 t446 t447))))) = some r := by rw [if_neg (show ¬ (false = true) by decide)] at H; exact H
          clear H
          have H := H1
          clear H1
          replace H := Option.bind_eq_some_iff.mp H
          obtain ⟨⟨t457, t460, t463⟩, A390, H⟩ := H
          replace H : ((torusref30_Free.f kj11 a0_0 a0_1 l0_2).bind fun bt464 => ((torusref01_Same.f kj11 t457 bt464.1).bind fun t471 => (if t471 = true then ((torusref01_Same.f kj11 t460 bt464.2.1).bind fun t472 => (if t472 = true then (toruslaw30_MatchMatches.j1 kj11 (t463 != bt464.2.2) a0_0 a0_1 l0_2 t445 t446 t447) else (toruslaw30_MatchMatches.j1 kj11 true a0_0 a0_1 l0_2 t445 t446 t447))) else (toruslaw30_MatchMatches.j1 kj11 true a0_0 a0_1 l0_2 t445 t446 t447)))) = some r := H
          have A39 := Aside0.mk A390
          clear A390
          replace H := Option.bind_eq_some_iff.mp H
          obtain ⟨⟨t464, t467, t470⟩, A400, H⟩ := H
          replace H : ((torusref01_Same.f kj11 t457 t464).bind fun t471 => (if t471 = true then ((torusref01_Same.f kj11 t460 t467).bind fun t472 => (if t472 = true then (toruslaw30_MatchMatches.j1 kj11 (t463 != t470) a0_0 a0_1 l0_2 t445 t446 t447) else (toruslaw30_MatchMatches.j1 kj11 true a0_0 a0_1 l0_2 t445 t446 t447))) else (toruslaw30_MatchMatches.j1 kj11 true a0_0 a0_1 l0_2 t445 t446 t447))) = some r := H
          have A40 := Aside0.mk A400
          clear A400
          have HC41 := Aside0.mk H
          clear H
          have hnb42 := NB450_442.out
          have hnc42 := NB442_450.out
          have hcz43_0 : wc.cell? ⟨gb450, 0, none⟩ = some (.int .i64 t445) := (blk_cell BK450.out 0).trans rfl
          have hcz43_1 : wc.cell? ⟨gb450, 1, none⟩ = some (.int .i64 t446) := (blk_cell BK450.out 1).trans rfl
          have hcz43_2 : wc.cell? ⟨gb450, 2, none⟩ = some (.slice Ao21 t447.length co21) := (blk_cell BK450.out 2).trans rfl
          have hfz43_0 := blk_frozen BK450.out 0
          have hfz43_1 := blk_frozen BK450.out 1
          have hfz43_2 := blk_frozen BK450.out 2
          go_upto_region 10 with (first | ((with_reducible refine gate_callee (f := 25) rfl ?_); refine goesL_ (some 44) rfl rfl Try.func25 (by kernel_rfl) rfl #[.agg #[.int .i64 t445, .int .i64 t446, .slice Ao21 t447.length co21]] rfl (by (try simp only [List.map_toArray, List.map_cons, List.map_nil]); first | done | rfl | (simp only [List.length_drop, List.length_take]; rfl)) ?_; (with_reducible refine (match_Free.calls kj11 t445 t446 _ _ t447 t457 t460 t463 _ ?side1 ?side2 A39.out).mono ?_); (case side1 => repeat (first | exact (Kd.R_reads' HO_451002.out).2.2 | (with_reducible refine Kd.C_alloc ?_ _) | (with_reducible refine Kd.C_drewN ?_ _) | (with_reducible refine Kd.C_drew ?_))); (case side2 => exact (Kd.R_reads' HO_451002.out).2.1); rintro e w44 ⟨v458, v461, rfl, ho0, ho1, hb⟩; refine ⟨_, rfl, ?_⟩; have n0_ := Aside0.mk (Kd.R_below (by (with_reducible repeat (first | apply Kd.R_alloc | apply Kd.R_drewN | apply Kd.R_drew)); exact HO_451002.out) hb); have n1_ := Aside0.mk (Kd.R_lower ho0 (below_size (by repeat (first | (with_reducible first | exact HB.out | apply below_alloc | apply pw_below_drewN | apply below_drew1 | refine below_set ?_ GE442.out | refine below_set ?_ GE450.out) | exact HB.out)))); have n2_ := Aside0.mk (Kd.R_lower ho1 (below_size (by repeat (first | (with_reducible first | exact HB.out | apply below_alloc | apply pw_below_drewN | apply below_drew1 | refine below_set ?_ GE442.out | refine below_set ?_ GE450.out) | exact HB.out)))); have n3_ := Aside0.mk (blk_below (g := gb442) (o := .cells #[.int .i64 a0_0, .int .i64 a0_1, .slice A0_2 l0_2.length c0_2] 27 (0, 0)) (by (with_reducible repeat (first | refine blk_drewN ?_ _ | refine blk_drew ?_ | refine blk_alloc ?_ _)); exact BK442.out) hb); have n4_ := Aside0.mk (blk_below (g := gb450) (o := .cells #[.int .i64 t445, .int .i64 t446, .slice Ao21 t447.length co21] 33 (0, 0)) (by (with_reducible repeat (first | refine blk_drewN ?_ _ | refine blk_drew ?_ | refine blk_alloc ?_ _)); exact BK450.out) hb); have n5_ := Aside0.mk (below_step (by repeat (first | (with_reducible first | exact HB.out | apply below_alloc | apply pw_below_drewN | apply below_drew1 | refine below_set ?_ GE442.out | refine below_set ?_ GE450.out) | exact HB.out)) hb); clear HO_451002; clear BK442; clear BK450; clear HB; have HO_451002 := n0_; have HO459 := n1_; have HO462 := n2_; have BK442 := n3_; have BK450 := n4_; have HB := n5_; clear n0_ n1_ n2_ n3_ n4_ n5_; (try clear hb); (try clear hb2); (try clear hk); (try clear hi); (try clear ho0); (try clear ho1); have hcz45_0 : w44.cell? ⟨gb442, 0, none⟩ = some (.int .i64 a0_0) := (blk_cell BK442.out 0).trans rfl; have hcz45_1 : w44.cell? ⟨gb442, 1, none⟩ = some (.int .i64 a0_1) := (blk_cell BK442.out 1).trans rfl; have hcz45_2 : w44.cell? ⟨gb442, 2, none⟩ = some (.slice A0_2 l0_2.length c0_2) := (blk_cell BK442.out 2).trans rfl; have hfz45_0 := blk_frozen BK442.out 0; have hfz45_1 := blk_frozen BK442.out 1; have hfz45_2 := blk_frozen BK442.out 2) | ((with_reducible refine gate_callee (f := 26) rfl ?_); refine goesL_ (some 50) rfl rfl Try.func26 (by kernel_rfl) rfl #[.agg #[.int .i64 a0_0, .int .i64 a0_1, .slice A0_2 l0_2.length c0_2]] rfl (by (try simp only [List.map_toArray, List.map_cons, List.map_nil]); first | done | rfl | (simp only [List.length_drop, List.length_take]; rfl)) ?_; (with_reducible refine (torusref30_Free.calls kj11 a0_0 a0_1 _ _ l0_2 t464 t467 t470 _ ?side1 ?side2 A40.out).mono ?_); (case side1 => repeat (first | exact (Kd.C_below HR0_2.out HB.out) | (with_reducible refine Kd.C_alloc ?_ _) | (with_reducible refine Kd.C_drewN ?_ _) | (with_reducible refine Kd.C_drew ?_))); (case side2 => exact HC0_2.out); rintro e w46 ⟨v465, v468, rfl, ho0, ho1, hb⟩; refine ⟨_, rfl, ?_⟩; have n0_ := Aside0.mk (Kd.R_below (by (with_reducible repeat (first | apply Kd.R_alloc | apply Kd.R_drewN | apply Kd.R_drew)); exact HO_451002.out) hb); have n1_ := Aside0.mk (Kd.R_mono (Kd.R_told (Kd.R_told (Kd.R_old (by (with_reducible repeat (first | apply Kd.R_alloc | apply Kd.R_drewN | apply Kd.R_drew)); exact HO459.out) hb) (Kd.R_base ho0)) (Kd.R_base ho1)) (fun _ h_ => h_.1)); have n2_ := Aside0.mk (Kd.R_mono (Kd.R_told (Kd.R_told (Kd.R_old (by (with_reducible repeat (first | apply Kd.R_alloc | apply Kd.R_drewN | apply Kd.R_drew)); exact HO462.out) hb) (Kd.R_base ho0)) (Kd.R_base ho1)) (fun _ h_ => h_.1)); have n3_ := Aside0.mk (Kd.R_lower (Kd.R_new' (Kd.R_new' ho0 (Kd.R_lt (by (with_reducible repeat (first | apply Kd.R_alloc | apply Kd.R_drewN | apply Kd.R_drew)); exact HO459.out))) (Kd.R_lt (by (with_reducible repeat (first | apply Kd.R_alloc | apply Kd.R_drewN | apply Kd.R_drew)); exact HO462.out))) (below_size (by repeat (first | (with_reducible first | exact HB.out | apply below_alloc | apply pw_below_drewN | apply below_drew1 | refine below_set ?_ GE442.out | refine below_set ?_ GE450.out) | exact HB.out)))); have n4_ := Aside0.mk (Kd.R_lower (Kd.R_new' (Kd.R_new' ho1 (Kd.R_lt (by (with_reducible repeat (first | apply Kd.R_alloc | apply Kd.R_drewN | apply Kd.R_drew)); exact HO459.out))) (Kd.R_lt (by (with_reducible repeat (first | apply Kd.R_alloc | apply Kd.R_drewN | apply Kd.R_drew)); exact HO462.out))) (below_size (by repeat (first | (with_reducible first | exact HB.out | apply below_alloc | apply pw_below_drewN | apply below_drew1 | refine below_set ?_ GE442.out | refine below_set ?_ GE450.out) | exact HB.out)))); have n5_ := Aside0.mk (blk_below (g := gb442) (o := .cells #[.int .i64 a0_0, .int .i64 a0_1, .slice A0_2 l0_2.length c0_2] 27 (0, 0)) (by (with_reducible repeat (first | refine blk_drewN ?_ _ | refine blk_drew ?_ | refine blk_alloc ?_ _)); exact BK442.out) hb); have n6_ := Aside0.mk (blk_below (g := gb450) (o := .cells #[.int .i64 t445, .int .i64 t446, .slice Ao21 t447.length co21] 33 (0, 0)) (by (with_reducible repeat (first | refine blk_drewN ?_ _ | refine blk_drew ?_ | refine blk_alloc ?_ _)); exact BK450.out) hb); have n7_ := Aside0.mk (below_step (by repeat (first | (with_reducible first | exact HB.out | apply below_alloc | apply pw_below_drewN | apply below_drew1 | refine below_set ?_ GE442.out | refine below_set ?_ GE450.out) | exact HB.out)) hb); clear HO_451002; clear HO459; clear HO462; clear BK442; clear BK450; clear HB; have HO_451002 := n0_; have HO459 := n1_; have HO462 := n2_; have HO466 := n3_; have HO469 := n4_; have BK442 := n5_; have BK450 := n6_; have HB := n7_; clear n0_ n1_ n2_ n3_ n4_ n5_ n6_ n7_; (try clear hb); (try clear hb2); (try clear hk); (try clear hi); (try clear ho0); (try clear ho1)))
          (try simp only [Act.put, List.setIfInBounds_toArray, List.set_cons_zero, List.set_cons_succ])
          go_cut [68] (fun v68 wc => ∃ (kq : Nat) (x68_40 : Bool), v68 = .bool x68_40 ∧ Aside0 (toruslaw30_MatchMatches.j1 kq x68_40 a0_0 a0_1 l0_2 t445 t446 t447 = some r) ∧ Aside0 (kq ≤ kj11) ∧ Aside0 (Kd.R k40 40 wc w.heap.size (fun _ => True) (.slice Ao21 t447.length co21) t447) ∧ Aside0 (wc.heap[gb442]? = some (.cells #[.int .i64 a0_0, .int .i64 a0_1, (.slice A0_2 l0_2.length c0_2)] 27 (0, 0))) ∧ Aside0 (wc.heap[gb450]? = some (.cells #[.int .i64 t445, .int .i64 t446, (.slice Ao21 t447.length co21)] 33 (0, 0))) ∧ Aside0 (Below w.heap.size w wc))
          case first =>
            have H := HC41.out
            clear HC41
            replace H := Option.bind_eq_some_iff.mp H
            obtain ⟨t471, A470, H⟩ := H
            replace H : (if t471 = true then ((torusref01_Same.f kj11 t460 t467).bind fun t472 => (if t472 = true then (toruslaw30_MatchMatches.j1 kj11 (t463 != t470) a0_0 a0_1 l0_2 t445 t446 t447) else (toruslaw30_MatchMatches.j1 kj11 true a0_0 a0_1 l0_2 t445 t446 t447))) else (toruslaw30_MatchMatches.j1 kj11 true a0_0 a0_1 l0_2 t445 t446 t447)) = some r := H
            have A47 := Aside0.mk A470
            clear A470
            by_cases c48 : t471 = true
            · subst c48
              have H1 : ((torusref01_Same.f kj11 t460 t467).bind fun t472 => (if t472 = true then (toruslaw30_MatchMatches.j1 kj11 (t463 != t470) a0_0 a0_1 l0_2 t445 t446 t447) else (toruslaw30_MatchMatches.j1 kj11 true a0_0 a0_1 l0_2 t445 t446 t447))) = some r := by rw [if_pos rfl] at H; exact H
              clear H
              have H := H1
              clear H1
              replace H := Option.bind_eq_some_iff.mp H
              obtain ⟨t472, A490, H⟩ := H
              replace H : (if t472 = true then (toruslaw30_MatchMatches.j1 kj11 (t463 != t470) a0_0 a0_1 l0_2 t445 t446 t447) else (toruslaw30_MatchMatches.j1 kj11 true a0_0 a0_1 l0_2 t445 t446 t447)) = some r := H
              have A49 := Aside0.mk A490
              clear A490
              by_cases c50 : t472 = true
              · subst c50
                have H1 : (toruslaw30_MatchMatches.j1 kj11 (t463 != t470) a0_0 a0_1 l0_2 t445 t446 t447) = some r := by rw [if_pos rfl] at H; exact H
                clear H
                have H := H1
                clear H1
                have H' := Aside0.mk H
                clear H
                obtain ⟨Ao51, co51, eo51⟩ := Kd.R_slice HO459.out
                subst eo51
                obtain ⟨Ao52, co52, eo52⟩ := Kd.R_slice HO466.out
                subst eo52
                go_wp2_with (first | ((with_reducible refine gate_callee (f := 17) rfl ?_); refine goesL_ (some 56) rfl rfl Try.func17 (by kernel_rfl) rfl #[.slice Ao51 t457.length co51, .slice Ao52 t464.length co52] rfl (by (try simp only [List.map_toArray, List.map_cons, List.map_nil]); first | done | rfl | (simp only [List.length_drop, List.length_take]; rfl)) ?_; (with_reducible refine (torusref01_Same.calls kj11 _ _ t457 _ _ t464 true _ ?side1 ?side2 ?side3 ?side4 A47.out).mono ?_); (case side1 => repeat (first | exact (Kd.R_reads' HO459.out).2.2 | (with_reducible refine Kd.C_alloc ?_ _) | (with_reducible refine Kd.C_drewN ?_ _) | (with_reducible refine Kd.C_drew ?_))); (case side2 => exact (Kd.R_reads' HO459.out).2.1); (case side3 => repeat (first | exact (Kd.R_reads' HO466.out).2.2 | (with_reducible refine Kd.C_alloc ?_ _) | (with_reducible refine Kd.C_drewN ?_ _) | (with_reducible refine Kd.C_drew ?_))); (case side4 => exact (Kd.R_reads' HO466.out).2.1); rintro e w' ⟨rfl, ⟨nd, rfl⟩⟩; refine ⟨_, rfl, ?_⟩; obtain ⟨Ao53, co53, eo53⟩ := Kd.R_slice HO462.out; subst eo53; obtain ⟨Ao54, co54, eo54⟩ := Kd.R_slice HO469.out; subst eo54) | (go_at_call 17; (with_reducible refine (torusref01_Same.calls kj11 _ _ t460 _ _ t467 true _ ?side1 ?side2 ?side3 ?side4 A49.out).mono ?_); (case side1 => repeat (first | exact (Kd.R_reads' HO462.out).2.2 | (with_reducible refine Kd.C_alloc ?_ _) | (with_reducible refine Kd.C_drewN ?_ _) | (with_reducible refine Kd.C_drew ?_))); (case side2 => exact (Kd.R_reads' HO462.out).2.1); (case side3 => repeat (first | exact (Kd.R_reads' HO469.out).2.2 | (with_reducible refine Kd.C_alloc ?_ _) | (with_reducible refine Kd.C_drewN ?_ _) | (with_reducible refine Kd.C_drew ?_))); (case side4 => exact (Kd.R_reads' HO469.out).2.1); rintro e w' ⟨rfl, ⟨nd, rfl⟩⟩))
                go_meet
                case rel => exact ⟨_, ((t463 != t470)), (by first | rfl | (simp; done) | (simp [*]; done)), H', ⟨by have := HJ11.out; first | omega | exact Nat.le_refl _⟩, ⟨by (with_reducible repeat (first | apply Kd.R_alloc | apply Kd.R_drewN | apply Kd.R_drew)); exact HO_451002.out⟩, ⟨by (with_reducible repeat (first | refine blk_drewN ?_ _ | refine blk_drew ?_ | refine blk_alloc ?_ _)); exact BK442.out⟩, ⟨by (with_reducible repeat (first | refine blk_drewN ?_ _ | refine blk_drew ?_ | refine blk_alloc ?_ _)); exact BK450.out⟩, ⟨by repeat (first | (with_reducible first | exact HB.out | apply below_alloc | apply pw_below_drewN | apply below_drew1 | refine below_set ?_ GE442.out | refine below_set ?_ GE450.out) | exact HB.out)⟩⟩
              · replace c50 := Bool.eq_false_iff.mpr c50
                subst c50
                have H1 : (toruslaw30_MatchMatches.j1 kj11 true a0_0 a0_1 l0_2 t445 t446 t447) = some r := by rw [if_neg (show ¬ (false = true) by decide)] at H; exact H
                clear H
                have H := H1
                clear H1
                have H' := Aside0.mk H
                clear H
                obtain ⟨Ao55, co55, eo55⟩ := Kd.R_slice HO459.out
                subst eo55
                obtain ⟨Ao56, co56, eo56⟩ := Kd.R_slice HO466.out
                subst eo56
                go_wp2_with (first | ((with_reducible refine gate_callee (f := 17) rfl ?_); refine goesL_ (some 56) rfl rfl Try.func17 (by kernel_rfl) rfl #[.slice Ao55 t457.length co55, .slice Ao56 t464.length co56] rfl (by (try simp only [List.map_toArray, List.map_cons, List.map_nil]); first | done | rfl | (simp only [List.length_drop, List.length_take]; rfl)) ?_; (with_reducible refine (torusref01_Same.calls kj11 _ _ t457 _ _ t464 true _ ?side1 ?side2 ?side3 ?side4 A47.out).mono ?_); (case side1 => repeat (first | exact (Kd.R_reads' HO459.out).2.2 | (with_reducible refine Kd.C_alloc ?_ _) | (with_reducible refine Kd.C_drewN ?_ _) | (with_reducible refine Kd.C_drew ?_))); (case side2 => exact (Kd.R_reads' HO459.out).2.1); (case side3 => repeat (first | exact (Kd.R_reads' HO466.out).2.2 | (with_reducible refine Kd.C_alloc ?_ _) | (with_reducible refine Kd.C_drewN ?_ _) | (with_reducible refine Kd.C_drew ?_))); (case side4 => exact (Kd.R_reads' HO466.out).2.1); rintro e w' ⟨rfl, ⟨nd, rfl⟩⟩; refine ⟨_, rfl, ?_⟩; obtain ⟨Ao57, co57, eo57⟩ := Kd.R_slice HO462.out; subst eo57; obtain ⟨Ao58, co58, eo58⟩ := Kd.R_slice HO469.out; subst eo58) | (go_at_call 17; (with_reducible refine (torusref01_Same.calls kj11 _ _ t460 _ _ t467 false _ ?side1 ?side2 ?side3 ?side4 A49.out).mono ?_); (case side1 => repeat (first | exact (Kd.R_reads' HO462.out).2.2 | (with_reducible refine Kd.C_alloc ?_ _) | (with_reducible refine Kd.C_drewN ?_ _) | (with_reducible refine Kd.C_drew ?_))); (case side2 => exact (Kd.R_reads' HO462.out).2.1); (case side3 => repeat (first | exact (Kd.R_reads' HO469.out).2.2 | (with_reducible refine Kd.C_alloc ?_ _) | (with_reducible refine Kd.C_drewN ?_ _) | (with_reducible refine Kd.C_drew ?_))); (case side4 => exact (Kd.R_reads' HO469.out).2.1); rintro e w' ⟨rfl, ⟨nd, rfl⟩⟩))
                go_meet
                case rel => exact ⟨_, (true), (by first | rfl | (simp; done) | (simp [*]; done)), H', ⟨by have := HJ11.out; first | omega | exact Nat.le_refl _⟩, ⟨by (with_reducible repeat (first | apply Kd.R_alloc | apply Kd.R_drewN | apply Kd.R_drew)); exact HO_451002.out⟩, ⟨by (with_reducible repeat (first | refine blk_drewN ?_ _ | refine blk_drew ?_ | refine blk_alloc ?_ _)); exact BK442.out⟩, ⟨by (with_reducible repeat (first | refine blk_drewN ?_ _ | refine blk_drew ?_ | refine blk_alloc ?_ _)); exact BK450.out⟩, ⟨by repeat (first | (with_reducible first | exact HB.out | apply below_alloc | apply pw_below_drewN | apply below_drew1 | refine below_set ?_ GE442.out | refine below_set ?_ GE450.out) | exact HB.out)⟩⟩
            · replace c48 := Bool.eq_false_iff.mpr c48
              subst c48
              have H1 : (toruslaw30_MatchMatches.j1 kj11 true a0_0 a0_1 l0_2 t445 t446 t447) = some r := by rw [if_neg (show ¬ (false = true) by decide)] at H; exact H
              clear H
              have H := H1
              clear H1
              have H' := Aside0.mk H
              clear H
              obtain ⟨Ao59, co59, eo59⟩ := Kd.R_slice HO459.out
              subst eo59
              obtain ⟨Ao60, co60, eo60⟩ := Kd.R_slice HO466.out
              subst eo60
              go_wp2_with (first | ((with_reducible refine gate_callee (f := 17) rfl ?_); refine goesL_ (some 56) rfl rfl Try.func17 (by kernel_rfl) rfl #[.slice Ao59 t457.length co59, .slice Ao60 t464.length co60] rfl (by (try simp only [List.map_toArray, List.map_cons, List.map_nil]); first | done | rfl | (simp only [List.length_drop, List.length_take]; rfl)) ?_; (with_reducible refine (torusref01_Same.calls kj11 _ _ t457 _ _ t464 false _ ?side1 ?side2 ?side3 ?side4 A47.out).mono ?_); (case side1 => repeat (first | exact (Kd.R_reads' HO459.out).2.2 | (with_reducible refine Kd.C_alloc ?_ _) | (with_reducible refine Kd.C_drewN ?_ _) | (with_reducible refine Kd.C_drew ?_))); (case side2 => exact (Kd.R_reads' HO459.out).2.1); (case side3 => repeat (first | exact (Kd.R_reads' HO466.out).2.2 | (with_reducible refine Kd.C_alloc ?_ _) | (with_reducible refine Kd.C_drewN ?_ _) | (with_reducible refine Kd.C_drew ?_))); (case side4 => exact (Kd.R_reads' HO466.out).2.1); rintro e w' ⟨rfl, ⟨nd, rfl⟩⟩; refine ⟨_, rfl, ?_⟩))
              go_meet
              case rel => exact ⟨_, (true), (by first | rfl | (simp; done) | (simp [*]; done)), H', ⟨by have := HJ11.out; first | omega | exact Nat.le_refl _⟩, ⟨by (with_reducible repeat (first | apply Kd.R_alloc | apply Kd.R_drewN | apply Kd.R_drew)); exact HO_451002.out⟩, ⟨by (with_reducible repeat (first | refine blk_drewN ?_ _ | refine blk_drew ?_ | refine blk_alloc ?_ _)); exact BK442.out⟩, ⟨by (with_reducible repeat (first | refine blk_drewN ?_ _ | refine blk_drew ?_ | refine blk_alloc ?_ _)); exact BK450.out⟩, ⟨by repeat (first | (with_reducible first | exact HB.out | apply below_alloc | apply pw_below_drewN | apply below_drew1 | refine below_set ?_ GE442.out | refine below_set ?_ GE450.out) | exact HB.out)⟩⟩
          case rest =>
            clear HC41
            try clear c1
            try clear c2
            try clear p2
            try clear c3
            try clear c4
            try clear c5
            try clear c14
            try clear c16
            try clear c17
            try clear c19
            try clear c20
            try clear c21
            try clear c22
            try clear c23
            try clear c24
            try clear c25
            try clear c26
            try clear c27
            try clear c27b0
            try clear c27b1
            try clear c28
            try clear c28b0
            try clear c28b1
            try clear c38
            try clear c42
            try clear c48
            try clear c50
            try clear hcz14_0
            try clear hcz14_1
            try clear hcz14_2
            try clear hcz16_0
            try clear hcz16_1
            try clear hcz16_2
            try clear hcz20_0
            try clear hcz20_1
            try clear hcz20_2
            try clear hcz23_0
            try clear hcz23_1
            try clear hcz23_2
            try clear hcz43_0
            try clear hcz43_1
            try clear hcz43_2
            try clear hcz45_0
            try clear hcz45_1
            try clear hcz45_2
            try clear hcz6_0
            try clear hcz6_1
            try clear hcz6_2
            try clear hfz14_0
            try clear hfz14_1
            try clear hfz14_2
            try clear hfz16_0
            try clear hfz16_1
            try clear hfz16_2
            try clear hfz20_0
            try clear hfz20_1
            try clear hfz20_2
            try clear hfz23_0
            try clear hfz23_1
            try clear hfz23_2
            try clear hfz43_0
            try clear hfz43_1
            try clear hfz43_2
            try clear hfz45_0
            try clear hfz45_1
            try clear hfz45_2
            try clear hfz6_0
            try clear hfz6_1
            try clear hfz6_2
            try clear p2
            obtain ⟨kq, x68_40, rfl, HA, HJ40, HO_451002, BK442, BK450, HB⟩ := hcut
            cases kq with
            | zero => exact absurd HA.out (by simp [toruslaw30_MatchMatches.j1])
            | succ kj40 =>
              have H := HA.out
              clear HA
              simp only [toruslaw30_MatchMatches.j1] at H
              by_cases c61 : x68_40 = true
              · subst c61
                have H1 : (some false) = some r := by rw [if_pos rfl] at H; exact H
                clear H
                have H := H1
                clear H1
                exact absurd (Option.some.inj H) (by rw [hrt]; exact Bool.false_ne_true)
              · replace c61 := Bool.eq_false_iff.mpr c61
                subst c61
                have H1 : ((match_Cover.f kj40 t445 t446 t447).bind fun bt473 => ((torusref30_Cover.f kj40 a0_0 a0_1 l0_2).bind fun bt480 => ((torusref01_Same.f kj40 bt473.1 bt480.1).bind fun t487 => (if t487 = true then ((torusref01_Same.f kj40 bt473.2.1 bt480.2.1).bind fun t488 => (if t488 = true then (toruslaw30_MatchMatches.j2 kj40 (bt473.2.2 != bt480.2.2) a0_0 a0_1 l0_2 t445 t446 t447) else (toruslaw30_MatchMatches.j2 kj40 true a0_0 a0_1 l0_2 t445 t446 t447))) else (toruslaw30_MatchMatches.j2 kj40 true a0_0 a0_1 l0_2 t445 t446 t447))))) = some r := by rw [if_neg (show ¬ (false = true) by decide)] at H; exact H
                clear H
                have H := H1
                clear H1
                replace H := Option.bind_eq_some_iff.mp H
                obtain ⟨⟨t473, t476, t479⟩, A620, H⟩ := H
                replace H : ((torusref30_Cover.f kj40 a0_0 a0_1 l0_2).bind fun bt480 => ((torusref01_Same.f kj40 t473 bt480.1).bind fun t487 => (if t487 = true then ((torusref01_Same.f kj40 t476 bt480.2.1).bind fun t488 => (if t488 = true then (toruslaw30_MatchMatches.j2 kj40 (t479 != bt480.2.2) a0_0 a0_1 l0_2 t445 t446 t447) else (toruslaw30_MatchMatches.j2 kj40 true a0_0 a0_1 l0_2 t445 t446 t447))) else (toruslaw30_MatchMatches.j2 kj40 true a0_0 a0_1 l0_2 t445 t446 t447)))) = some r := H
                have A62 := Aside0.mk A620
                clear A620
                replace H := Option.bind_eq_some_iff.mp H
                obtain ⟨⟨t480, t483, t486⟩, A630, H⟩ := H
                replace H : ((torusref01_Same.f kj40 t473 t480).bind fun t487 => (if t487 = true then ((torusref01_Same.f kj40 t476 t483).bind fun t488 => (if t488 = true then (toruslaw30_MatchMatches.j2 kj40 (t479 != t486) a0_0 a0_1 l0_2 t445 t446 t447) else (toruslaw30_MatchMatches.j2 kj40 true a0_0 a0_1 l0_2 t445 t446 t447))) else (toruslaw30_MatchMatches.j2 kj40 true a0_0 a0_1 l0_2 t445 t446 t447))) = some r := H
                have A63 := Aside0.mk A630
                clear A630
                have HC64 := Aside0.mk H
                clear H
                have hnb65 := NB450_442.out
                have hnc65 := NB442_450.out
                have hcz66_0 : wc.cell? ⟨gb450, 0, none⟩ = some (.int .i64 t445) := (blk_cell BK450.out 0).trans rfl
                have hcz66_1 : wc.cell? ⟨gb450, 1, none⟩ = some (.int .i64 t446) := (blk_cell BK450.out 1).trans rfl
                have hcz66_2 : wc.cell? ⟨gb450, 2, none⟩ = some (.slice Ao21 t447.length co21) := (blk_cell BK450.out 2).trans rfl
                have hfz66_0 := blk_frozen BK450.out 0
                have hfz66_1 := blk_frozen BK450.out 1
                have hfz66_2 := blk_frozen BK450.out 2
                go_upto_region 14 with (first | ((with_reducible refine gate_callee (f := 27) rfl ?_); refine goesL_ (some 71) rfl rfl Try.func27 (by kernel_rfl) rfl #[.agg #[.int .i64 t445, .int .i64 t446, .slice Ao21 t447.length co21]] rfl (by (try simp only [List.map_toArray, List.map_cons, List.map_nil]); first | done | rfl | (simp only [List.length_drop, List.length_take]; rfl)) ?_; (with_reducible refine (match_Cover.calls kj40 t445 t446 _ _ t447 t473 t476 t479 _ ?side1 ?side2 A62.out).mono ?_); (case side1 => repeat (first | exact (Kd.R_reads' HO_451002.out).2.2 | (with_reducible refine Kd.C_alloc ?_ _) | (with_reducible refine Kd.C_drewN ?_ _) | (with_reducible refine Kd.C_drew ?_))); (case side2 => exact (Kd.R_reads' HO_451002.out).2.1); rintro e w67 ⟨v474, v477, rfl, ho0, ho1, hb⟩; refine ⟨_, rfl, ?_⟩; have n0_ := Aside0.mk (Kd.R_below (by (with_reducible repeat (first | apply Kd.R_alloc | apply Kd.R_drewN | apply Kd.R_drew)); exact HO_451002.out) hb); have n1_ := Aside0.mk (Kd.R_lower ho0 (below_size (by repeat (first | (with_reducible first | exact HB.out | apply below_alloc | apply pw_below_drewN | apply below_drew1 | refine below_set ?_ GE442.out | refine below_set ?_ GE450.out) | exact HB.out)))); have n2_ := Aside0.mk (Kd.R_lower ho1 (below_size (by repeat (first | (with_reducible first | exact HB.out | apply below_alloc | apply pw_below_drewN | apply below_drew1 | refine below_set ?_ GE442.out | refine below_set ?_ GE450.out) | exact HB.out)))); have n3_ := Aside0.mk (blk_below (g := gb442) (o := .cells #[.int .i64 a0_0, .int .i64 a0_1, .slice A0_2 l0_2.length c0_2] 27 (0, 0)) (by (with_reducible repeat (first | refine blk_drewN ?_ _ | refine blk_drew ?_ | refine blk_alloc ?_ _)); exact BK442.out) hb); have n4_ := Aside0.mk (blk_below (g := gb450) (o := .cells #[.int .i64 t445, .int .i64 t446, .slice Ao21 t447.length co21] 33 (0, 0)) (by (with_reducible repeat (first | refine blk_drewN ?_ _ | refine blk_drew ?_ | refine blk_alloc ?_ _)); exact BK450.out) hb); have n5_ := Aside0.mk (below_step (by repeat (first | (with_reducible first | exact HB.out | apply below_alloc | apply pw_below_drewN | apply below_drew1 | refine below_set ?_ GE442.out | refine below_set ?_ GE450.out) | exact HB.out)) hb); clear HO_451002; clear BK442; clear BK450; clear HB; have HO_451002 := n0_; have HO475 := n1_; have HO478 := n2_; have BK442 := n3_; have BK450 := n4_; have HB := n5_; clear n0_ n1_ n2_ n3_ n4_ n5_; (try clear hb); (try clear hb2); (try clear hk); (try clear hi); (try clear ho0); (try clear ho1); have hcz68_0 : w67.cell? ⟨gb442, 0, none⟩ = some (.int .i64 a0_0) := (blk_cell BK442.out 0).trans rfl; have hcz68_1 : w67.cell? ⟨gb442, 1, none⟩ = some (.int .i64 a0_1) := (blk_cell BK442.out 1).trans rfl; have hcz68_2 : w67.cell? ⟨gb442, 2, none⟩ = some (.slice A0_2 l0_2.length c0_2) := (blk_cell BK442.out 2).trans rfl; have hfz68_0 := blk_frozen BK442.out 0; have hfz68_1 := blk_frozen BK442.out 1; have hfz68_2 := blk_frozen BK442.out 2) | ((with_reducible refine gate_callee (f := 28) rfl ?_); refine goesL_ (some 77) rfl rfl Try.func28 (by kernel_rfl) rfl #[.agg #[.int .i64 a0_0, .int .i64 a0_1, .slice A0_2 l0_2.length c0_2]] rfl (by (try simp only [List.map_toArray, List.map_cons, List.map_nil]); first | done | rfl | (simp only [List.length_drop, List.length_take]; rfl)) ?_; (with_reducible refine (torusref30_Cover.calls kj40 a0_0 a0_1 _ _ l0_2 t480 t483 t486 _ ?side1 ?side2 A63.out).mono ?_); (case side1 => repeat (first | exact (Kd.C_below HR0_2.out HB.out) | (with_reducible refine Kd.C_alloc ?_ _) | (with_reducible refine Kd.C_drewN ?_ _) | (with_reducible refine Kd.C_drew ?_))); (case side2 => exact HC0_2.out); rintro e w69 ⟨v481, v484, rfl, ho0, ho1, hb⟩; refine ⟨_, rfl, ?_⟩; have n0_ := Aside0.mk (Kd.R_below (by (with_reducible repeat (first | apply Kd.R_alloc | apply Kd.R_drewN | apply Kd.R_drew)); exact HO_451002.out) hb); have n1_ := Aside0.mk (Kd.R_mono (Kd.R_told (Kd.R_told (Kd.R_old (by (with_reducible repeat (first | apply Kd.R_alloc | apply Kd.R_drewN | apply Kd.R_drew)); exact HO475.out) hb) (Kd.R_base ho0)) (Kd.R_base ho1)) (fun _ h_ => h_.1)); have n2_ := Aside0.mk (Kd.R_mono (Kd.R_told (Kd.R_told (Kd.R_old (by (with_reducible repeat (first | apply Kd.R_alloc | apply Kd.R_drewN | apply Kd.R_drew)); exact HO478.out) hb) (Kd.R_base ho0)) (Kd.R_base ho1)) (fun _ h_ => h_.1)); have n3_ := Aside0.mk (Kd.R_lower (Kd.R_new' (Kd.R_new' ho0 (Kd.R_lt (by (with_reducible repeat (first | apply Kd.R_alloc | apply Kd.R_drewN | apply Kd.R_drew)); exact HO475.out))) (Kd.R_lt (by (with_reducible repeat (first | apply Kd.R_alloc | apply Kd.R_drewN | apply Kd.R_drew)); exact HO478.out))) (below_size (by repeat (first | (with_reducible first | exact HB.out | apply below_alloc | apply pw_below_drewN | apply below_drew1 | refine below_set ?_ GE442.out | refine below_set ?_ GE450.out) | exact HB.out)))); have n4_ := Aside0.mk (Kd.R_lower (Kd.R_new' (Kd.R_new' ho1 (Kd.R_lt (by (with_reducible repeat (first | apply Kd.R_alloc | apply Kd.R_drewN | apply Kd.R_drew)); exact HO475.out))) (Kd.R_lt (by (with_reducible repeat (first | apply Kd.R_alloc | apply Kd.R_drewN | apply Kd.R_drew)); exact HO478.out))) (below_size (by repeat (first | (with_reducible first | exact HB.out | apply below_alloc | apply pw_below_drewN | apply below_drew1 | refine below_set ?_ GE442.out | refine below_set ?_ GE450.out) | exact HB.out)))); have n5_ := Aside0.mk (blk_below (g := gb442) (o := .cells #[.int .i64 a0_0, .int .i64 a0_1, .slice A0_2 l0_2.length c0_2] 27 (0, 0)) (by (with_reducible repeat (first | refine blk_drewN ?_ _ | refine blk_drew ?_ | refine blk_alloc ?_ _)); exact BK442.out) hb); have n6_ := Aside0.mk (blk_below (g := gb450) (o := .cells #[.int .i64 t445, .int .i64 t446, .slice Ao21 t447.length co21] 33 (0, 0)) (by (with_reducible repeat (first | refine blk_drewN ?_ _ | refine blk_drew ?_ | refine blk_alloc ?_ _)); exact BK450.out) hb); have n7_ := Aside0.mk (below_step (by repeat (first | (with_reducible first | exact HB.out | apply below_alloc | apply pw_below_drewN | apply below_drew1 | refine below_set ?_ GE442.out | refine below_set ?_ GE450.out) | exact HB.out)) hb); clear HO_451002; clear HO475; clear HO478; clear BK442; clear BK450; clear HB; have HO_451002 := n0_; have HO475 := n1_; have HO478 := n2_; have HO482 := n3_; have HO485 := n4_; have BK442 := n5_; have BK450 := n6_; have HB := n7_; clear n0_ n1_ n2_ n3_ n4_ n5_ n6_ n7_; (try clear hb); (try clear hb2); (try clear hk); (try clear hi); (try clear ho0); (try clear ho1)))
                (try simp only [Act.put, List.setIfInBounds_toArray, List.set_cons_zero, List.set_cons_succ])
                go_cut [95] (fun v95 wc => ∃ (kq : Nat) (x95_63 : Bool), v95 = .bool x95_63 ∧ Aside0 (toruslaw30_MatchMatches.j2 kq x95_63 a0_0 a0_1 l0_2 t445 t446 t447 = some r) ∧ Aside0 (kq ≤ kj40) ∧ Aside0 (Kd.R k40 40 wc w.heap.size (fun _ => True) (.slice Ao21 t447.length co21) t447) ∧ Aside0 (wc.heap[gb442]? = some (.cells #[.int .i64 a0_0, .int .i64 a0_1, (.slice A0_2 l0_2.length c0_2)] 27 (0, 0))) ∧ Aside0 (wc.heap[gb450]? = some (.cells #[.int .i64 t445, .int .i64 t446, (.slice Ao21 t447.length co21)] 33 (0, 0))) ∧ Aside0 (Below w.heap.size w wc))
                case first =>
                  have H := HC64.out
                  clear HC64
                  replace H := Option.bind_eq_some_iff.mp H
                  obtain ⟨t487, A700, H⟩ := H
                  replace H : (if t487 = true then ((torusref01_Same.f kj40 t476 t483).bind fun t488 => (if t488 = true then (toruslaw30_MatchMatches.j2 kj40 (t479 != t486) a0_0 a0_1 l0_2 t445 t446 t447) else (toruslaw30_MatchMatches.j2 kj40 true a0_0 a0_1 l0_2 t445 t446 t447))) else (toruslaw30_MatchMatches.j2 kj40 true a0_0 a0_1 l0_2 t445 t446 t447)) = some r := H
                  have A70 := Aside0.mk A700
                  clear A700
                  by_cases c71 : t487 = true
                  · subst c71
                    have H1 : ((torusref01_Same.f kj40 t476 t483).bind fun t488 => (if t488 = true then (toruslaw30_MatchMatches.j2 kj40 (t479 != t486) a0_0 a0_1 l0_2 t445 t446 t447) else (toruslaw30_MatchMatches.j2 kj40 true a0_0 a0_1 l0_2 t445 t446 t447))) = some r := by rw [if_pos rfl] at H; exact H
                    clear H
                    have H := H1
                    clear H1
                    replace H := Option.bind_eq_some_iff.mp H
                    obtain ⟨t488, A720, H⟩ := H
                    replace H : (if t488 = true then (toruslaw30_MatchMatches.j2 kj40 (t479 != t486) a0_0 a0_1 l0_2 t445 t446 t447) else (toruslaw30_MatchMatches.j2 kj40 true a0_0 a0_1 l0_2 t445 t446 t447)) = some r := H
                    have A72 := Aside0.mk A720
                    clear A720
                    by_cases c73 : t488 = true
                    · subst c73
                      have H1 : (toruslaw30_MatchMatches.j2 kj40 (t479 != t486) a0_0 a0_1 l0_2 t445 t446 t447) = some r := by rw [if_pos rfl] at H; exact H
                      clear H
                      have H := H1
                      clear H1
                      have H' := Aside0.mk H
                      clear H
                      obtain ⟨Ao74, co74, eo74⟩ := Kd.R_slice HO475.out
                      subst eo74
                      obtain ⟨Ao75, co75, eo75⟩ := Kd.R_slice HO482.out
                      subst eo75
                      go_wp2_with (first | ((with_reducible refine gate_callee (f := 17) rfl ?_); refine goesL_ (some 83) rfl rfl Try.func17 (by kernel_rfl) rfl #[.slice Ao74 t473.length co74, .slice Ao75 t480.length co75] rfl (by (try simp only [List.map_toArray, List.map_cons, List.map_nil]); first | done | rfl | (simp only [List.length_drop, List.length_take]; rfl)) ?_; (with_reducible refine (torusref01_Same.calls kj40 _ _ t473 _ _ t480 true _ ?side1 ?side2 ?side3 ?side4 A70.out).mono ?_); (case side1 => repeat (first | exact (Kd.R_reads' HO475.out).2.2 | (with_reducible refine Kd.C_alloc ?_ _) | (with_reducible refine Kd.C_drewN ?_ _) | (with_reducible refine Kd.C_drew ?_))); (case side2 => exact (Kd.R_reads' HO475.out).2.1); (case side3 => repeat (first | exact (Kd.R_reads' HO482.out).2.2 | (with_reducible refine Kd.C_alloc ?_ _) | (with_reducible refine Kd.C_drewN ?_ _) | (with_reducible refine Kd.C_drew ?_))); (case side4 => exact (Kd.R_reads' HO482.out).2.1); rintro e w' ⟨rfl, ⟨nd, rfl⟩⟩; refine ⟨_, rfl, ?_⟩; obtain ⟨Ao76, co76, eo76⟩ := Kd.R_slice HO478.out; subst eo76; obtain ⟨Ao77, co77, eo77⟩ := Kd.R_slice HO485.out; subst eo77) | (go_at_call 17; (with_reducible refine (torusref01_Same.calls kj40 _ _ t476 _ _ t483 true _ ?side1 ?side2 ?side3 ?side4 A72.out).mono ?_); (case side1 => repeat (first | exact (Kd.R_reads' HO478.out).2.2 | (with_reducible refine Kd.C_alloc ?_ _) | (with_reducible refine Kd.C_drewN ?_ _) | (with_reducible refine Kd.C_drew ?_))); (case side2 => exact (Kd.R_reads' HO478.out).2.1); (case side3 => repeat (first | exact (Kd.R_reads' HO485.out).2.2 | (with_reducible refine Kd.C_alloc ?_ _) | (with_reducible refine Kd.C_drewN ?_ _) | (with_reducible refine Kd.C_drew ?_))); (case side4 => exact (Kd.R_reads' HO485.out).2.1); rintro e w' ⟨rfl, ⟨nd, rfl⟩⟩))
                      go_meet
                      case rel => exact ⟨_, ((t479 != t486)), (by first | rfl | (simp; done) | (simp [*]; done)), H', ⟨by have := HJ11.out; have := HJ40.out; first | omega | exact Nat.le_refl _⟩, ⟨by (with_reducible repeat (first | apply Kd.R_alloc | apply Kd.R_drewN | apply Kd.R_drew)); exact HO_451002.out⟩, ⟨by (with_reducible repeat (first | refine blk_drewN ?_ _ | refine blk_drew ?_ | refine blk_alloc ?_ _)); exact BK442.out⟩, ⟨by (with_reducible repeat (first | refine blk_drewN ?_ _ | refine blk_drew ?_ | refine blk_alloc ?_ _)); exact BK450.out⟩, ⟨by repeat (first | (with_reducible first | exact HB.out | apply below_alloc | apply pw_below_drewN | apply below_drew1 | refine below_set ?_ GE442.out | refine below_set ?_ GE450.out) | exact HB.out)⟩⟩
                    · replace c73 := Bool.eq_false_iff.mpr c73
                      subst c73
                      have H1 : (toruslaw30_MatchMatches.j2 kj40 true a0_0 a0_1 l0_2 t445 t446 t447) = some r := by rw [if_neg (show ¬ (false = true) by decide)] at H; exact H
                      clear H
                      have H := H1
                      clear H1
                      have H' := Aside0.mk H
                      clear H
                      obtain ⟨Ao78, co78, eo78⟩ := Kd.R_slice HO475.out
                      subst eo78
                      obtain ⟨Ao79, co79, eo79⟩ := Kd.R_slice HO482.out
                      subst eo79
                      go_wp2_with (first | ((with_reducible refine gate_callee (f := 17) rfl ?_); refine goesL_ (some 83) rfl rfl Try.func17 (by kernel_rfl) rfl #[.slice Ao78 t473.length co78, .slice Ao79 t480.length co79] rfl (by (try simp only [List.map_toArray, List.map_cons, List.map_nil]); first | done | rfl | (simp only [List.length_drop, List.length_take]; rfl)) ?_; (with_reducible refine (torusref01_Same.calls kj40 _ _ t473 _ _ t480 true _ ?side1 ?side2 ?side3 ?side4 A70.out).mono ?_); (case side1 => repeat (first | exact (Kd.R_reads' HO475.out).2.2 | (with_reducible refine Kd.C_alloc ?_ _) | (with_reducible refine Kd.C_drewN ?_ _) | (with_reducible refine Kd.C_drew ?_))); (case side2 => exact (Kd.R_reads' HO475.out).2.1); (case side3 => repeat (first | exact (Kd.R_reads' HO482.out).2.2 | (with_reducible refine Kd.C_alloc ?_ _) | (with_reducible refine Kd.C_drewN ?_ _) | (with_reducible refine Kd.C_drew ?_))); (case side4 => exact (Kd.R_reads' HO482.out).2.1); rintro e w' ⟨rfl, ⟨nd, rfl⟩⟩; refine ⟨_, rfl, ?_⟩; obtain ⟨Ao80, co80, eo80⟩ := Kd.R_slice HO478.out; subst eo80; obtain ⟨Ao81, co81, eo81⟩ := Kd.R_slice HO485.out; subst eo81) | (go_at_call 17; (with_reducible refine (torusref01_Same.calls kj40 _ _ t476 _ _ t483 false _ ?side1 ?side2 ?side3 ?side4 A72.out).mono ?_); (case side1 => repeat (first | exact (Kd.R_reads' HO478.out).2.2 | (with_reducible refine Kd.C_alloc ?_ _) | (with_reducible refine Kd.C_drewN ?_ _) | (with_reducible refine Kd.C_drew ?_))); (case side2 => exact (Kd.R_reads' HO478.out).2.1); (case side3 => repeat (first | exact (Kd.R_reads' HO485.out).2.2 | (with_reducible refine Kd.C_alloc ?_ _) | (with_reducible refine Kd.C_drewN ?_ _) | (with_reducible refine Kd.C_drew ?_))); (case side4 => exact (Kd.R_reads' HO485.out).2.1); rintro e w' ⟨rfl, ⟨nd, rfl⟩⟩))
                      go_meet
                      case rel => exact ⟨_, (true), (by first | rfl | (simp; done) | (simp [*]; done)), H', ⟨by have := HJ11.out; have := HJ40.out; first | omega | exact Nat.le_refl _⟩, ⟨by (with_reducible repeat (first | apply Kd.R_alloc | apply Kd.R_drewN | apply Kd.R_drew)); exact HO_451002.out⟩, ⟨by (with_reducible repeat (first | refine blk_drewN ?_ _ | refine blk_drew ?_ | refine blk_alloc ?_ _)); exact BK442.out⟩, ⟨by (with_reducible repeat (first | refine blk_drewN ?_ _ | refine blk_drew ?_ | refine blk_alloc ?_ _)); exact BK450.out⟩, ⟨by repeat (first | (with_reducible first | exact HB.out | apply below_alloc | apply pw_below_drewN | apply below_drew1 | refine below_set ?_ GE442.out | refine below_set ?_ GE450.out) | exact HB.out)⟩⟩
                  · replace c71 := Bool.eq_false_iff.mpr c71
                    subst c71
                    have H1 : (toruslaw30_MatchMatches.j2 kj40 true a0_0 a0_1 l0_2 t445 t446 t447) = some r := by rw [if_neg (show ¬ (false = true) by decide)] at H; exact H
                    clear H
                    have H := H1
                    clear H1
                    have H' := Aside0.mk H
                    clear H
                    obtain ⟨Ao82, co82, eo82⟩ := Kd.R_slice HO475.out
                    subst eo82
                    obtain ⟨Ao83, co83, eo83⟩ := Kd.R_slice HO482.out
                    subst eo83
                    go_wp2_with (first | ((with_reducible refine gate_callee (f := 17) rfl ?_); refine goesL_ (some 83) rfl rfl Try.func17 (by kernel_rfl) rfl #[.slice Ao82 t473.length co82, .slice Ao83 t480.length co83] rfl (by (try simp only [List.map_toArray, List.map_cons, List.map_nil]); first | done | rfl | (simp only [List.length_drop, List.length_take]; rfl)) ?_; (with_reducible refine (torusref01_Same.calls kj40 _ _ t473 _ _ t480 false _ ?side1 ?side2 ?side3 ?side4 A70.out).mono ?_); (case side1 => repeat (first | exact (Kd.R_reads' HO475.out).2.2 | (with_reducible refine Kd.C_alloc ?_ _) | (with_reducible refine Kd.C_drewN ?_ _) | (with_reducible refine Kd.C_drew ?_))); (case side2 => exact (Kd.R_reads' HO475.out).2.1); (case side3 => repeat (first | exact (Kd.R_reads' HO482.out).2.2 | (with_reducible refine Kd.C_alloc ?_ _) | (with_reducible refine Kd.C_drewN ?_ _) | (with_reducible refine Kd.C_drew ?_))); (case side4 => exact (Kd.R_reads' HO482.out).2.1); rintro e w' ⟨rfl, ⟨nd, rfl⟩⟩; refine ⟨_, rfl, ?_⟩))
                    go_meet
                    case rel => exact ⟨_, (true), (by first | rfl | (simp; done) | (simp [*]; done)), H', ⟨by have := HJ11.out; have := HJ40.out; first | omega | exact Nat.le_refl _⟩, ⟨by (with_reducible repeat (first | apply Kd.R_alloc | apply Kd.R_drewN | apply Kd.R_drew)); exact HO_451002.out⟩, ⟨by (with_reducible repeat (first | refine blk_drewN ?_ _ | refine blk_drew ?_ | refine blk_alloc ?_ _)); exact BK442.out⟩, ⟨by (with_reducible repeat (first | refine blk_drewN ?_ _ | refine blk_drew ?_ | refine blk_alloc ?_ _)); exact BK450.out⟩, ⟨by repeat (first | (with_reducible first | exact HB.out | apply below_alloc | apply pw_below_drewN | apply below_drew1 | refine below_set ?_ GE442.out | refine below_set ?_ GE450.out) | exact HB.out)⟩⟩
                case rest =>
                  clear HC64
                  try clear c1
                  try clear c2
                  try clear p2
                  try clear c3
                  try clear c4
                  try clear c5
                  try clear c6
                  try clear c7
                  try clear c14
                  try clear c16
                  try clear c17
                  try clear c19
                  try clear c20
                  try clear c21
                  try clear c22
                  try clear c23
                  try clear c24
                  try clear c25
                  try clear c26
                  try clear c27
                  try clear c27b0
                  try clear c27b1
                  try clear c28
                  try clear c28b0
                  try clear c28b1
                  try clear c38
                  try clear c42
                  try clear c48
                  try clear c50
                  try clear c61
                  try clear c65
                  try clear c71
                  try clear c73
                  try clear hcz14_0
                  try clear hcz14_1
                  try clear hcz14_2
                  try clear hcz16_0
                  try clear hcz16_1
                  try clear hcz16_2
                  try clear hcz20_0
                  try clear hcz20_1
                  try clear hcz20_2
                  try clear hcz23_0
                  try clear hcz23_1
                  try clear hcz23_2
                  try clear hcz43_0
                  try clear hcz43_1
                  try clear hcz43_2
                  try clear hcz45_0
                  try clear hcz45_1
                  try clear hcz45_2
                  try clear hcz66_0
                  try clear hcz66_1
                  try clear hcz66_2
                  try clear hcz68_0
                  try clear hcz68_1
                  try clear hcz68_2
                  try clear hcz6_0
                  try clear hcz6_1
                  try clear hcz6_2
                  try clear hfz14_0
                  try clear hfz14_1
                  try clear hfz14_2
                  try clear hfz16_0
                  try clear hfz16_1
                  try clear hfz16_2
                  try clear hfz20_0
                  try clear hfz20_1
                  try clear hfz20_2
                  try clear hfz23_0
                  try clear hfz23_1
                  try clear hfz23_2
                  try clear hfz43_0
                  try clear hfz43_1
                  try clear hfz43_2
                  try clear hfz45_0
                  try clear hfz45_1
                  try clear hfz45_2
                  try clear hfz66_0
                  try clear hfz66_1
                  try clear hfz66_2
                  try clear hfz68_0
                  try clear hfz68_1
                  try clear hfz68_2
                  try clear hfz6_0
                  try clear hfz6_1
                  try clear hfz6_2
                  try clear p2
                  obtain ⟨kq, x95_63, rfl, HA, HJ63, HO_451002, BK442, BK450, HB⟩ := hcut
                  cases kq with
                  | zero => exact absurd HA.out (by simp [toruslaw30_MatchMatches.j2])
                  | succ kj63 =>
                    have H := HA.out
                    clear HA
                    simp only [toruslaw30_MatchMatches.j2] at H
                    by_cases c84 : x95_63 = true
                    · subst c84
                      have H1 : (some false) = some r := by rw [if_pos rfl] at H; exact H
                      clear H
                      have H := H1
                      clear H1
                      exact absurd (Option.some.inj H) (by rw [hrt]; exact Bool.false_ne_true)
                    · replace c84 := Bool.eq_false_iff.mpr c84
                      subst c84
                      have H1 : ((match_Hall.f kj63 t445 t446 t447).bind fun bt489 => ((torusref30_Hall.f kj63 a0_0 a0_1 l0_2).bind fun bt496 => ((torusref01_Same.f kj63 bt489.1 bt496.1).bind fun t503 => (if t503 = true then ((torusref01_Same.f kj63 bt489.2.1 bt496.2.1).bind fun t504 => (if t504 = true then (if bt489.2.2 = bt496.2.2 then ((torusref30_Same.f kj63 t445 t446 t447 a0_0 a0_1 l0_2).bind fun t505 => (if t505 = true then ((toruslaw30_awake.f).bind fun t506 => (some t506)) else (some false))) else (some false)) else (some false))) else (some false))))) = some r := by rw [if_neg (show ¬ (false = true) by decide)] at H; exact H
                      clear H
                      have H := H1
                      clear H1
                      replace H := Option.bind_eq_some_iff.mp H
                      obtain ⟨⟨t489, t492, t495⟩, A850, H⟩ := H
                      replace H : ((torusref30_Hall.f kj63 a0_0 a0_1 l0_2).bind fun bt496 => ((torusref01_Same.f kj63 t489 bt496.1).bind fun t503 => (if t503 = true then ((torusref01_Same.f kj63 t492 bt496.2.1).bind fun t504 => (if t504 = true then (if t495 = bt496.2.2 then ((torusref30_Same.f kj63 t445 t446 t447 a0_0 a0_1 l0_2).bind fun t505 => (if t505 = true then ((toruslaw30_awake.f).bind fun t506 => (some t506)) else (some false))) else (some false)) else (some false))) else (some false)))) = some r := H
                      have A85 := Aside0.mk A850
                      clear A850
                      replace H := Option.bind_eq_some_iff.mp H
                      obtain ⟨⟨t496, t499, t502⟩, A860, H⟩ := H
                      replace H : ((torusref01_Same.f kj63 t489 t496).bind fun t503 => (if t503 = true then ((torusref01_Same.f kj63 t492 t499).bind fun t504 => (if t504 = true then (if t495 = t502 then ((torusref30_Same.f kj63 t445 t446 t447 a0_0 a0_1 l0_2).bind fun t505 => (if t505 = true then ((toruslaw30_awake.f).bind fun t506 => (some t506)) else (some false))) else (some false)) else (some false))) else (some false))) = some r := H
                      have A86 := Aside0.mk A860
                      clear A860
                      replace H := Option.bind_eq_some_iff.mp H
                      obtain ⟨t503, A870, H⟩ := H
                      replace H : (if t503 = true then ((torusref01_Same.f kj63 t492 t499).bind fun t504 => (if t504 = true then (if t495 = t502 then ((torusref30_Same.f kj63 t445 t446 t447 a0_0 a0_1 l0_2).bind fun t505 => (if t505 = true then ((toruslaw30_awake.f).bind fun t506 => (some t506)) else (some false))) else (some false)) else (some false))) else (some false)) = some r := H
                      have A87 := Aside0.mk A870
                      clear A870
                      by_cases c88 : t503 = true
                      · subst c88
                        have H1 : ((torusref01_Same.f kj63 t492 t499).bind fun t504 => (if t504 = true then (if t495 = t502 then ((torusref30_Same.f kj63 t445 t446 t447 a0_0 a0_1 l0_2).bind fun t505 => (if t505 = true then ((toruslaw30_awake.f).bind fun t506 => (some t506)) else (some false))) else (some false)) else (some false))) = some r := by rw [if_pos rfl] at H; exact H
                        clear H
                        have H := H1
                        clear H1
                        replace H := Option.bind_eq_some_iff.mp H
                        obtain ⟨t504, A890, H⟩ := H
                        replace H : (if t504 = true then (if t495 = t502 then ((torusref30_Same.f kj63 t445 t446 t447 a0_0 a0_1 l0_2).bind fun t505 => (if t505 = true then ((toruslaw30_awake.f).bind fun t506 => (some t506)) else (some false))) else (some false)) else (some false)) = some r := H
                        have A89 := Aside0.mk A890
                        clear A890
                        by_cases c90 : t504 = true
                        · subst c90
                          have H1 : (if t495 = t502 then ((torusref30_Same.f kj63 t445 t446 t447 a0_0 a0_1 l0_2).bind fun t505 => (if t505 = true then ((toruslaw30_awake.f).bind fun t506 => (some t506)) else (some false))) else (some false)) = some r := by rw [if_pos rfl] at H; exact H
                          clear H
                          have H := H1
                          clear H1
                          by_cases c91 : t495 = t502
                          · rw [if_pos c91] at H
                            have c91b0 : (t495 == t502) = true := beq_iff_eq.mpr c91
                            have c91b1 : (t495 != t502) = false := bne_eq_false_iff_eq.mpr c91
                            clear c91
                            replace H := Option.bind_eq_some_iff.mp H
                            obtain ⟨t505, A920, H⟩ := H
                            replace H : (if t505 = true then ((toruslaw30_awake.f).bind fun t506 => (some t506)) else (some false)) = some r := H
                            have A92 := Aside0.mk A920
                            clear A920
                            by_cases c93 : t505 = true
                            · subst c93
                              have H1 : ((toruslaw30_awake.f).bind fun t506 => (some t506)) = some r := by rw [if_pos rfl] at H; exact H
                              clear H
                              have H := H1
                              clear H1
                              replace H := Option.bind_eq_some_iff.mp H
                              obtain ⟨t506, A940, H⟩ := H
                              replace H : (some t506) = some r := H
                              have A94 := Aside0.mk A940
                              clear A940
                              obtain rfl := Option.some.inj H
                              have hnb95 := NB450_442.out
                              have hnc95 := NB442_450.out
                              have hcz96_0 : wc.cell? ⟨gb450, 0, none⟩ = some (.int .i64 t445) := (blk_cell BK450.out 0).trans rfl
                              have hcz96_1 : wc.cell? ⟨gb450, 1, none⟩ = some (.int .i64 t446) := (blk_cell BK450.out 1).trans rfl
                              have hcz96_2 : wc.cell? ⟨gb450, 2, none⟩ = some (.slice Ao21 t447.length co21) := (blk_cell BK450.out 2).trans rfl
                              have hfz96_0 := blk_frozen BK450.out 0
                              have hfz96_1 := blk_frozen BK450.out 1
                              have hfz96_2 := blk_frozen BK450.out 2
                              go_wp2_with (first | ((with_reducible refine gate_callee (f := 13) rfl ?_); refine goesL_ (some 98) rfl rfl Try.func13 (by kernel_rfl) rfl #[.agg #[.int .i64 t445, .int .i64 t446, .slice Ao21 t447.length co21]] rfl (by (try simp only [List.map_toArray, List.map_cons, List.map_nil]); first | done | rfl | (simp only [List.length_drop, List.length_take]; rfl)) ?_; (with_reducible refine (match_Hall.calls kj63 t445 t446 _ _ t447 t489 t492 t495 _ ?side1 ?side2 A85.out).mono ?_); (case side1 => repeat (first | exact (Kd.R_reads' HO_451002.out).2.2 | (with_reducible refine Kd.C_alloc ?_ _) | (with_reducible refine Kd.C_drewN ?_ _) | (with_reducible refine Kd.C_drew ?_))); (case side2 => exact (Kd.R_reads' HO_451002.out).2.1); rintro e w97 ⟨v490, v493, rfl, ho0, ho1, hb⟩; refine ⟨_, rfl, ?_⟩; have n0_ := Aside0.mk (Kd.R_below (by (with_reducible repeat (first | apply Kd.R_alloc | apply Kd.R_drewN | apply Kd.R_drew)); exact HO_451002.out) hb); have n1_ := Aside0.mk (Kd.R_lower ho0 (below_size (by repeat (first | (with_reducible first | exact HB.out | apply below_alloc | apply pw_below_drewN | apply below_drew1 | refine below_set ?_ GE442.out | refine below_set ?_ GE450.out) | exact HB.out)))); have n2_ := Aside0.mk (Kd.R_lower ho1 (below_size (by repeat (first | (with_reducible first | exact HB.out | apply below_alloc | apply pw_below_drewN | apply below_drew1 | refine below_set ?_ GE442.out | refine below_set ?_ GE450.out) | exact HB.out)))); have n3_ := Aside0.mk (blk_below (g := gb442) (o := .cells #[.int .i64 a0_0, .int .i64 a0_1, .slice A0_2 l0_2.length c0_2] 27 (0, 0)) (by (with_reducible repeat (first | refine blk_drewN ?_ _ | refine blk_drew ?_ | refine blk_alloc ?_ _)); exact BK442.out) hb); have n4_ := Aside0.mk (blk_below (g := gb450) (o := .cells #[.int .i64 t445, .int .i64 t446, .slice Ao21 t447.length co21] 33 (0, 0)) (by (with_reducible repeat (first | refine blk_drewN ?_ _ | refine blk_drew ?_ | refine blk_alloc ?_ _)); exact BK450.out) hb); have n5_ := Aside0.mk (below_step (by repeat (first | (with_reducible first | exact HB.out | apply below_alloc | apply pw_below_drewN | apply below_drew1 | refine below_set ?_ GE442.out | refine below_set ?_ GE450.out) | exact HB.out)) hb); clear HO_451002; clear BK442; clear BK450; clear HB; have HO_451002 := n0_; have HO491 := n1_; have HO494 := n2_; have BK442 := n3_; have BK450 := n4_; have HB := n5_; clear n0_ n1_ n2_ n3_ n4_ n5_; (try clear hb); (try clear hb2); (try clear hk); (try clear hi); (try clear ho0); (try clear ho1); have hcz98_0 : w97.cell? ⟨gb442, 0, none⟩ = some (.int .i64 a0_0) := (blk_cell BK442.out 0).trans rfl; have hcz98_1 : w97.cell? ⟨gb442, 1, none⟩ = some (.int .i64 a0_1) := (blk_cell BK442.out 1).trans rfl; have hcz98_2 : w97.cell? ⟨gb442, 2, none⟩ = some (.slice A0_2 l0_2.length c0_2) := (blk_cell BK442.out 2).trans rfl; have hfz98_0 := blk_frozen BK442.out 0; have hfz98_1 := blk_frozen BK442.out 1; have hfz98_2 := blk_frozen BK442.out 2) | ((with_reducible refine gate_callee (f := 29) rfl ?_); refine goesL_ (some 104) rfl rfl Try.func29 (by kernel_rfl) rfl #[.agg #[.int .i64 a0_0, .int .i64 a0_1, .slice A0_2 l0_2.length c0_2]] rfl (by (try simp only [List.map_toArray, List.map_cons, List.map_nil]); first | done | rfl | (simp only [List.length_drop, List.length_take]; rfl)) ?_; (with_reducible refine (torusref30_Hall.calls kj63 a0_0 a0_1 _ _ l0_2 t496 t499 t502 _ ?side1 ?side2 A86.out).mono ?_); (case side1 => repeat (first | exact (Kd.C_below HR0_2.out HB.out) | (with_reducible refine Kd.C_alloc ?_ _) | (with_reducible refine Kd.C_drewN ?_ _) | (with_reducible refine Kd.C_drew ?_))); (case side2 => exact HC0_2.out); rintro e w99 ⟨v497, v500, rfl, ho0, ho1, hb⟩; refine ⟨_, rfl, ?_⟩; have n0_ := Aside0.mk (Kd.R_below (by (with_reducible repeat (first | apply Kd.R_alloc | apply Kd.R_drewN | apply Kd.R_drew)); exact HO_451002.out) hb); have n1_ := Aside0.mk (Kd.R_mono (Kd.R_told (Kd.R_told (Kd.R_old (by (with_reducible repeat (first | apply Kd.R_alloc | apply Kd.R_drewN | apply Kd.R_drew)); exact HO491.out) hb) (Kd.R_base ho0)) (Kd.R_base ho1)) (fun _ h_ => h_.1)); have n2_ := Aside0.mk (Kd.R_mono (Kd.R_told (Kd.R_told (Kd.R_old (by (with_reducible repeat (first | apply Kd.R_alloc | apply Kd.R_drewN | apply Kd.R_drew)); exact HO494.out) hb) (Kd.R_base ho0)) (Kd.R_base ho1)) (fun _ h_ => h_.1)); have n3_ := Aside0.mk (Kd.R_lower (Kd.R_new' (Kd.R_new' ho0 (Kd.R_lt (by (with_reducible repeat (first | apply Kd.R_alloc | apply Kd.R_drewN | apply Kd.R_drew)); exact HO491.out))) (Kd.R_lt (by (with_reducible repeat (first | apply Kd.R_alloc | apply Kd.R_drewN | apply Kd.R_drew)); exact HO494.out))) (below_size (by repeat (first | (with_reducible first | exact HB.out | apply below_alloc | apply pw_below_drewN | apply below_drew1 | refine below_set ?_ GE442.out | refine below_set ?_ GE450.out) | exact HB.out)))); have n4_ := Aside0.mk (Kd.R_lower (Kd.R_new' (Kd.R_new' ho1 (Kd.R_lt (by (with_reducible repeat (first | apply Kd.R_alloc | apply Kd.R_drewN | apply Kd.R_drew)); exact HO491.out))) (Kd.R_lt (by (with_reducible repeat (first | apply Kd.R_alloc | apply Kd.R_drewN | apply Kd.R_drew)); exact HO494.out))) (below_size (by repeat (first | (with_reducible first | exact HB.out | apply below_alloc | apply pw_below_drewN | apply below_drew1 | refine below_set ?_ GE442.out | refine below_set ?_ GE450.out) | exact HB.out)))); have n5_ := Aside0.mk (blk_below (g := gb442) (o := .cells #[.int .i64 a0_0, .int .i64 a0_1, .slice A0_2 l0_2.length c0_2] 27 (0, 0)) (by (with_reducible repeat (first | refine blk_drewN ?_ _ | refine blk_drew ?_ | refine blk_alloc ?_ _)); exact BK442.out) hb); have n6_ := Aside0.mk (blk_below (g := gb450) (o := .cells #[.int .i64 t445, .int .i64 t446, .slice Ao21 t447.length co21] 33 (0, 0)) (by (with_reducible repeat (first | refine blk_drewN ?_ _ | refine blk_drew ?_ | refine blk_alloc ?_ _)); exact BK450.out) hb); have n7_ := Aside0.mk (below_step (by repeat (first | (with_reducible first | exact HB.out | apply below_alloc | apply pw_below_drewN | apply below_drew1 | refine below_set ?_ GE442.out | refine below_set ?_ GE450.out) | exact HB.out)) hb); clear HO_451002; clear HO491; clear HO494; clear BK442; clear BK450; clear HB; have HO_451002 := n0_; have HO491 := n1_; have HO494 := n2_; have HO498 := n3_; have HO501 := n4_; have BK442 := n5_; have BK450 := n6_; have HB := n7_; clear n0_ n1_ n2_ n3_ n4_ n5_ n6_ n7_; (try clear hb); (try clear hb2); (try clear hk); (try clear hi); (try clear ho0); (try clear ho1); obtain ⟨Ao100, co100, eo100⟩ := Kd.R_slice HO491.out; subst eo100; obtain ⟨Ao101, co101, eo101⟩ := Kd.R_slice HO498.out; subst eo101) | ((with_reducible refine gate_callee (f := 17) rfl ?_); refine goesL_ (some 110) rfl rfl Try.func17 (by kernel_rfl) rfl #[.slice Ao100 t489.length co100, .slice Ao101 t496.length co101] rfl (by (try simp only [List.map_toArray, List.map_cons, List.map_nil]); first | done | rfl | (simp only [List.length_drop, List.length_take]; rfl)) ?_; (with_reducible refine (torusref01_Same.calls kj63 _ _ t489 _ _ t496 true _ ?side1 ?side2 ?side3 ?side4 A87.out).mono ?_); (case side1 => repeat (first | exact (Kd.R_reads' HO491.out).2.2 | (with_reducible refine Kd.C_alloc ?_ _) | (with_reducible refine Kd.C_drewN ?_ _) | (with_reducible refine Kd.C_drew ?_))); (case side2 => exact (Kd.R_reads' HO491.out).2.1); (case side3 => repeat (first | exact (Kd.R_reads' HO498.out).2.2 | (with_reducible refine Kd.C_alloc ?_ _) | (with_reducible refine Kd.C_drewN ?_ _) | (with_reducible refine Kd.C_drew ?_))); (case side4 => exact (Kd.R_reads' HO498.out).2.1); rintro e w' ⟨rfl, ⟨nd, rfl⟩⟩; refine ⟨_, rfl, ?_⟩; obtain ⟨Ao102, co102, eo102⟩ := Kd.R_slice HO494.out; subst eo102; obtain ⟨Ao103, co103, eo103⟩ := Kd.R_slice HO501.out; subst eo103) | (go_at_call 17; (with_reducible refine (torusref01_Same.calls kj63 _ _ t492 _ _ t499 true _ ?side1 ?side2 ?side3 ?side4 A89.out).mono ?_); (case side1 => repeat (first | exact (Kd.R_reads' HO494.out).2.2 | (with_reducible refine Kd.C_alloc ?_ _) | (with_reducible refine Kd.C_drewN ?_ _) | (with_reducible refine Kd.C_drew ?_))); (case side2 => exact (Kd.R_reads' HO494.out).2.1); (case side3 => repeat (first | exact (Kd.R_reads' HO501.out).2.2 | (with_reducible refine Kd.C_alloc ?_ _) | (with_reducible refine Kd.C_drewN ?_ _) | (with_reducible refine Kd.C_drew ?_))); (case side4 => exact (Kd.R_reads' HO501.out).2.1); rintro e w' ⟨rfl, ⟨nd, rfl⟩⟩; have hcz104_0 : w99.cell? ⟨gb450, 0, none⟩ = some (.int .i64 t445) := (blk_cell BK450.out 0).trans rfl; have hcz104_1 : w99.cell? ⟨gb450, 1, none⟩ = some (.int .i64 t446) := (blk_cell BK450.out 1).trans rfl; have hcz104_2 : w99.cell? ⟨gb450, 2, none⟩ = some (.slice Ao21 t447.length co21) := (blk_cell BK450.out 2).trans rfl; have hfz104_0 := blk_frozen BK450.out 0; have hfz104_1 := blk_frozen BK450.out 1; have hfz104_2 := blk_frozen BK450.out 2; have hcz105_0 : w99.cell? ⟨gb442, 0, none⟩ = some (.int .i64 a0_0) := (blk_cell BK442.out 0).trans rfl; have hcz105_1 : w99.cell? ⟨gb442, 1, none⟩ = some (.int .i64 a0_1) := (blk_cell BK442.out 1).trans rfl; have hcz105_2 : w99.cell? ⟨gb442, 2, none⟩ = some (.slice A0_2 l0_2.length c0_2) := (blk_cell BK442.out 2).trans rfl; have hfz105_0 := blk_frozen BK442.out 0; have hfz105_1 := blk_frozen BK442.out 1; have hfz105_2 := blk_frozen BK442.out 2) | (go_at_call 30; (with_reducible refine (torusref30_Same.calls kj63 t445 t446 _ _ t447 a0_0 a0_1 _ _ l0_2 true _ ?side1 ?side2 ?side3 ?side4 A92.out).mono ?_); (case side1 => repeat (first | exact (Kd.R_reads' HO_451002.out).2.2 | (with_reducible refine Kd.C_alloc ?_ _) | (with_reducible refine Kd.C_drewN ?_ _) | (with_reducible refine Kd.C_drew ?_))); (case side2 => exact (Kd.R_reads' HO_451002.out).2.1); (case side3 => repeat (first | exact (Kd.C_below HR0_2.out (by repeat (first | (with_reducible first | exact HB.out | apply below_alloc | apply pw_below_drewN | apply below_drew1 | refine below_set ?_ GE442.out | refine below_set ?_ GE450.out) | exact HB.out))) | (with_reducible refine Kd.C_alloc ?_ _) | (with_reducible refine Kd.C_drewN ?_ _) | (with_reducible refine Kd.C_drew ?_))); (case side4 => exact HC0_2.out); rintro e w106 ⟨rfl, hb⟩; have n0_ := Aside0.mk (Kd.R_below (by (with_reducible repeat (first | apply Kd.R_alloc | apply Kd.R_drewN | apply Kd.R_drew)); exact HO_451002.out) hb); have n1_ := Aside0.mk (Kd.R_below (by (with_reducible repeat (first | apply Kd.R_alloc | apply Kd.R_drewN | apply Kd.R_drew)); exact HO491.out) hb); have n2_ := Aside0.mk (Kd.R_below (by (with_reducible repeat (first | apply Kd.R_alloc | apply Kd.R_drewN | apply Kd.R_drew)); exact HO494.out) hb); have n3_ := Aside0.mk (Kd.R_below (by (with_reducible repeat (first | apply Kd.R_alloc | apply Kd.R_drewN | apply Kd.R_drew)); exact HO498.out) hb); have n4_ := Aside0.mk (Kd.R_below (by (with_reducible repeat (first | apply Kd.R_alloc | apply Kd.R_drewN | apply Kd.R_drew)); exact HO501.out) hb); have n5_ := Aside0.mk (blk_below (g := gb442) (o := .cells #[.int .i64 a0_0, .int .i64 a0_1, .slice A0_2 l0_2.length c0_2] 27 (0, 0)) (by (with_reducible repeat (first | refine blk_drewN ?_ _ | refine blk_drew ?_ | refine blk_alloc ?_ _)); exact BK442.out) hb); have n6_ := Aside0.mk (blk_below (g := gb450) (o := .cells #[.int .i64 t445, .int .i64 t446, .slice Ao21 t447.length co21] 33 (0, 0)) (by (with_reducible repeat (first | refine blk_drewN ?_ _ | refine blk_drew ?_ | refine blk_alloc ?_ _)); exact BK450.out) hb); have n7_ := Aside0.mk (below_step (by repeat (first | (with_reducible first | exact HB.out | apply below_alloc | apply pw_below_drewN | apply below_drew1 | refine below_set ?_ GE442.out | refine below_set ?_ GE450.out) | exact HB.out)) hb); clear HO_451002; clear HO491; clear HO494; clear HO498; clear HO501; clear BK442; clear BK450; clear HB; have HO_451002 := n0_; have HO491 := n1_; have HO494 := n2_; have HO498 := n3_; have HO501 := n4_; have BK442 := n5_; have BK450 := n6_; have HB := n7_; clear n0_ n1_ n2_ n3_ n4_ n5_ n6_ n7_; (try clear hb); (try clear hb2); (try clear hk); (try clear hi)) | (go_at_call 16; (with_reducible refine (toruslaw30_awake.calls  t506 _ A94.out).mono ?_); rintro e w107 ⟨rfl, hb⟩; have n0_ := Aside0.mk (Kd.R_below (by (with_reducible repeat (first | apply Kd.R_alloc | apply Kd.R_drewN | apply Kd.R_drew)); exact HO_451002.out) hb); have n1_ := Aside0.mk (Kd.R_below (by (with_reducible repeat (first | apply Kd.R_alloc | apply Kd.R_drewN | apply Kd.R_drew)); exact HO491.out) hb); have n2_ := Aside0.mk (Kd.R_below (by (with_reducible repeat (first | apply Kd.R_alloc | apply Kd.R_drewN | apply Kd.R_drew)); exact HO494.out) hb); have n3_ := Aside0.mk (Kd.R_below (by (with_reducible repeat (first | apply Kd.R_alloc | apply Kd.R_drewN | apply Kd.R_drew)); exact HO498.out) hb); have n4_ := Aside0.mk (Kd.R_below (by (with_reducible repeat (first | apply Kd.R_alloc | apply Kd.R_drewN | apply Kd.R_drew)); exact HO501.out) hb); have n5_ := Aside0.mk (blk_below (g := gb442) (o := .cells #[.int .i64 a0_0, .int .i64 a0_1, .slice A0_2 l0_2.length c0_2] 27 (0, 0)) (by (with_reducible repeat (first | refine blk_drewN ?_ _ | refine blk_drew ?_ | refine blk_alloc ?_ _)); exact BK442.out) hb); have n6_ := Aside0.mk (blk_below (g := gb450) (o := .cells #[.int .i64 t445, .int .i64 t446, .slice Ao21 t447.length co21] 33 (0, 0)) (by (with_reducible repeat (first | refine blk_drewN ?_ _ | refine blk_drew ?_ | refine blk_alloc ?_ _)); exact BK450.out) hb); have n7_ := Aside0.mk (below_step (by repeat (first | (with_reducible first | exact HB.out | apply below_alloc | apply pw_below_drewN | apply below_drew1 | refine below_set ?_ GE442.out | refine below_set ?_ GE450.out) | exact HB.out)) hb); clear HO_451002; clear HO491; clear HO494; clear HO498; clear HO501; clear BK442; clear BK450; clear HB; have HO_451002 := n0_; have HO491 := n1_; have HO494 := n2_; have HO498 := n3_; have HO501 := n4_; have BK442 := n5_; have BK450 := n6_; have HB := n7_; clear n0_ n1_ n2_ n3_ n4_ n5_ n6_ n7_; (try clear hb); (try clear hb2); (try clear hk); (try clear hi)))
                              go_ret
                              exact ⟨by first | rfl | (simp [errW_none, errW_some] <;> rfl) | (simp [*, errW_none, errW_some] <;> rfl), by repeat (first | (with_reducible first | exact HB.out | apply below_alloc | apply pw_below_drewN | apply below_drew1 | refine below_set ?_ GE442.out | refine below_set ?_ GE450.out) | exact HB.out)⟩
                            · replace c93 := Bool.eq_false_iff.mpr c93
                              subst c93
                              have H1 : (some false) = some r := by rw [if_neg (show ¬ (false = true) by decide)] at H; exact H
                              clear H
                              have H := H1
                              clear H1
                              exact absurd (Option.some.inj H) (by rw [hrt]; exact Bool.false_ne_true)
                          · rw [if_neg c91] at H
                            have c91b0 : (t495 == t502) = false := beq_eq_false_iff_ne.mpr c91
                            have c91b1 : (t495 != t502) = true := bne_iff_ne.mpr c91
                            exact absurd (Option.some.inj H) (by rw [hrt]; exact Bool.false_ne_true)
                        · replace c90 := Bool.eq_false_iff.mpr c90
                          subst c90
                          have H1 : (some false) = some r := by rw [if_neg (show ¬ (false = true) by decide)] at H; exact H
                          clear H
                          have H := H1
                          clear H1
                          exact absurd (Option.some.inj H) (by rw [hrt]; exact Bool.false_ne_true)
                      · replace c88 := Bool.eq_false_iff.mpr c88
                        subst c88
                        have H1 : (some false) = some r := by rw [if_neg (show ¬ (false = true) by decide)] at H; exact H
                        clear H
                        have H := H1
                        clear H1
                        exact absurd (Option.some.inj H) (by rw [hrt]; exact Bool.false_ne_true)
end Go.Proofs.Ytlleokhmgblfnaa.M
end

section
namespace Go.Proofs.Ytlleokhmgblfnaa.P
def cnt : Nat → (Int → Bool) → Nat
  | 0, _ => 0
  | n + 1, p => cnt n p + if p n then 1 else 0
theorem cnt_succ (n : Nat) (p : Int → Bool) : cnt (n + 1) p = cnt n p + if p n then 1 else 0 := rfl
theorem cnt_le (p : Int → Bool) : ∀ n, cnt n p ≤ n
  | 0 => Nat.le_refl _
  | n + 1 => by have := cnt_le p n; unfold cnt; split <;> omega
theorem cnt_congr {p q : Int → Bool} : ∀ n : Nat, (∀ i : Int, 0 ≤ i → i < n → p i = q i) → cnt n p = cnt n q
  | 0, _ => rfl
  | n + 1, h => by
    unfold cnt
    rw [cnt_congr n (fun i h0 h1 => h i h0 (by omega)), h n (by omega) (by omega)]
theorem cnt_mono {p q : Int → Bool} : ∀ n : Nat, (∀ i : Int, 0 ≤ i → i < n → p i = true → q i = true) → cnt n p ≤ cnt n q
  | 0, _ => Nat.le_refl _
  | n + 1, h => by
    unfold cnt
    have h1 := cnt_mono n (fun i h0 h1 => h i h0 (by omega))
    have h2 := h n (by omega) (by omega)
    by_cases hp : p n = true
    · rw [if_pos hp, if_pos (h2 hp)]; omega
    · rw [if_neg hp]; omega
theorem cnt_all {p : Int → Bool} (n : Nat) (h : ∀ i : Int, 0 ≤ i → i < n → p i = true) : cnt n p = n := by
  induction n with
  | zero => rfl
  | succ n ih =>
    unfold cnt
    rw [ih (fun i h0 h1 => h i h0 (by omega)), h n (by omega) (by omega)]
    rfl
theorem cnt_not (p : Int → Bool) : ∀ n, cnt n p + cnt n (fun i => !p i) = n
  | 0 => rfl
  | n + 1 => by
    have := cnt_not p n
    unfold cnt
    cases hp : p n <;> simp [hp] <;> omega
theorem cnt_split (p q : Int → Bool) : ∀ n, cnt n p = cnt n (fun i => p i && q i) + cnt n (fun i => p i && !q i)
  | 0 => rfl
  | n + 1 => by
    have := cnt_split p q n
    unfold cnt
    cases hp : p n <;> cases hq : q n <;> simp [hp, hq] <;> omega
theorem cnt_out (p : Int → Bool) (j : Int) : ∀ n : Nat, 0 ≤ j → j < n → p j = true → cnt n p = cnt n (fun i => p i && i != j) + 1
  | 0, h0, h1, _ => by omega
  | n + 1, h0, h1, hp => by
    unfold cnt
    by_cases e : j = n
    · subst e
      have : cnt n (fun i => p i && i != (n : Int)) = cnt n p := cnt_congr n (fun i h0 h1 => by
        have : (i != (n : Int)) = true := by simp; omega
        rw [this, Bool.and_true])
      rw [this, hp]
      simp
    · have := cnt_out p j n h0 (by omega) hp
      rw [this]
      have e2 : (p n && (n : Int) != j) = p n := by
        have : ((n : Int) != j) = true := by simp; omega
        rw [this, Bool.and_true]
      show _ = cnt n (fun i => p i && i != j) + (if (p n && (n : Int) != j) = true then 1 else 0) + 1
      rw [e2]
      omega
theorem cnt_put (p : Int → Bool) (j : Int) (n : Nat) (h0 : 0 ≤ j) (h1 : j < n) (hp : p j = false) : cnt n (fun i => p i || i == j) = cnt n p + 1 := by
  rw [cnt_out (fun i => p i || i == j) j n h0 h1 (by simp)]
  congr 1
  refine cnt_congr n (fun i _ _ => ?_)
  by_cases e : i = j
  · subst e; simp [hp]
  · have : (i == j) = false := by simpa using e
    simp [this, e]
theorem cnt_inj {p : Int → Bool} (f : Int → Int) (m : Nat) : ∀ (n : Nat) (q : Int → Bool), (∀ i : Int, 0 ≤ i → i < n → p i = true → 0 ≤ f i ∧ f i < m ∧ q (f i) = true) →
    (∀ i j : Int, 0 ≤ i → i < n → 0 ≤ j → j < n → p i = true → p j = true → f i = f j → i = j) → cnt n p ≤ cnt m q
  | 0, _, _, _ => Nat.zero_le _
  | n + 1, q, h, hi => by
    rw [cnt_succ]
    by_cases hp : p n = true
    · rw [if_pos hp]
      obtain ⟨a, b, c⟩ := h n (by omega) (by omega) hp
      rw [cnt_out q (f n) m a b c]
      have := cnt_inj f m n (fun i => q i && i != f n) (fun i h0 h1 hpi => by
        obtain ⟨a', b', c'⟩ := h i h0 (by omega) hpi
        refine ⟨a', b', ?_⟩
        have : f i ≠ f n := fun e => by have := hi i n h0 (by omega) (by omega) (by omega) hpi hp e; omega
        simp [c', this]) (fun i j a1 a2 a3 a4 a5 a6 a7 => hi i j a1 (by omega) a3 (by omega) a5 a6 a7)
      omega
    · rw [if_neg hp]
      exact cnt_inj f m n q (fun i h0 h1 => h i h0 (by omega)) (fun i j a1 a2 a3 a4 => hi i j a1 (by omega) a3 (by omega))
structure IsM (n R : Nat) (Adj : Int → Int → Prop) (M : Int → Int) : Prop where
  lt : ∀ v : Int, 0 ≤ v → v < n → 0 ≤ M v → M v < R
  adj : ∀ v : Int, 0 ≤ v → v < n → 0 ≤ M v → Adj v (M v)
  inj : ∀ v v' : Int, 0 ≤ v → v < n → 0 ≤ v' → v' < n → 0 ≤ M v → M v = M v' → v = v'
def has (M : Int → Int) (v : Int) : Bool := decide (0 ≤ M v)
def msize (n : Nat) (M : Int → Int) : Nat := cnt n (has M)
structure IsMax (n R : Nat) (Adj : Int → Int → Prop) (s : Nat) : Prop where
  some : ∃ M, IsM n R Adj M ∧ msize n M = s
  all : ∀ M, IsM n R Adj M → msize n M ≤ s
theorem IsMax.eq {n R : Nat} {Adj : Int → Int → Prop} {s t : Nat} (h : IsMax n R Adj s) (k : IsMax n R Adj t) : s = t := by
  obtain ⟨M, hM, e⟩ := h.some
  obtain ⟨M', hM', e'⟩ := k.some
  have := h.all M' hM'
  have := k.all M hM
  omega
theorem cover_bound {n R : Nat} {Adj : Int → Int → Prop} {M : Int → Int} (h : IsM n R Adj M) (CL CR : Int → Bool) (hc : ∀ v w : Int, 0 ≤ v → v < n → 0 ≤ w → w < R → Adj v w → CL v = true ∨ CR w = true) :
    msize n M ≤ cnt n CL + cnt R CR := by
  unfold msize
  rw [cnt_split (has M) CL n]
  have h1 : cnt n (fun i => has M i && CL i) ≤ cnt n CL := cnt_mono n (fun i _ _ hi => by simp at hi; exact hi.2)
  have h2 : cnt n (fun i => has M i && !CL i) ≤ cnt R CR := by
    refine cnt_inj M R n CR (fun i h0 h1 hp => ?_) (fun i j a1 a2 a3 a4 a5 a6 a7 => ?_)
    · simp [has] at hp
      refine ⟨hp.1, h.lt i h0 h1 hp.1, ?_⟩
      rcases hc i (M i) h0 h1 hp.1 (h.lt i h0 h1 hp.1) (h.adj i h0 h1 hp.1) with h3 | h3
      · rw [hp.2] at h3; cases h3
      · exact h3
    · simp [has] at a5
      exact h.inj i j a1 a2 a3 a4 a5.1 a7
  omega
end Go.Proofs.Ytlleokhmgblfnaa.P
namespace Go.Proofs.Ytlleokhmgblfnaa.P
open Go.RowKit Go.Proofs.YtlleokhmgblfnaaW.PrintWords Go.Proofs.Ytlleokhmgblfnaa.H
theorem rd_set (xs : List Int) (i j y : Int) (h0 : 0 ≤ i) (h1 : i < xs.length) (hj : 0 ≤ j) : rd (xs.set i.toNat y) j = if j = i then y else rd xs j := by
  unfold rd
  rw [List.getD_eq_getElem?_getD, List.getD_eq_getElem?_getD, List.getElem?_set]
  by_cases e : j = i
  · subst e
    rw [if_pos rfl, if_pos rfl, if_pos (by omega)]
    rfl
  · rw [if_neg (by omega), if_neg e]
theorem rd_set_eq {xs : List Int} {i y : Int} (h0 : 0 ≤ i) (h1 : i < xs.length) : rd (xs.set i.toNat y) i = y := by rw [rd_set xs i i y h0 h1 h0, if_pos rfl]
theorem rd_set_ne {xs : List Int} {i j y : Int} (h0 : 0 ≤ i) (h1 : i < xs.length) (hj : 0 ≤ j) (hne : j ≠ i) : rd (xs.set i.toNat y) j = rd xs j := by rw [rd_set xs i j y h0 h1 hj, if_neg hne]
theorem rd_mem {xs : List Int} {i : Int} (h0 : 0 ≤ i) (h1 : i < xs.length) : rd xs i ∈ xs := by
  unfold rd
  rw [List.getD_eq_getElem?_getD, List.getElem?_eq_getElem (by omega)]
  exact List.getElem_mem _
theorem mem_rd {xs : List Int} {x : Int} (h : x ∈ xs) : ∃ i : Int, 0 ≤ i ∧ i < xs.length ∧ rd xs i = x := by
  obtain ⟨i, hi, e⟩ := List.getElem_of_mem h
  exact ⟨i, by omega, by omega, by simp [rd, hi, e]⟩
theorem extG_mono_k (next : List (List Int)) (v j : Int) (m b l : List Int) : ∀ k, LeO ((fun k => extG next k v j m b l) k) ((fun k => extG next k v j m b l) (k + 1)) := fun k => extG_mono next k v j m b l
def NV (next : List (List Int)) (R : Nat) : Prop := ∀ v : Int, 0 ≤ v → v < next.length → ∀ w ∈ rdL next v, 0 ≤ w ∧ w < R
structure Hole (next : List (List Int)) (R : Nat) (m b : List Int) (h : Int) : Prop where
  lm : m.length = next.length
  lb : b.length = R
  mm : ∀ v : Int, 0 ≤ v → v < next.length → 0 ≤ rd m v → rd m v < R ∧ rd m v ∈ rdL next v ∧ rd b (rd m v) = v ∧ rd m v ≠ h
  bb : ∀ w : Int, 0 ≤ w → w < R → w ≠ h → 0 ≤ rd b w → rd b w < next.length ∧ rd m (rd b w) = w
theorem Hole.fill {next : List (List Int)} {R : Nat} {m b : List Int} {w v : Int} (h : Hole next R m b w) (hv0 : 0 ≤ v) (hv1 : v < next.length) (hw0 : 0 ≤ w) (hw1 : w < R) (ha : w ∈ rdL next v) :
    Hole next R (m.set v.toNat w) (b.set w.toNat v) (rd m v) := by
  have l1 := h.lm
  have l2 := h.lb
  refine ⟨by rw [List.length_set]; exact l1, by rw [List.length_set]; exact l2, fun x hx0 hx1 hx => ?_, fun y hy0 hy1 hne hy => ?_⟩
  · by_cases e : x = v
    · subst e
      rw [rd_set_eq hx0 (by omega)] at hx ⊢
      refine ⟨hw1, ha, by rw [rd_set_eq hw0 (by omega)], fun e2 => ?_⟩
      exact (h.mm x hx0 hx1 (e2 ▸ hw0)).2.2.2 e2.symm
    · rw [rd_set_ne hv0 (by omega) hx0 e] at hx ⊢
      obtain ⟨a1, a2, a3, a4⟩ := h.mm x hx0 hx1 hx
      refine ⟨a1, a2, by rw [rd_set_ne hw0 (by omega) hx a4]; exact a3, fun e2 => ?_⟩
      by_cases hv : 0 ≤ rd m v
      · have := (h.mm v hv0 hv1 hv).2.2.1
        rw [← e2, a3] at this
        exact e this
      · omega
  · by_cases e : y = w
    · subst e
      rw [rd_set_eq hy0 (by omega)] at hy ⊢
      exact ⟨hv1, by rw [rd_set_eq hv0 (by omega)]⟩
    · rw [rd_set_ne hw0 (by omega) hy0 e] at hy ⊢
      obtain ⟨a1, a2⟩ := h.bb y hy0 hy1 e hy
      refine ⟨a1, ?_⟩
      rw [rd_set_ne hv0 (by omega) hy]
      · exact a2
      · intro e2
        rw [e2] at a2
        exact hne a2.symm
theorem Hole.other {next : List (List Int)} {R : Nat} {m b : List Int} {w : Int} (h : Hole next R m b (-1)) (hw0 : 0 ≤ w) (hw1 : w < R) (hb : rd b w < 0) : Hole next R m b w :=
  ⟨h.lm, h.lb, fun v a c d => ⟨(h.mm v a c d).1, (h.mm v a c d).2.1, (h.mm v a c d).2.2.1, fun e => by have := (h.mm v a c d).2.2.1; rw [e] at this; omega⟩, fun y a c _ d => h.bb y a c (by omega) d⟩
theorem Hole.neg {next : List (List Int)} {R : Nat} {m b : List Int} {w : Int} (h : Hole next R m b w) (hw : w < 0) : Hole next R m b (-1) :=
  ⟨h.lm, h.lb, fun v a c d => ⟨(h.mm v a c d).1, (h.mm v a c d).2.1, (h.mm v a c d).2.2.1, by omega⟩, fun y a c _ d => h.bb y a c (by omega) d⟩
def Base (n : Nat) (l0 l : List Int) : Prop := ∀ x : Int, 0 ≤ x → x < n → rd l x = rd l0 x ∨ rd l x = -1
def DC (next : List (List Int)) (b l0 l : List Int) : Prop :=
  ∀ x : Int, 0 ≤ x → x < next.length → 0 ≤ rd l0 x → rd l x = -1 → ∀ w ∈ rdL next x, 0 ≤ rd b w ∧ (rd l0 (rd b w) = rd l0 x + 1 → rd l (rd b w) = -1)
structure ExtSpec (next : List (List Int)) (R : Nat) (m b l : List Int) (v : Int) (q : Bool × List Int × List Int × List Int) : Prop where
  ll : q.2.2.2.length = next.length
  lv : ∀ x : Int, 0 ≤ x → x < next.length → rd q.2.2.2 x = rd l x ∨ (rd q.2.2.2 x = -1 ∧ (x = v ∨ rd l v < rd l x))
  ok : q.1 = true → Hole next R q.2.1 q.2.2.1 (rd m v) ∧ (∀ x : Int, 0 ≤ x → x < next.length → (0 ≤ rd q.2.1 x ↔ 0 ≤ rd m x ∨ x = v)) ∧ (∀ x : Int, 0 ≤ x → x < next.length → rd l x < rd l v → rd q.2.1 x = rd m x)
  no : q.1 = false → q.2.1 = m ∧ q.2.2.1 = b ∧ rd q.2.2.2 v = -1
  dc : q.1 = false → ∀ l0, Base next.length l0 l → DC next b l0 l → DC next b l0 q.2.2.2
theorem ext_spec {next : List (List Int)} {R : Nat} (hn : next.length ≤ 35184372088832) (hNV : NV next R) {m b : List Int} (hg : Hole next R m b (-1)) :
    ∀ (d : Nat) (v : Int) (l : List Int), 0 ≤ v → v < next.length → l.length = next.length → (∀ x : Int, 0 ≤ x → x < next.length → -1 ≤ rd l x ∧ rd l x ≤ next.length) → 0 ≤ rd l v → (next.length : Int) < rd l v + d →
      ∃ K q, extG next K v 0 m b l = some q ∧ ExtSpec next R m b l v q := by
  intro d
  induction d with
  | zero => intro v l h0 h1 h2 h3 h4 h5; have := h3 v h0 h1; omega
  | succ d ih =>
    intro v l hv0 hv1 hl hL hlv hd
    have wr : wrap64 (rd l v + 1) = rd l v + 1 := by have := hL v hv0 hv1; unfold wrap64; omega
    have key : ∀ (e : Nat) (j : Int) (l' : List Int), (rdL next v).length ≤ j + e → 0 ≤ j → l'.length = next.length → rd l' v = rd l v →
        (∀ x : Int, 0 ≤ x → x < next.length → rd l' x = rd l x ∨ (rd l' x = -1 ∧ rd l v < rd l x)) →
        (∀ j' : Int, 0 ≤ j' → j' < j → 0 ≤ rd b (rd (rdL next v) j')) →
        (∀ l0, Base next.length l0 l → DC next b l0 l → DC next b l0 l' ∧ (∀ j' : Int, 0 ≤ j' → j' < j → rd l0 (rd b (rd (rdL next v) j')) = rd l0 v + 1 → rd l' (rd b (rd (rdL next v) j')) = -1)) →
        ∃ K q, extG next K v j m b l' = some q ∧ ExtSpec next R m b l v q := by
      intro e
      induction e with
      | zero =>
        intro j l' he hj hl' hlv' hlx hs hp
        refine ⟨1, (false, m, b, l'.set v.toNat (-1)), by rw [extG, if_neg (by omega)], ?_⟩
        refine ⟨by simpa using hl', fun x h0 h1 => ?_, (fun h => by cases h), fun _ => ⟨rfl, rfl, rd_set_eq hv0 (by omega)⟩, fun _ l0 hb0 hd0 => ?_⟩
        · by_cases ex : x = v
          · subst ex
            exact .inr ⟨rd_set_eq h0 (by omega), .inl rfl⟩
          · show rd (l'.set v.toNat (-1)) x = _ ∨ (rd (l'.set v.toNat (-1)) x = -1 ∧ _)
            rw [rd_set_ne hv0 (by omega) h0 ex]
            rcases hlx x h0 h1 with h | ⟨h, h'⟩
            · exact .inl h
            · exact .inr ⟨h, .inr h'⟩
        · obtain ⟨p1, p2⟩ := hp l0 hb0 hd0
          intro x h0 h1 h2 h3 w hw
          show 0 ≤ rd b w ∧ (_ → rd (l'.set v.toNat (-1)) (rd b w) = -1)
          by_cases ex : x = v
          · subst ex
            obtain ⟨i, i0, i1, rfl⟩ := mem_rd hw
            have hb := hs i i0 (by omega)
            refine ⟨hb, fun h4 => ?_⟩
            have h5 := p2 i i0 (by omega) h4
            by_cases ey : rd b (rd (rdL next x) i) = x
            · rw [ey]; exact rd_set_eq h0 (by omega)
            · rw [rd_set_ne h0 (by omega) hb ey]; exact h5
          · have h3' : rd l' x = -1 := by
              have : rd (l'.set v.toNat (-1)) x = -1 := h3
              rwa [rd_set_ne hv0 (by omega) h0 ex] at this
            obtain ⟨hb, h5⟩ := p1 x h0 h1 h2 h3' w hw
            refine ⟨hb, fun h4 => ?_⟩
            by_cases ey : rd b w = v
            · rw [ey]; exact rd_set_eq hv0 (by omega)
            · rw [rd_set_ne hv0 (by omega) hb ey]; exact h5 h4
      | succ e ihe =>
        intro j l' he hj hl' hlv' hlx hs hp
        by_cases hlt : j < (rdL next v).length
        case neg => exact ihe j l' (by omega) hj hl' hlv' hlx hs hp
        obtain ⟨x, hx⟩ : ∃ x, rd (rdL next v) j = x := ⟨_, rfl⟩
        have hxm : x ∈ rdL next v := hx ▸ rd_mem hj hlt
        obtain ⟨hx0, hx1⟩ := hNV v hv0 hv1 x hxm
        obtain ⟨u, hu⟩ : ∃ u, rd b x = u := ⟨_, rfl⟩
        have hlb := hg.lb
        have hlm := hg.lm
        by_cases hu0 : u < 0
        · refine ⟨1, (true, m.set v.toNat x, b.set x.toNat v, l'), by rw [extG, if_pos hlt, hx, if_pos hx0, if_pos (by omega), hu, if_pos hu0], ?_⟩
          refine ⟨hl', fun y h0 h1 => ?_, fun _ => ⟨(hg.other hx0 hx1 (by omega)).fill hv0 hv1 hx0 hx1 hxm, fun y h0 h1 => ?_, fun y h0 h1 h2 => ?_⟩, (fun h => by cases h), (fun h => by cases h)⟩
          · rcases hlx y h0 h1 with h | ⟨h, h'⟩
            · exact .inl h
            · exact .inr ⟨h, .inr h'⟩
          · show 0 ≤ rd (m.set v.toNat x) y ↔ _
            by_cases ey : y = v
            · subst ey; rw [rd_set_eq h0 (by omega)]; simp [hx0]
            · rw [rd_set_ne hv0 (by omega) h0 ey]; simp [ey]
          · exact rd_set_ne hv0 (by omega) h0 (fun ey => by rw [ey] at h2; omega)
        have hu0' : 0 ≤ u := by omega
        obtain ⟨hun, hum⟩ := hg.bb x hx0 hx1 (by omega) (by omega)
        rw [hu] at hun hum
        by_cases hlu : rd l' u = wrap64 (rd l' v + 1)
        · have hlu2 : rd l' u = rd l v + 1 := by rw [hlu, hlv', wr]
          have hL' : ∀ y : Int, 0 ≤ y → y < next.length → -1 ≤ rd l' y ∧ rd l' y ≤ next.length := fun y h0 h1 => by
            rcases hlx y h0 h1 with h | ⟨h, _⟩
            · rw [h]; exact hL y h0 h1
            · rw [h]; omega
          obtain ⟨K1, q, hq, S⟩ := ih u l' hu0' hun hl' hL' (by omega) (by omega)
          have hqx : ∀ y : Int, 0 ≤ y → y < next.length → rd q.2.2.2 y = rd l y ∨ (rd q.2.2.2 y = -1 ∧ rd l v < rd l y) := fun y h0 h1 => by
            rcases S.lv y h0 h1 with h | ⟨h, h' | h'⟩
            · rw [h]; exact hlx y h0 h1
            · rcases hlx y h0 h1 with h2 | ⟨h2, _⟩
              · exact .inr ⟨h, by rw [h'] at h2 ⊢; omega⟩
              · rw [h'] at h2; omega
            · rcases hlx y h0 h1 with h2 | ⟨h2, _⟩
              · exact .inr ⟨h, by omega⟩
              · omega
          obtain ⟨q0, qm, qb, ql⟩ := q
          cases q0 with
          | true =>
            obtain ⟨s1, s2, s3⟩ := S.ok rfl
            refine ⟨K1 + 1, (true, qm.set v.toNat x, qb.set x.toNat v, ql), by rw [extG, if_pos hlt, hx, if_pos hx0, if_pos (by omega), hu, if_neg hu0, if_pos (by omega), if_pos hun, if_pos hlu, hq], ?_⟩
            rw [hum] at s1
            have e1 : rd qm v = rd m v := s3 v hv0 hv1 (by omega)
            have lqm : qm.length = next.length := s1.lm
            refine ⟨S.ll, fun y h0 h1 => ?_, fun _ => ⟨?_, fun y h0 h1 => ?_, fun y h0 h1 h2 => ?_⟩, (fun h => by cases h), (fun h => by cases h)⟩
            · rcases hqx y h0 h1 with h | ⟨h, h'⟩
              · exact .inl h
              · exact .inr ⟨h, .inr h'⟩
            · have := s1.fill hv0 hv1 hx0 hx1 hxm
              rw [e1] at this
              exact this
            · show 0 ≤ rd (qm.set v.toNat x) y ↔ _
              by_cases ey : y = v
              · subst ey; rw [rd_set_eq h0 (by omega)]; simp [hx0]
              · rw [rd_set_ne hv0 (by omega) h0 ey, s2 y h0 h1]
                constructor
                · rintro (h | h)
                  · exact .inl h
                  · subst h; exact .inl (by omega)
                · rintro (h | h)
                  · exact .inl h
                  · exact absurd h ey
            · have ey : y ≠ v := fun ey => by rw [ey] at h2; omega
              show rd (qm.set v.toNat x) y = _
              rw [rd_set_ne hv0 (by omega) h0 ey]
              refine s3 y h0 h1 ?_
              rcases hlx y h0 h1 with h | ⟨h, h'⟩
              · omega
              · omega
          | false =>
            obtain ⟨s1, s2, s3⟩ := S.no rfl
            have s1' : qm = m := s1
            have s2' : qb = b := s2
            subst s1' s2'
            have hqv : rd ql v = rd l v := by
              rcases hqx v hv0 hv1 with h | ⟨h, h'⟩
              · exact h
              · omega
            obtain ⟨K2, q2, hq2, S2⟩ := ihe (j + 1) ql (by omega) (by omega) S.ll hqv hqx
              (fun j' h0 h1 => by
                by_cases ej : j' = j
                · subst ej; rw [hx, hu]; exact hu0'
                · exact hs j' h0 (by omega))
              (fun l0 hb0 hd0 => by
                obtain ⟨p1, p2⟩ := hp l0 hb0 hd0
                have hb1 : Base next.length l0 l' := fun y h0 h1 => by
                  rcases hlx y h0 h1 with h | ⟨h, _⟩
                  · rw [h]; exact hb0 y h0 h1
                  · exact .inr h
                refine ⟨S.dc rfl l0 hb1 p1, fun j' h0 h1 h2 => ?_⟩
                by_cases ej : j' = j
                · subst ej; rw [hx, hu]; exact s3
                · have h3 := p2 j' h0 (by omega) h2
                  have hb3 := hs j' h0 (by omega)
                  have hm3 : rd (rdL next v) j' ∈ rdL next v := rd_mem h0 (by omega)
                  obtain ⟨w0, w1⟩ := hNV v hv0 hv1 _ hm3
                  obtain ⟨b1, _⟩ := hg.bb _ w0 w1 (by omega) hb3
                  rcases S.lv _ hb3 b1 with h | ⟨h, _⟩
                  · exact h.trans h3
                  · exact h)
            refine ⟨max K1 K2 + 1, q2, ?_, S2⟩
            have a1 := at_rounds (extG_mono_k next u 0 qm qb l') (Nat.le_max_left K1 K2) hq
            have a2 := at_rounds (extG_mono_k next v (j + 1) qm qb ql) (Nat.le_max_right K1 K2) hq2
            rw [extG, if_pos hlt, hx, if_pos hx0, if_pos (by omega), hu, if_neg hu0, if_pos (by omega), if_pos hun, if_pos hlu, a1]
            exact a2
        · obtain ⟨K2, q2, hq2, S2⟩ := ihe (j + 1) l' (by omega) (by omega) hl' hlv' hlx
            (fun j' h0 h1 => by
              by_cases ej : j' = j
              · subst ej; rw [hx, hu]; exact hu0'
              · exact hs j' h0 (by omega))
            (fun l0 hb0 hd0 => by
              obtain ⟨p1, p2⟩ := hp l0 hb0 hd0
              refine ⟨p1, fun j' h0 h1 h2 => ?_⟩
              by_cases ej : j' = j
              · subst ej
                rw [hx, hu] at h2 ⊢
                rw [hlv', wr] at hlu
                have b1 := hb0 u hu0' hun
                have b2 := hb0 v hv0 hv1
                have b3 := hlx u hu0' hun
                omega
              · exact p2 j' h0 (by omega) h2)
          refine ⟨K2 + 1, q2, ?_, S2⟩
          rw [extG, if_pos hlt, hx, if_pos hx0, if_pos (by omega), hu, if_neg hu0, if_pos (by omega), if_pos hun, if_neg hlu]
          exact hq2
    exact key (rdL next v).length 0 l (by omega) (by omega) hl rfl (fun x _ _ => .inl rfl) (fun j' h0 h1 => by omega) (fun l0 hb hd => ⟨hd, fun j' h0 h1 => by omega⟩)
end Go.Proofs.Ytlleokhmgblfnaa.P
end
