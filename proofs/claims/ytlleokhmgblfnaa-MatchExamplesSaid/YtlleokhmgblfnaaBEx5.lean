/- A part of the proof: texts of this seat joined (printed and by hand), without what is not used. -/
import Derived.Test.YtlleokhmgblfnaaBEx4
set_option linter.unusedVariables false
set_option linter.unusedSimpArgs false
set_option linter.unusedSectionVars false
section
namespace Go.Proofs.Ytlleokhmgblfnaa.M
open Go.RowKit Go.Proofs.YtlleokhmgblfnaaW.PrintWords Go.Proofs.YtlleokhmgblfnaaW.PrintLast Go.Proofs.YtlleokhmgblfnaaW.PrintMore
attribute [local go_sem] max2_int min2_int max_two min_two max_three min_three max_four min_four
def match_Graph_neighbours.l0 : Nat → List (List Int) → List (S40) → Int → Int → Option ((List (List Int)))
 | 0, _, _, _, _ => none
 | k + 1, x3, x10, x11, x12 => if x12 < x11 then (if 0 ≤ x12 then (if x12 < (x10.length : Int) then (if 0 ≤ ((rd_T40 x10 x12).f0) then (if ((rd_T40 x10 x12).f0) < (x3.length : Int) then (if (rd_L5 x3 ((rd_T40 x10 x12).f0)).length < 17592186044416 then (match_Graph_neighbours.l0 k (x3.set (((rd_T40 x10 x12).f0) : Int).toNat ((rd_L5 x3 ((rd_T40 x10 x12).f0)) ++ [(rd_T40 x10 x12).f1])) x10 x11 (wrap64 (x12 + 1))) else (none)) else (none)) else (none)) else (none)) else (none)) else (some x3)
def match_Graph_neighbours.f (k : Nat) (a0_0 : Int) (a0_1 : Int) (l0_2 : List (S40)) : Option ((List (List Int))) := if 0 ≤ a0_0 then (if (a0_0 : Int).toNat ≤ 11728124029610 then (match_Graph_neighbours.l0 k (List.replicate (a0_0 : Int).toNat []) l0_2 (l0_2.length : Int) 0) else (none)) else (none)
theorem match_Graph_neighbours.mono_l : ∀ k, (∀ y0 y1 y2 y3, LeO (match_Graph_neighbours.l0 k y0 y1 y2 y3) (match_Graph_neighbours.l0 (k + 1) y0 y1 y2 y3))
 | 0 => fun _ _ _ _ r h => by simp [match_Graph_neighbours.l0] at h
 | k + 1 => by
  have ih0 := match_Graph_neighbours.mono_l k
  ·intro y0 y1 y2 y3
   unfold match_Graph_neighbours.l0
   repeat' first
   | (with_reducible exact ih0 _ _ _ _)
   | (with_reducible exact LeO.refl _)
   | (with_reducible exact LeO.none _)
   | (with_reducible refine LeO.ite ?_ ?_)
   | (with_reducible refine LeO.bind ?_ (fun _ => ?_))
   | exact ih0 _ _ _ _
   | exact LeO.none _
   | refine LeO.ite ?_ ?_
   | refine LeO.bind ?_ (fun _ => ?_)
theorem match_Graph_neighbours.mono : ∀ a0 a1 a2 k, LeO (match_Graph_neighbours.f k a0 a1 a2) (match_Graph_neighbours.f (k + 1) a0 a1 a2) := by
 intro a0 a1 a2 k
 have ih0 := match_Graph_neighbours.mono_l k
 unfold match_Graph_neighbours.f
 repeat' first
   | (with_reducible exact ih0 _ _ _ _)
   | (with_reducible exact LeO.refl _)
   | (with_reducible exact LeO.none _)
   | (with_reducible refine LeO.ite ?_ ?_)
   | (with_reducible refine LeO.bind ?_ (fun _ => ?_))
   | exact ih0 _ _ _ _
   | exact LeO.none _
   | refine LeO.ite ?_ ?_
   | refine LeO.bind ?_ (fun _ => ?_)
def match_Graph_neighbours.T5 : Bool × List (List Nat × List Nat) := (true, [([], []), ([], []), ([1], [1]), ([], []), ([], []), ([4], [4]), ([3, 5], [3, 5]), ([6], [6]), ([], []), ([8], [8]), ([9], [9]), ([7, 10], [7, 10]), ([0, 2, 0, 1, 2, 3, 4, 5, 6, 7, 8, 9, 10, 11], [0, 2]), ([12, 11, 11, 0, 1, 2, 3, 4, 5, 6, 7, 8, 9, 10, 11], [11, 12])])
def match_Graph_neighbours.B5 : List Nat := [0, 0, 2, 0, 0, 16, 56, 120, 0, 256, 768, 2040, 4095, 8191]
theorem match_Graph_neighbours.tab5 : rtab .any (opsOf Try.f42 5) = match_Graph_neighbours.T5 := by kernel_rfl
theorem match_Graph_neighbours.bits5 : waitsOk match_Graph_neighbours.T5.2 match_Graph_neighbours.B5 = true := by kernel_rfl
set_option maxHeartbeats 8000000 in
set_option maxRecDepth 100000 in
theorem match_Graph_neighbours.calls (k : Nat) (a0_0 : Int) (a0_1 : Int) (A0_2 : Option Addr) (c0_2 : Nat) (l0_2 : List (S40)) (r : List (List Int)) (w : World) (hr0_2 : Kd.C k40 w A0_2 l0_2.length l0_2) (hc0_2 : l0_2.length ≤ c0_2) (h : match_Graph_neighbours.f k a0_0 a0_1 l0_2 = some r) :
  Calls Try.prog 42 #[.agg #[.int .i64 a0_0, .int .i64 a0_1, .slice A0_2 l0_2.length c0_2]] w fun e w' => ∃ v0_ : Value, e = .returned (v0_) ∧ Kd.S (Kd.slice 3 (Kd.int .i64)) 29 w' w.heap.size (fun _ => True) v0_ r ∧ Below w.heap.size w w' := by
 have hu33 := Try.underlying33
 have hu40 := Try.underlying40
 have HR0_2 := As.mk hr0_2
 have HC0_2 := As.mk hc0_2
 clear hr0_2 hc0_2
 have HB := As.mk (Below.refl w.heap.size w)
 have H : (if 0 ≤ a0_0 then (if (a0_0 : Int).toNat ≤ 11728124029610 then (match_Graph_neighbours.l0 k (List.replicate (a0_0 : Int).toNat []) l0_2 (l0_2.length : Int) 0) else (none)) else (none)) = some r := h
 clear h
 by_cases c2 : 0 ≤ a0_0
 ·rw [if_pos c2] at H
  have c2b0 := eq_true c2
  have c2b1 : decide (0 ≤ a0_0) = true := decide_eq_true c2
  clear c2
  by_cases c3 : (a0_0 : Int).toNat ≤ 11728124029610
  ·rw [if_pos c3] at H
   have c3b0 := eq_true c3
   have c3b1 : decide ((a0_0 : Int).toNat ≤ 11728124029610) = true := decide_eq_true c3
   clear c3
   obtain ⟨y151, hy151⟩ : ∃ y_ : List (List Int), y_ = (List.replicate (a0_0 : Int).toNat []) := ⟨_, rfl⟩
   replace H : (match_Graph_neighbours.l0 k y151 l0_2 (l0_2.length : Int) 0) = some r := by first | (rw [hy151]; with_reducible exact H) | (have H2_ := (Option.bind_some _ _).symm.trans H; rw [hy151]; with_reducible exact H2_) | (have H2_ := (Option.bind_some _ _).symm.trans H; with_reducible exact H2_) | with_reducible exact H | (rw [hy151]; exact H) | exact H
   have Ny151 := As.mk hy151
   clear hy151
   have H' := As.mk H
   clear H
   go_enter Try.func42, Try.ntmps42
   go_wp2_with (first | ((with_reducible refine gate_dst (N := 1) rfl ?_); refine box_event ?hg (N := 1) ?hd (cs := #[.int .i64 a0_0, .int .i64 a0_1, .slice A0_2 l0_2.length c0_2]) (t := 33) ?hr ?_; (case hd => rfl); (case hg => rfl); (case hr => first | (go_simp; done) | (go_simp; rfl)); intro gb150 hg w4 hbox hb; have n0_ := As.mk (below_step (hup0 HB.out) hb); have n1_ := As.mk (hbox); have n2_ := As.mk ((by rw [hg]; exact (below_size (hup0 HB.out)) : w.heap.size ≤ gb150)); have n3_ := As.mk ((by rw [hg]; exact (below_size (hup0 HB.out)) : w.heap.size ≤ gb150)); clear HB; have HB := n0_; have BK150 := n1_; have GW150 := n2_; have GE150 := n3_; clear n0_ n1_ n2_ n3_; clear hb hbox hg; have hcz5_0 : w4.cell? ⟨gb150, 0, none⟩ = some (.int .i64 a0_0) := (blk_cell BK150.out 0).trans rfl; have hcz5_1 : w4.cell? ⟨gb150, 1, none⟩ = some (.int .i64 a0_1) := (blk_cell BK150.out 1).trans rfl; have hcz5_2 : w4.cell? ⟨gb150, 2, none⟩ = some (.slice A0_2 l0_2.length c0_2) := (blk_cell BK150.out 2).trans rfl; have hfz5_0 := blk_frozen BK150.out 0; have hfz5_1 := blk_frozen BK150.out 1; have hfz5_2 := blk_frozen BK150.out 2) | ((with_reducible refine gate_dst (N := 8) rfl ?_); refine Kd.S_make (Kd.slice 3 (Kd.int .i64)) _ 29 rfl (N := 8) rfl 69 _ _ rfl a0_0 rfl rfl Try.underlying69 (.slice none 0 0) 24 info29 rfl (by decide) (by omega) [] (ok := fun _ => True) (okp := fun _ => True) ⟨_, rfl, Kd.R_nil _ _ _ _ _⟩ (fun _ hk => hk) trivial (of_decide_eq_true (by first | (with_reducible assumption) | assumption)) (Nat.le_trans (Nat.mul_le_mul_right _ (of_decide_eq_true (by first | (with_reducible assumption) | assumption) : a0_0.toNat ≤ 11728124029610)) (by omega)) (Below.refl _ _) (Nat.le_refl _) ?_; intro v152 w6 ho7 hb hg_ hnew_; clear hg_ hnew_; (first | rw [← Ny151.out] at ho7 | (simp only [Int.reduceToNat] at ho7; rw [← Ny151.out] at ho7)); have n0_ := As.mk (Kd.S_lower ho7 (below_size (hup1 HB.out GE150.out))); have n1_ := As.mk (blk_below (g := gb150) (o := .cells #[.int .i64 a0_0, .int .i64 a0_1, .slice A0_2 l0_2.length c0_2] 33 (0, 0)) (bup BK150.out) hb); have n2_ := As.mk (below_step (hup1 HB.out GE150.out) hb); clear BK150; clear HB; have HO153 := n0_; have BK150 := n1_; have HB := n2_; clear n0_ n1_ n2_; clear hb ho7; have hcz8_0 : w6.cell? ⟨gb150, 0, none⟩ = some (.int .i64 a0_0) := (blk_cell BK150.out 0).trans rfl; have hcz8_1 : w6.cell? ⟨gb150, 1, none⟩ = some (.int .i64 a0_1) := (blk_cell BK150.out 1).trans rfl; have hcz8_2 : w6.cell? ⟨gb150, 2, none⟩ = some (.slice A0_2 l0_2.length c0_2) := (blk_cell BK150.out 2).trans rfl; have hfz8_0 := blk_frozen BK150.out 0; have hfz8_1 := blk_frozen BK150.out 1; have hfz8_2 := blk_frozen BK150.out 2))
   go_loopg [12] k (fun kq v12 w' => ∃ (x3_1 : List (List Int)) (x12_1 : Int), v12 = .int .i64 x12_1 ∧ As (match_Graph_neighbours.l0 kq x3_1 l0_2 (l0_2.length : Int) x12_1 = some r) ∧ As (kq ≤ k) ∧ As (Kd.S (Kd.slice 3 (Kd.int .i64)) 29 w' w.heap.size (fun _ => True) v152 x3_1) ∧ As (w'.heap[gb150]? = some (.cells #[.int .i64 a0_0, .int .i64 a0_1, (.slice A0_2 l0_2.length c0_2)] 33 (0, 0))) ∧ As (Below w.heap.size w w'))
   case atStart => exact ⟨(y151), (0), (by first | rfl | (simp; done) | (simp [*]; done)), H', ⟨Nat.le_refl _⟩, ⟨by (with_reducible repeat (first | apply Kd.S_alloc | apply Kd.S_drewN | apply Kd.S_drew)); exact HO153.out⟩, ⟨by (with_reducible repeat (first | refine blk_drewN ?_ _ | refine blk_drew ?_ | refine blk_alloc ?_ _)); exact BK150.out⟩, ⟨by repeat (first | (with_reducible first | exact HB.out | apply below_alloc | apply pw_below_drewN | apply below_drew1 | refine below_set ?_ GE150.out) | exact HB.out)⟩⟩
   case round =>
    clear H'
    try clear c2
    try clear c2b0
    try clear c2b1
    try clear p2
    try clear c3
    try clear c3b0
    try clear c3b1
    try clear c4
    try clear hcz5_0
    try clear hcz5_1
    try clear hcz5_2
    try clear hcz8_0
    try clear hcz8_1
    try clear hcz8_2
    try clear hfz5_0
    try clear hfz5_1
    try clear hfz5_2
    try clear hfz8_0
    try clear hfz8_1
    try clear hfz8_2
    obtain ⟨x3_1, x12_1, rfl, HA, HK1, HO_3, BK150, HB⟩ := hrel
    cases gk with
    | zero => exact absurd HA.out (by simp [match_Graph_neighbours.l0])
    | succ k1 =>
     have H := HA.out
     clear HA
     simp only [match_Graph_neighbours.l0] at H
     by_cases c9 : x12_1 < (l0_2.length : Int)
     ·rw [if_pos c9] at H
      have c9b0 : decide (x12_1 < (l0_2.length : Int)) = true := decide_eq_true c9
      clear c9
      by_cases c10 : 0 ≤ x12_1
      ·rw [if_pos c10] at H
       have c10b0 : decide (0 ≤ x12_1) = true := decide_eq_true c10
       clear c10
       by_cases c11 : x12_1 < (l0_2.length : Int)
       ·rw [if_pos c11] at H
        have c11b0 : decide (x12_1 < (l0_2.length : Int)) = true := decide_eq_true c11
        clear c11
        by_cases c12 : 0 ≤ ((rd_T40 l0_2 x12_1).f0)
        ·rw [if_pos c12] at H
         have c12b0 : decide (0 ≤ ((rd_T40 l0_2 x12_1).f0)) = true := decide_eq_true c12
         clear c12
         by_cases c13 : ((rd_T40 l0_2 x12_1).f0) < (x3_1.length : Int)
         ·rw [if_pos c13] at H
          have c13b0 : decide (((rd_T40 l0_2 x12_1).f0) < (x3_1.length : Int)) = true := decide_eq_true c13
          clear c13
          by_cases c14 : (rd_L5 x3_1 ((rd_T40 l0_2 x12_1).f0)).length < 17592186044416
          ·rw [if_pos c14] at H
           have LMc14 := As.mk c14
           clear c14
           obtain ⟨y157, hy157⟩ : ∃ y_ : List Int, y_ = ((rd_L5 x3_1 ((rd_T40 l0_2 x12_1).f0)) ++ [(rd_T40 l0_2 x12_1).f1]) := ⟨_, rfl⟩
           replace H : (match_Graph_neighbours.l0 k1 (x3_1.set (((rd_T40 l0_2 x12_1).f0) : Int).toNat y157) l0_2 (l0_2.length : Int) (wrap64 (x12_1 + 1))) = some r := by first | (rw [hy157]; with_reducible exact H) | (have H2_ := (Option.bind_some _ _).symm.trans H; rw [hy157]; with_reducible exact H2_) | (have H2_ := (Option.bind_some _ _).symm.trans H; with_reducible exact H2_) | with_reducible exact H | (rw [hy157]; exact H) | exact H
           have Ny157 := As.mk hy157
           clear hy157
           obtain ⟨y160, hy160⟩ : ∃ y_ : List (List Int), y_ = (x3_1.set (((rd_T40 l0_2 x12_1).f0) : Int).toNat y157) := ⟨_, rfl⟩
           replace H : (match_Graph_neighbours.l0 k1 y160 l0_2 (l0_2.length : Int) (wrap64 (x12_1 + 1))) = some r := by first | (rw [hy160]; with_reducible exact H) | (have H2_ := (Option.bind_some _ _).symm.trans H; rw [hy160]; with_reducible exact H2_) | (have H2_ := (Option.bind_some _ _).symm.trans H; with_reducible exact H2_) | with_reducible exact H | (rw [hy160]; exact H) | exact H
           have Ny160 := As.mk hy160
           clear hy160
           have H' := As.mk H
           clear H
           have p154 : 0 ≤ (x12_1 : Int) := of_decide_eq_true (by first | (with_reducible assumption) | assumption)
           have q154 : x12_1 < (l0_2.length : Int) := of_decide_eq_true (by first | (with_reducible assumption) | assumption)
           obtain ⟨ad154, e154, hx154_0, hx154_1⟩ := at_T40 HR0_2.out x12_1 p154 q154
           cases e154
           replace hx154_0 := (HB.out.cell (World.block_lt_of_cell? w _ hx154_0)).trans hx154_0
           replace hx154_1 := (HB.out.cell (World.block_lt_of_cell? w _ hx154_1)).trans hx154_1
           replace p154 := eq_true p154
           replace q154 := eq_true q154
           try go_wp2_with (first | ((with_reducible refine gate_dst (N := 5) rfl ?_); refine box_event ?hg (N := 5) ?hd (cs := #[.int .i64 0, .int .i64 0]) (t := 40) ?hr ?_; (case hd => rfl); (case hg => rfl); (case hr => first | (go_simp; done) | (go_simp; rfl)); intro gb155 hg w16 hbox hb; have n0_ := As.mk (Kd.S_below (sup HO_3.out) hb); have n1_ := As.mk (blk_below (g := gb150) (o := .cells #[.int .i64 a0_0, .int .i64 a0_1, .slice (some ad154) l0_2.length c0_2] 33 (0, 0)) (bup BK150.out) hb); have n2_ := As.mk (below_step (hup1 HB.out GE150.out) hb); have n3_ := As.mk (hbox); have n4_ := As.mk ((by rw [hg]; exact (below_size (hup1 HB.out GE150.out)) : w.heap.size ≤ gb155)); have n5_ := As.mk ((by rw [hg]; exact (below_size (hup1 HB.out GE150.out)) : w.heap.size ≤ gb155)); have n6_ := As.mk ((by rw [hg]; exact Nat.ne_of_lt (blk_lt (g := gb150) (o := .cells #[.int .i64 a0_0, .int .i64 a0_1, .slice (some ad154) l0_2.length c0_2] 33 (0, 0)) (bup BK150.out)) : gb150 ≠ gb155)); have n7_ := As.mk ((by rw [hg]; exact Nat.ne_of_gt (blk_lt (g := gb150) (o := .cells #[.int .i64 a0_0, .int .i64 a0_1, .slice (some ad154) l0_2.length c0_2] 33 (0, 0)) (bup BK150.out)) : gb155 ≠ gb150)); clear HO_3; clear BK150; clear HB; have HO_3 := n0_; have BK150 := n1_; have HB := n2_; have BK155 := n3_; have GW155 := n4_; have GE155 := n5_; have NB150_155 := n6_; have NB155_150 := n7_; clear n0_ n1_ n2_ n3_ n4_ n5_ n6_ n7_; clear hb hbox hg; have hnb17 := NB155_150.out; have hnc17 := NB150_155.out; have hcz18_0 : w16.cell? ⟨gb155, 0, none⟩ = some (.int .i64 0) := (blk_cell BK155.out 0).trans rfl; have hcz18_1 : w16.cell? ⟨gb155, 1, none⟩ = some (.int .i64 0) := (blk_cell BK155.out 1).trans rfl; have hfz18_0 := blk_frozen BK155.out 0; have hfz18_1 := blk_frozen BK155.out 1))
           have n0_ : As (Kd.S (Kd.slice 3 (Kd.int .i64)) 29 ((w16.setCell ⟨gb155, 0, none⟩ (.int .i64 ((rd_T40 l0_2 x12_1).f0))).setCell ⟨gb155, 1, none⟩ (.int .i64 ((rd_T40 l0_2 x12_1).f1))) w.heap.size (fun _ => True) v152 x3_1) := ⟨by (with_reducible repeat (first | apply Kd.S_alloc | apply Kd.S_drewN | apply Kd.S_drew)); exact Kd.S_mono (Kd.S_far (p := ⟨gb155, 1, none⟩) (Kd.S_far (p := ⟨gb155, 0, none⟩) (Kd.S_types HO_3.out BK155.out (by decide)) (fun _ hk => hk.2) (.int .i64 ((rd_T40 l0_2 x12_1).f0))) (fun _ hk => hk.2) (.int .i64 ((rd_T40 l0_2 x12_1).f1))) (fun _ hk => trivial)⟩
           have n1_ : As (((w16.setCell ⟨gb155, 0, none⟩ (.int .i64 ((rd_T40 l0_2 x12_1).f0))).setCell ⟨gb155, 1, none⟩ (.int .i64 ((rd_T40 l0_2 x12_1).f1))).heap[gb150]? = some (.cells #[.int .i64 a0_0, .int .i64 a0_1, .slice (some ad154) l0_2.length c0_2] 33 (0, 0))) := ⟨by (with_reducible repeat (first | refine blk_drewN ?_ _ | refine blk_drew ?_ | refine blk_alloc ?_ _)); refine blk_far ?_ NB150_155.out _; (with_reducible repeat (first | refine blk_drewN ?_ _ | refine blk_drew ?_ | refine blk_alloc ?_ _)); refine blk_far ?_ NB150_155.out _; (with_reducible repeat (first | refine blk_drewN ?_ _ | refine blk_drew ?_ | refine blk_alloc ?_ _)); exact BK150.out⟩
           have n2_ : As (((w16.setCell ⟨gb155, 0, none⟩ (.int .i64 ((rd_T40 l0_2 x12_1).f0))).setCell ⟨gb155, 1, none⟩ (.int .i64 ((rd_T40 l0_2 x12_1).f1))).heap[gb155]? = some (.cells #[.int .i64 ((rd_T40 l0_2 x12_1).f0), .int .i64 ((rd_T40 l0_2 x12_1).f1)] 40 (0, 0))) := ⟨by (with_reducible repeat (first | refine blk_drewN ?_ _ | refine blk_drew ?_ | refine blk_alloc ?_ _)); refine blk_put (cs := #[.int .i64 ((rd_T40 l0_2 x12_1).f0), .int .i64 0]) ?_ 1 _ rfl; (with_reducible repeat (first | refine blk_drewN ?_ _ | refine blk_drew ?_ | refine blk_alloc ?_ _)); refine blk_put (cs := #[.int .i64 0, .int .i64 0]) ?_ 0 _ rfl; (with_reducible repeat (first | refine blk_drewN ?_ _ | refine blk_drew ?_ | refine blk_alloc ?_ _)); exact BK155.out⟩
           have n3_ : As (Below w.heap.size w ((w16.setCell ⟨gb155, 0, none⟩ (.int .i64 ((rd_T40 l0_2 x12_1).f0))).setCell ⟨gb155, 1, none⟩ (.int .i64 ((rd_T40 l0_2 x12_1).f1)))) := ⟨by repeat (first | (with_reducible first | exact HB.out | apply below_alloc | apply pw_below_drewN | apply below_drew1 | refine below_set ?_ GE150.out | refine below_set ?_ GE155.out) | exact HB.out)⟩
           (try clear HO_3)
           (try clear BK150)
           (try clear BK155)
           (try clear HB)
           generalize ((w16.setCell ⟨gb155, 0, none⟩ (.int .i64 ((rd_T40 l0_2 x12_1).f0))).setCell ⟨gb155, 1, none⟩ (.int .i64 ((rd_T40 l0_2 x12_1).f1))) = w19 at n0_ n1_ n2_ n3_ ⊢
           have HO_3 := n0_
           have BK150 := n1_
           have BK155 := n2_
           have HB := n3_
           clear n0_ n1_ n2_ n3_
           have n0_ := As.mk (Kd.S_drew HO_3.out)
           have n1_ := As.mk (blk_drew BK150.out)
           have n2_ := As.mk (blk_drew BK155.out)
           have n3_ := As.mk (below_drew1 HB.out)
           clear HO_3
           clear BK150
           clear BK155
           clear HB
           have HO_3 := n0_
           have BK150 := n1_
           have BK155 := n2_
           have HB := n3_
           clear n0_ n1_ n2_ n3_
           obtain ⟨Ao21, co21, eo21⟩ := Kd.S_slice HO_3.out
           (first | subst eo21 | (injection eo21 with f1_ f2_ f3_; have f4_ := f1_.symm; have f5_ := f3_.symm; clear f1_ f2_ f3_; subst f4_; subst f5_))
           have p156 : 0 ≤ (((rd_T40 l0_2 x12_1).f0) : Int) := of_decide_eq_true (by first | (with_reducible assumption) | assumption)
           have q156 : ((rd_T40 l0_2 x12_1).f0) < (x3_1.length : Int) := of_decide_eq_true (by first | (with_reducible assumption) | assumption)
           obtain ⟨ad156, A156_0, c156_0, e156, hx156_0, hl156_0, hi156_0⟩ := at_L5 (Kd.S_reads' HO_3.out).2.2 ((rd_T40 l0_2 x12_1).f0) p156 q156
           cases e156
           obtain ⟨ce156, hce156, hMe156, hcc156⟩ := Kd.S_get HO_3.out [] ((rd_T40 l0_2 x12_1).f0) p156 (by first | exact q156 | exact of_decide_eq_true (by first | (with_reducible assumption) | assumption) | (have e_ := (Kd.S_reads' HO_3.out).1; omega))
           obtain ⟨ve156_0, rfl, ge156_0⟩ := hMe156
           have hv156_0 := hcc156 0 _ rfl
           rw [Nat.add_zero, show ((Kd.slice 3 (Kd.int .i64))).sz = 1 from rfl, Nat.mul_one] at hv156_0
           replace hv156_0 := Option.some.inj (hv156_0.symm.trans hx156_0)
           rw [hv156_0] at ge156_0
           have HL156_0 := As.mk (show Kd.R (Kd.int .i64) 3 _ _ _ _ (rd_L5 x3_1 ((rd_T40 l0_2 x12_1).f0)) from ge156_0)
           clear hv156_0 ge156_0
           have HX156_0 := As.mk hx156_0
           clear hcc156 hce156
           have HR156_0 := As.mk hi156_0
           have HC156_0 := As.mk hl156_0
           clear hi156_0 hl156_0
           replace p156 := eq_true p156
           replace q156 := eq_true q156
           obtain ⟨go22, co22, eo22, gb22, gl22, cl22, HG22⟩ := Kd.S_form HO_3.out (by have h_ : (((rd_T40 l0_2 x12_1).f0) : Int) < ((x3_1.length : Int) : Int) := of_decide_eq_true (by first | (with_reducible assumption) | assumption); have h2_ : 0 ≤ (((rd_T40 l0_2 x12_1).f0) : Int) := (of_decide_eq_true (by first | (with_reducible assumption) | assumption)); omega)
           (first | cases eo22 | (injection eo22 with ea_ en_ ec_; (first | subst ea_ | (injection ea_ with ea_; subst ea_)); subst ec_; clear en_))
           have GB22 := As.mk gb22
           have GG22 := As.mk HG22
           clear gb22 gl22 HG22
           (first | simp only [add_plain] at hx156_0 | skip)
           obtain ⟨oki22, ce22, hcl22, hM22, hcc22, _, _, hH22⟩ := Kd.S_elem HO_3.out [] (((rd_T40 l0_2 x12_1).f0) : Int) (of_decide_eq_true (by first | (with_reducible assumption) | assumption)) (by have h_ : (((rd_T40 l0_2 x12_1).f0) : Int) < ((x3_1.length : Int) : Int) := of_decide_eq_true (by first | (with_reducible assumption) | assumption); first | exact h_ | (have e_ := (Kd.S_reads' HO_3.out).1; omega) | simpa using h_)
           obtain ⟨ve22_0, rfl, ge22_0⟩ := hM22
           have hv22 := hcc22 0 _ rfl
           have hX22 := HX156_0.out
           (try simp only [add_plain] at hX22)
           (try simp only [Nat.add_zero] at hv22)
           (try rw [show ((Kd.slice 3 (Kd.int .i64))).sz = 1 from rfl, Nat.mul_one] at hv22)
           replace hv22 := Option.some.inj (hv22.symm.trans hX22)
           subst hv22
           clear hX22 hcc22 hcl22
           have UU22 := As.mk (show Kd.R (Kd.int .i64) 3 _ w.heap.size oki22 (.slice A156_0 (rd_L5 x3_1 ((rd_T40 l0_2 x12_1).f0)).length c156_0) (rd_L5 x3_1 ((rd_T40 l0_2 x12_1).f0)) from ge22_0)
           have HH22 := As.mk hH22
           have HN22 := As.mk (Kd.S_reads' HO_3.out).1
           clear hH22 ge22_0
           refine start_ (n := 14) (S := fun w' => w'.cell? ⟨gb155, 0, none⟩ = some (.int .i64 ((rd_T40 l0_2 x12_1).f0)) ∧ w'.cell? ⟨gb155, 1, none⟩ = some (.int .i64 ((rd_T40 l0_2 x12_1).f1)) ∧ w'.cell? ⟨go22, (((rd_T40 l0_2 x12_1).f0)).toNat, none⟩ = some (.slice A156_0 (rd_L5 x3_1 ((rd_T40 l0_2 x12_1).f0)).length c156_0)) (ds := [13]) #[false, false, false, false, false, false, false, false, false, false, false, false, false, false] (by kernel_rfl) rfl rfl ⟨(blk_cell BK155.out 0).trans rfl, (blk_cell BK155.out 1).trans rfl, hx156_0⟩ (fun hHeld => ?_); refine with_tabW match_Graph_neighbours.tab5 match_Graph_neighbours.bits5 (fun HT_ HW_ => ?_)
           generalize w19.drew = w20 at HO_3 BK150 BK155 HB GG22 HH22 HL156_0 HR156_0 HX156_0 UU22 hx156_0 hHeld ⊢
           refine pure_ (i := 0) (N := some 16) (v := ?_) (a' := ?_) #[true, false, false, false, false, false, false, false, false, false, false, false, false, false] rfl rfl (any_of HT_.out (by kernel_rfl)) (fun _ _ _ h => h) (Or.inl ⟨by rfl, ?_⟩) ?_ ?_
           rotate_left
           ·intro w'
            go_simp
            with_reducible rfl
           rotate_left
           ·simp only [Act.put, List.setIfInBounds_toArray, List.set_cons_zero, List.set_cons_succ, i64_w, i32_w]
            rfl
           refine pure_ (i := 1) (N := some 17) (v := ?_) (a' := ?_) #[true, true, false, false, false, false, false, false, false, false, false, false, false, false] rfl rfl (any_of HT_.out (by kernel_rfl)) (fun _ _ _ h => h) (Or.inl ⟨by rfl, ?_⟩) ?_ ?_
           rotate_left
           ·intro w'
            go_simp
            with_reducible rfl
           rotate_left
           ·simp only [Act.put, List.setIfInBounds_toArray, List.set_cons_zero, List.set_cons_succ, i64_w, i32_w]
            rfl
           refine pure_ (i := 3) (N := some 19) (v := ?_) (a' := ?_) #[true, true, false, true, false, false, false, false, false, false, false, false, false, false] rfl rfl (any_of HT_.out (by kernel_rfl)) (fun _ _ _ h => h) (Or.inl ⟨by rfl, ?_⟩) ?_ ?_
           rotate_left
           ·intro w'
            go_simp
            with_reducible rfl
           rotate_left
           ·simp only [Act.put, List.setIfInBounds_toArray, List.set_cons_zero, List.set_cons_succ, i64_w, i32_w]
            rfl
           refine pure_ (i := 4) (N := some 20) (v := ?_) (a' := ?_) #[true, true, false, true, true, false, false, false, false, false, false, false, false, false] rfl rfl (any_of HT_.out (by kernel_rfl)) (fun _ _ _ h => h) (Or.inl ⟨by rfl, ?_⟩) ?_ ?_
           rotate_left
           ·intro w'
            go_simp
            with_reducible rfl
           rotate_left
           ·simp only [Act.put, List.setIfInBounds_toArray, List.set_cons_zero, List.set_cons_succ, i64_w, i32_w]
            rfl
           refine pure_ (i := 8) (N := some 24) (v := ?_) (a' := ?_) #[true, true, false, true, true, false, false, false, true, false, false, false, false, false] rfl rfl (any_of HT_.out (by kernel_rfl)) (fun _ _ _ h => h) (Or.inl ⟨by rfl, ?_⟩) ?_ ?_
           rotate_left
           ·intro w'
            go_simp
            with_reducible rfl
           rotate_left
           ·simp only [Act.put, List.setIfInBounds_toArray, List.set_cons_zero, List.set_cons_succ, i64_w, i32_w]
            rfl
           refine take_ (i := 2) (N := some 18) (v := ?_) (a' := ?_) #[true, true, true, true, true, false, false, false, true, false, false, false, false, false] rfl rfl (take_ofW HT_.out HW_.out (by kernel_rfl)) (fun _ _ _ h => h) (Or.inl ⟨by rfl, ?_⟩) hHeld ?_ ?_
           rotate_left
           ·rintro w' ⟨s0, s1, s2⟩
            go_simp
            with_reducible rfl
           rotate_left
           ·simp only [Act.put, List.setIfInBounds_toArray, List.set_cons_zero, List.set_cons_succ, i64_w, i32_w]
            rfl
           refine take_ (i := 5) (N := some 21) (v := ?_) (a' := ?_) #[true, true, true, true, true, true, false, false, true, false, false, false, false, false] rfl rfl (take_ofW HT_.out HW_.out (by kernel_rfl)) (fun _ _ _ h => h) (Or.inl ⟨by rfl, ?_⟩) hHeld ?_ ?_
           rotate_left
           ·rintro w' ⟨s0, s1, s2⟩
            go_simp
            with_reducible rfl
           rotate_left
           ·simp only [Act.put, List.setIfInBounds_toArray, List.set_cons_zero, List.set_cons_succ, i64_w, i32_w]
            rfl
           refine pure_ (i := 6) (N := some 22) (v := ?_) (a' := ?_) #[true, true, true, true, true, true, true, false, true, false, false, false, false, false] rfl rfl (any_of HT_.out (by kernel_rfl)) (fun _ _ _ h => h) (Or.inl ⟨by rfl, ?_⟩) ?_ ?_
           rotate_left
           ·intro w'
            go_simp
            with_reducible rfl
           rotate_left
           ·simp only [Act.put, List.setIfInBounds_toArray, List.set_cons_zero, List.set_cons_succ, i64_w, i32_w]
            rfl
           refine take_ (i := 7) (N := some 23) (v := ?_) (a' := ?_) #[true, true, true, true, true, true, true, true, true, false, false, false, false, false] rfl rfl (take_ofW HT_.out HW_.out (by kernel_rfl)) (fun _ _ _ h => h) (Or.inl ⟨by rfl, ?_⟩) hHeld ?_ ?_
           rotate_left
           ·rintro w' ⟨s0, s1, s2⟩
            go_simp
            with_reducible rfl
           rotate_left
           ·simp only [Act.put, List.setIfInBounds_toArray, List.set_cons_zero, List.set_cons_succ, i64_w, i32_w]
            rfl
           refine take_ (i := 9) (N := some 25) (v := ?_) (a' := ?_) #[true, true, true, true, true, true, true, true, true, true, false, false, false, false] rfl rfl (take_ofW HT_.out HW_.out (by kernel_rfl)) (fun _ _ _ h => h) (Or.inl ⟨by rfl, ?_⟩) hHeld ?_ ?_
           rotate_left
           ·rintro w' ⟨s0, s1, s2⟩
            go_simp
            with_reducible rfl
           rotate_left
           ·simp only [Act.put, List.setIfInBounds_toArray, List.set_cons_zero, List.set_cons_succ, i64_w, i32_w]
            rfl
           refine one_ (i := 10) (N := some 26) #[true, true, true, true, true, true, true, true, true, true, true, false, false, false] rfl rfl (one_of HT_.out (by kernel_rfl)) (by decide) (fun K hK => ?_)
           refine value_ (w1 := ?_) (v := ?_) (by rfl) rfl ?_ ?_
           rotate_left 2
           ·go_simp
            constructor
            ·rfl
            ·rfl
           refine hK.out _ _ ⟨(blk_cell (blk_alloc BK155.out _) 0).trans rfl, (blk_cell (blk_alloc BK155.out _) 1).trans rfl, (World.cell?_alloc_lt _ _ _ (World.block_lt_of_cell? _ _ (hHeld.2.2))).trans (hHeld.2.2)⟩ (fun hHeld => ?_)
           clear hK K
           refine norm_ (a' := ?_) ?_ ?_
           rotate_left
           ·show Act.put _ (some 26) _ = _
            simp only [Act.put, List.setIfInBounds_toArray, List.set_cons_zero, List.set_cons_succ, i64_w, i32_w]
            rfl
           refine one_ (i := 11) (N := some 27) #[true, true, true, true, true, true, true, true, true, true, true, true, false, false] rfl rfl (one_of HT_.out (by kernel_rfl)) (by decide) (fun K hK => ?_)
           refine Kd.R_append_step (Kd.int .i64) (w0 := w) w.heap.size (by rfl) (.tmp 23) (.tmp 26) 29 3 (.int .i64 0) 8 rfl Try.underlying29 info3 rfl (by decide) (by omega) (.slice A156_0 (rd_L5 x3_1 ((rd_T40 l0_2 x12_1).f0)).length c156_0) (rd_L5 x3_1 ((rd_T40 l0_2 x12_1).f0)) ((rd_T40 l0_2 x12_1).f1) [.int .i64 ((rd_T40 l0_2 x12_1).f1)] (fun k_ => oki22 k_ ∨ ((fun _ => True)) k_ ∧ w20.heap.size ≤ k_) (fun _ => False) rfl rfl ?aP (fun _ hk => hk.elim) ?aF ?aO ?aB ?aS ?aL ?_
           (case aP => exact rfl)
           (case aB => exact (hup2 HB.out GE150.out GE155.out))
           (case aF => exact (fun k_ hk => .inr ⟨trivial, hk⟩))
           (case aO => exact (by (with_reducible repeat (first | apply Kd.R_alloc | apply Kd.R_drewN | apply Kd.R_drew)); exact Kd.R_mono UU22.out (fun _ hk => .inl hk)))
           (case aS => exact (below_size (hup2 HB.out GE150.out GE155.out)))
           (case aL => have := LMc14.out; omega)
           intro v158 w23 ho hb hg hat
           (first | have HS2_ := cell_grown hg (hHeld.2.2) (by first | (rw [add_block]; exact (fun e_ => ((HL156_0.out.1 _ e_.symm).2) rfl)) | (show some (Addr.add _ _).block ≠ _; rw [add_block]; exact (fun e_ => ((HL156_0.out.1 _ e_.symm).2) rfl)) | exact (fun e_ => ((HL156_0.out.1 _ e_.symm).2) rfl)) | have HS2_ := cell_grown hg (cell_unalloc (hHeld.2.2) (by first | (rw [add_block]; exact Kd.S_lt HO_3.out _ rfl) | (show (Addr.add _ _).block < _; rw [add_block]; exact Kd.S_lt HO_3.out _ rfl) | exact Kd.S_lt HO_3.out _ rfl)) (by first | (rw [add_block]; exact (fun e_ => ((HL156_0.out.1 _ e_.symm).2) rfl)) | (show some (Addr.add _ _).block ≠ _; rw [add_block]; exact (fun e_ => ((HL156_0.out.1 _ e_.symm).2) rfl)) | exact (fun e_ => ((HL156_0.out.1 _ e_.symm).2) rfl)))
           rw [← Ny157.out] at ho
           have n0_ := As.mk (blk_grown (g := gb150) (o := .cells #[.int .i64 a0_0, .int .i64 a0_1, .slice (some ad154) l0_2.length c0_2] 33 (0, 0)) (bup BK150.out) hg (Kd.R_ne HL156_0.out BK150.out (by decide)))
           have n1_ := As.mk (blk_grown (g := gb155) (o := .cells #[.int .i64 ((rd_T40 l0_2 x12_1).f0), .int .i64 ((rd_T40 l0_2 x12_1).f1)] 40 (0, 0)) (bup BK155.out) hg (Kd.R_ne HL156_0.out BK155.out (by decide)))
           have n2_ := As.mk (hb)
           have n3_ := As.mk (Kd.H_grown (Kd.H_widen (by repeat (first | exact HH22.out | refine Kd.H_alloc ?_ _ | refine Kd.H_drewN ?_ _ | refine Kd.H_drew ?_))) hg (fun k_ e_ => .inl (UU22.out.1 k_ e_)))
           have n4_ := As.mk (ho)
           clear BK150
           clear BK155
           clear HB
           clear HH22
           clear HO_3
           clear UU22
           clear HL156_0
           have BK150 := n0_
           have BK155 := n1_
           have HB := n2_
           have HH22 := n3_
           have HO159 := n4_
           clear n0_ n1_ n2_ n3_ n4_
           clear ho hb hg hat
           have p15 : 0 ≤ (((rd_T40 l0_2 x12_1).f0) : Int) := of_decide_eq_true (by first | (with_reducible assumption) | assumption)
           have q15 : (((rd_T40 l0_2 x12_1).f0) : Int) < ((x3_1.length : Int) : Int) := of_decide_eq_true (by first | (with_reducible assumption) | assumption)
           replace p15 := eq_true p15
           replace q15 := eq_true q15
           obtain ⟨Ao26, co26, eo26⟩ := Kd.R_slice HO159.out
           (first | subst eo26 | (injection eo26 with f1_ f2_ f3_; have f4_ := f1_.symm; have f5_ := f3_.symm; clear f1_ f2_ f3_; subst f4_; subst f5_))
           obtain ⟨_, _, hraw24, _, _, hcc24, _⟩ := Kd.H_raw HH22.out (of_decide_eq_true (by first | (with_reducible assumption) | assumption)) (by have h_ : (((rd_T40 l0_2 x12_1).f0) : Int) < ((x3_1.length : Int) : Int) := of_decide_eq_true (by first | (with_reducible assumption) | assumption); first | exact h_ | (have e_ := (HN22.out); omega) | simpa using h_)
           obtain ⟨_, hfr24⟩ := Kd.H_at HH22.out (of_decide_eq_true (by first | (with_reducible assumption) | assumption)) (by have h_ : (((rd_T40 l0_2 x12_1).f0) : Int) < ((x3_1.length : Int) : Int) := of_decide_eq_true (by first | (with_reducible assumption) | assumption); first | exact h_ | (have e_ := (HN22.out); omega) | simpa using h_)
           have hx24_0 := hcc24 0 _ rfl
           have hf24_0 := hfr24 0
           (try simp only [Nat.add_zero] at hx24_0 hf24_0)
           (try rw [show ((Kd.slice 3 (Kd.int .i64))).sz = 1 from rfl, Nat.mul_one] at hx24_0)
           (try rw [show ((Kd.slice 3 (Kd.int .i64))).sz = 1 from rfl, Nat.mul_one] at hf24_0)
           have HP24 := Kd.S_seg0 HH22.out (of_decide_eq_true (by first | (with_reducible assumption) | assumption)) (by have h_ : (((rd_T40 l0_2 x12_1).f0) : Int) < ((x3_1.length : Int) : Int) := of_decide_eq_true (by first | (with_reducible assumption) | assumption); first | exact h_ | (have e_ := (HN22.out); omega) | simpa using h_) (seg := [.slice Ao26 y157.length co26]) (j := 0) (show 1 ≤ 1 from by decide) (x' := y157) (Kd.M_row HO159.out) (fun _ hk => hk)
           (try simp only [show ((Kd.slice 3 (Kd.int .i64))).sz = 1 from rfl, Nat.mul_one, Nat.add_zero] at HP24)
           clear hcc24 hfr24
           have HNB150_go22 := As.mk (show gb150 ≠ go22 from by have h_ := Kd.R_ne hraw24 BK150.out (by decide); intro e_; exact h_ (by rw [e_]; rfl))
           have HNB155_go22 := As.mk (show gb155 ≠ go22 from by have h_ := Kd.R_ne hraw24 BK155.out (by decide); intro e_; exact h_ (by rw [e_]; rfl))
           have HS24 := HP24.1
           rw [← Ny160.out] at HS24
           have HQ24 := As.mk HS24
           obtain ⟨_, hgg24⟩ := Kd.R_typed hraw24 go22 rfl
           have GG24_ := As.mk hgg24
           clear HP24 HS24 hgg24
           refine hK.out _ _ ⟨(blk_cell BK155.out 0).trans rfl, (blk_cell BK155.out 1).trans rfl, HS2_⟩ (fun hHeld => ?_)
           clear hK K
           refine norm_ (a' := ?_) ?_ ?_
           rotate_left
           ·show Act.put _ (some 27) _ = _
            simp only [Act.put, List.setIfInBounds_toArray, List.set_cons_zero, List.set_cons_succ, i64_w, i32_w]
            rfl
           refine pure_ (i := 12) (N := some 28) (v := ?_) (a' := ?_) #[true, true, true, true, true, true, true, true, true, true, true, true, true, false] rfl rfl (any_of HT_.out (by kernel_rfl)) (fun _ _ _ h => h) (Or.inl ⟨by rfl, ?_⟩) ?_ ?_
           rotate_left
           ·intro w'
            go_simp
            with_reducible rfl
           rotate_left
           ·simp only [Act.put, List.setIfInBounds_toArray, List.set_cons_zero, List.set_cons_succ, i64_w, i32_w]
            rfl
           refine last_ (i := 13) (N := none) #[true, true, true, true, true, true, true, true, true, true, true, true, true, true] rfl rfl (one_of HT_.out (by kernel_rfl)) (by decide) (fun K hK => ?_)
           refine skip_ (w1 := ?_) (by rfl) rfl ?_ ?_
           rotate_left
           ·go_simp
            rfl
           refine hK.out _ _ ?_
           clear hK K
           refine done_ (done_of HT_.out (by kernel_rfl)) ?_
           try go_wp2
           go_roundg k1
           case measure => have := HK1.out; omega
           case rel => exact ⟨(y160), (wrap64 (x12_1 + 1)), (by first | rfl | (simp; done) | (simp [*]; done)), H', ⟨by have := HK1.out; omega⟩, ⟨by (with_reducible repeat (first | apply Kd.S_alloc | apply Kd.S_drewN | apply Kd.S_drew)); exact HQ24.out⟩, ⟨by (with_reducible repeat (first | refine blk_drewN ?_ _ | refine blk_drew ?_ | refine blk_alloc ?_ _)); refine blk_far ?_ HNB150_go22.out _; (with_reducible repeat (first | refine blk_drewN ?_ _ | refine blk_drew ?_ | refine blk_alloc ?_ _)); exact BK150.out⟩, ⟨by repeat (first | (with_reducible first | exact HB.out | apply below_alloc | apply pw_below_drewN | apply below_drew1 | refine below_set ?_ GB22.out | refine below_set ?_ GE150.out | refine below_set ?_ GE155.out) | exact HB.out)⟩⟩
          ·rw [if_neg c14] at H
           exact absurd H (by simp)
         ·rw [if_neg c13] at H
          exact absurd H (by simp)
        ·rw [if_neg c12] at H
         exact absurd H (by simp)
       ·rw [if_neg c11] at H
        exact absurd H (by simp)
      ·rw [if_neg c10] at H
       exact absurd H (by simp)
     ·rw [if_neg c9] at H
      have c9b0 : decide (x12_1 < (l0_2.length : Int)) = false := decide_eq_false c9
      clear c9
      obtain rfl := Option.some.inj H
      go_wp2
      go_ret
      exact ⟨_, by first | rfl | (simp [errW_none, errW_some] <;> rfl) | (simp [*, errW_none, errW_some] <;> rfl), by (with_reducible repeat (first | apply Kd.S_alloc | apply Kd.S_drewN | apply Kd.S_drew)); exact HO_3.out, by repeat (first | (with_reducible first | exact HB.out | apply below_alloc | apply pw_below_drewN | apply below_drew1 | refine below_set ?_ GE150.out) | exact HB.out)⟩
  ·rw [if_neg c3] at H
   exact absurd H (by simp)
 ·rw [if_neg c2] at H
  exact absurd H (by simp)
def pairing_Chosen.l0 : Nat → Bool → List Int → List Bool → Int → Int → Option (List Int)
 | 0, _, _, _, _, _ => none
 | k + 1, x1, x5, x8, x9, x10 => if x10 < x9 then (if 0 ≤ x10 then (if x10 < (x8.length : Int) then (if ((rdOf false x8 x10) == x1) = true then (if x5.length < 17592186044416 then (pairing_Chosen.l0 k x1 (x5 ++ [x10]) x8 x9 (wrap64 (x10 + 1))) else (none)) else (pairing_Chosen.l0 k x1 x5 x8 x9 (wrap64 (x10 + 1)))) else (none)) else (none)) else (some x5)
def pairing_Chosen.f (k : Nat) (l0 : List Bool) (a1 : Bool) : Option (List Int) := pairing_Chosen.l0 k a1 ([] : List Int) l0 (l0.length : Int) 0
theorem pairing_Chosen.mono_l : ∀ k, (∀ y0 y1 y2 y3 y4, LeO (pairing_Chosen.l0 k y0 y1 y2 y3 y4) (pairing_Chosen.l0 (k + 1) y0 y1 y2 y3 y4))
 | 0 => fun _ _ _ _ _ r h => by simp [pairing_Chosen.l0] at h
 | k + 1 => by
  have ih0 := pairing_Chosen.mono_l k
  ·intro y0 y1 y2 y3 y4
   unfold pairing_Chosen.l0
   repeat' first
   | (with_reducible exact ih0 _ _ _ _ _)
   | (with_reducible exact LeO.refl _)
   | (with_reducible exact LeO.none _)
   | (with_reducible refine LeO.ite ?_ ?_)
   | (with_reducible refine LeO.bind ?_ (fun _ => ?_))
   | exact ih0 _ _ _ _ _
   | exact LeO.none _
   | refine LeO.ite ?_ ?_
   | refine LeO.bind ?_ (fun _ => ?_)
theorem pairing_Chosen.mono : ∀ a0 a1 k, LeO (pairing_Chosen.f k a0 a1) (pairing_Chosen.f (k + 1) a0 a1) := by
 intro a0 a1 k
 have ih0 := pairing_Chosen.mono_l k
 unfold pairing_Chosen.f
 repeat' first
   | (with_reducible exact ih0 _ _ _ _ _)
   | (with_reducible exact LeO.refl _)
   | (with_reducible exact LeO.none _)
   | (with_reducible refine LeO.ite ?_ ?_)
   | (with_reducible refine LeO.bind ?_ (fun _ => ?_))
   | exact ih0 _ _ _ _ _
   | exact LeO.none _
   | refine LeO.ite ?_ ?_
   | refine LeO.bind ?_ (fun _ => ?_)
set_option maxHeartbeats 8000000 in
set_option maxRecDepth 100000 in
theorem pairing_Chosen.calls (k : Nat) (A0 : Option Addr) (c0 : Nat) (l0 : List Bool) (a1 : Bool) (r : List Int) (w : World) (hr0 : Kd.C Kd.bool w A0 l0.length l0) (hc0 : l0.length ≤ c0) (h : pairing_Chosen.f k l0 a1 = some r) :
  Calls Try.prog 43 #[.slice A0 l0.length c0, .bool a1] w fun e w' => ∃ v0_ : Value, e = .returned (v0_) ∧ Kd.R (Kd.int .i64) 3 w' w.heap.size (fun _ => True) v0_ r ∧ Below w.heap.size w w' := by
 have HR0 := As.mk hr0
 have HC0 := As.mk hc0
 clear hr0 hc0
 have HB := As.mk (Below.refl w.heap.size w)
 have H : (pairing_Chosen.l0 k a1 ([] : List Int) l0 (l0.length : Int) 0) = some r := h
 clear h
 have H' := As.mk H
 clear H
 go_enter Try.func43, Try.ntmps43
 go_wp2
 go_loopg [5, 10] k (fun kq v5 v10 w' => ∃ (x5_1 : List Int) (x10_1 : Int), v10 = .int .i64 x10_1 ∧ As (pairing_Chosen.l0 kq a1 x5_1 l0 (l0.length : Int) x10_1 = some r) ∧ As (kq ≤ k) ∧ As (Kd.R (Kd.int .i64) 3 w' w.heap.size (fun _ => True) v5 x5_1) ∧ As (Below w.heap.size w w'))
 case atStart => exact ⟨(([] : List Int)), (0), (by first | rfl | (simp; done) | (simp [*]; done)), H', ⟨Nat.le_refl _⟩, ⟨by first | exact Kd.R_nil _ _ _ _ _ | exact Kd.N_nil _ _ _ _ _ | exact Kd.V_nil _ _ _ _ _ | exact Kd.Q_nil _ _ _ _ _ | exact Kd.S_nil _ _ _ _ _⟩, ⟨by repeat (first | (with_reducible first | exact HB.out | apply below_alloc | apply pw_below_drewN | apply below_drew1) | exact HB.out)⟩⟩
 case round =>
  clear H'
  try clear p2
  obtain ⟨x5_1, x10_1, rfl, HA, HK1, HO_5, HB⟩ := hrel
  cases gk with
  | zero => exact absurd HA.out (by simp [pairing_Chosen.l0])
  | succ k1 =>
   have H := HA.out
   clear HA
   simp only [pairing_Chosen.l0] at H
   by_cases c3 : x10_1 < (l0.length : Int)
   ·rw [if_pos c3] at H
    have c3b0 : decide (x10_1 < (l0.length : Int)) = true := decide_eq_true c3
    clear c3
    by_cases c4 : 0 ≤ x10_1
    ·rw [if_pos c4] at H
     have c4b0 : decide (0 ≤ x10_1) = true := decide_eq_true c4
     clear c4
     by_cases c5 : x10_1 < (l0.length : Int)
     ·rw [if_pos c5] at H
      have c5b0 : decide (x10_1 < (l0.length : Int)) = true := decide_eq_true c5
      clear c5
      by_cases c6 : ((rdOf false l0 x10_1) == a1) = true
      ·rw [if_pos c6] at H
       have c6b0 : ((rdOf false l0 x10_1) == a1) = true := c6
       (try (have c6b1 : decide ((rdOf false l0 x10_1) = a1) = true := by simpa using c6))
       (try (have c6b2 : ((rdOf false l0 x10_1) == a1) = true := by simpa using c6))
       clear c6
       by_cases c7 : x5_1.length < 17592186044416
       ·rw [if_pos c7] at H
        have LMc7 := As.mk c7
        clear c7
        obtain ⟨y162, hy162⟩ : ∃ y_ : List Int, y_ = (x5_1 ++ [x10_1]) := ⟨_, rfl⟩
        replace H : (pairing_Chosen.l0 k1 a1 y162 l0 (l0.length : Int) (wrap64 (x10_1 + 1))) = some r := by first | (rw [hy162]; with_reducible exact H) | (have H2_ := (Option.bind_some _ _).symm.trans H; rw [hy162]; with_reducible exact H2_) | (have H2_ := (Option.bind_some _ _).symm.trans H; with_reducible exact H2_) | with_reducible exact H | (rw [hy162]; exact H) | exact H
        have Ny162 := As.mk hy162
        clear hy162
        have H' := As.mk H
        clear H
        have p161 : 0 ≤ (x10_1 : Int) := of_decide_eq_true (by first | (with_reducible assumption) | assumption)
        have q161 : x10_1 < (l0.length : Int) := of_decide_eq_true (by first | (with_reducible assumption) | assumption)
        obtain ⟨ad161, e161, hx161_0⟩ := Kd.at_bool HR0.out x10_1 p161 q161
        cases e161
        replace hx161_0 := (HB.out.cell (World.block_lt_of_cell? w _ hx161_0)).trans hx161_0
        replace p161 := eq_true p161
        replace q161 := eq_true q161
        go_wp2_with (first | ((with_reducible refine gate_builtin (b := .append) (xs := #[.tmp 18, .tmp 20]) rfl ?_); at_builtin; refine Kd.R_append (Kd.int .i64) (w0 := w) w.heap.size rfl (.tmp 18) (.tmp 20) 29 3 (.int .i64 0) 8 rfl Try.underlying29 info3 rfl (by decide) (by omega) u5 x5_1 x10_1 [.int .i64 x10_1] (fun _ => True) (fun _ => False) rfl rfl ?aP (fun _ hk => hk.elim) ?aF ?aO ?aB ?aS ?aL ?_; (case aP => exact rfl); (case aB => exact (hup0 HB.out)); (case aF => exact (fun _ _ => trivial)); (case aO => exact (rup HO_5.out)); (case aS => exact (below_size (hup0 HB.out))); (case aL => have := LMc7.out; omega); intro v163 w8 ho hb hg hat; rw [← Ny162.out] at ho; have n0_ := As.mk (hb); have n1_ := As.mk (ho); clear HB; clear HO_5; have HB := n0_; have HO164 := n1_; clear n0_ n1_; clear ho hb hg hat))
        go_roundg k1
        case measure => have := HK1.out; omega
        case rel => exact ⟨(y162), (wrap64 (x10_1 + 1)), (by first | rfl | (simp; done) | (simp [*]; done)), H', ⟨by have := HK1.out; omega⟩, ⟨by (with_reducible repeat (first | apply Kd.R_alloc | apply Kd.R_drewN | apply Kd.R_drew)); exact HO164.out⟩, ⟨by repeat (first | (with_reducible first | exact HB.out | apply below_alloc | apply pw_below_drewN | apply below_drew1) | exact HB.out)⟩⟩
       ·rw [if_neg c7] at H
        exact absurd H (by simp)
      ·rw [if_neg c6] at H
       have c6b0 : ((rdOf false l0 x10_1) == a1) = false := by simpa using c6
       (try (have c6b1 : decide ((rdOf false l0 x10_1) = a1) = false := by simpa using c6))
       (try (have c6b2 : ((rdOf false l0 x10_1) == a1) = false := by simpa using c6))
       (try (have c6b3 : ¬ ((rdOf false l0 x10_1) = a1) := by simpa using c6))
       clear c6
       have H' := As.mk H
       clear H
       have p161 : 0 ≤ (x10_1 : Int) := of_decide_eq_true (by first | (with_reducible assumption) | assumption)
       have q161 : x10_1 < (l0.length : Int) := of_decide_eq_true (by first | (with_reducible assumption) | assumption)
       obtain ⟨ad161, e161, hx161_0⟩ := Kd.at_bool HR0.out x10_1 p161 q161
       cases e161
       replace hx161_0 := (HB.out.cell (World.block_lt_of_cell? w _ hx161_0)).trans hx161_0
       replace p161 := eq_true p161
       replace q161 := eq_true q161
       go_wp2
       go_roundg k1
       case measure => have := HK1.out; omega
       case rel => exact ⟨(x5_1), (wrap64 (x10_1 + 1)), (by first | rfl | (simp; done) | (simp [*]; done)), H', ⟨by have := HK1.out; omega⟩, ⟨by (with_reducible repeat (first | apply Kd.R_alloc | apply Kd.R_drewN | apply Kd.R_drew)); exact HO_5.out⟩, ⟨by repeat (first | (with_reducible first | exact HB.out | apply below_alloc | apply pw_below_drewN | apply below_drew1) | exact HB.out)⟩⟩
     ·rw [if_neg c5] at H
      exact absurd H (by simp)
    ·rw [if_neg c4] at H
     exact absurd H (by simp)
   ·rw [if_neg c3] at H
    have c3b0 : decide (x10_1 < (l0.length : Int)) = false := decide_eq_false c3
    clear c3
    obtain rfl := Option.some.inj H
    go_wp2
    go_ret
    exact ⟨_, by first | rfl | (simp [errW_none, errW_some] <;> rfl) | (simp [*, errW_none, errW_some] <;> rfl), by (with_reducible repeat (first | apply Kd.R_alloc | apply Kd.R_drewN | apply Kd.R_drew)); exact HO_5.out, by repeat (first | (with_reducible first | exact HB.out | apply below_alloc | apply pw_below_drewN | apply below_drew1) | exact HB.out)⟩
end Go.Proofs.Ytlleokhmgblfnaa.M
end

section
namespace Go.Proofs.Ytlleokhmgblfnaa.H
open Go.RowKit Go.Proofs.YtlleokhmgblfnaaW.PrintWords
attribute [local go_sem] eqE
def chkGo (L R : Int) : Option (Int × Int) → List (Int × Int) → Int
 | _, [] => 0
 | p, x :: xs =>
  if x.1 < 0 ∨ L ≤ x.1 ∨ x.2 < 0 ∨ R ≤ x.2 then 1
  else match p with
   | none => chkGo L R (some x) xs
   | some q => if q = x then 5 else if x.1 < q.1 ∨ (q.1 = x.1 ∧ x.2 < q.2) then 6 else chkGo L R (some x) xs
def chk (L R : Int) (E : List (Int × Int)) : Int :=
 if L < 0 ∨ 1024 < L ∨ R < 0 ∨ 1024 < R then 1 else if 65536 < E.length then 3 else chkGo L R none E
set_option maxHeartbeats 2000000 in
set_option maxRecDepth 100000 in
theorem check_any (L R : Int) (E : List (Int × Int)) (A : Option Addr) (c : Nat) (w : World) (hE : kE.C w A E.length E) (hc : E.length ≤ c) :
  Calls Try.prog 23 #[.agg #[.int .i64 L, .int .i64 R, .slice A E.length c]] w fun e w' => e = .returned (.int .i64 (chk L R E)) ∧ Below w.heap.size w w' := by
 have hm := Kd.C_max hE
 have HE := As.mk hE
 clear hE
 obtain ⟨r, hr⟩ : ∃ r, chk L R E = r := ⟨_, rfl⟩
 rw [hr]
 by_cases h1 : L < 0 ∨ 1024 < L ∨ R < 0 ∨ 1024 < R
 ·have hr : r = 1 := by rw [← hr]; unfold chk; rw [if_pos h1]
  subst hr
  go_enter Try.func23, Try.ntmps23
  go_wp2
  all_goals go_ret
  all_goals exact ⟨rfl, (Below.refl _ _).alloc (Nat.le_refl _) _⟩
 have b1 : 0 ≤ L := by omega
 have b2 : L ≤ 1024 := by omega
 have b3 : 0 ≤ R := by omega
 have b4 : R ≤ 1024 := by omega
 by_cases h2 : 65536 < E.length
 ·have hr : r = 3 := by rw [← hr]; unfold chk; rw [if_neg h1, if_pos h2]
  subst hr
  clear h1
  go_enter Try.func23, Try.ntmps23
  go_wp2
  all_goals go_ret
  all_goals exact ⟨rfl, (Below.refl _ _).alloc (Nat.le_refl _) _⟩
 have hr' : chkGo L R none E = r := by rw [← hr]; unfold chk; rw [if_neg h1, if_neg h2]
 have H := As.mk hr'
 clear h1 hr hr'
 go_enter Try.func23, Try.ntmps23
 go_wp2
 go_loopg [33] (E.length + 1) (fun kq v33 wr => ∃ i : Int, v33 = .int .i64 i ∧ As (0 ≤ i ∧ i ≤ E.length ∧ (E.length : Int) < i + kq ∧ chkGo L R (if i = 0 then none else some (rdE E (i - 1))) (E.drop i.toNat) = r) ∧ As (Below w.heap.size w wr) ∧ As (wr.heap[w.heap.size]? = some (.cells #[Value.int IntKind.i64 L, Value.int IntKind.i64 R, Value.slice A E.length c] 33 (0, 0))))
 case atStart => exact ⟨0, rfl, ⟨by omega, by omega, by omega, by simpa using H.out⟩, ⟨(Below.refl _ _).alloc (Nat.le_refl _) _⟩, ⟨blk_new _ _⟩⟩
 case round =>
  clear H
  obtain ⟨i, rfl, HA, HB, HG⟩ := hrel
  have i0 : 0 ≤ i := HA.out.1
  have hsz := blk_lt HG.out
  have g0 := blk_cell HG.out 0
  have g1 := blk_cell HG.out 1
  have g2 := blk_cell HG.out 2
  simp only [List.getElem?_toArray, List.getElem?_cons_zero, List.getElem?_cons_succ] at g0 g1 g2
  by_cases hlt : i < E.length
  ·obtain ⟨ad, eA, hx0, hx1⟩ := at_E HE.out i i0 hlt
   subst eA
   replace hx0 := pw_cell_below HB.out hx0
   replace hx1 := pw_cell_below HB.out hx1
   have hgo := HA.out.2.2.2
   rw [drop_E E i i0 hlt] at hgo
   obtain ⟨x, hX⟩ : ∃ x, rdE E i = x := ⟨_, rfl⟩
   rw [hX] at hx0 hx1 hgo
   obtain ⟨x0, x1⟩ := x
   by_cases hbad : x0 < 0 ∨ L ≤ x0 ∨ x1 < 0 ∨ R ≤ x1
   ·have hr : r = 1 := by rw [← hgo]; unfold chkGo; rw [if_pos hbad]
    have HR := As.mk hr
    clear hr hgo g2 hX
    rcases (show x0 < 0 ∨ (0 ≤ x0 ∧ L ≤ x0) ∨ (0 ≤ x0 ∧ x0 < L ∧ x1 < 0) ∨ (0 ≤ x0 ∧ x0 < L ∧ 0 ≤ x1 ∧ R ≤ x1) by omega) with hq | ⟨hq, hq2⟩ | ⟨hq, hq2, hq3⟩ | ⟨hq, hq2, hq3, hq4⟩
    all_goals clear hbad
    all_goals go_wp2
    all_goals go_ret
    all_goals exact ⟨by rw [HR.out]; rfl, below_alloc HB.out _⟩
   ·have q1 : 0 ≤ x0 := by omega
    have q2 : x0 < L := by omega
    have q3 : 0 ≤ x1 := by omega
    have q4 : x1 < R := by omega
    unfold chkGo at hgo
    rw [if_neg hbad] at hgo
    clear hbad
    by_cases hi : i = 0
    ·rw [if_pos hi] at hgo
     have H2 := As.mk hgo
     have HX := As.mk hX
     have hi' : (i == 0) = true := by simpa using hi
     have HI := As.mk hi
     clear hgo hX hi
     go_wp2
     go_roundg (gk - 1)
     case measure => have := HA.out.2.2.1; have := HA.out.2.1; omega
     case rel => exact ⟨i + 1, by go_num, ⟨by omega, by omega, by have := HA.out.2.2.1; omega, by rw [if_neg (by omega), show i + 1 - 1 = i by omega, HX.out, show (i + 1).toNat = i.toNat + 1 by omega]; exact H2.out⟩, ⟨below_alloc HB.out _⟩, ⟨blk_alloc HG.out _⟩⟩
    ·rw [if_neg hi] at hgo
     obtain ⟨ad', eA, hy0, hy1⟩ := at_E HE.out (i - 1) (by omega) (by omega)
     injection eA with eA
     subst eA
     rw [show (i - 1).toNat = i.toNat - 1 by omega] at hy0 hy1
     replace hy0 := fun o => pw_cell_below (below_alloc HB.out o) hy0
     replace hy1 := fun o => pw_cell_below (below_alloc HB.out o) hy1
     obtain ⟨y, hY⟩ : ∃ y, rdE E (i - 1) = y := ⟨_, rfl⟩
     rw [hY] at hy0 hy1 hgo
     obtain ⟨y0, y1⟩ := y
     have HX := As.mk hX
     clear hX hY
     have hi1 : 1 ≤ i := by omega
     by_cases hxy : y0 = x0 ∧ y1 = x1
     ·obtain ⟨rfl, rfl⟩ := hxy
      simp only [if_true] at hgo
      have HR := As.mk hgo
      have HI := As.mk hi
      have hi' : (i == 0) = false := by simpa using hi
      clear hgo hi
      go_wp2
      go_ret
      exact ⟨by rw [← HR.out]; rfl, below_alloc (below_alloc HB.out _) _⟩
     ·simp only at hgo
      rw [if_neg (by simpa using hxy)] at hgo
      have hi' : (i == 0) = false := by simpa using hi
      have HI := As.mk hi
      clear hi
      by_cases hlt2 : x0 < y0 ∨ (y0 = x0 ∧ x1 < y1)
      ·rw [if_pos hlt2] at hgo
       have HR := As.mk hgo
       clear hgo
       rcases hlt2 with hlt2 | ⟨hlt2, hlt3⟩
       ·clear hxy
        have n1 : (y0 == x0) = false := by simp; omega
        go_wp2
        go_ret
        exact ⟨by rw [← HR.out]; rfl, below_alloc (below_alloc HB.out _) _⟩
       ·subst hlt2
        clear hxy
        have n1 : (y1 == x1) = false := by simp; omega
        go_wp2
        go_ret
        exact ⟨by rw [← HR.out]; rfl, below_alloc (below_alloc HB.out _) _⟩
      ·rw [if_neg hlt2] at hgo
       have H2 := As.mk hgo
       clear hgo
       have n2 : (y0 == x0 && y1 == x1) = false := by simpa using hxy
       rcases (show y0 < x0 ∨ (y0 = x0 ∧ y1 < x1) by omega) with hlt3 | ⟨hlt3, hlt4⟩
       ·clear hxy hlt2
        have n1 : (y0 == x0) = false := by simp; omega
        go_wp2
        go_roundg (gk - 1)
        case measure => have := HA.out.2.2.1; have := HA.out.2.1; omega
        case rel => exact ⟨i + 1, by go_num, ⟨by omega, by omega, by have := HA.out.2.2.1; omega, by rw [if_neg (by omega), show i + 1 - 1 = i by omega, HX.out, show (i + 1).toNat = i.toNat + 1 by omega]; exact H2.out⟩, ⟨below_alloc (below_alloc HB.out _) _⟩, ⟨blk_alloc (blk_alloc HG.out _) _⟩⟩
       ·subst hlt3
        clear hxy hlt2 n2
        have n1 : (y1 == x1) = false := by simp; omega
        go_wp2
        go_roundg (gk - 1)
        case measure => have := HA.out.2.2.1; have := HA.out.2.1; omega
        case rel => exact ⟨i + 1, by go_num, ⟨by omega, by omega, by have := HA.out.2.2.1; omega, by rw [if_neg (by omega), show i + 1 - 1 = i by omega, HX.out, show (i + 1).toNat = i.toNat + 1 by omega]; exact H2.out⟩, ⟨below_alloc (below_alloc HB.out _) _⟩, ⟨blk_alloc (blk_alloc HG.out _) _⟩⟩
  ·have hr : r = 0 := by rw [← HA.out.2.2.2, List.drop_eq_nil_of_le (by omega)]; rfl
   have HR := As.mk hr
   clear hr
   go_wp2
   go_ret
   exact ⟨by rw [HR.out]; rfl, HB.out⟩
end Go.Proofs.Ytlleokhmgblfnaa.H
end

section
namespace Go.Proofs.Ytlleokhmgblfnaa.M
open Go.RowKit Go.Proofs.YtlleokhmgblfnaaW.PrintWords
def prE (x : S40) : Int × Int := (x.f0, x.f1)
def match_Check.f (a0_0 : Int) (a0_1 : Int) (l0_2 : List S40) : Option Int := some (H.chk a0_0 a0_1 (l0_2.map prE))
theorem match_Check.calls (a0_0 : Int) (a0_1 : Int) (A0_2 : Option Addr) (c0_2 : Nat) (l0_2 : List (S40)) (r : Int) (w : World) (hr0_2 : Kd.C k40 w A0_2 l0_2.length l0_2) (hc0_2 : l0_2.length ≤ c0_2) (h : match_Check.f a0_0 a0_1 l0_2 = some r) :
  Calls Try.prog 23 #[.agg #[.int .i64 a0_0, .int .i64 a0_1, .slice A0_2 l0_2.length c0_2]] w fun e w' => e = .returned (.int .i64 r) ∧ Below w.heap.size w w' := by
 have hk : H.kE.C w A0_2 l0_2.length (l0_2.map prE) := H.C_iso hr0_2
 have hl : (l0_2.map prE).length = l0_2.length := by simp
 rw [← hl] at hk hc0_2 ⊢
 have := H.check_any a0_0 a0_1 (l0_2.map prE) A0_2 c0_2 w hk hc0_2
 rw [show H.chk a0_0 a0_1 (l0_2.map prE) = r from Option.some.inj h] at this
 exact this
end Go.Proofs.Ytlleokhmgblfnaa.M
end
