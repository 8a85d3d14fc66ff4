/- A part of the proof: texts of this seat joined (printed and by hand), without what is not used. -/
import Derived.Test.YtojnnfhalpefmaaBExa2
set_option linter.unusedVariables false
set_option linter.unusedSimpArgs false
set_option linter.unusedSectionVars false
section
namespace Go.Proofs.Ytojnnfhalpefmaa.M
open Go.RowKit Go.Proofs.YtojnnfhalpefmaaW.PrintWords Go.Proofs.YtojnnfhalpefmaaW.PrintLast Go.Proofs.YtojnnfhalpefmaaW.PrintMore
attribute [local go_sem] max2_int min2_int max_two min_two max_three min_three max_four min_four
def toruslaw04_exB.f  : Option ((List (S45))) := some (([(⟨3, 3⟩ : S45), (⟨4, 4⟩ : S45)] : List (S45)))
set_option maxHeartbeats 8000000 in
set_option maxRecDepth 100000 in
theorem toruslaw04_exB.calls  (r : List (S45)) (w : World) (h : toruslaw04_exB.f  = some r) :
  Calls Try.prog 52 #[] w fun e w' => ∃ v0_ : Value, e = .returned (v0_) ∧ Kd.R k45 45 w' w.heap.size (fun _ => True) v0_ r ∧ Below w.heap.size w w' := by
 have hu45 := Try.underlying45
 have HB := As.mk (Below.refl w.heap.size w)
 have H : (some (([(⟨3, 3⟩ : S45), (⟨4, 4⟩ : S45)] : List (S45)))) = some r := h
 clear h
 obtain ⟨y174, hy174⟩ : ∃ y_ : List (S45), y_ = (([(⟨3, 3⟩ : S45), (⟨4, 4⟩ : S45)] : List (S45))) := ⟨_, rfl⟩
 replace H : (some y174) = some r := by first | (rw [hy174]; with_reducible exact H) | (have H2_ := (Option.bind_some _ _).symm.trans H; rw [hy174]; with_reducible exact H2_) | (have H2_ := (Option.bind_some _ _).symm.trans H; with_reducible exact H2_) | with_reducible exact H | (rw [hy174]; exact H) | exact H
 have Ny174 := As.mk hy174
 clear hy174
 obtain rfl := Option.some.inj H
 go_enter Try.func52, Try.ntmps52
 go_wp2_with (first | ((with_reducible refine gate_dst (N := 3) rfl ?_); refine Kd.R_lit k45 _ 45 ?hg (N := 3) ?hd (xs := ([(⟨3, 3⟩ : S45), (⟨4, 4⟩ : S45)] : List (S45))) (inner := [.int .i64 3, .int .i64 3, .int .i64 4, .int .i64 4]) (ok := fun _ => True) (okp := fun _ => True) ?hr ?hp (fun _ hk => hk) trivial (Below.refl _ _) (Nat.le_refl _) (by simp) ?_; (case hd => rfl); (case hg => rfl); (case hr => first | (go_simp; done) | (go_simp; rfl)); (case hp => exact (Reps.c2 (show Kd.M k45 _ _ _ (⟨3, 3⟩ : S45) [.int .i64 3, .int .i64 3] from (k45_mkM _ _ _ (⟨3, 3⟩ : S45) )) (Reps.c2 (show Kd.M k45 _ _ _ (⟨4, 4⟩ : S45) [.int .i64 4, .int .i64 4] from (k45_mkM _ _ _ (⟨4, 4⟩ : S45) )) (Reps.none _ _)))); intro v175 w1 ho2 hb hg_ hnew_; clear hg_ hnew_; (first | rw [← Ny174.out] at ho2 | (simp only [Int.reduceToNat] at ho2; rw [← Ny174.out] at ho2)); have n0_ := As.mk (Kd.R_lower ho2 (below_size (hup0 HB.out))); have n1_ := As.mk (below_step (hup0 HB.out) hb); clear HB; have HO176 := n0_; have HB := n1_; clear n0_ n1_; clear hb ho2))
 go_ret
 exact ⟨_, by first | rfl | (simp [errW_none, errW_some] <;> rfl) | (simp [*, errW_none, errW_some] <;> rfl), by (with_reducible repeat (first | apply Kd.R_alloc | apply Kd.R_drewN | apply Kd.R_drew)); exact HO176.out, by repeat (first | (with_reducible first | exact HB.out | apply below_alloc | apply pw_below_drewN | apply below_drew1) | exact HB.out)⟩
def column_Coef.l0 : Nat → Int → List (S45) → Int → Int → Option (Int)
 | 0, _, _, _, _ => none
 | k + 1, x1, x7, x8, x9 => if x9 < x8 then (if 0 ≤ x9 then (if x9 < (x7.length : Int) then (if ((rd_T45 x7 x9).f0) = x1 then (some ((rd_T45 x7 x9).f1)) else (column_Coef.l0 k x1 x7 x8 (wrap64 (x9 + 1)))) else (none)) else (none)) else (some 0)
def column_Coef.f (k : Nat) (l0 : List (S45)) (a1 : Int) : Option (Int) := column_Coef.l0 k a1 l0 (l0.length : Int) 0
theorem column_Coef.mono_l : ∀ k, (∀ y0 y1 y2 y3, LeO (column_Coef.l0 k y0 y1 y2 y3) (column_Coef.l0 (k + 1) y0 y1 y2 y3))
 | 0 => fun _ _ _ _ r h => by simp [column_Coef.l0] at h
 | k + 1 => by
  have ih0 := column_Coef.mono_l k
  ·intro y0 y1 y2 y3
   unfold column_Coef.l0
   repeat' first
   | (with_reducible exact ih0 _ _ _ _)
   | (with_reducible exact LeO.refl _)
   | (with_reducible exact LeO.none _)
   | (with_reducible refine LeO.ite ?_ ?_)
   | (with_reducible refine LeO.bind ?_ (fun _ => ?_))
   | exact ih0 _ _ _ _
   | exact LeO.none _
   | refine LeO.ite ?_ ?_
   | refine LeO.bind ?_ (fun _ => ?_)
theorem column_Coef.mono : ∀ a0 a1 k, LeO (column_Coef.f k a0 a1) (column_Coef.f (k + 1) a0 a1) := by
 intro a0 a1 k
 have ih0 := column_Coef.mono_l k
 unfold column_Coef.f
 repeat' first
   | (with_reducible exact ih0 _ _ _ _)
   | (with_reducible exact LeO.refl _)
   | (with_reducible exact LeO.none _)
   | (with_reducible refine LeO.ite ?_ ?_)
   | (with_reducible refine LeO.bind ?_ (fun _ => ?_))
   | exact ih0 _ _ _ _
   | exact LeO.none _
   | refine LeO.ite ?_ ?_
   | refine LeO.bind ?_ (fun _ => ?_)
set_option maxHeartbeats 8000000 in
set_option maxRecDepth 100000 in
theorem column_Coef.calls (k : Nat) (A0 : Option Addr) (c0 : Nat) (l0 : List (S45)) (a1 : Int) (r : Int) (w : World) (hr0 : Kd.C k45 w A0 l0.length l0) (hc0 : l0.length ≤ c0) (h : column_Coef.f k l0 a1 = some r) :
  Calls Try.prog 26 #[.slice A0 l0.length c0, .int .i64 a1] w fun e w' => e = .returned (.int .i64 r) ∧ Below w.heap.size w w' := by
 have hu45 := Try.underlying45
 have HR0 := As.mk hr0
 have HC0 := As.mk hc0
 clear hr0 hc0
 have HB := As.mk (Below.refl w.heap.size w)
 have H : (column_Coef.l0 k a1 l0 (l0.length : Int) 0) = some r := h
 clear h
 have H' := As.mk H
 clear H
 go_enter Try.func26, Try.ntmps26
 go_wp2
 go_loopg [9] k (fun kq v9 w' => ∃ (x9_1 : Int), v9 = .int .i64 x9_1 ∧ As (column_Coef.l0 kq a1 l0 (l0.length : Int) x9_1 = some r) ∧ As (kq ≤ k) ∧ As (Below w.heap.size w w'))
 case atStart => exact ⟨(0), (by first | rfl | (simp; done) | (simp [*]; done)), H', ⟨Nat.le_refl _⟩, ⟨by repeat (first | (with_reducible first | exact HB.out | apply below_alloc | apply pw_below_drewN | apply below_drew1) | exact HB.out)⟩⟩
 case round =>
  clear H'
  try clear c2
  try clear p2
  obtain ⟨x9_1, rfl, HA, HK1, HB⟩ := hrel
  cases gk with
  | zero => exact absurd HA.out (by simp [column_Coef.l0])
  | succ k1 =>
   have H := HA.out
   clear HA
   simp only [column_Coef.l0] at H
   by_cases c3 : x9_1 < (l0.length : Int)
   ·rw [if_pos c3] at H
    have c3b0 : decide (x9_1 < (l0.length : Int)) = true := decide_eq_true c3
    clear c3
    by_cases c4 : 0 ≤ x9_1
    ·rw [if_pos c4] at H
     have c4b0 : decide (0 ≤ x9_1) = true := decide_eq_true c4
     clear c4
     by_cases c5 : x9_1 < (l0.length : Int)
     ·rw [if_pos c5] at H
      have c5b0 : decide (x9_1 < (l0.length : Int)) = true := decide_eq_true c5
      clear c5
      by_cases c6 : ((rd_T45 l0 x9_1).f0) = a1
      ·rw [if_pos c6] at H
       have c6b0 : (((rd_T45 l0 x9_1).f0) == a1) = true := beq_iff_eq.mpr c6
       have c6b1 : (((rd_T45 l0 x9_1).f0) != a1) = false := bne_eq_false_iff_eq.mpr c6
       clear c6
       obtain rfl := Option.some.inj H
       have p211 : 0 ≤ (x9_1 : Int) := of_decide_eq_true (by first | (with_reducible assumption) | assumption)
       have q211 : x9_1 < (l0.length : Int) := of_decide_eq_true (by first | (with_reducible assumption) | assumption)
       obtain ⟨ad211, e211, hx211_0, hx211_1⟩ := at_T45 HR0.out x9_1 p211 q211
       cases e211
       replace hx211_0 := (HB.out.cell (World.block_lt_of_cell? w _ hx211_0)).trans hx211_0
       replace hx211_1 := (HB.out.cell (World.block_lt_of_cell? w _ hx211_1)).trans hx211_1
       replace p211 := eq_true p211
       replace q211 := eq_true q211
       go_wp2_with (first | ((with_reducible refine gate_dst (N := 6) rfl ?_); refine box_event ?hg (N := 6) ?hd (cs := #[.int .i64 0, .int .i64 0]) (t := 45) ?hr ?_; (case hd => rfl); (case hg => rfl); (case hr => first | (go_simp; done) | (go_simp; rfl)); intro gb212 hg w7 hbox hb; have n0_ := As.mk (below_step (hup0 HB.out) hb); have n1_ := As.mk (hbox); have n2_ := As.mk ((by rw [hg]; exact (below_size (hup0 HB.out)) : w.heap.size ≤ gb212)); have n3_ := As.mk ((by rw [hg]; exact (below_size (hup0 HB.out)) : w.heap.size ≤ gb212)); clear HB; have HB := n0_; have BK212 := n1_; have GW212 := n2_; have GE212 := n3_; clear n0_ n1_ n2_ n3_; clear hb hbox hg; have hcz8_0 : w7.cell? ⟨gb212, 0, none⟩ = some (.int .i64 0) := (blk_cell BK212.out 0).trans rfl; have hcz8_1 : w7.cell? ⟨gb212, 1, none⟩ = some (.int .i64 0) := (blk_cell BK212.out 1).trans rfl; have hfz8_0 := blk_frozen BK212.out 0; have hfz8_1 := blk_frozen BK212.out 1))
       go_ret
       exact ⟨by first | rfl | (simp [errW_none, errW_some] <;> rfl) | (simp [*, errW_none, errW_some] <;> rfl), by repeat (first | (with_reducible first | exact HB.out | apply below_alloc | apply pw_below_drewN | apply below_drew1 | refine below_set ?_ GE212.out) | exact HB.out)⟩
      ·rw [if_neg c6] at H
       have c6b0 : (((rd_T45 l0 x9_1).f0) == a1) = false := beq_eq_false_iff_ne.mpr c6
       have c6b1 : (((rd_T45 l0 x9_1).f0) != a1) = true := bne_iff_ne.mpr c6
       have H' := As.mk H
       clear H
       have p211 : 0 ≤ (x9_1 : Int) := of_decide_eq_true (by first | (with_reducible assumption) | assumption)
       have q211 : x9_1 < (l0.length : Int) := of_decide_eq_true (by first | (with_reducible assumption) | assumption)
       obtain ⟨ad211, e211, hx211_0, hx211_1⟩ := at_T45 HR0.out x9_1 p211 q211
       cases e211
       replace hx211_0 := (HB.out.cell (World.block_lt_of_cell? w _ hx211_0)).trans hx211_0
       replace hx211_1 := (HB.out.cell (World.block_lt_of_cell? w _ hx211_1)).trans hx211_1
       replace p211 := eq_true p211
       replace q211 := eq_true q211
       go_wp2_with (first | ((with_reducible refine gate_dst (N := 6) rfl ?_); refine box_event ?hg (N := 6) ?hd (cs := #[.int .i64 0, .int .i64 0]) (t := 45) ?hr ?_; (case hd => rfl); (case hg => rfl); (case hr => first | (go_simp; done) | (go_simp; rfl)); intro gb212 hg w9 hbox hb; have n0_ := As.mk (below_step (hup0 HB.out) hb); have n1_ := As.mk (hbox); have n2_ := As.mk ((by rw [hg]; exact (below_size (hup0 HB.out)) : w.heap.size ≤ gb212)); have n3_ := As.mk ((by rw [hg]; exact (below_size (hup0 HB.out)) : w.heap.size ≤ gb212)); clear HB; have HB := n0_; have BK212 := n1_; have GW212 := n2_; have GE212 := n3_; clear n0_ n1_ n2_ n3_; clear hb hbox hg; have hcz10_0 : w9.cell? ⟨gb212, 0, none⟩ = some (.int .i64 0) := (blk_cell BK212.out 0).trans rfl; have hcz10_1 : w9.cell? ⟨gb212, 1, none⟩ = some (.int .i64 0) := (blk_cell BK212.out 1).trans rfl; have hfz10_0 := blk_frozen BK212.out 0; have hfz10_1 := blk_frozen BK212.out 1))
       go_roundg k1
       case measure => have := HK1.out; omega
       case rel => exact ⟨(wrap64 (x9_1 + 1)), (by first | rfl | (simp; done) | (simp [*]; done)), H', ⟨by have := HK1.out; omega⟩, ⟨by repeat (first | (with_reducible first | exact HB.out | apply below_alloc | apply pw_below_drewN | apply below_drew1 | refine below_set ?_ GE212.out) | exact HB.out)⟩⟩
     ·rw [if_neg c5] at H
      exact absurd H (by simp)
    ·rw [if_neg c4] at H
     exact absurd H (by simp)
   ·rw [if_neg c3] at H
    have c3b0 : decide (x9_1 < (l0.length : Int)) = false := decide_eq_false c3
    clear c3
    obtain rfl := Option.some.inj H
    go_wp2
    go_ret
    exact ⟨by first | rfl | (simp [errW_none, errW_some] <;> rfl) | (simp [*, errW_none, errW_some] <;> rfl), by repeat (first | (with_reducible first | exact HB.out | apply below_alloc | apply pw_below_drewN | apply below_drew1) | exact HB.out)⟩
end Go.Proofs.Ytojnnfhalpefmaa.M
end

section
namespace Go.Proofs.Ytojnnfhalpefmaa.M
open Go.RowKit Go.Proofs.YtojnnfhalpefmaaW.PrintWords Go.Proofs.YtojnnfhalpefmaaW.PrintLast Go.Proofs.YtojnnfhalpefmaaW.PrintMore
attribute [local go_sem] max2_int min2_int max_two min_two max_three min_three max_four min_four
def column_Of.l0 : Nat → Int → List (S45) → List Int → Int → Int → Option ((List (S45)) × Int)
 | 0, _, _, _, _, _ => none
 | k + 1, x0, x6, x18, x19, x20 => if x20 < x19 then (if 0 ≤ x20 then (if x20 < (x18.length : Int) then ((modp_Mod.f k x0 (rd x18 x20)).bind fun t269 => (if t269 = 0 then (column_Of.l0 k x0 x6 x18 x19 (wrap64 (x20 + 1))) else (if x6.length < 8796093022208 then (column_Of.l0 k x0 (x6 ++ [(⟨x20, t269⟩ : S45)]) x18 x19 (wrap64 (x20 + 1))) else (none)))) else (none)) else (none)) else (some (x6, 0))
def column_Of.f (k : Nat) (a0 : Int) (l1 : List Int) : Option ((List (S45)) × Int) := (modp_Prime.f k a0).bind fun t267 => (if t267 = true then (if (l1.length : Int) > 1024 then (some (([] : List (S45)), 3)) else (column_Of.l0 k a0 ([] : List (S45)) l1 (l1.length : Int) 0)) else (some (([] : List (S45)), 8)))
theorem column_Of.mono_l : ∀ k, (∀ y0 y1 y2 y3 y4, LeO (column_Of.l0 k y0 y1 y2 y3 y4) (column_Of.l0 (k + 1) y0 y1 y2 y3 y4))
 | 0 => fun _ _ _ _ _ r h => by simp [column_Of.l0] at h
 | k + 1 => by
  have ih0 := column_Of.mono_l k
  ·intro y0 y1 y2 y3 y4
   unfold column_Of.l0
   repeat' first
   | (with_reducible exact ih0 _ _ _ _ _)
   | (with_reducible exact modp_Mod.mono _ _ _)
   | (with_reducible exact modp_Prime.mono _ _)
   | (with_reducible exact LeO.refl _)
   | (with_reducible exact LeO.none _)
   | (with_reducible refine LeO.ite ?_ ?_)
   | (with_reducible refine LeO.bind ?_ (fun _ => ?_))
   | exact ih0 _ _ _ _ _
   | exact modp_Mod.mono _ _ _
   | exact modp_Prime.mono _ _
   | exact LeO.none _
   | refine LeO.ite ?_ ?_
   | refine LeO.bind ?_ (fun _ => ?_)
theorem column_Of.mono : ∀ a0 a1 k, LeO (column_Of.f k a0 a1) (column_Of.f (k + 1) a0 a1) := by
 intro a0 a1 k
 have ih0 := column_Of.mono_l k
 unfold column_Of.f
 repeat' first
   | (with_reducible exact ih0 _ _ _ _ _)
   | (with_reducible exact modp_Mod.mono _ _ _)
   | (with_reducible exact modp_Prime.mono _ _)
   | (with_reducible exact LeO.refl _)
   | (with_reducible exact LeO.none _)
   | (with_reducible refine LeO.ite ?_ ?_)
   | (with_reducible refine LeO.bind ?_ (fun _ => ?_))
   | exact ih0 _ _ _ _ _
   | exact modp_Mod.mono _ _ _
   | exact modp_Prime.mono _ _
   | exact LeO.none _
   | refine LeO.ite ?_ ?_
   | refine LeO.bind ?_ (fun _ => ?_)
set_option maxHeartbeats 8000000 in
set_option maxRecDepth 100000 in
theorem column_Of.calls (k : Nat) (a0 : Int) (A1 : Option Addr) (c1 : Nat) (l1 : List Int) (r1 : List (S45)) (r2 : Int) (w : World) (hr1 : Kd.C (Kd.int .i64) w A1 l1.length l1) (hc1 : l1.length ≤ c1) (h : column_Of.f k a0 l1 = some (r1, r2)) :
  Calls Try.prog 32 #[.int .i64 a0, .slice A1 l1.length c1] w fun e w' => ∃ v0_ : Value, e = .returned (.tuple #[v0_, .int .i64 r2]) ∧ Kd.R k45 45 w' w.heap.size (fun _ => True) v0_ r1 ∧ Below w.heap.size w w' := by
 have hu45 := Try.underlying45
 have HR1 := As.mk hr1
 have HC1 := As.mk hc1
 clear hr1 hc1
 have HB := As.mk (Below.refl w.heap.size w)
 have H : ((modp_Prime.f k a0).bind fun t267 => (if t267 = true then (if (l1.length : Int) > 1024 then (some (([] : List (S45)), 3)) else (column_Of.l0 k a0 ([] : List (S45)) l1 (l1.length : Int) 0)) else (some (([] : List (S45)), 8)))) = some (r1, r2) := h
 clear h
 replace H := Option.bind_eq_some_iff.mp H
 obtain ⟨t267, A30, H⟩ := H
 replace H : (if t267 = true then (if (l1.length : Int) > 1024 then (some (([] : List (S45)), 3)) else (column_Of.l0 k a0 ([] : List (S45)) l1 (l1.length : Int) 0)) else (some (([] : List (S45)), 8))) = some (r1, r2) := H
 have A3 := As.mk A30
 clear A30
 by_cases c4 : t267 = true
 ·subst c4
  have H1 : (if (l1.length : Int) > 1024 then (some (([] : List (S45)), 3)) else (column_Of.l0 k a0 ([] : List (S45)) l1 (l1.length : Int) 0)) = some (r1, r2) := by rw [if_pos rfl] at H; exact H
  clear H
  have H := H1
  clear H1
  by_cases c5 : (l1.length : Int) > 1024
  ·rw [if_pos c5] at H
   have c5b0 : decide (1024 < (l1.length : Int)) = true := decide_eq_true c5
   have c5b1 : decide (1024 < l1.length) = true := decide_eq_true (by omega)
   clear c5
   simp only [Option.some.injEq, Prod.mk.injEq] at H
   obtain ⟨rfl, rfl⟩ := H
   go_enter Try.func32, Try.ntmps32
   go_wp2_with (first | ((with_reducible refine gate_callee (f := 61) rfl ?_); refine goesL_ (some 12) rfl rfl Try.func61 (by kernel_rfl) rfl #[.int .i64 a0] rfl (by (try simp only [List.map_toArray, List.map_cons, List.map_nil]); first | done | rfl | (simp only [List.length_drop, List.length_take]; rfl)) ?_; (with_reducible refine (modp_Prime.calls k a0 true _ A3.out).mono ?_); rintro e w' ⟨rfl, ⟨nd, rfl⟩⟩; refine ⟨_, rfl, ?_⟩))
   go_ret2
   exact ⟨_, by first | rfl | (simp [errW_none, errW_some] <;> rfl) | (simp [*, errW_none, errW_some] <;> rfl), by first | exact Kd.R_nil _ _ _ _ _ | exact Kd.N_nil _ _ _ _ _ | exact Kd.V_nil _ _ _ _ _ | exact Kd.Q_nil _ _ _ _ _ | exact Kd.S_nil _ _ _ _ _, by repeat (first | (with_reducible first | exact HB.out | apply below_alloc | apply pw_below_drewN | apply below_drew1) | exact HB.out)⟩
  ·rw [if_neg c5] at H
   have c5b0 : decide (1024 < (l1.length : Int)) = false := decide_eq_false c5
   have c5b1 : decide (1024 < l1.length) = false := decide_eq_false (by omega)
   clear c5
   have H' := As.mk H
   clear H
   go_enter Try.func32, Try.ntmps32
   go_wp2_with (first | ((with_reducible refine gate_callee (f := 61) rfl ?_); refine goesL_ (some 12) rfl rfl Try.func61 (by kernel_rfl) rfl #[.int .i64 a0] rfl (by (try simp only [List.map_toArray, List.map_cons, List.map_nil]); first | done | rfl | (simp only [List.length_drop, List.length_take]; rfl)) ?_; (with_reducible refine (modp_Prime.calls k a0 true _ A3.out).mono ?_); rintro e w' ⟨rfl, ⟨nd, rfl⟩⟩; refine ⟨_, rfl, ?_⟩))
   go_loopg [6, 20] k (fun kq v6 v20 w' => ∃ (x6_1 : List (S45)) (x20_1 : Int), v20 = .int .i64 x20_1 ∧ As (column_Of.l0 kq a0 x6_1 l1 (l1.length : Int) x20_1 = some (r1, r2)) ∧ As (kq ≤ k) ∧ As (Kd.R k45 45 w' w.heap.size (fun _ => True) v6 x6_1) ∧ As (Below w.heap.size w w'))
   case atStart => exact ⟨(([] : List (S45))), (0), (by first | rfl | (simp; done) | (simp [*]; done)), H', ⟨Nat.le_refl _⟩, ⟨by first | exact Kd.R_nil _ _ _ _ _ | exact Kd.N_nil _ _ _ _ _ | exact Kd.V_nil _ _ _ _ _ | exact Kd.Q_nil _ _ _ _ _ | exact Kd.S_nil _ _ _ _ _⟩, ⟨by repeat (first | (with_reducible first | exact HB.out | apply below_alloc | apply pw_below_drewN | apply below_drew1) | exact HB.out)⟩⟩
   case round =>
    clear H'
    try clear c1
    try clear p2
    try clear c3
    try clear c4
    try clear c5
    try clear c5b0
    try clear c5b1
    obtain ⟨x6_1, x20_1, rfl, HA, HK1, HO_6, HB⟩ := hrel
    cases gk with
    | zero => exact absurd HA.out (by simp [column_Of.l0])
    | succ k1 =>
     have H := HA.out
     clear HA
     simp only [column_Of.l0] at H
     by_cases c6 : x20_1 < (l1.length : Int)
     ·rw [if_pos c6] at H
      have c6b0 : decide (x20_1 < (l1.length : Int)) = true := decide_eq_true c6
      clear c6
      by_cases c7 : 0 ≤ x20_1
      ·rw [if_pos c7] at H
       have c7b0 : decide (0 ≤ x20_1) = true := decide_eq_true c7
       clear c7
       by_cases c8 : x20_1 < (l1.length : Int)
       ·rw [if_pos c8] at H
        have c8b0 : decide (x20_1 < (l1.length : Int)) = true := decide_eq_true c8
        clear c8
        replace H := Option.bind_eq_some_iff.mp H
        obtain ⟨t269, A90, H⟩ := H
        replace H : (if t269 = 0 then (column_Of.l0 k1 a0 x6_1 l1 (l1.length : Int) (wrap64 (x20_1 + 1))) else (if x6_1.length < 8796093022208 then (column_Of.l0 k1 a0 (x6_1 ++ [(⟨x20_1, t269⟩ : S45)]) l1 (l1.length : Int) (wrap64 (x20_1 + 1))) else (none))) = some (r1, r2) := H
        have A9 := As.mk A90
        clear A90
        by_cases c10 : t269 = 0
        ·rw [if_pos c10] at H
         have c10b0 : (t269 == 0) = true := beq_iff_eq.mpr c10
         have c10b1 : (t269 != 0) = false := bne_eq_false_iff_eq.mpr c10
         clear c10
         have H' := As.mk H
         clear H
         have p268 : 0 ≤ (x20_1 : Int) := of_decide_eq_true (by first | (with_reducible assumption) | assumption)
         have q268 : x20_1 < (l1.length : Int) := of_decide_eq_true (by first | (with_reducible assumption) | assumption)
         obtain ⟨ad268, e268, hx268_0⟩ := Kd.at_int HR1.out x20_1 p268 q268
         cases e268
         replace hx268_0 := (HB.out.cell (World.block_lt_of_cell? w _ hx268_0)).trans hx268_0
         replace p268 := eq_true p268
         replace q268 := eq_true q268
         go_wp2_with (first | ((with_reducible refine gate_callee (f := 58) rfl ?_); refine goesL_ (some 27) rfl rfl Try.func58 (by kernel_rfl) rfl #[.int .i64 a0, .int .i64 (rd l1 x20_1)] rfl (by (try simp only [List.map_toArray, List.map_cons, List.map_nil]); first | done | rfl | (simp only [List.length_drop, List.length_take]; rfl)) ?_; (with_reducible refine (modp_Mod.calls k1 a0 (rd l1 x20_1) t269 _ A9.out).mono ?_); rintro e w' ⟨rfl, ⟨nd, rfl⟩⟩; refine ⟨_, rfl, ?_⟩))
         go_roundg k1
         case measure => have := HK1.out; omega
         case rel => exact ⟨(x6_1), (wrap64 (x20_1 + 1)), (by first | rfl | (simp; done) | (simp [*]; done)), H', ⟨by have := HK1.out; omega⟩, ⟨by (with_reducible repeat (first | apply Kd.R_alloc | apply Kd.R_drewN | apply Kd.R_drew)); exact HO_6.out⟩, ⟨by repeat (first | (with_reducible first | exact HB.out | apply below_alloc | apply pw_below_drewN | apply below_drew1) | exact HB.out)⟩⟩
        ·rw [if_neg c10] at H
         have c10b0 : (t269 == 0) = false := beq_eq_false_iff_ne.mpr c10
         have c10b1 : (t269 != 0) = true := bne_iff_ne.mpr c10
         by_cases c11 : x6_1.length < 8796093022208
         ·rw [if_pos c11] at H
          have LMc11 := As.mk c11
          clear c11
          obtain ⟨y270, hy270⟩ : ∃ y_ : List (S45), y_ = (x6_1 ++ [(⟨x20_1, t269⟩ : S45)]) := ⟨_, rfl⟩
          replace H : (column_Of.l0 k1 a0 y270 l1 (l1.length : Int) (wrap64 (x20_1 + 1))) = some (r1, r2) := by first | (rw [hy270]; with_reducible exact H) | (have H2_ := (Option.bind_some _ _).symm.trans H; rw [hy270]; with_reducible exact H2_) | (have H2_ := (Option.bind_some _ _).symm.trans H; with_reducible exact H2_) | with_reducible exact H | (rw [hy270]; exact H) | exact H
          have Ny270 := As.mk hy270
          clear hy270
          have H' := As.mk H
          clear H
          have p268 : 0 ≤ (x20_1 : Int) := of_decide_eq_true (by first | (with_reducible assumption) | assumption)
          have q268 : x20_1 < (l1.length : Int) := of_decide_eq_true (by first | (with_reducible assumption) | assumption)
          obtain ⟨ad268, e268, hx268_0⟩ := Kd.at_int HR1.out x20_1 p268 q268
          cases e268
          replace hx268_0 := (HB.out.cell (World.block_lt_of_cell? w _ hx268_0)).trans hx268_0
          replace p268 := eq_true p268
          replace q268 := eq_true q268
          go_wp2_with (first | ((with_reducible refine gate_callee (f := 58) rfl ?_); refine goesL_ (some 27) rfl rfl Try.func58 (by kernel_rfl) rfl #[.int .i64 a0, .int .i64 (rd l1 x20_1)] rfl (by (try simp only [List.map_toArray, List.map_cons, List.map_nil]); first | done | rfl | (simp only [List.length_drop, List.length_take]; rfl)) ?_; (with_reducible refine (modp_Mod.calls k1 a0 (rd l1 x20_1) t269 _ A9.out).mono ?_); rintro e w' ⟨rfl, ⟨nd, rfl⟩⟩; refine ⟨_, rfl, ?_⟩) | ((with_reducible refine gate_builtin (b := .append) (xs := #[.tmp 30, .tmp 34]) rfl ?_); at_builtin; refine Kd.R_append k45 (w0 := w) w.heap.size rfl (.tmp 30) (.tmp 34) 22 45 (.agg #[(.int .i64 0), (.int .i64 0)]) 16 rfl Try.underlying22 info45 rfl (by decide) (by omega) u6 x6_1 (⟨x20_1, t269⟩ : S45) [.int .i64 x20_1, .int .i64 t269] (fun _ => True) (fun _ => False) rfl rfl ?aP (fun _ hk => hk.elim) ?aF ?aO ?aB ?aS ?aL ?_; (case aP => exact k45_mkM _ _ _ (⟨x20_1, t269⟩ : S45)); (case aB => exact (hup0 HB.out)); (case aF => exact (fun _ _ => trivial)); (case aO => exact (rup HO_6.out)); (case aS => exact (below_size (hup0 HB.out))); (case aL => have := LMc11.out; omega); intro v271 w12 ho hb hg hat; rw [← Ny270.out] at ho; have n0_ := As.mk (hb); have n1_ := As.mk (ho); clear HB; clear HO_6; have HB := n0_; have HO272 := n1_; clear n0_ n1_; clear ho hb hg hat))
          go_roundg k1
          case measure => have := HK1.out; omega
          case rel => exact ⟨(y270), (wrap64 (x20_1 + 1)), (by first | rfl | (simp; done) | (simp [*]; done)), H', ⟨by have := HK1.out; omega⟩, ⟨by (with_reducible repeat (first | apply Kd.R_alloc | apply Kd.R_drewN | apply Kd.R_drew)); exact HO272.out⟩, ⟨by repeat (first | (with_reducible first | exact HB.out | apply below_alloc | apply pw_below_drewN | apply below_drew1) | exact HB.out)⟩⟩
         ·rw [if_neg c11] at H
          exact absurd H (by simp)
       ·rw [if_neg c8] at H
        exact absurd H (by simp)
      ·rw [if_neg c7] at H
       exact absurd H (by simp)
     ·rw [if_neg c6] at H
      have c6b0 : decide (x20_1 < (l1.length : Int)) = false := decide_eq_false c6
      clear c6
      simp only [Option.some.injEq, Prod.mk.injEq] at H
      obtain ⟨rfl, rfl⟩ := H
      go_wp2
      go_ret2
      exact ⟨_, by first | rfl | (simp [errW_none, errW_some] <;> rfl) | (simp [*, errW_none, errW_some] <;> rfl), by (with_reducible repeat (first | apply Kd.R_alloc | apply Kd.R_drewN | apply Kd.R_drew)); exact HO_6.out, by repeat (first | (with_reducible first | exact HB.out | apply below_alloc | apply pw_below_drewN | apply below_drew1) | exact HB.out)⟩
 ·replace c4 := Bool.eq_false_iff.mpr c4
  subst c4
  have H1 : (some (([] : List (S45)), 8)) = some (r1, r2) := by rw [if_neg (show ¬ (false = true) by decide)] at H; exact H
  clear H
  have H := H1
  clear H1
  simp only [Option.some.injEq, Prod.mk.injEq] at H
  obtain ⟨rfl, rfl⟩ := H
  go_enter Try.func32, Try.ntmps32
  go_wp2_with (first | ((with_reducible refine gate_callee (f := 61) rfl ?_); refine goesL_ (some 12) rfl rfl Try.func61 (by kernel_rfl) rfl #[.int .i64 a0] rfl (by (try simp only [List.map_toArray, List.map_cons, List.map_nil]); first | done | rfl | (simp only [List.length_drop, List.length_take]; rfl)) ?_; (with_reducible refine (modp_Prime.calls k a0 false _ A3.out).mono ?_); rintro e w' ⟨rfl, ⟨nd, rfl⟩⟩; refine ⟨_, rfl, ?_⟩))
  go_ret2
  exact ⟨_, by first | rfl | (simp [errW_none, errW_some] <;> rfl) | (simp [*, errW_none, errW_some] <;> rfl), by first | exact Kd.R_nil _ _ _ _ _ | exact Kd.N_nil _ _ _ _ _ | exact Kd.V_nil _ _ _ _ _ | exact Kd.Q_nil _ _ _ _ _ | exact Kd.S_nil _ _ _ _ _, by repeat (first | (with_reducible first | exact HB.out | apply below_alloc | apply pw_below_drewN | apply below_drew1) | exact HB.out)⟩
end Go.Proofs.Ytojnnfhalpefmaa.M
end

section
namespace Go.Proofs.Ytojnnfhalpefmaa.M
open Go.RowKit Go.Proofs.YtojnnfhalpefmaaW.PrintWords Go.Proofs.YtojnnfhalpefmaaW.PrintLast Go.Proofs.YtojnnfhalpefmaaW.PrintMore
attribute [local go_sem] max2_int min2_int max_two min_two max_three min_three max_four min_four
mutual
def column_Dense.j0 : Nat → List (S45) → Int → Bool → Option (List Int × Int)
 | 0, _, _, _ => none
 | k + 1, x1, x2, x38 => if x38 = true then (some (([] : List Int), 10)) else (if 0 ≤ x2 then (if (x2 : Int).toNat ≤ 35184372088832 then (column_Dense.l0 k (List.replicate (x2 : Int).toNat 0) x1 (x1.length : Int) 0) else (none)) else (none))
def column_Dense.l0 : Nat → List Int → List (S45) → Int → Int → Option (List Int × Int)
 | 0, _, _, _, _ => none
 | k + 1, x11, x41, x42, x43 => if x43 < x42 then (if 0 ≤ x43 then (if x43 < (x41.length : Int) then (if 0 ≤ ((rd_T45 x41 x43).f0) then (if ((rd_T45 x41 x43).f0) < (x11.length : Int) then (column_Dense.l0 k (x11.set (((rd_T45 x41 x43).f0) : Int).toNat ((rd_T45 x41 x43).f1)) x41 x42 (wrap64 (x43 + 1))) else (none)) else (none)) else (none)) else (none)) else (some (x11, 0))
end
def column_Dense.f (k : Nat) (a0 : Int) (l1 : List (S45)) (a2 : Int) : Option (List Int × Int) := (column_Check.f k a0 l1).bind fun t283 => (if t283 = 0 then ((column_Low.f l1).bind fun bt284 => (if a2 < 0 then (column_Dense.j0 k l1 a2 true) else (if a2 > 1024 then (column_Dense.j0 k l1 a2 true) else (if bt284.2 = true then (column_Dense.j0 k l1 a2 (decide (bt284.1 ≥ a2))) else (column_Dense.j0 k l1 a2 false))))) else (some (([] : List Int), t283)))
theorem column_Dense.mono_l : ∀ k, (∀ y0 y1 y2, LeO (column_Dense.j0 k y0 y1 y2) (column_Dense.j0 (k + 1) y0 y1 y2)) ∧ (∀ y0 y1 y2 y3, LeO (column_Dense.l0 k y0 y1 y2 y3) (column_Dense.l0 (k + 1) y0 y1 y2 y3))
 | 0 => ⟨fun _ _ _ r h => by simp [column_Dense.j0] at h, fun _ _ _ _ r h => by simp [column_Dense.l0] at h⟩
 | k + 1 => by
  obtain ⟨ih0, ih1⟩ := column_Dense.mono_l k
  refine ⟨?_, ?_⟩
  ·intro y0 y1 y2
   unfold column_Dense.j0
   repeat' first
   | (with_reducible exact ih0 _ _ _)
   | (with_reducible exact ih1 _ _ _ _)
   | (with_reducible exact column_Check.mono _ _ _)
   | (with_reducible exact LeO.refl _)
   | (with_reducible exact LeO.none _)
   | (with_reducible refine LeO.ite ?_ ?_)
   | (with_reducible refine LeO.bind ?_ (fun _ => ?_))
   | exact ih0 _ _ _
   | exact ih1 _ _ _ _
   | exact column_Check.mono _ _ _
   | exact LeO.none _
   | refine LeO.ite ?_ ?_
   | refine LeO.bind ?_ (fun _ => ?_)
  ·intro y0 y1 y2 y3
   unfold column_Dense.l0
   repeat' first
   | (with_reducible exact ih0 _ _ _)
   | (with_reducible exact ih1 _ _ _ _)
   | (with_reducible exact column_Check.mono _ _ _)
   | (with_reducible exact LeO.refl _)
   | (with_reducible exact LeO.none _)
   | (with_reducible refine LeO.ite ?_ ?_)
   | (with_reducible refine LeO.bind ?_ (fun _ => ?_))
   | exact ih0 _ _ _
   | exact ih1 _ _ _ _
   | exact column_Check.mono _ _ _
   | exact LeO.none _
   | refine LeO.ite ?_ ?_
   | refine LeO.bind ?_ (fun _ => ?_)
theorem column_Dense.mono : ∀ a0 a1 a2 k, LeO (column_Dense.f k a0 a1 a2) (column_Dense.f (k + 1) a0 a1 a2) := by
 intro a0 a1 a2 k
 obtain ⟨ih0, ih1⟩ := column_Dense.mono_l k
 unfold column_Dense.f
 repeat' first
   | (with_reducible exact ih0 _ _ _)
   | (with_reducible exact ih1 _ _ _ _)
   | (with_reducible exact column_Check.mono _ _ _)
   | (with_reducible exact LeO.refl _)
   | (with_reducible exact LeO.none _)
   | (with_reducible refine LeO.ite ?_ ?_)
   | (with_reducible refine LeO.bind ?_ (fun _ => ?_))
   | exact ih0 _ _ _
   | exact ih1 _ _ _ _
   | exact column_Check.mono _ _ _
   | exact LeO.none _
   | refine LeO.ite ?_ ?_
   | refine LeO.bind ?_ (fun _ => ?_)
set_option maxHeartbeats 8000000 in
set_option maxRecDepth 100000 in
theorem column_Dense.calls (k : Nat) (a0 : Int) (A1 : Option Addr) (c1 : Nat) (l1 : List (S45)) (a2 : Int) (r1 : List Int) (r2 : Int) (w : World) (hr1 : Kd.C k45 w A1 l1.length l1) (hc1 : l1.length ≤ c1) (h : column_Dense.f k a0 l1 a2 = some (r1, r2)) :
  Calls Try.prog 34 #[.int .i64 a0, .slice A1 l1.length c1, .int .i64 a2] w fun e w' => ∃ v0_ : Value, e = .returned (.tuple #[v0_, .int .i64 r2]) ∧ Kd.R (Kd.int .i64) 3 w' w.heap.size (fun _ => True) v0_ r1 ∧ Below w.heap.size w w' := by
 have hu45 := Try.underlying45
 have HR1 := As.mk hr1
 have HC1 := As.mk hc1
 clear hr1 hc1
 have HB := As.mk (Below.refl w.heap.size w)
 have H : ((column_Check.f k a0 l1).bind fun t283 => (if t283 = 0 then ((column_Low.f l1).bind fun bt284 => (if a2 < 0 then (column_Dense.j0 k l1 a2 true) else (if a2 > 1024 then (column_Dense.j0 k l1 a2 true) else (if bt284.2 = true then (column_Dense.j0 k l1 a2 (decide (bt284.1 ≥ a2))) else (column_Dense.j0 k l1 a2 false))))) else (some (([] : List Int), t283)))) = some (r1, r2) := h
 clear h
 replace H := Option.bind_eq_some_iff.mp H
 obtain ⟨t283, A40, H⟩ := H
 replace H : (if t283 = 0 then ((column_Low.f l1).bind fun bt284 => (if a2 < 0 then (column_Dense.j0 k l1 a2 true) else (if a2 > 1024 then (column_Dense.j0 k l1 a2 true) else (if bt284.2 = true then (column_Dense.j0 k l1 a2 (decide (bt284.1 ≥ a2))) else (column_Dense.j0 k l1 a2 false))))) else (some (([] : List Int), t283))) = some (r1, r2) := H
 have A4 := As.mk A40
 clear A40
 by_cases c5 : t283 = 0
 ·rw [if_pos c5] at H
  have c5b0 : (t283 == 0) = true := beq_iff_eq.mpr c5
  have c5b1 : (t283 != 0) = false := bne_eq_false_iff_eq.mpr c5
  clear c5
  replace H := Option.bind_eq_some_iff.mp H
  obtain ⟨⟨t284, t285⟩, A60, H⟩ := H
  replace H : (if a2 < 0 then (column_Dense.j0 k l1 a2 true) else (if a2 > 1024 then (column_Dense.j0 k l1 a2 true) else (if t285 = true then (column_Dense.j0 k l1 a2 (decide (t284 ≥ a2))) else (column_Dense.j0 k l1 a2 false)))) = some (r1, r2) := H
  have A6 := As.mk A60
  clear A60
  have HC7 := As.mk H
  clear H
  go_enter Try.func34, Try.ntmps34
  go_upto_region 5 with (first | ((with_reducible refine gate_callee (f := 24) rfl ?_); refine goesL_ (some 16) rfl rfl Try.func24 (by kernel_rfl) rfl #[.int .i64 a0, .slice A1 l1.length c1] rfl (by (try simp only [List.map_toArray, List.map_cons, List.map_nil]); first | done | rfl | (simp only [List.length_drop, List.length_take]; rfl)) ?_; (with_reducible refine (column_Check.calls k a0 _ _ l1 t283 _ ?side1 ?side2 A4.out).mono ?_); (case side1 => exact cup HR1.out); (case side2 => exact HC1.out); rintro e w8 ⟨rfl, hb⟩; refine ⟨_, rfl, ?_⟩; have n0_ := As.mk (below_step (hup0 HB.out) hb); clear HB; have HB := n0_; clear n0_; (try clear hb); (try clear hb2); (try clear hk); (try clear hi)) | ((with_reducible refine gate_callee (f := 22) rfl ?_); refine goesL_ (some 22) rfl rfl Try.func22 (by kernel_rfl) rfl #[.slice A1 l1.length c1] rfl (by (try simp only [List.map_toArray, List.map_cons, List.map_nil]); first | done | rfl | (simp only [List.length_drop, List.length_take]; rfl)) ?_; (with_reducible refine (column_Low.calls _ _ l1 t284 t285 _ ?side1 ?side2 A6.out).mono ?_); (case side1 => exact cup (Kd.C_below HR1.out HB.out)); (case side2 => exact HC1.out); rintro e w' ⟨rfl, ⟨nd, rfl⟩⟩; refine ⟨_, rfl, ?_⟩))
  (try simp only [Act.put, List.setIfInBounds_toArray, List.set_cons_zero, List.set_cons_succ])
  go_cut [38] (fun v38 wc => ∃ (kq : Nat) (x38_6 : Bool), v38 = .bool x38_6 ∧ As (column_Dense.j0 kq l1 a2 x38_6 = some (r1, r2)) ∧ As (kq ≤ k) ∧ As (Below w.heap.size w wc))
  case first =>
   have H := HC7.out
   clear HC7
   by_cases c9 : a2 < 0
   ·rw [if_pos c9] at H
    have c9b0 : decide (a2 < 0) = true := decide_eq_true c9
    clear c9
    (first | rw [c9b0] | (simp only [i64_w, i32_w]; rw [c9b0]) | skip)
    have H' := As.mk H
    clear H
    go_wp2
    go_meet
    case rel => exact ⟨_, (true), (by first | rfl | (simp; done) | (simp [*]; done)), H', ⟨by first | omega | exact Nat.le_refl _⟩, ⟨by repeat (first | (with_reducible first | exact HB.out | apply below_alloc | apply pw_below_drewN | apply below_drew1) | exact HB.out)⟩⟩
   ·rw [if_neg c9] at H
    have c9b0 : decide (a2 < 0) = false := decide_eq_false c9
    clear c9
    (first | rw [c9b0] | (simp only [i64_w, i32_w]; rw [c9b0]) | skip)
    by_cases c10 : a2 > 1024
    ·rw [if_pos c10] at H
     have c10b0 : decide (1024 < a2) = true := decide_eq_true c10
     clear c10
     have H' := As.mk H
     clear H
     go_wp2
     go_meet
     case rel => exact ⟨_, (true), (by first | rfl | (simp; done) | (simp [*]; done)), H', ⟨by first | omega | exact Nat.le_refl _⟩, ⟨by repeat (first | (with_reducible first | exact HB.out | apply below_alloc | apply pw_below_drewN | apply below_drew1) | exact HB.out)⟩⟩
    ·rw [if_neg c10] at H
     have c10b0 : decide (1024 < a2) = false := decide_eq_false c10
     clear c10
     by_cases c11 : t285 = true
     ·subst c11
      have H1 : (column_Dense.j0 k l1 a2 (decide (t284 ≥ a2))) = some (r1, r2) := by rw [if_pos rfl] at H; exact H
      clear H
      have H := H1
      clear H1
      have H' := As.mk H
      clear H
      go_wp2
      go_meet
      case rel => exact ⟨_, (decide (t284 ≥ a2)), (by first | rfl | (simp; done) | (simp [*]; done)), H', ⟨by first | omega | exact Nat.le_refl _⟩, ⟨by repeat (first | (with_reducible first | exact HB.out | apply below_alloc | apply pw_below_drewN | apply below_drew1) | exact HB.out)⟩⟩
     ·replace c11 := Bool.eq_false_iff.mpr c11
      subst c11
      have H1 : (column_Dense.j0 k l1 a2 false) = some (r1, r2) := by rw [if_neg (show ¬ (false = true) by decide)] at H; exact H
      clear H
      have H := H1
      clear H1
      have H' := As.mk H
      clear H
      go_wp2
      go_meet
      case rel => exact ⟨_, (false), (by first | rfl | (simp; done) | (simp [*]; done)), H', ⟨by first | omega | exact Nat.le_refl _⟩, ⟨by repeat (first | (with_reducible first | exact HB.out | apply below_alloc | apply pw_below_drewN | apply below_drew1) | exact HB.out)⟩⟩
  case rest =>
   clear HC7
   try clear c1
   try clear c2
   try clear p2
   try clear c3
   try clear c5
   try clear c5b0
   try clear c5b1
   try clear c9
   try clear c9b0
   try clear c10
   try clear c10b0
   try clear c11
   obtain ⟨kq, x38_6, rfl, HA, HJ6, HB⟩ := hcut
   cases kq with
   | zero => exact absurd HA.out (by simp [column_Dense.j0])
   | succ kj6 =>
    have H := HA.out
    clear HA
    simp only [column_Dense.j0] at H
    by_cases c12 : x38_6 = true
    ·subst c12
     have H1 : (some (([] : List Int), 10)) = some (r1, r2) := by rw [if_pos rfl] at H; exact H
     clear H
     have H := H1
     clear H1
     simp only [Option.some.injEq, Prod.mk.injEq] at H
     obtain ⟨rfl, rfl⟩ := H
     go_wp2
     go_ret2
     exact ⟨_, by first | rfl | (simp [errW_none, errW_some] <;> rfl) | (simp [*, errW_none, errW_some] <;> rfl), by first | exact Kd.R_nil _ _ _ _ _ | exact Kd.N_nil _ _ _ _ _ | exact Kd.V_nil _ _ _ _ _ | exact Kd.Q_nil _ _ _ _ _ | exact Kd.S_nil _ _ _ _ _, by repeat (first | (with_reducible first | exact HB.out | apply below_alloc | apply pw_below_drewN | apply below_drew1) | exact HB.out)⟩
    ·replace c12 := Bool.eq_false_iff.mpr c12
     subst c12
     have H1 : (if 0 ≤ a2 then (if (a2 : Int).toNat ≤ 35184372088832 then (column_Dense.l0 kj6 (List.replicate (a2 : Int).toNat 0) l1 (l1.length : Int) 0) else (none)) else (none)) = some (r1, r2) := by rw [if_neg (show ¬ (false = true) by decide)] at H; exact H
     clear H
     have H := H1
     clear H1
     by_cases c13 : 0 ≤ a2
     ·rw [if_pos c13] at H
      have c13b0 := eq_true c13
      have c13b1 : decide (0 ≤ a2) = true := decide_eq_true c13
      clear c13
      by_cases c14 : (a2 : Int).toNat ≤ 35184372088832
      ·rw [if_pos c14] at H
       have c14b0 := eq_true c14
       have c14b1 : decide ((a2 : Int).toNat ≤ 35184372088832) = true := decide_eq_true c14
       clear c14
       obtain ⟨y286, hy286⟩ : ∃ y_ : List Int, y_ = (List.replicate (a2 : Int).toNat 0) := ⟨_, rfl⟩
       replace H : (column_Dense.l0 kj6 y286 l1 (l1.length : Int) 0) = some (r1, r2) := by first | (rw [hy286]; with_reducible exact H) | (have H2_ := (Option.bind_some _ _).symm.trans H; rw [hy286]; with_reducible exact H2_) | (have H2_ := (Option.bind_some _ _).symm.trans H; with_reducible exact H2_) | with_reducible exact H | (rw [hy286]; exact H) | exact H
       have Ny286 := As.mk hy286
       clear hy286
       have H' := As.mk H
       clear H
       go_wp2_with (first | ((with_reducible refine gate_dst (N := 40) rfl ?_); refine Kd.R_make (Kd.int .i64) _ 3 rfl (N := 40) rfl 47 _ _ rfl a2 rfl rfl Try.underlying47 (.int .i64 0) 8 info3 rfl (by decide) (by omega) 0 (ok := fun _ => True) (okp := fun _ => True) rfl (fun _ hk => hk) trivial (of_decide_eq_true (by first | (with_reducible assumption) | assumption)) (Nat.le_trans (Nat.mul_le_mul_right _ (of_decide_eq_true (by first | (with_reducible assumption) | assumption) : a2.toNat ≤ 35184372088832)) (by omega)) (Below.refl _ _) (Nat.le_refl _) ?_; intro v287 w15 ho16 hb hg_ hnew_; clear hg_ hnew_; (first | rw [← Ny286.out] at ho16 | (simp only [Int.reduceToNat] at ho16; rw [← Ny286.out] at ho16)); have n0_ := As.mk (Kd.R_lower ho16 (below_size (hup0 HB.out))); have n1_ := As.mk (below_step (hup0 HB.out) hb); clear HB; have HO288 := n0_; have HB := n1_; clear n0_ n1_; clear hb ho16))
       go_loopg [43] kj6 (fun kq v43 w' => ∃ (x11_2 : List Int) (x43_2 : Int), v43 = .int .i64 x43_2 ∧ As (column_Dense.l0 kq x11_2 l1 (l1.length : Int) x43_2 = some (r1, r2)) ∧ As (kq ≤ kj6) ∧ As (Kd.R (Kd.int .i64) 3 w' w.heap.size (fun _ => True) v287 x11_2) ∧ As (Below w.heap.size w w'))
       case atStart => exact ⟨(y286), (0), (by first | rfl | (simp; done) | (simp [*]; done)), H', ⟨Nat.le_refl _⟩, ⟨by (with_reducible repeat (first | apply Kd.R_alloc | apply Kd.R_drewN | apply Kd.R_drew)); exact HO288.out⟩, ⟨by repeat (first | (with_reducible first | exact HB.out | apply below_alloc | apply pw_below_drewN | apply below_drew1) | exact HB.out)⟩⟩
       case round =>
        clear H'
        try clear c1
        try clear c2
        try clear p2
        try clear c3
        try clear c5
        try clear c5b0
        try clear c5b1
        try clear c9
        try clear c9b0
        try clear c10
        try clear c10b0
        try clear c11
        try clear c12
        try clear c13
        try clear c13b0
        try clear c13b1
        try clear c14
        try clear c14b0
        try clear c14b1
        try clear p2
        obtain ⟨x11_2, x43_2, rfl, HA, HK2, HO_11, HB⟩ := hrel
        cases gk with
        | zero => exact absurd HA.out (by simp [column_Dense.l0])
        | succ k2 =>
         have H := HA.out
         clear HA
         simp only [column_Dense.l0] at H
         by_cases c17 : x43_2 < (l1.length : Int)
         ·rw [if_pos c17] at H
          have c17b0 : decide (x43_2 < (l1.length : Int)) = true := decide_eq_true c17
          clear c17
          by_cases c18 : 0 ≤ x43_2
          ·rw [if_pos c18] at H
           have c18b0 : decide (0 ≤ x43_2) = true := decide_eq_true c18
           clear c18
           by_cases c19 : x43_2 < (l1.length : Int)
           ·rw [if_pos c19] at H
            have c19b0 : decide (x43_2 < (l1.length : Int)) = true := decide_eq_true c19
            clear c19
            by_cases c20 : 0 ≤ ((rd_T45 l1 x43_2).f0)
            ·rw [if_pos c20] at H
             have c20b0 : decide (0 ≤ ((rd_T45 l1 x43_2).f0)) = true := decide_eq_true c20
             clear c20
             by_cases c21 : ((rd_T45 l1 x43_2).f0) < (x11_2.length : Int)
             ·rw [if_pos c21] at H
              have c21b0 : decide (((rd_T45 l1 x43_2).f0) < (x11_2.length : Int)) = true := decide_eq_true c21
              clear c21
              obtain ⟨y291, hy291⟩ : ∃ y_ : List Int, y_ = (x11_2.set (((rd_T45 l1 x43_2).f0) : Int).toNat ((rd_T45 l1 x43_2).f1)) := ⟨_, rfl⟩
              replace H : (column_Dense.l0 k2 y291 l1 (l1.length : Int) (wrap64 (x43_2 + 1))) = some (r1, r2) := by first | (rw [hy291]; with_reducible exact H) | (have H2_ := (Option.bind_some _ _).symm.trans H; rw [hy291]; with_reducible exact H2_) | (have H2_ := (Option.bind_some _ _).symm.trans H; with_reducible exact H2_) | with_reducible exact H | (rw [hy291]; exact H) | exact H
              have Ny291 := As.mk hy291
              clear hy291
              have H' := As.mk H
              clear H
              have p289 : 0 ≤ (x43_2 : Int) := of_decide_eq_true (by first | (with_reducible assumption) | assumption)
              have q289 : x43_2 < (l1.length : Int) := of_decide_eq_true (by first | (with_reducible assumption) | assumption)
              obtain ⟨ad289, e289, hx289_0, hx289_1⟩ := at_T45 HR1.out x43_2 p289 q289
              cases e289
              replace hx289_0 := (HB.out.cell (World.block_lt_of_cell? w _ hx289_0)).trans hx289_0
              replace hx289_1 := (HB.out.cell (World.block_lt_of_cell? w _ hx289_1)).trans hx289_1
              replace p289 := eq_true p289
              replace q289 := eq_true q289
              go_wp2_with (first | ((with_reducible refine gate_dst (N := 13) rfl ?_); refine box_event ?hg (N := 13) ?hd (cs := #[.int .i64 0, .int .i64 0]) (t := 45) ?hr ?_; (case hd => rfl); (case hg => rfl); (case hr => first | (go_simp; done) | (go_simp; rfl)); intro gb290 hg w23 hbox hb; have n0_ := As.mk (Kd.R_below (rup HO_11.out) hb); have n1_ := As.mk (below_step (hup0 HB.out) hb); have n2_ := As.mk (hbox); have n3_ := As.mk ((by rw [hg]; exact (below_size (hup0 HB.out)) : w.heap.size ≤ gb290)); have n4_ := As.mk ((by rw [hg]; exact (below_size (hup0 HB.out)) : w.heap.size ≤ gb290)); clear HO_11; clear HB; have HO_11 := n0_; have HB := n1_; have BK290 := n2_; have GW290 := n3_; have GE290 := n4_; clear n0_ n1_ n2_ n3_ n4_; clear hb hbox hg; have hcz24_0 : w23.cell? ⟨gb290, 0, none⟩ = some (.int .i64 0) := (blk_cell BK290.out 0).trans rfl; have hcz24_1 : w23.cell? ⟨gb290, 1, none⟩ = some (.int .i64 0) := (blk_cell BK290.out 1).trans rfl; have hfz24_0 := blk_frozen BK290.out 0; have hfz24_1 := blk_frozen BK290.out 1) | ((with_reducible refine gate_store (t := 45) (p := 13) rfl ?_); refine store_event (t := 45) (p := 13) (v := ?vo_w25) (w1 := ((w23.setCell ⟨gb290, 0, none⟩ (.int .i64 ((rd_T45 l1 x43_2).f0))).setCell ⟨gb290, 1, none⟩ (.int .i64 ((rd_T45 l1 x43_2).f1)))) ?hg ?ho ?hn ?hr ?_; (case ho => rfl); (case hg => rfl); (case hn => rfl); (case hr => first | (go_simp; done) | (go_simp; rfl)); intro w25 hw; have n0_ : As (Kd.R (Kd.int .i64) 3 w25 w.heap.size (fun _ => True) v287 x11_2) := ⟨(by rw [hw]; exact (by (with_reducible repeat (first | apply Kd.R_alloc | apply Kd.R_drewN | apply Kd.R_drew)); exact Kd.R_mono (Kd.R_far (p := ⟨gb290, 1, none⟩) (Kd.R_far (p := ⟨gb290, 0, none⟩) (Kd.R_types HO_11.out BK290.out (by decide)) (fun _ hk => hk.2) (.int .i64 ((rd_T45 l1 x43_2).f0))) (fun _ hk => hk.2) (.int .i64 ((rd_T45 l1 x43_2).f1))) (fun _ hk => trivial)))⟩; have n1_ : As (w25.heap[gb290]? = some (.cells #[.int .i64 ((rd_T45 l1 x43_2).f0), .int .i64 ((rd_T45 l1 x43_2).f1)] 45 (0, 0))) := ⟨(by rw [hw]; exact (by (with_reducible repeat (first | refine blk_drewN ?_ _ | refine blk_drew ?_ | refine blk_alloc ?_ _)); refine blk_put (cs := #[.int .i64 ((rd_T45 l1 x43_2).f0), .int .i64 0]) ?_ 1 _ rfl; (with_reducible repeat (first | refine blk_drewN ?_ _ | refine blk_drew ?_ | refine blk_alloc ?_ _)); refine blk_put (cs := #[.int .i64 0, .int .i64 0]) ?_ 0 _ rfl; (with_reducible repeat (first | refine blk_drewN ?_ _ | refine blk_drew ?_ | refine blk_alloc ?_ _)); exact BK290.out))⟩; have n2_ : As (Below w.heap.size w w25) := ⟨(by rw [hw]; exact (hup1 HB.out GE290.out))⟩; clear hw; clear HO_11; clear BK290; clear HB; have HO_11 := n0_; have BK290 := n1_; have HB := n2_; clear n0_ n1_ n2_; have hcz26_0 : w25.cell? ⟨gb290, 0, none⟩ = some (.int .i64 ((rd_T45 l1 x43_2).f0)) := (blk_cell BK290.out 0).trans rfl; have hcz26_1 : w25.cell? ⟨gb290, 1, none⟩ = some (.int .i64 ((rd_T45 l1 x43_2).f1)) := (blk_cell BK290.out 1).trans rfl; have hfz26_0 := blk_frozen BK290.out 0; have hfz26_1 := blk_frozen BK290.out 1; have p22 : 0 ≤ (((rd_T45 l1 x43_2).f0) : Int) := of_decide_eq_true (by first | (with_reducible assumption) | assumption); have q22 : (((rd_T45 l1 x43_2).f0) : Int) < ((x11_2.length : Int) : Int) := of_decide_eq_true (by first | (with_reducible assumption) | assumption); obtain ⟨go22, co22, eo22, gb22, gl22, cl22, HG22⟩ := Kd.R_form HO_11.out (by first | omega | (have e_ := (Kd.R_reads' HO_11.out).1; omega)); (first | cases eo22 | (injection eo22 with ea_ en_ ec_; (first | subst ea_ | (injection ea_ with ea_; subst ea_)); subst ec_; clear en_)); have GB22 := As.mk gb22; have GG22 := As.mk HG22; clear gb22 gl22 HG22; obtain ⟨hx22_0, hf22_0⟩ := Kd.R_celln 0 HO_11.out (((rd_T45 l1 x43_2).f0) : Int) p22 q22; replace p22 := eq_true p22; replace q22 := eq_true q22; obtain ⟨hy27_, hz27_⟩ := Kd.R_celln 0 HO_11.out (((rd_T45 l1 x43_2).f0) : Int) (of_decide_eq_true (by first | (with_reducible assumption) | assumption)) (of_decide_eq_true (by first | (with_reducible assumption) | assumption)); have HP27 := Kd.R_putg HO_11.out (((rd_T45 l1 x43_2).f0) : Int) ((rd_T45 l1 x43_2).f1)) | ((with_reducible refine gate_store (t := 3) (p := 52) rfl ?_); refine store_event (t := 3) (p := 52) (v := ?vo_w28) (w1 := (w25.setCell ⟨go22, (((rd_T45 l1 x43_2).f0) : Int).toNat, none⟩ (.int .i64 ((rd_T45 l1 x43_2).f1)))) ?hg ?ho ?hn ?hr ?_; (case ho => rfl); (case hg => rfl); (case hn => rfl); (case hr => first | (go_simp; done) | (go_simp; rfl)); intro w28 hw; have hg : w25.grownBy w28 (some go22) := (by rw [hw]; exact HP27.2); have hp_ : Kd.R (Kd.int .i64) 3 w28 w.heap.size (fun _ => True) (.slice (some ⟨go22, 0, none⟩) x11_2.length co22) y291 := (by rw [hw, Ny291.out]; exact HP27.1); clear HP27; have n0_ := As.mk (hp_); have n1_ := As.mk (blk_grown (g := gb290) (o := .cells #[.int .i64 ((rd_T45 l1 x43_2).f0), .int .i64 ((rd_T45 l1 x43_2).f1)] 45 (0, 0)) (bup BK290.out) hg (Kd.R_ne HO_11.out BK290.out (by decide))); have n2_ := As.mk ((by rw [hw]; exact below_set (HB.out) GB22.out : Below w.heap.size w w28)); clear HO_11; clear BK290; clear HB; have HO_11 := n0_; have BK290 := n1_; have HB := n2_; clear n0_ n1_ n2_; clear hg hw hp_))
              go_roundg k2
              case measure => have := HJ6.out; have := HK2.out; omega
              case rel => exact ⟨(y291), (wrap64 (x43_2 + 1)), (by first | rfl | (simp; done) | (simp [*]; done)), H', ⟨by have := HJ6.out; have := HK2.out; omega⟩, ⟨by (with_reducible repeat (first | apply Kd.R_alloc | apply Kd.R_drewN | apply Kd.R_drew)); exact HO_11.out⟩, ⟨by repeat (first | (with_reducible first | exact HB.out | apply below_alloc | apply pw_below_drewN | apply below_drew1 | refine below_set ?_ GE290.out) | exact HB.out)⟩⟩
             ·rw [if_neg c21] at H
              exact absurd H (by simp)
            ·rw [if_neg c20] at H
             exact absurd H (by simp)
           ·rw [if_neg c19] at H
            exact absurd H (by simp)
          ·rw [if_neg c18] at H
           exact absurd H (by simp)
         ·rw [if_neg c17] at H
          have c17b0 : decide (x43_2 < (l1.length : Int)) = false := decide_eq_false c17
          clear c17
          simp only [Option.some.injEq, Prod.mk.injEq] at H
          obtain ⟨rfl, rfl⟩ := H
          go_wp2
          go_ret2
          exact ⟨_, by first | rfl | (simp [errW_none, errW_some] <;> rfl) | (simp [*, errW_none, errW_some] <;> rfl), by (with_reducible repeat (first | apply Kd.R_alloc | apply Kd.R_drewN | apply Kd.R_drew)); exact HO_11.out, by repeat (first | (with_reducible first | exact HB.out | apply below_alloc | apply pw_below_drewN | apply below_drew1) | exact HB.out)⟩
      ·rw [if_neg c14] at H
       exact absurd H (by simp)
     ·rw [if_neg c13] at H
      exact absurd H (by simp)
 ·rw [if_neg c5] at H
  have c5b0 : (t283 == 0) = false := beq_eq_false_iff_ne.mpr c5
  have c5b1 : (t283 != 0) = true := bne_iff_ne.mpr c5
  simp only [Option.some.injEq, Prod.mk.injEq] at H
  obtain ⟨rfl, rfl⟩ := H
  go_enter Try.func34, Try.ntmps34
  go_wp2_with (first | ((with_reducible refine gate_callee (f := 24) rfl ?_); refine goesL_ (some 16) rfl rfl Try.func24 (by kernel_rfl) rfl #[.int .i64 a0, .slice A1 l1.length c1] rfl (by (try simp only [List.map_toArray, List.map_cons, List.map_nil]); first | done | rfl | (simp only [List.length_drop, List.length_take]; rfl)) ?_; (with_reducible refine (column_Check.calls k a0 _ _ l1 t283 _ ?side1 ?side2 A4.out).mono ?_); (case side1 => exact cup HR1.out); (case side2 => exact HC1.out); rintro e w29 ⟨rfl, hb⟩; refine ⟨_, rfl, ?_⟩; have n0_ := As.mk (below_step (hup0 HB.out) hb); clear HB; have HB := n0_; clear n0_; (try clear hb); (try clear hb2); (try clear hk); (try clear hi)))
  go_ret2
  exact ⟨_, by first | rfl | (simp [errW_none, errW_some] <;> rfl) | (simp [*, errW_none, errW_some] <;> rfl), by first | exact Kd.R_nil _ _ _ _ _ | exact Kd.N_nil _ _ _ _ _ | exact Kd.V_nil _ _ _ _ _ | exact Kd.Q_nil _ _ _ _ _ | exact Kd.S_nil _ _ _ _ _, by repeat (first | (with_reducible first | exact HB.out | apply below_alloc | apply pw_below_drewN | apply below_drew1) | exact HB.out)⟩
def torusref01_Same.l0 : Nat → List Int → List Int → Int → Option (Bool)
 | 0, _, _, _ => none
 | k + 1, x0, x1, x5 => if x5 < (x0.length : Int) then (if 0 ≤ x5 then (if x5 < (x1.length : Int) then (if (rd x0 x5) = (rd x1 x5) then (torusref01_Same.l0 k x0 x1 (wrap64 (x5 + 1))) else (some false)) else (none)) else (none)) else (some true)
def torusref01_Same.f (k : Nat) (l0 : List Int) (l1 : List Int) : Option (Bool) := if (l0.length : Int) = (l1.length : Int) then (torusref01_Same.l0 k l0 l1 0) else (some false)
theorem torusref01_Same.mono_l : ∀ k, (∀ y0 y1 y2, LeO (torusref01_Same.l0 k y0 y1 y2) (torusref01_Same.l0 (k + 1) y0 y1 y2))
 | 0 => fun _ _ _ r h => by simp [torusref01_Same.l0] at h
 | k + 1 => by
  have ih0 := torusref01_Same.mono_l k
  ·intro y0 y1 y2
   unfold torusref01_Same.l0
   repeat' first
   | (with_reducible exact ih0 _ _ _)
   | (with_reducible exact LeO.refl _)
   | (with_reducible exact LeO.none _)
   | (with_reducible refine LeO.ite ?_ ?_)
   | (with_reducible refine LeO.bind ?_ (fun _ => ?_))
   | exact ih0 _ _ _
   | exact LeO.none _
   | refine LeO.ite ?_ ?_
   | refine LeO.bind ?_ (fun _ => ?_)
theorem torusref01_Same.mono : ∀ a0 a1 k, LeO (torusref01_Same.f k a0 a1) (torusref01_Same.f (k + 1) a0 a1) := by
 intro a0 a1 k
 have ih0 := torusref01_Same.mono_l k
 unfold torusref01_Same.f
 repeat' first
   | (with_reducible exact ih0 _ _ _)
   | (with_reducible exact LeO.refl _)
   | (with_reducible exact LeO.none _)
   | (with_reducible refine LeO.ite ?_ ?_)
   | (with_reducible refine LeO.bind ?_ (fun _ => ?_))
   | exact ih0 _ _ _
   | exact LeO.none _
   | refine LeO.ite ?_ ?_
   | refine LeO.bind ?_ (fun _ => ?_)
set_option maxHeartbeats 8000000 in
set_option maxRecDepth 100000 in
theorem torusref01_Same.calls (k : Nat) (A0 : Option Addr) (c0 : Nat) (l0 : List Int) (A1 : Option Addr) (c1 : Nat) (l1 : List Int) (r : Bool) (w : World) (hr0 : Kd.C (Kd.int .i64) w A0 l0.length l0) (hc0 : l0.length ≤ c0) (hr1 : Kd.C (Kd.int .i64) w A1 l1.length l1) (hc1 : l1.length ≤ c1) (h : torusref01_Same.f k l0 l1 = some r) :
  Calls Try.prog 36 #[.slice A0 l0.length c0, .slice A1 l1.length c1] w fun e w' => e = .returned (.bool r) ∧ Drawn0 w w' := by
 have HR0 := As.mk hr0
 have HC0 := As.mk hc0
 clear hr0 hc0
 have HR1 := As.mk hr1
 have HC1 := As.mk hc1
 clear hr1 hc1
 have H : (if (l0.length : Int) = (l1.length : Int) then (torusref01_Same.l0 k l0 l1 0) else (some false)) = some r := h
 clear h
 by_cases c3 : (l0.length : Int) = (l1.length : Int)
 ·rw [if_pos c3] at H
  have c3b0 : ((l0.length : Int) == (l1.length : Int)) = true := beq_iff_eq.mpr c3
  have c3b1 : ((l0.length : Int) != (l1.length : Int)) = false := bne_eq_false_iff_eq.mpr c3
  have c3b2 : (l0.length == l1.length) = true := by first | simpa using c3 | (simp at c3 ⊢; omega)
  clear c3
  have H' := As.mk H
  clear H
  go_enter Try.func36, Try.ntmps36
  go_wp2
  repeat (go_quiet (fail); try go_wp2)
  go_loopg [5] k (fun kq v5 w' => ∃ (x5_1 : Int), v5 = .int .i64 x5_1 ∧ As (torusref01_Same.l0 kq l0 l1 x5_1 = some r) ∧ As (kq ≤ k) ∧ Drawn0 w w')
  case atStart => exact ⟨(0), (by first | rfl | (simp; done) | (simp [*]; done)), H', ⟨Nat.le_refl _⟩, by repeat (first | exact Drawn0.refl _ | apply Drawn0.step)⟩
  case round =>
   clear H'
   try clear c1
   try clear p2
   try clear c3
   try clear c3b0
   try clear c3b1
   try clear c3b2
   obtain ⟨x5_1, rfl, HA, HK1, ⟨m1, rfl⟩⟩ := hrel
   cases gk with
   | zero => exact absurd HA.out (by simp [torusref01_Same.l0])
   | succ k1 =>
    have H := HA.out
    clear HA
    simp only [torusref01_Same.l0] at H
    by_cases c4 : x5_1 < (l0.length : Int)
    ·rw [if_pos c4] at H
     have c4b0 : decide (x5_1 < (l0.length : Int)) = true := decide_eq_true c4
     clear c4
     by_cases c5 : 0 ≤ x5_1
     ·rw [if_pos c5] at H
      have c5b0 : decide (0 ≤ x5_1) = true := decide_eq_true c5
      clear c5
      by_cases c6 : x5_1 < (l1.length : Int)
      ·rw [if_pos c6] at H
       have c6b0 : decide (x5_1 < (l1.length : Int)) = true := decide_eq_true c6
       clear c6
       by_cases c7 : (rd l0 x5_1) = (rd l1 x5_1)
       ·rw [if_pos c7] at H
        have c7b0 : ((rd l0 x5_1) == (rd l1 x5_1)) = true := beq_iff_eq.mpr c7
        have c7b1 : ((rd l0 x5_1) != (rd l1 x5_1)) = false := bne_eq_false_iff_eq.mpr c7
        clear c7
        have H' := As.mk H
        clear H
        have p300 : 0 ≤ (x5_1 : Int) := of_decide_eq_true (by first | (with_reducible assumption) | assumption)
        have q300 : x5_1 < (l0.length : Int) := of_decide_eq_true (by first | (with_reducible assumption) | assumption)
        obtain ⟨ad300, e300, hx300_0⟩ := Kd.at_int HR0.out x5_1 p300 q300
        cases e300
        replace p300 := eq_true p300
        replace q300 := eq_true q300
        have p301 : 0 ≤ (x5_1 : Int) := of_decide_eq_true (by first | (with_reducible assumption) | assumption)
        have q301 : x5_1 < (l1.length : Int) := of_decide_eq_true (by first | (with_reducible assumption) | assumption)
        obtain ⟨ad301, e301, hx301_0⟩ := Kd.at_int HR1.out x5_1 p301 q301
        cases e301
        replace p301 := eq_true p301
        replace q301 := eq_true q301
        go_wp2
        repeat (go_quiet (fail); try go_wp2)
        go_roundg k1
        case measure => have := HK1.out; omega
        case rel => exact ⟨(wrap64 (x5_1 + 1)), (by first | rfl | (simp; done) | (simp [*]; done)), H', ⟨by have := HK1.out; omega⟩, by repeat (first | exact Drawn0.refl _ | apply Drawn0.step)⟩
       ·rw [if_neg c7] at H
        have c7b0 : ((rd l0 x5_1) == (rd l1 x5_1)) = false := beq_eq_false_iff_ne.mpr c7
        have c7b1 : ((rd l0 x5_1) != (rd l1 x5_1)) = true := bne_iff_ne.mpr c7
        obtain rfl := Option.some.inj H
        have p300 : 0 ≤ (x5_1 : Int) := of_decide_eq_true (by first | (with_reducible assumption) | assumption)
        have q300 : x5_1 < (l0.length : Int) := of_decide_eq_true (by first | (with_reducible assumption) | assumption)
        obtain ⟨ad300, e300, hx300_0⟩ := Kd.at_int HR0.out x5_1 p300 q300
        cases e300
        replace p300 := eq_true p300
        replace q300 := eq_true q300
        have p301 : 0 ≤ (x5_1 : Int) := of_decide_eq_true (by first | (with_reducible assumption) | assumption)
        have q301 : x5_1 < (l1.length : Int) := of_decide_eq_true (by first | (with_reducible assumption) | assumption)
        obtain ⟨ad301, e301, hx301_0⟩ := Kd.at_int HR1.out x5_1 p301 q301
        cases e301
        replace p301 := eq_true p301
        replace q301 := eq_true q301
        go_wp2
        repeat (go_quiet (fail); try go_wp2)
        go_ret
        exact ⟨by first | rfl | (simp; done) | (simp [*]; done), by repeat (first | exact Drawn0.refl _ | apply Drawn0.step)⟩
      ·rw [if_neg c6] at H
       exact absurd H (by simp)
     ·rw [if_neg c5] at H
      exact absurd H (by simp)
    ·rw [if_neg c4] at H
     have c4b0 : decide (x5_1 < (l0.length : Int)) = false := decide_eq_false c4
     clear c4
     obtain rfl := Option.some.inj H
     go_wp2
     repeat (go_quiet (fail); try go_wp2)
     go_ret
     exact ⟨by first | rfl | (simp; done) | (simp [*]; done), by repeat (first | exact Drawn0.refl _ | apply Drawn0.step)⟩
 ·rw [if_neg c3] at H
  have c3b0 : ((l0.length : Int) == (l1.length : Int)) = false := beq_eq_false_iff_ne.mpr c3
  have c3b1 : ((l0.length : Int) != (l1.length : Int)) = true := bne_iff_ne.mpr c3
  have c3b2 : (l0.length == l1.length) = false := by first | simpa using c3 | (simp at c3 ⊢; omega)
  obtain rfl := Option.some.inj H
  go_enter Try.func36, Try.ntmps36
  go_wp2
  repeat (go_quiet (fail); try go_wp2)
  go_ret
  exact ⟨by first | rfl | (simp; done) | (simp [*]; done), by repeat (first | exact Drawn0.refl _ | apply Drawn0.step)⟩
end Go.Proofs.Ytojnnfhalpefmaa.M
end

section
namespace Go.Proofs.Ytojnnfhalpefmaa.H
open Go.RowKit Go.Shelf Go.Proofs.YtojnnfhalpefmaaW.PrintWords Go.Proofs.YtojnnfhalpefmaaW.PrintLast Go.Proofs.YtojnnfhalpefmaaW.PrintMore Go.Proofs.Ytojnnfhalpefmaa.M
attribute [local go_sem] Oper.semAt_some
def merge : List S45 → List S45 → List (Int × Int × Int)
 | [], [] => []
 | x :: a, [] => (x.f0, x.f1, 0) :: merge a []
 | [], y :: b => (y.f0, 0, y.f1) :: merge [] b
 | x :: a, y :: b =>
  if x.f0 < y.f0 then (x.f0, x.f1, 0) :: merge a (y :: b)
  else if y.f0 < x.f0 then (y.f0, 0, y.f1) :: merge (x :: a) b
  else (x.f0, x.f1, y.f1) :: merge a b
termination_by a b => a.length + b.length
theorem merge_r {y : S45} {b : List S45} : merge [] (y :: b) = (y.f0, 0, y.f1) :: merge [] b := by rw [merge]
theorem merge_l {x : S45} {a : List S45} : merge (x :: a) [] = (x.f0, x.f1, 0) :: merge a [] := by rw [merge]
theorem merge_lt {x y : S45} {a b : List S45} (h : x.f0 < y.f0) : merge (x :: a) (y :: b) = (x.f0, x.f1, 0) :: merge a (y :: b) := by rw [merge, if_pos h]
theorem merge_gt {x y : S45} {a b : List S45} (h : ¬ x.f0 < y.f0) (h' : y.f0 < x.f0) : merge (x :: a) (y :: b) = (y.f0, 0, y.f1) :: merge (x :: a) b := by rw [merge, if_neg h, if_pos h']
theorem merge_eq {x y : S45} {a b : List S45} (h : ¬ x.f0 < y.f0) (h' : ¬ y.f0 < x.f0) : merge (x :: a) (y :: b) = (x.f0, x.f1, y.f1) :: merge a b := by rw [merge, if_neg h, if_neg h']
structure Else (bA bB : Nat) (W W' : World) : Prop where
 os : W'.os = W.os
 tape : W'.tape = W.tape
 output : W'.output = W.output
 size : W.heap.size ≤ W'.heap.size
 block : ∀ b, b < W.heap.size → b ≠ bA → b ≠ bB → W'.heap[b]? = W.heap[b]?
theorem Else.refl (bA bB : Nat) (W : World) : Else bA bB W W := ⟨rfl, rfl, rfl, Nat.le_refl _, fun _ _ _ _ => rfl⟩
theorem Else.trans {bA bB : Nat} {U V W : World} (h : Else bA bB U V) (k : Else bA bB V W) : Else bA bB U W :=
 ⟨k.os.trans h.os, k.tape.trans h.tape, k.output.trans h.output, Nat.le_trans h.size k.size, fun b hb h1 h2 => (k.block b (Nat.lt_of_lt_of_le hb h.size) h1 h2).trans (h.block b hb h1 h2)⟩
theorem Else.of_below {bA bB : Nat} {U V W : World} (h : Else bA bB U V) (k : Below U.heap.size V W) : Else bA bB U W :=
 ⟨k.os.trans h.os, k.tape.trans h.tape, k.output.trans h.output, Nat.le_trans h.size k.size, fun b hb h1 h2 => (k.block b hb).trans (h.block b hb h1 h2)⟩
theorem below_drewN_ {B : Nat} {w W : World} (h : Below B w W) (n : Nat) : Below B w (W.drewN n) := ⟨h.os, h.tape, h.output, h.size, h.block⟩
theorem C_head {w : World} {A : Option Addr} {x : S45} {xs : List S45} (h : k45.C w A (x :: xs).length (x :: xs)) : ∃ ad : Addr, A = some ad ∧ w.cell? ad = some (.int .i64 x.f0) ∧ w.cell? ⟨ad.block, ad.off + 1, none⟩ = some (.int .i64 x.f1) := by
 obtain ⟨ad, e, h1, h2⟩ := at_T45 h 0 (by omega) (by simp)
 refine ⟨ad, e, ?_, ?_⟩
 ·simpa [rd_T45, Addr.add] using h1
 ·simpa [rd_T45, Addr.add] using h2
theorem Else.drewN {bA bB : Nat} {U V : World} (h : Else bA bB U V) (m : Nat) : Else bA bB U (V.drewN m) := ⟨h.os, h.tape, h.output, h.size, h.block⟩
theorem Else.drew {bA bB : Nat} {U V : World} (h : Else bA bB U V) : Else bA bB U V.drew := ⟨h.os, h.tape, h.output, h.size, h.block⟩
theorem Else.setCell {bA bB : Nat} {U V : World} (h : Else bA bB U V) (p : Addr) (v : Value) (hp : p.block = bA ∨ p.block = bB ∨ U.heap.size ≤ p.block) : Else bA bB U (V.setCell p v) := by
 have k := (Below.refl 0 V).setCell (p := p) (Nat.zero_le _) v
 refine ⟨k.os.trans h.os, k.tape.trans h.tape, k.output.trans h.output, Nat.le_trans h.size k.size, fun b hb h1 h2 => ?_⟩
 have hne : b ≠ p.block := by rcases hp with e | e | e <;> omega
 exact (Below.heap_setCell V p v b hne).trans (h.block b hb h1 h2)
theorem cutS {w0 : World} {ad : Addr} {x : S45} {xs : List S45} {c : Nat} (h : k45.C w0 (some ad) (x :: xs).length (x :: xs)) (hc : (x :: xs).length ≤ c) :
  ∃ A' : Option Addr, (∀ W : World, (Instr.slice 22 (.slice (some ad) (xs.length + 1) c) (some (.int .i64 1)) none none).run Try.prog W = .ok (.slice A' xs.length (c - 1)) W) ∧ k45.C w0 A' xs.length xs ∧ xs.length ≤ c - 1 := by
 obtain ⟨i0, hi0, _, hsz0, _⟩ := info_parts info45
 have hl : (x :: xs).length = xs.length + 1 := rfl
 have h1 := cut_from (P := Try.prog) 22 45 .i64 Try.underlying22 hi0 2 hsz0 (some ad) (xs.length + 1) c 1 (by omega) (by omega)
 have h2 := Kd.C_drop (m := 1) h (by simp) hc
 refine ⟨_, h1, ?_, by omega⟩
 exact h2
set_option maxRecDepth 100000 in
set_option maxHeartbeats 4000000 in
theorem merged1 (n : Nat) (hn : 2 ≤ n) (l bA bB : Nat) (w0 : World) (a b : List S45) (Aa Ab : Option Addr) (ca cb : Nat)
  (hCa : k45.C w0 Aa a.length a) (hca : a.length ≤ ca) (hCb : k45.C w0 Ab b.length b) (hcb : b.length ≤ cb) (hAB : bA ≠ bB)
  (J : List (Int × Int × Int) → World → Prop) (hJ : ∀ pre W W', J pre W → Else bA bB W W' → J pre W')
  (hY : ∀ pre x W1, J pre W1 → (∃ v, Boxed W1 bA 22 v) → (∃ v, Boxed W1 bB 22 v) → pre.length < (merge a b).length → YieldAt Fence.wide (n - 1) Try.prog l #[.int .i64 x.1, .agg #[.int .i64 x.2.1, .int .i64 x.2.2]] W1 fun e W' =>
   e = .returned (.bool true) ∧ J (pre ++ [x]) W' ∧ Below w0.heap.size W1 W' ∧ W'.heap[bA]? = W1.heap[bA]? ∧ W'.heap[bB]? = W1.heap[bB]?)
  (W : World) (hB0 : Below w0.heap.size w0 W) (hbA : Boxed W bA 22 (.slice Aa a.length ca)) (hbB : Boxed W bB 22 (.slice Ab b.length cb)) (hA0 : w0.heap.size ≤ bA) (hB0' : w0.heap.size ≤ bB) (h0 : J [] W) :
  CallsIn Fence.wide n Try.prog 77 #[.func (.yield l) #[] #[], .pointer (some ⟨bA, 0, none⟩), .pointer (some ⟨bB, 0, none⟩)] W fun e W' => (∃ v, e = .returned v) ∧ J (merge a b) W' := by
 refine callsIn_of_wp Try.func77 rfl trivial ?_ rfl
 simp only [Try.ntmps77, List.size_toArray, List.length_cons, List.length_nil, Nat.reduceAdd, Nat.reduceSub, Array.replicate_succ, Array.replicate_zero, List.push_toArray, List.append_toArray, List.nil_append, List.cons_append]
 gi_wp2
 gi_loopg [] (a.length + b.length) (fun k wr => ∃ (pre : List (Int × Int × Int)) (ra rb : List S45) (Ba Bb : Option Addr) (da db : Nat), k = ra.length + rb.length ∧ merge a b = pre ++ merge ra rb ∧ J pre wr ∧
  Boxed wr bA 22 (.slice Ba ra.length da) ∧ Boxed wr bB 22 (.slice Bb rb.length db) ∧ k45.C w0 Ba ra.length ra ∧ ra.length ≤ da ∧ k45.C w0 Bb rb.length rb ∧ rb.length ≤ db ∧ Below w0.heap.size w0 wr)
 case atStart => exact ⟨[], a, b, Aa, Ab, ca, cb, rfl, rfl, h0, hbA, hbB, hCa, hca, hCb, hcb, hB0⟩
 case round =>
  obtain ⟨pre, ra, rb, Ba, Bb, da, db, hk, hm, hJs, hbA, hbB, hCa, hca, hCb, hcb, hB0⟩ := hrel
  have cA := hbA.cell
  have cB := hbB.cell
  have fA := hbA.frozen
  have fB := hbB.frozen
  cases ra with
  | nil =>
   cases rb with
   | nil =>
    gi_wp2
    go_end0
    refine ⟨⟨_, rfl⟩, ?_⟩
    rw [hm]
    simpa [merge] using hJs
   | cons y rb =>
    rw [merge_r] at hm
    obtain ⟨ad, rfl, _⟩ := C_head (Kd.C_below hCb hB0)
    obtain ⟨B', hcutB, hCB', hcB'⟩ := cutS hCb hcb

    gi_wp2
    have hlA := (Array.getElem?_eq_some_iff.1 hbA).1
    have hlB := (Array.getElem?_eq_some_iff.1 hbB).1
    obtain ⟨W1, hW1⟩ : ∃ W1, wr.alloc (.cells #[.int .i64 0, .int .i64 0] 78) = W1 := ⟨_, rfl⟩
    obtain ⟨g, hg⟩ : ∃ g, wr.heap.size = g := ⟨_, rfl⟩
    have bC : W1.heap[g]? = some (.cells #[.int .i64 0, .int .i64 0] 78 (0, 0)) := by rw [← hW1, ← hg]; exact World.alloc_heap_new _ _
    have bB1 : Below wr.heap.size wr W1 := by rw [← hW1]; exact (Below.refl _ wr).alloc (Nat.le_refl _) _
    have E1 : Else bA bB wr W1 := (Else.refl bA bB wr).of_below bB1
    have hbA1 : Boxed W1 bA 22 _ := (bB1.block bA hlA).trans hbA
    have hbB1 : Boxed W1 bB 22 _ := (bB1.block bB hlB).trans hbB
    have hB1 := hB0.trans (bB1.mono hB0.size)
    rw [hW1, hg]
    have cA := hbA1.cell
    have cB := hbB1.cell
    have fA := hbA1.frozen
    have fB := hbB1.frozen
    have cC0 := blk_cell bC 0
    have cC1 := blk_cell bC 1
    have fC0 := blk_frozen bC 0
    have fC1 := blk_frozen bC 1
    simp only [List.getElem?_toArray, List.getElem?_cons_zero, List.getElem?_cons_succ] at cC0 cC1

    obtain ⟨ad', e', y0, y1⟩ := C_head (Kd.C_below hCb hB1)
    obtain rfl := Option.some.inj e'
    have hzb : ((rb.length : Int) + 1 == 0) = false := by simp; omega
    gi_quiet (fail)
    gi_wp2
    gi_quiet (fail)
    gi_wp2
    gi_region
    gi_wp2
    generalize hW4 : ((W1.drewN _).setCell _ _).setCell _ _ = W4
    have E4 : Else bA bB wr W4 := by
     rw [← hW4]
     exact ((E1.drewN _).setCell _ _ (.inr (.inr (Nat.le_of_eq hg)))).setCell _ _ (.inr (.inl rfl))
    have hJ4 := hJ _ _ _ hJs E4
    have hA4 : Boxed W4 bA 22 (.slice Ba 0 da) := by
     rw [← hW4]
     exact blk_far (blk_far (blk_drewN hbA1 _) (by show bA ≠ g; omega) _) (by show bA ≠ bB; omega) _
    have hB4 : Boxed W4 bB 22 (.slice B' rb.length (db - 1)) := by
     rw [← hW4]
     exact blk_put (blk_far (blk_drewN hbB1 _) (by show bB ≠ g; omega) _) 0 _ rfl
    have hL4 : Below w0.heap.size w0 W4 := by
     rw [← hW4]
     exact ((below_drewN_ hB1 _).setCell (p := ⟨g, 1, none⟩) (by have := hB0.size; show _ ≤ g; omega) _).setCell (p := ⟨bB, 0, none⟩) hB0' _
    obtain ⟨fn, tmps, assign, body, hy, hR⟩ := hY pre (y.f0, 0, y.f1) W4 hJ4 ⟨_, hA4⟩ ⟨_, hB4⟩ (by rw [hm]; simp)
    dsimp only at hy
    rw [hy]
    gi_wp2
    refine ⟨fun _ => by omega, hR.mono ?_⟩
    rintro e W5 ⟨rfl, hJ5, hb5, hA5, hB5⟩
    gi_wp2
    gi_roundg (([] : List S45).length + rb.length)
    case measure => simp only [List.length_cons, List.length_nil] at hk ⊢; omega
    case rel => exact ⟨pre ++ [(y.f0, 0, y.f1)], ([] : List S45), rb, _, _, _, _, by simp, by rw [hm]; simp, hJ5, hA5.trans hA4, hB5.trans hB4, hCa, hca, hCB', hcB', hL4.trans hb5⟩
  | cons x ra =>
   cases rb with
   | nil =>
    rw [merge_l] at hm
    obtain ⟨ae, rfl, _⟩ := C_head (Kd.C_below hCa hB0)
    obtain ⟨A', hcutA, hCA', hcA'⟩ := cutS hCa hca

    gi_wp2
    have hlA := (Array.getElem?_eq_some_iff.1 hbA).1
    have hlB := (Array.getElem?_eq_some_iff.1 hbB).1
    obtain ⟨W1, hW1⟩ : ∃ W1, wr.alloc (.cells #[.int .i64 0, .int .i64 0] 78) = W1 := ⟨_, rfl⟩
    obtain ⟨g, hg⟩ : ∃ g, wr.heap.size = g := ⟨_, rfl⟩
    have bC : W1.heap[g]? = some (.cells #[.int .i64 0, .int .i64 0] 78 (0, 0)) := by rw [← hW1, ← hg]; exact World.alloc_heap_new _ _
    have bB1 : Below wr.heap.size wr W1 := by rw [← hW1]; exact (Below.refl _ wr).alloc (Nat.le_refl _) _
    have E1 : Else bA bB wr W1 := (Else.refl bA bB wr).of_below bB1
    have hbA1 : Boxed W1 bA 22 _ := (bB1.block bA hlA).trans hbA
    have hbB1 : Boxed W1 bB 22 _ := (bB1.block bB hlB).trans hbB
    have hB1 := hB0.trans (bB1.mono hB0.size)
    rw [hW1, hg]
    have cA := hbA1.cell
    have cB := hbB1.cell
    have fA := hbA1.frozen
    have fB := hbB1.frozen
    have cC0 := blk_cell bC 0
    have cC1 := blk_cell bC 1
    have fC0 := blk_frozen bC 0
    have fC1 := blk_frozen bC 1
    simp only [List.getElem?_toArray, List.getElem?_cons_zero, List.getElem?_cons_succ] at cC0 cC1

    obtain ⟨ae', e'', x0, x1⟩ := C_head (Kd.C_below hCa hB1)
    obtain rfl := Option.some.inj e''
    have hza : ((ra.length : Int) + 1 == 0) = false := by simp; omega
    gi_quiet (fail)
    gi_wp2
    gi_region
    gi_wp2
    generalize hW4 : ((W1.drewN _).setCell _ _).setCell _ _ = W4
    have E4 : Else bA bB wr W4 := by
     rw [← hW4]
     exact ((E1.drewN _).setCell _ _ (.inr (.inr (Nat.le_of_eq hg)))).setCell _ _ (.inl rfl)
    have hJ4 := hJ _ _ _ hJs E4
    have hA4 : Boxed W4 bA 22 (.slice A' ra.length (da - 1)) := by
     rw [← hW4]
     exact blk_put (blk_far (blk_drewN hbA1 _) (by show bA ≠ g; omega) _) 0 _ rfl
    have hB4 : Boxed W4 bB 22 (.slice Bb 0 db) := by
     rw [← hW4]
     exact blk_far (blk_far (blk_drewN hbB1 _) (by show bB ≠ g; omega) _) (by show bB ≠ bA; omega) _
    have hL4 : Below w0.heap.size w0 W4 := by
     rw [← hW4]
     exact ((below_drewN_ hB1 _).setCell (p := ⟨g, 0, none⟩) (by have := hB0.size; show _ ≤ g; omega) _).setCell (p := ⟨bA, 0, none⟩) hA0 _
    obtain ⟨fn, tmps, assign, body, hy, hR⟩ := hY pre (x.f0, x.f1, 0) W4 hJ4 ⟨_, hA4⟩ ⟨_, hB4⟩ (by rw [hm]; simp)
    dsimp only at hy
    rw [hy]
    gi_wp2
    refine ⟨fun _ => by omega, hR.mono ?_⟩
    rintro e W5 ⟨rfl, hJ5, hb5, hA5, hB5⟩
    gi_wp2
    gi_roundg (ra.length + ([] : List S45).length)
    case measure => simp only [List.length_cons, List.length_nil] at hk ⊢; omega
    case rel => exact ⟨pre ++ [(x.f0, x.f1, 0)], ra, ([] : List S45), _, _, _, _, by simp, by rw [hm]; simp, hJ5, hA5.trans hA4, hB5.trans hB4, hCA', hcA', hCb, hcb, hL4.trans hb5⟩
   | cons y rb =>
    obtain ⟨ae, rfl, _⟩ := C_head (Kd.C_below hCa hB0)
    obtain ⟨ad, rfl, _⟩ := C_head (Kd.C_below hCb hB0)
    obtain ⟨A', hcutA, hCA', hcA'⟩ := cutS hCa hca
    obtain ⟨B', hcutB, hCB', hcB'⟩ := cutS hCb hcb

    gi_wp2
    have hlA := (Array.getElem?_eq_some_iff.1 hbA).1
    have hlB := (Array.getElem?_eq_some_iff.1 hbB).1
    obtain ⟨W1, hW1⟩ : ∃ W1, wr.alloc (.cells #[.int .i64 0, .int .i64 0] 78) = W1 := ⟨_, rfl⟩
    obtain ⟨g, hg⟩ : ∃ g, wr.heap.size = g := ⟨_, rfl⟩
    have bC : W1.heap[g]? = some (.cells #[.int .i64 0, .int .i64 0] 78 (0, 0)) := by rw [← hW1, ← hg]; exact World.alloc_heap_new _ _
    have bB1 : Below wr.heap.size wr W1 := by rw [← hW1]; exact (Below.refl _ wr).alloc (Nat.le_refl _) _
    have E1 : Else bA bB wr W1 := (Else.refl bA bB wr).of_below bB1
    have hbA1 : Boxed W1 bA 22 _ := (bB1.block bA hlA).trans hbA
    have hbB1 : Boxed W1 bB 22 _ := (bB1.block bB hlB).trans hbB
    have hB1 := hB0.trans (bB1.mono hB0.size)
    rw [hW1, hg]
    have cA := hbA1.cell
    have cB := hbB1.cell
    have fA := hbA1.frozen
    have fB := hbB1.frozen
    have cC0 := blk_cell bC 0
    have cC1 := blk_cell bC 1
    have fC0 := blk_frozen bC 0
    have fC1 := blk_frozen bC 1
    simp only [List.getElem?_toArray, List.getElem?_cons_zero, List.getElem?_cons_succ] at cC0 cC1

    obtain ⟨ae', e'', x0, x1⟩ := C_head (Kd.C_below hCa hB1)
    obtain rfl := Option.some.inj e''
    have hza : ((ra.length : Int) + 1 == 0) = false := by simp; omega

    obtain ⟨ad', e', y0, y1⟩ := C_head (Kd.C_below hCb hB1)
    obtain rfl := Option.some.inj e'
    have hzb : ((rb.length : Int) + 1 == 0) = false := by simp; omega
    by_cases hlt : x.f0 < y.f0
    ·have hltb : decide (x.f0 < y.f0) = true := decide_eq_true hlt
     rw [merge_lt hlt] at hm
     gi_quiet (fail)
     gi_wp2
     gi_region
     gi_wp2
     generalize hW4 : ((W1.drewN _).setCell _ _).setCell _ _ = W4
     have E4 : Else bA bB wr W4 := by
      rw [← hW4]
      exact ((E1.drewN _).setCell _ _ (.inr (.inr (Nat.le_of_eq hg)))).setCell _ _ (.inl rfl)
     have hJ4 := hJ _ _ _ hJs E4
     have hA4 : Boxed W4 bA 22 (.slice A' ra.length (da - 1)) := by
      rw [← hW4]
      exact blk_put (blk_far (blk_drewN hbA1 _) (by show bA ≠ g; omega) _) 0 _ rfl
     have hB4 : Boxed W4 bB 22 (.slice (some ad) (rb.length + 1) db) := by
      rw [← hW4]
      exact blk_far (blk_far (blk_drewN hbB1 _) (by show bB ≠ g; omega) _) (by show bB ≠ bA; omega) _
     have hL4 : Below w0.heap.size w0 W4 := by
      rw [← hW4]
      exact ((below_drewN_ hB1 _).setCell (p := ⟨g, 0, none⟩) (by have := hB0.size; show _ ≤ g; omega) _).setCell (p := ⟨bA, 0, none⟩) hA0 _
     obtain ⟨fn, tmps, assign, body, hy, hR⟩ := hY pre (x.f0, x.f1, 0) W4 hJ4 ⟨_, hA4⟩ ⟨_, hB4⟩ (by rw [hm]; simp)
     dsimp only at hy
     rw [hy]
     gi_wp2
     refine ⟨fun _ => by omega, hR.mono ?_⟩
     rintro e W5 ⟨rfl, hJ5, hb5, hA5, hB5⟩
     gi_wp2
     gi_roundg (ra.length + (y :: rb).length)
     case measure => simp only [List.length_cons, List.length_nil] at hk ⊢; omega
     case rel => exact ⟨pre ++ [(x.f0, x.f1, 0)], ra, (y :: rb), _, _, _, _, by simp, by rw [hm]; simp, hJ5, hA5.trans hA4, hB5.trans hB4, hCA', hcA', hCb, hcb, hL4.trans hb5⟩
    ·have hltb : decide (x.f0 < y.f0) = false := decide_eq_false hlt
     by_cases hgt : y.f0 < x.f0
     ·have hgtb : decide (y.f0 < x.f0) = true := decide_eq_true hgt
      rw [merge_gt hlt hgt] at hm
      gi_quiet (fail)
      gi_wp2
      gi_quiet (fail)
      gi_wp2
      gi_region
      gi_wp2
      generalize hW4 : ((W1.drewN _).setCell _ _).setCell _ _ = W4
      have E4 : Else bA bB wr W4 := by
       rw [← hW4]
       exact ((E1.drewN _).setCell _ _ (.inr (.inr (Nat.le_of_eq hg)))).setCell _ _ (.inr (.inl rfl))
      have hJ4 := hJ _ _ _ hJs E4
      have hA4 : Boxed W4 bA 22 (.slice (some ae) (ra.length + 1) da) := by
       rw [← hW4]
       exact blk_far (blk_far (blk_drewN hbA1 _) (by show bA ≠ g; omega) _) (by show bA ≠ bB; omega) _
      have hB4 : Boxed W4 bB 22 (.slice B' rb.length (db - 1)) := by
       rw [← hW4]
       exact blk_put (blk_far (blk_drewN hbB1 _) (by show bB ≠ g; omega) _) 0 _ rfl
      have hL4 : Below w0.heap.size w0 W4 := by
       rw [← hW4]
       exact ((below_drewN_ hB1 _).setCell (p := ⟨g, 1, none⟩) (by have := hB0.size; show _ ≤ g; omega) _).setCell (p := ⟨bB, 0, none⟩) hB0' _
      obtain ⟨fn, tmps, assign, body, hy, hR⟩ := hY pre (y.f0, 0, y.f1) W4 hJ4 ⟨_, hA4⟩ ⟨_, hB4⟩ (by rw [hm]; simp)
      dsimp only at hy
      rw [hy]
      gi_wp2
      refine ⟨fun _ => by omega, hR.mono ?_⟩
      rintro e W5 ⟨rfl, hJ5, hb5, hA5, hB5⟩
      gi_wp2
      gi_roundg ((x :: ra).length + rb.length)
      case measure => simp only [List.length_cons, List.length_nil] at hk ⊢; omega
      case rel => exact ⟨pre ++ [(y.f0, 0, y.f1)], (x :: ra), rb, _, _, _, _, by simp, by rw [hm]; simp, hJ5, hA5.trans hA4, hB5.trans hB4, hCa, hca, hCB', hcB', hL4.trans hb5⟩
     ·have hgtb : decide (y.f0 < x.f0) = false := decide_eq_false hgt
      rw [merge_eq hlt hgt] at hm
      gi_quiet (fail)
      gi_wp2
      gi_quiet (fail)
      gi_wp2
      gi_region
      gi_wp2
      gi_region
      gi_wp2
      generalize hW4 : World.drew (((((W1.drewN _).setCell _ _).setCell _ _).setCell _ _).setCell _ _) = W4
      have E4 : Else bA bB wr W4 := by
       rw [← hW4]
       exact (((((E1.drewN _).setCell _ _ (.inr (.inr (Nat.le_of_eq hg)))).setCell _ _ (.inr (.inr (Nat.le_of_eq hg)))).setCell _ _ (.inl rfl)).setCell _ _ (.inr (.inl rfl))).drew
      have hJ4 := hJ _ _ _ hJs E4
      have hA4 : Boxed W4 bA 22 (.slice A' ra.length (da - 1)) := by
       rw [← hW4]
       exact blk_drew (blk_far (blk_put (blk_far (blk_far (blk_drewN hbA1 _) (by show bA ≠ g; omega) _) (by show bA ≠ g; omega) _) 0 _ rfl) (by show bA ≠ bB; omega) _)
      have hB4 : Boxed W4 bB 22 (.slice B' rb.length (db - 1)) := by
       rw [← hW4]
       exact blk_drew (blk_put (blk_far (blk_far (blk_far (blk_drewN hbB1 _) (by show bB ≠ g; omega) _) (by show bB ≠ g; omega) _) (by show bB ≠ bA; omega) _) 0 _ rfl)
      have hL4 : Below w0.heap.size w0 W4 := by
       rw [← hW4]
       exact (((((below_drewN_ hB1 _).setCell (p := ⟨g, 0, none⟩) (by have := hB0.size; show _ ≤ g; omega) _).setCell (p := ⟨g, 1, none⟩) (by have := hB0.size; show _ ≤ g; omega) _).setCell (p := ⟨bA, 0, none⟩) hA0 _).setCell (p := ⟨bB, 0, none⟩) hB0' _).drew
      obtain ⟨fn, tmps, assign, body, hy, hR⟩ := hY pre (x.f0, x.f1, y.f1) W4 hJ4 ⟨_, hA4⟩ ⟨_, hB4⟩ (by rw [hm]; simp)
      dsimp only at hy
      rw [hy]
      gi_wp2
      refine ⟨fun _ => by omega, hR.mono ?_⟩
      rintro e W5 ⟨rfl, hJ5, hb5, hA5, hB5⟩
      gi_wp2
      gi_roundg (ra.length + rb.length)
      case measure => simp only [List.length_cons, List.length_nil] at hk ⊢; omega
      case rel => exact ⟨pre ++ [(x.f0, x.f1, y.f1)], ra, rb, _, _, _, _, by simp, by rw [hm]; simp, hJ5, hA5.trans hA4, hB5.trans hB4, hCA', hcA', hCB', hcB', hL4.trans hb5⟩
end Go.Proofs.Ytojnnfhalpefmaa.H
end

section
namespace Go.Proofs.Ytojnnfhalpefmaa.H
open Go.RowKit Go.Shelf Go.Proofs.YtojnnfhalpefmaaW.PrintWords Go.Proofs.YtojnnfhalpefmaaW.PrintLast Go.Proofs.YtojnnfhalpefmaaW.PrintMore Go.Proofs.Ytojnnfhalpefmaa.M
attribute [local go_sem] Oper.semAt_some
def encT (x : Int × Int × Int) : Array Value := #[.int .i64 x.1, .agg #[.int .i64 x.2.1, .int .i64 x.2.2]]
theorem rangeMerged {g : Operand} {ps : Array Tmp} {assign body : Code} {Q : Exit → Act → World → Prop} {act : Act} {w : World} {n : Nat} (h3 : 3 ≤ n) {bA bB : Nat}
  (hg : act.eval g = .func (.func 77) #[] #[.pointer (some ⟨bA, 0, none⟩), .pointer (some ⟨bB, 0, none⟩)]) (hps : ps.size = 2)
  {w0 : World} {a b : List S45} {Aa Ab : Option Addr} {ca cb : Nat} (hCa : k45.C w0 Aa a.length a) (hca : a.length ≤ ca) (hCb : k45.C w0 Ab b.length b) (hcb : b.length ≤ cb) (hAB : bA ≠ bB)
  (hB0 : Below w0.heap.size w0 w) (hbA : Boxed w bA 22 (.slice Aa a.length ca)) (hbB : Boxed w bB 22 (.slice Ab b.length cb)) (hA0 : w0.heap.size ≤ bA) (hB0' : w0.heap.size ≤ bB)
  (I : List (Int × Int × Int) → World → Prop) (hI : OwnFrom w.heap.size I) (hE : ∀ pre W W', I pre W → Else bA bB W W' → I pre W') (h0 : I [] w) (a₁ : Int × Int × Int → Nat → Act)
  (hassign : ∀ (l : Nat) (x : Int × Int × Int) (W : World) (K : Act → World → Prop), K (a₁ x W.heap.size) (W.alloc (.cells #[.int .i64 x.2.1, .int .i64 x.2.2] 78)) →
   assign.wpIn (Fence.wide.inRound l) (n - 1 - 1) Try.prog (Exit.then K (fun _ _ _ => False)) { tmps := (ps.zip (encT x)).foldl (fun t (p, v) => t.setIfInBounds p v) act.tmps, defers := [] } W)
  (hbody : ∀ (l : Nat) (pre : List (Int × Int × Int)) (x : Int × Int × Int) (gc : Nat) (W : World), w.heap.size ≤ gc → I pre W → (∃ v, Boxed W bA 22 v) → (∃ v, Boxed W bB 22 v) → pre.length < (merge a b).length → W.heap[gc]? = some (.cells #[.int .i64 x.2.1, .int .i64 x.2.2] 78 (0, 0)) →
   body.wpIn (Fence.wide.inRound l) (n - 1 - 1) Try.prog (fun e _ W' => e = .normal ∧ KeepsOthers W W' ∧ Below w0.heap.size W W' ∧ W'.heap[bA]? = W.heap[bA]? ∧ W'.heap[bB]? = W.heap[bB]? ∧ I (pre ++ [x]) W') (a₁ x gc) W)
  (hdone : ∀ (D : Nat) (W : World), w.heap.size ≤ D → I (merge a b) W → W.heap[D]? = some (.deferred (some [])) → Q .normal { act with defers := { target := .collected D, args := #[] } :: act.defers } W) :
  (Code.rangeFunc g ps assign body).wpIn Fence.wide n Try.prog Q act w := by
 have hlA := (Array.getElem?_eq_some_iff.1 hbA).1
 have hlB := (Array.getElem?_eq_some_iff.1 hbB).1
 refine wpIn_rangeFunc ?_
 intro fn hfn
 show ∃ (l : Nat) (mark : List Deferred) (w₁ : World) (d : Deferred) (w₁' : World) (f : FuncId) (args : Array Value) (w₂ : World), (Instr.enterLoop fn act.tmps ps assign body none).run Try.prog w = .ok (l, mark) w₁ ∧ _
 obtain ⟨rec, hrec⟩ : ∃ rec : LoopState → Option Code → Loop, rec = fun st pe => { state := st, pending := pe, fn, tmps := act.tmps, params := ps, assign, body, defers := w.heap.size } := ⟨_, rfl⟩
 obtain ⟨W1, hW1⟩ : ∃ W1, (w.alloc (.deferred (some []))).alloc (.loop (rec .ready none)) = W1 := ⟨_, rfl⟩
 have hL1 : W1.heap[w.heap.size + 1]? = some (.loop (rec .ready none)) := by
  rw [← hW1]; have := World.alloc_heap_new (w.alloc (.deferred (some []))) (.loop (rec .ready none)); rwa [World.size_alloc] at this
 have hK1 : W1.heap[w.heap.size]? = some (.deferred (some [])) := by
  rw [← hW1]; exact (Below.heap_alloc _ _ _ (by simp)).trans (World.alloc_heap_new w _)
 have hI1 : I [] W1 := by rw [← hW1]; exact hI.alloc _ (hI.alloc _ h0)
 have hw1 : Below w.heap.size w W1 := by rw [← hW1]; exact ((Below.refl _ w).alloc (Nat.le_refl _) _).alloc (by simp) _
 have hb1 : Below w0.heap.size w0 W1 := hB0.trans (hw1.mono hB0.size)
 refine ⟨w.heap.size + 1, [{ target := .collected w.heap.size, args := #[] }], W1, { target := .fn (.func 77) #[.pointer (some ⟨bA, 0, none⟩), .pointer (some ⟨bB, 0, none⟩)], args := #[.func (.yield (w.heap.size + 1)) #[] #[]] }, W1, 77,
  #[.func (.yield (w.heap.size + 1)) #[] #[], .pointer (some ⟨bA, 0, none⟩), .pointer (some ⟨bB, 0, none⟩)], W1, ?_, ?_, ?_, ?_, fun _ => by omega, ?_⟩
 ·rw [← hW1, hrec]; exact run_enterLoop_outer _ _ _ _ _
 ·simp only [resolve, hg]
  simp [go_sem]
 ·intro f' hf'; trivial
 ·simp [invoke, go_sem]
 ·refine (merged1 (n - 1) (by omega) (w.heap.size + 1) bA bB w0 a b Aa Ab ca cb hCa hca hCb hcb hAB
   (fun pre W => I pre W ∧ W.heap[w.heap.size + 1]? = some (.loop (rec .ready none)) ∧ W.heap[w.heap.size]? = some (.deferred (some [])))
   (fun pre W W' hs hEl => ⟨hE _ _ _ hs.1 hEl, (hEl.block _ (blk_lt hs.2.1) (by omega) (by omega)).trans hs.2.1, (hEl.block _ (blk_lt hs.2.2) (by omega) (by omega)).trans hs.2.2⟩)
   ?_ W1 hb1 ((hw1.block bA hlA).trans hbA) ((hw1.block bB hlB).trans hbB) hA0 hB0' ⟨hI1, hL1, hK1⟩).mono ?_
  ·rintro pre x W ⟨hi, hl, hk⟩ ⟨va, hva⟩ ⟨vb, hvb⟩ hlen
   have hlt : w.heap.size + 1 < W.heap.size := (Array.getElem?_eq_some_iff.1 hl).1
   have hy := run_yield (P := Try.prog) (args := encT x) hl (by rw [hrec]; exact hps.symm)
   rw [hrec] at hy
   obtain ⟨W2, hW2⟩ : ∃ W2, W.alloc (.cells #[.int .i64 x.2.1, .int .i64 x.2.2] 78) = W2 := ⟨_, rfl⟩
   have hE2 : Below W.heap.size W W2 := by rw [← hW2]; exact (Below.refl _ W).alloc (Nat.le_refl _) _
   have hl2' : W2.heap[w.heap.size + 1]? = some (.loop (rec .ready none)) := (hE2.block _ hlt).trans hl
   have hk2' : W2.heap[w.heap.size]? = some (.deferred (some [])) := (hE2.block _ (by omega)).trans hk
   have hi2 : I pre W2 := by rw [← hW2]; exact hI.alloc _ hi
   have hc2 : W2.heap[W.heap.size]? = some (.cells #[.int .i64 x.2.1, .int .i64 x.2.2] 78 (0, 0)) := by rw [← hW2]; exact World.alloc_heap_new _ _
   refine ⟨fn, _, assign, body, hy, roundIn_of_wpIn hfn (hassign _ x W _ ?_)⟩
   rw [hW2]
   refine ⟨_, run_beginRound hl2' (by rw [hrec]), ?_⟩
   have hlt2 : w.heap.size + 1 < W2.heap.size := blk_lt hl2'
   obtain ⟨W3, hW3⟩ : ∃ W3, W2.putObj (w.heap.size + 1) (.loop { rec .ready none with state := .busy }) = W3 := ⟨_, rfl⟩
   have hl3 : W3.heap[w.heap.size + 1]? = some (.loop { rec .ready none with state := .busy }) := by rw [← hW3]; exact World.putObj_heap_same hlt2
   have hk3 : W3.heap[w.heap.size]? = some (.deferred (some [])) := by rw [← hW3]; exact (World.putObj_heap_other (by omega)).trans hk2'
   have hc3 : W3.heap[W.heap.size]? = some (.cells #[.int .i64 x.2.1, .int .i64 x.2.2] 78 (0, 0)) := by rw [← hW3]; exact (World.putObj_heap_other (by omega)).trans hc2
   have hi3 : I pre W3 := by rw [← hW3]; exact hI.putObj _ hi2 (by omega) hl2' rfl
   have hn0 : w0.heap.size ≤ w.heap.size := hB0.size
   have hL3 : Below w0.heap.size W W3 := by rw [← hW3]; exact (hE2.mono (by omega)).trans (belowK_b (w := w) hn0 W2 _ _ _ (by omega) hl2' rfl rfl)
   have hA3 : W3.heap[bA]? = W.heap[bA]? := by rw [← hW3]; exact (World.putObj_heap_other (by omega)).trans (hE2.block _ (by omega))
   have hB3 : W3.heap[bB]? = W.heap[bB]? := by rw [← hW3]; exact (World.putObj_heap_other (by omega)).trans (hE2.block _ (by omega))
   show Code.wpIn _ _ _ _ _ _ _
   rw [show W2.putObj (w.heap.size + 1) (.loop { rec .ready none with state := .busy }) = W3 from hW3] 
   refine wpIn_mono (hbody _ pre x W.heap.size _ (by omega) hi3 ⟨va, hA3.trans hva⟩ ⟨vb, hB3.trans hvb⟩ hlen hc3) ?_
   rintro e a3 W4 ⟨rfl, hk4, hL4, hA4, hB4, hi4⟩
   have hl4 := hk4.same _ _ hl3 rfl
   have hr := run_endRound (P := Try.prog) none hl4
   rw [hrec] at hr
   refine ⟨_, _, hr, rfl, ⟨hI.putObj _ hi4 (by omega) hl4 rfl, ?_, ?_⟩, ?_, ?_, ?_⟩
   ·rw [hrec]; exact World.putObj_heap_same (blk_lt hl4)
   ·exact (World.putObj_heap_other (by omega)).trans (hk4.same _ _ hk3 rfl)
   ·exact (hL3.trans hL4).trans (belowK_b (w := w) hn0 W4 _ _ _ (by omega) hl4 rfl rfl)
   ·exact (World.putObj_heap_other (by omega)).trans (hA4.trans hA3)
   ·exact (World.putObj_heap_other (by omega)).trans (hB4.trans hB3)
  ·rintro e W2 ⟨⟨v, rfl⟩, hi, hl, hk⟩
   exact ⟨none, _, by have := run_endLoop (P := Try.prog) hl (by rw [hrec]; simp); rw [hrec] at this; exact this, hdone _ _ (Nat.le_refl _) (hI.putObj _ hi (by omega) hl rfl) ((World.putObj_heap_other (by omega)).trans hk)⟩
end Go.Proofs.Ytojnnfhalpefmaa.H
end

section
namespace Go.Proofs.Ytojnnfhalpefmaa.H
open Go.RowKit Go.Shelf Go.Proofs.YtojnnfhalpefmaaW.PrintWords Go.Proofs.YtojnnfhalpefmaaW.PrintLast Go.Proofs.YtojnnfhalpefmaaW.PrintMore Go.Proofs.Ytojnnfhalpefmaa.M
attribute [local go_sem] Oper.semAt_some
def stepP (p k : Int) (x : Int × Int × Int) : Option S45 :=
 let v := Int.tmod (wrap64 (x.2.1 + wrap64 (k * x.2.2))) p
 if v = 0 then none else some ⟨x.1, v⟩
def plusL (p k : Int) (l : List (Int × Int × Int)) : List S45 := l.filterMap (stepP p k)
def flatT (l : List S45) : List Value := l.flatMap fun t => [.int .i64 t.f0, .int .i64 t.f1]
theorem plusL_hit {p k : Int} (pre : List (Int × Int × Int)) {x : Int × Int × Int} {v : Int} (hv : Int.tmod (wrap64 (x.2.1 + wrap64 (k * x.2.2))) p = v) (h : v ≠ 0) : plusL p k (pre ++ [x]) = plusL p k pre ++ [⟨x.1, v⟩] := by
 simp [plusL, stepP, hv, h]
theorem plusL_miss {p k : Int} (pre : List (Int × Int × Int)) {x : Int × Int × Int} (hv : Int.tmod (wrap64 (x.2.1 + wrap64 (k * x.2.2))) p = 0) : plusL p k (pre ++ [x]) = plusL p k pre := by
 simp [plusL, stepP, hv]
theorem flatT_snoc (l : List S45) (t : S45) : flatT (l ++ [t]) = flatT l ++ [.int .i64 t.f0, .int .i64 t.f1] := by simp [flatT]
theorem merge_len : ∀ (a b : List S45), (merge a b).length ≤ a.length + b.length := by
 intro a b
 fun_induction merge a b <;> simp only [List.length_cons, List.length_nil] at * <;> omega
theorem plusL_len (p k : Int) (l : List (Int × Int × Int)) : (plusL p k l).length ≤ l.length := List.length_filterMap_le _ _
theorem flatT_reps' (w : World) (base : Nat) (ok : Nat → Prop) : ∀ (l acc : List S45) (cs : List Value), Reps (k45.M w base ok) 2 acc cs → Reps (k45.M w base ok) 2 (acc ++ l) (cs ++ flatT l)
 | [], acc, cs, h => by simpa [flatT] using h
 | t :: l, acc, cs, h => by
  have := flatT_reps' w base ok l (acc ++ [t]) (cs ++ [.int .i64 t.f0, .int .i64 t.f1]) (h.snoc (k45_mkM w base ok t) rfl)
  simpa [flatT] using this
theorem flatT_reps (w : World) (base : Nat) (ok : Nat → Prop) (l : List S45) : Reps (k45.M w base ok) 2 l (flatT l) := by
 simpa using flatT_reps' w base ok l [] [] (Reps.none _ _)
theorem cell_two_new (W : World) (u v : Value) (t : TypeId) : ∀ (j : Nat) (x : Value), [u, v][j]? = some x → (W.alloc (.cells #[u, v] t)).cell? ((⟨W.heap.size, 0, none⟩ : Addr).add j) = some x := by
 have hb : (W.alloc (.cells #[u, v] t)).heap[W.heap.size]? = some (.cells #[u, v] t (0, 0)) := World.alloc_heap_new _ _
 intro j x hx
 match j with
 | 0 => rw [show (⟨W.heap.size, 0, none⟩ : Addr).add 0 = ⟨W.heap.size, 0, none⟩ from rfl, blk_cell hb 0]; simpa using hx
 | 1 => rw [show (⟨W.heap.size, 0, none⟩ : Addr).add 1 = ⟨W.heap.size, 1, none⟩ from rfl, blk_cell hb 1]; simpa using hx
 | j + 2 => simp at hx
theorem far_grown {W w1 : World} {tmp : Obj} {row : Option Nat} (hg : (W.alloc tmp).grownBy w1 row) {b B : Nat} {v' : Value} (hb : b < W.heap.size) (hne : ¬ row = some b) (hB : b ≠ B) : (w1.setCell ⟨B, 0, none⟩ v').heap[b]? = W.heap[b]? :=
 (Below.heap_setCell w1 _ v' b hB).trans ((hg.block b (by simp; omega) (fun e => hne e.symm)).trans (Below.heap_alloc W tmp b hb))
theorem merged_in (n : Nat) (A B : Option Addr) (la lb ca cb : Nat) (w : World) :
  CallsIn Fence.wide n Try.prog 60 #[.slice A la ca, .slice B lb cb] w fun e w' => e = .returned (.func (.func 77) #[] #[.pointer (some ⟨w.heap.size, 0, none⟩), .pointer (some ⟨w.heap.size + 1, 0, none⟩)]) ∧
   w' = (w.alloc (.cells #[.slice A la ca] 22)).alloc (.cells #[.slice B lb cb] 22) := by
 refine callsIn_of_wp Try.func60 rfl trivial ?_ rfl
 simp only [Try.ntmps60, List.size_toArray, List.length_cons, List.length_nil, Nat.reduceAdd, Nat.reduceSub, Array.replicate_succ, Array.replicate_zero, List.push_toArray, List.append_toArray, List.nil_append, List.cons_append]
 gi_wp2
 go_ret
 exact ⟨rfl, rfl⟩
set_option maxRecDepth 100000 in
set_option maxHeartbeats 4000000 in
theorem plus_calls (p k : Int) (a b : List S45) (A B : Option Addr) (ca cb : Nat) (w : World) (hCa : k45.C w A a.length a) (hca : a.length ≤ ca) (hCb : k45.C w B b.length b) (hcb : b.length ≤ cb) (hp : p ≠ 0) (hlen : a.length + b.length < 8796093022208) :
  CallsIn Fence.wide 6 Try.prog 57 #[.int .i64 p, .slice A a.length ca, .int .i64 k, .slice B b.length cb] w fun e W' => ∃ v, e = .returned v ∧ W'.ownsRow w.heap.size 45 2 v (plusL p k (merge a b)).length (flatT (plusL p k (merge a b))) ∧ Below w.heap.size w W' := by
 obtain ⟨i0, hi, hz0, hz1, hz2⟩ := info_parts info45
 refine callsIn_of_wp_marks Try.func57 rfl trivial ?_ rfl
 simp only [Try.ntmps57, List.size_toArray, List.length_cons, List.length_nil, Nat.reduceAdd, Nat.reduceSub, Array.replicate_succ, Array.replicate_zero, List.push_toArray, List.append_toArray, List.nil_append, List.cons_append]
 gi_wp2_with (refine ⟨trivial, ?_⟩; gi_at_call 60; refine (merged_in _ _ _ _ _ _ _ _).mono ?_; rintro e w' ⟨rfl, rfl⟩)
 obtain ⟨n0, hn0⟩ : ∃ n0, w.heap.size = n0 := ⟨_, rfl⟩
 obtain ⟨w5, hw5⟩ : ∃ w5, ((((w.alloc (.cells #[.int .i64 p] 3)).alloc (.cells #[.int .i64 k] 3)).alloc (.cells #[.slice none 0 0] 22)).alloc (.cells #[.slice A a.length ca] 22)).alloc (.cells #[.slice B b.length cb] 22) = w5 := ⟨_, rfl⟩
 have bP : Boxed w5 n0 3 (.int .i64 p) := by rw [← hw5, ← hn0]; exact ((((Boxed.new w 3 _).alloc _).alloc _).alloc _).alloc _
 have bK : Boxed w5 (n0 + 1) 3 (.int .i64 k) := by
  have h := Boxed.new (w.alloc (.cells #[.int .i64 p] 3)) 3 (.int .i64 k)
  rw [World.size_alloc, hn0] at h
  rw [← hw5]; exact ((h.alloc _).alloc _).alloc _
 have bO : Boxed w5 (n0 + 1 + 1) 22 (.slice none 0 0) := by
  have h := Boxed.new ((w.alloc (.cells #[.int .i64 p] 3)).alloc (.cells #[.int .i64 k] 3)) 22 (.slice none 0 0)
  rw [World.size_alloc, World.size_alloc, hn0] at h
  rw [← hw5]; exact (h.alloc _).alloc _
 have bA : Boxed w5 (n0 + 1 + 1 + 1) 22 (.slice A a.length ca) := by
  have h := Boxed.new (((w.alloc (.cells #[.int .i64 p] 3)).alloc (.cells #[.int .i64 k] 3)).alloc (.cells #[.slice none 0 0] 22)) 22 (.slice A a.length ca)
  rw [World.size_alloc, World.size_alloc, World.size_alloc, hn0] at h
  rw [← hw5]; exact h.alloc _
 have bB : Boxed w5 (n0 + 1 + 1 + 1 + 1) 22 (.slice B b.length cb) := by
  have h := Boxed.new ((((w.alloc (.cells #[.int .i64 p] 3)).alloc (.cells #[.int .i64 k] 3)).alloc (.cells #[.slice none 0 0] 22)).alloc (.cells #[.slice A a.length ca] 22)) 22 (.slice B b.length cb)
  rw [World.size_alloc, World.size_alloc, World.size_alloc, World.size_alloc, hn0] at h
  rw [← hw5]; exact h
 have hs5 : w5.heap.size = n0 + 5 := by rw [← hw5]; simp [hn0]
 have hB5 : Below w.heap.size w w5 := by
  rw [← hw5]
  exact ((((((Below.refl _ w).alloc (Nat.le_refl _) _).alloc (by simp) _).alloc (by simp; omega) _).alloc (by simp; omega) _).alloc (by simp; omega) _)
 simp only [hn0]
 rw [hw5]
 refine rangeMerged (by omega) (bA := n0 + 1 + 1 + 1) (bB := n0 + 1 + 1 + 1 + 1) rfl rfl hCa hca hCb hcb (by omega) hB5 bA bB (by omega) (by omega)
  (fun pre W => (∃ v, Boxed W (n0 + 1 + 1) 22 v ∧ W.ownsRow n0 45 2 v (plusL p k pre).length (flatT (plusL p k pre)) ∧ v.ownBlock ≠ some (n0 + 1 + 1 + 1) ∧ v.ownBlock ≠ some (n0 + 1 + 1 + 1 + 1)) ∧ Boxed W n0 3 (.int .i64 p) ∧ Boxed W (n0 + 1) 3 (.int .i64 k) ∧ Below w.heap.size w W)
  (OwnFrom.and (Own.from (holdsRow_own n0 (n0 + 1 + 1) 22 45 2 (fun pre => (plusL p k pre).length) (fun pre => flatT (plusL p k pre)) (fun pre v => v.ownBlock ≠ some (n0 + 1 + 1 + 1) ∧ v.ownBlock ≠ some (n0 + 1 + 1 + 1 + 1))) _)
   (OwnFrom.and (Own.from (boxed_own _ _ _) _) (OwnFrom.and (Own.from (boxed_own _ _ _) _) (ownFrom_below (Nat.le_refl _) hB5.size))))
  ?hE ?h0
  (fun x g => { tmps := #[.int .i64 p, .slice A a.length ca, .int .i64 k, .slice B b.length cb, .pointer (some ⟨n0, 0, none⟩), undef, .pointer (some ⟨n0 + 1, 0, none⟩), undef, .slice none 0 0, .pointer (some ⟨n0 + 1 + 1, 0, none⟩), .int .i64 x.1, .pointer (some ⟨g, 0, none⟩), undef,
   .slice A a.length ca, .slice B b.length cb, .func (.func 77) #[] #[.pointer (some ⟨n0 + 1 + 1 + 1, 0, none⟩), .pointer (some ⟨n0 + 1 + 1 + 1 + 1, 0, none⟩)], .int .i64 x.1, .agg #[.int .i64 x.2.1, .int .i64 x.2.2], undef, undef, undef, undef, undef, undef, undef, undef, undef, undef, undef, undef, undef, undef, undef, undef, undef, undef], defers := [] }) ?assign ?body ?done
 case hE =>
  rintro pre W W' ⟨⟨v, hv, hrow, hnA, hnB⟩, hP, hK, hB⟩ hEl
  refine ⟨⟨v, (hEl.block _ hv.lt (by omega) (by omega)).trans hv, own_move hrow (fun g hg => hEl.block g ?_ (by rintro rfl; exact hnA hg) (by rintro rfl; exact hnB hg)), hnA, hnB⟩, (hEl.block _ hP.lt (by omega) (by omega)).trans hP, (hEl.block _ hK.lt (by omega) (by omega)).trans hK, ?_⟩
  ·obtain ⟨cs, hcs⟩ := own_typed hrow g hg
   exact blk_lt hcs
  ·exact ⟨hEl.os.trans hB.os, hEl.tape.trans hB.tape, hEl.output.trans hB.output, Nat.le_trans hB.size hEl.size, fun i hi => (hEl.block i (Nat.lt_of_lt_of_le hi hB.size) (by omega) (by omega)).trans (hB.block i hi)⟩
 case h0 => exact ⟨⟨_, bO, World.ownsRow_nil _ _ _ _, by simp [Value.ownBlock], by simp [Value.ownBlock]⟩, bP, bK, hB5⟩
 case assign =>
  intro l x W K hK
  simp only [encT]
  gi_wp2
  exact hK
 case body =>
  rintro l pre x gc W hgc ⟨⟨v, hv, hrow, hnA, hnB⟩, hP, hK, hB⟩ ⟨va, hva⟩ ⟨vb, hvb⟩ hlt hgcc
  have hc := hv.cell
  have cP := hP.cell
  have cK := hK.cell
  have c0 := blk_cell hgcc 0
  have c1 := blk_cell hgcc 1
  simp only [List.getElem?_toArray, List.getElem?_cons_zero, List.getElem?_cons_succ] at c0 c1
  have hpl := plusL_len p k pre
  have hml := merge_len a b
  have hbs := hB.size
  obtain ⟨r, hr⟩ : ∃ r, Int.tmod (wrap64 (x.2.1 + wrap64 (k * x.2.2))) p = r := ⟨_, rfl⟩
  by_cases h0 : r = 0
  ·have h0b : (r != 0) = false := by simp [h0]
   have H0 := As.mk h0
   gi_wp2
   have hq : plusL p k (pre ++ [x]) = plusL p k pre := plusL_miss pre (hr.trans H0.out)
   refine ⟨KeepsOthers.refl _, Below.refl _ _, ⟨v, hv, by rw [hq]; exact hrow, hnA, hnB⟩, by rw [hn0] at hB; exact hB⟩
  ·have h0b : (r != 0) = true := by simp [h0]
   have H0 := As.mk h0
   gi_wp2_with (gi_at_builtin; refine wpListIn_append_own _ rfl _ _ 22 rfl n0 45 i0 (.agg #[.int .i64 0, .int .i64 0]) 2 16 Try.underlying22 hi hz0 hz1 hz2 rfl (by decide) _ _ _ rfl (hrow.alloc _) ⟨W.heap.size, 0, none⟩ 1 1 [.int .i64 x.1, .int .i64 r] rfl rfl (cell_two_new _ _ _ _) (by simp [Value.oneCell']) (by simp only [maxLen]; omega) (by omega) (by simp; omega) ?_; intro v' w1 hown' hgrow _; obtain ⟨g', cap', rfl⟩ := ownsRow_succ hown'; obtain ⟨hv1, hv2, hr2, hk2, hb2⟩ := hv.appended (by decide) hrow (by omega) (by omega) hown' hgrow; have hc1 := hv1.cell; have hf1 := hv1.frozen)
   have hq : plusL p k (pre ++ [x]) = plusL p k pre ++ [⟨x.1, r⟩] := plusL_hit pre hr H0.out
   have fA := far_grown hgrow (B := n0 + 1 + 1) (v' := .slice (some ⟨g', 0, none⟩) ((plusL p k pre).length + 1) cap') hva.lt hnA (by omega)
   have fB := far_grown hgrow (B := n0 + 1 + 1) (v' := .slice (some ⟨g', 0, none⟩) ((plusL p k pre).length + 1) cap') hvb.lt hnB (by omega)
   have fP := far_grown hgrow (B := n0 + 1 + 1) (v' := .slice (some ⟨g', 0, none⟩) ((plusL p k pre).length + 1) cap') hP.lt (fun e => hP.not_row (by decide) hrow e.symm) (by omega)
   have fK := far_grown hgrow (B := n0 + 1 + 1) (v' := .slice (some ⟨g', 0, none⟩) ((plusL p k pre).length + 1) cap') hK.lt (fun e => hK.not_row (by decide) hrow e.symm) (by omega)
   obtain ⟨cs, hcs⟩ := own_typed hr2 g' rfl
   have nA : g' ≠ n0 + 1 + 1 + 1 := blk_ne hcs (fA.trans hva) (by decide)
   have nB : g' ≠ n0 + 1 + 1 + 1 + 1 := blk_ne hcs (fB.trans hvb) (by decide)
   refine ⟨fA, fB, ⟨_, hv2, by rw [hq, flatT_snoc, List.length_append]; exact hr2, by simpa [Value.ownBlock] using nA, by simpa [Value.ownBlock] using nB⟩, fP.trans hP, fK.trans hK, ?_⟩
   rw [hn0] at hB
   exact hB.trans hb2
 case done =>
  rintro D W hD ⟨⟨v, hv, hrow, hnA, hnB⟩, hP, hK, hB⟩ hKD
  have hc := hv.cell
  gi_wp2
  refine ⟨by simp, .inl ⟨_, _, rfl, run_takeDeferred hKD, ?_⟩⟩
  refine ⟨_, results_tmp rfl _ _ _, v, rfl, ?_, hB.trans (belowK_b (w := w) (Nat.le_refl _) W D _ _ (by omega) hKD rfl rfl)⟩
  rw [hn0]
  exact ownsRow_putObj hrow _ hKD rfl
end Go.Proofs.Ytojnnfhalpefmaa.H
end

section
namespace Go.Proofs.Ytojnnfhalpefmaa.H
open Go.RowKit Go.Shelf Go.Proofs.YtojnnfhalpefmaaW.PrintWords Go.Proofs.YtojnnfhalpefmaaW.PrintLast Go.Proofs.YtojnnfhalpefmaaW.PrintMore Go.Proofs.Ytojnnfhalpefmaa.M
attribute [local go_sem] Oper.semAt_some
def dotStep (p s : Int) (x : Int × Int × Int) : Int := Int.tmod (wrap64 (s + wrap64 (x.2.1 * x.2.2))) p
def dotL (p : Int) (l : List (Int × Int × Int)) : Int := l.foldl (dotStep p) 0
theorem dotL_snoc (p : Int) (pre : List (Int × Int × Int)) (x : Int × Int × Int) : dotL p (pre ++ [x]) = dotStep p (dotL p pre) x := by simp [dotL]
def dotF (k : Nat) (p : Int) (a b : List S45) : Option (Int × Int) :=
 (column_checkAll.f k p [a, b]).bind fun e => if e = 0 then (if p = 0 then none else some (dotL p (merge a b), 0)) else some (0, e)
theorem two_lists {W : World} {A B : Option Addr} {a b : List S45} {ca cb : Nat} (hCa : k45.C W A a.length a) (hca : a.length ≤ ca) (hCb : k45.C W B b.length b) (hcb : b.length ≤ cb) :
  (Kd.slice 45 k45).C (W.alloc (.cells #[.slice A a.length ca, .slice B b.length cb] 22)) (some ⟨W.heap.size, 0, none⟩) [a, b].length [a, b] := by
 have hB : Below W.heap.size W (W.alloc (.cells #[.slice A a.length ca, .slice B b.length cb] 22)) := (Below.refl _ W).alloc (Nat.le_refl _) _
 refine ⟨rfl, by simp, fun _ => ⟨_, rfl, fun j p hj => ?_⟩⟩
 match j with
 | 0 =>
  obtain rfl : a = p := by simpa using hj
  refine ⟨_, rfl, ⟨A, ca, rfl, hca, Kd.C_below hCa hB⟩, fun i u hu => ?_⟩
  obtain ⟨rfl, rfl⟩ : i = 0 ∧ u = .slice A a.length ca := by
   match i with
   | 0 => simpa using hu.symm
   | i + 1 => simp at hu
  exact cell_two_new W _ _ 22 0 _ rfl
 | 1 =>
  obtain rfl : b = p := by simpa using hj
  refine ⟨_, rfl, ⟨B, cb, rfl, hcb, Kd.C_below hCb hB⟩, fun i u hu => ?_⟩
  obtain ⟨rfl, rfl⟩ : i = 0 ∧ u = .slice B b.length cb := by
   match i with
   | 0 => simpa using hu.symm
   | i + 1 => simp at hu
  exact cell_two_new W _ _ 22 1 _ rfl
 | j + 2 => simp at hj
set_option maxRecDepth 100000 in
set_option maxHeartbeats 4000000 in
theorem dot_calls (kk : Nat) (p : Int) (a b : List S45) (A B : Option Addr) (ca cb : Nat) (w : World) (hCa : k45.C w A a.length a) (hca : a.length ≤ ca) (hCb : k45.C w B b.length b) (hcb : b.length ≤ cb) (r1 r2 : Int) (h : dotF kk p a b = some (r1, r2)) :
  CallsIn Fence.wide 6 Try.prog 18 #[.int .i64 p, .slice A a.length ca, .slice B b.length cb] w fun e W' => e = .returned (.tuple #[.int .i64 r1, .int .i64 r2]) ∧ Below w.heap.size w W' := by
 obtain ⟨e0, he0, h⟩ := Option.bind_eq_some_iff.1 h
 refine callsIn_of_wp_marks Try.func18 rfl trivial ?_ rfl
 simp only [Try.ntmps18, List.size_toArray, List.length_cons, List.length_nil, Nat.reduceAdd, Nat.reduceSub, Array.replicate_succ, Array.replicate_zero, List.push_toArray, List.append_toArray, List.nil_append, List.cons_append]
 have hCa1 := Kd.C_below hCa ((Below.refl w.heap.size w).alloc (Nat.le_refl _) (.cells #[.int .i64 p] 3))
 have hCb1 := Kd.C_below hCb ((Below.refl w.heap.size w).alloc (Nat.le_refl _) (.cells #[.int .i64 p] 3))
 have hC2 := two_lists hCa1 hca hCb1 hcb
 rw [World.size_alloc] at hC2
 have hb2 : Below w.heap.size w ((w.alloc (.cells #[.int .i64 p] 3)).alloc (.cells #[.slice A a.length ca, .slice B b.length cb] 22)) := ((Below.refl _ w).alloc (Nat.le_refl _) _).alloc (by simp) _
 by_cases he : e0 = 0
 ·rw [if_pos he] at h
  subst he
  by_cases hp : p = 0
  ·rw [if_pos hp] at h; cases h
  ·rw [if_neg hp] at h
   cases h
   gi_wp2_with (first | (refine ⟨trivial, ?_⟩; gi_at_call 59; refine (callsIn_wide.2 (column_checkAll.calls kk p _ 2 [a, b] 0 _ hC2 (by simp) he0)).mono ?_; rintro e w3 ⟨rfl, hb3⟩; have hB3 : Below w.heap.size w w3 := hb2.trans (hb3.mono hb2.size); have bP3 : Boxed w3 w.heap.size 3 (.int .i64 p) := (hb3.block _ (by simp; omega)).trans ((Boxed.new w 3 (.int .i64 p)).alloc _)) | (refine ⟨trivial, ?_⟩; gi_at_call 60; refine (merged_in _ _ _ _ _ _ _ _).mono ?_; rintro e w' ⟨rfl, rfl⟩))
   obtain ⟨n3, hn3⟩ : ∃ n3, w3.heap.size = n3 := ⟨_, rfl⟩
   have hle : w.heap.size < n3 := by rw [← hn3]; exact bP3.lt
   obtain ⟨w6, hw6⟩ : ∃ w6, ((w3.alloc (.cells #[.int .i64 0] 3)).alloc (.cells #[.slice A a.length ca] 22)).alloc (.cells #[.slice B b.length cb] 22) = w6 := ⟨_, rfl⟩
   have bP : Boxed w6 w.heap.size 3 (.int .i64 p) := by rw [← hw6]; exact ((bP3.alloc _).alloc _).alloc _
   have bS : Boxed w6 n3 3 (.int .i64 0) := by rw [← hw6, ← hn3]; exact ((Boxed.new w3 3 _).alloc _).alloc _
   have bA : Boxed w6 (n3 + 1) 22 (.slice A a.length ca) := by
    have h := Boxed.new (w3.alloc (.cells #[.int .i64 0] 3)) 22 (.slice A a.length ca)
    rw [World.size_alloc, hn3] at h
    rw [← hw6]; exact h.alloc _
   have bB : Boxed w6 (n3 + 1 + 1) 22 (.slice B b.length cb) := by
    have h := Boxed.new ((w3.alloc (.cells #[.int .i64 0] 3)).alloc (.cells #[.slice A a.length ca] 22)) 22 (.slice B b.length cb)
    rw [World.size_alloc, World.size_alloc, hn3] at h
    rw [← hw6]; exact h
   have hs6 : w6.heap.size = n3 + 3 := by rw [← hw6]; simp [hn3]
   have hB6 : Below w.heap.size w w6 := by
    rw [← hw6]
    exact ((hB3.alloc hB3.size _).alloc (by simp; omega) _).alloc (by simp; omega) _
   simp only [hn3]
   rw [hw6]
   refine rangeMerged (by omega) (bA := n3 + 1) (bB := n3 + 1 + 1) rfl rfl hCa hca hCb hcb (by omega) hB6 bA bB (by omega) (by omega)
    (fun pre W => Boxed W n3 3 (.int .i64 (dotL p pre)) ∧ Boxed W w.heap.size 3 (.int .i64 p) ∧ Below w.heap.size w W)
    (OwnFrom.and (Own.from (boxed_own _ _ _) _) (OwnFrom.and (Own.from (boxed_own _ _ _) _) (ownFrom_below (Nat.le_refl _) hB6.size)))
    ?hE ?h0
    (fun x g => { tmps := #[.int .i64 p, .slice A a.length ca, .slice B b.length cb, .pointer (some ⟨w.heap.size, 0, none⟩), undef, undef, .int .i64 0, .int .i64 0, .int .i64 0, .pointer (some ⟨n3, 0, none⟩), undef, .pointer (some ⟨g, 0, none⟩), .int .i64 p, .slice A a.length ca, .slice B b.length cb,
     .slice (some ⟨w.heap.size + 1, 0, none⟩) 2 2, .int .i64 0, .int .i64 0, .bool false, undef, .slice A a.length ca, .slice B b.length cb, .func (.func 77) #[] #[.pointer (some ⟨n3 + 1, 0, none⟩), .pointer (some ⟨n3 + 1 + 1, 0, none⟩)], .int .i64 x.1, .agg #[.int .i64 x.2.1, .int .i64 x.2.2], undef, undef, undef, undef, undef, undef, undef, undef, undef, undef], defers := [] }) ?assign ?body ?done
   case hE =>
    rintro pre W W' ⟨hS, hP, hB⟩ hEl
    exact ⟨(hEl.block _ hS.lt (by omega) (by omega)).trans hS, (hEl.block _ hP.lt (by omega) (by omega)).trans hP,
     ⟨hEl.os.trans hB.os, hEl.tape.trans hB.tape, hEl.output.trans hB.output, Nat.le_trans hB.size hEl.size, fun i hi => (hEl.block i (Nat.lt_of_lt_of_le hi hB.size) (by omega) (by omega)).trans (hB.block i hi)⟩⟩
   case h0 => exact ⟨bS, bP, hB6⟩
   case assign =>
    intro l x W K hK
    simp only [encT]
    gi_wp2
    exact hK
   case body =>
    rintro l pre x gc W hgc ⟨hS, hP, hB⟩ ⟨va, hva⟩ ⟨vb, hvb⟩ hlt hgcc
    have cS := hS.cell
    have fS := hS.frozen
    have cP := hP.cell
    have c0 := blk_cell hgcc 0
    have c1 := blk_cell hgcc 1
    simp only [List.getElem?_toArray, List.getElem?_cons_zero, List.getElem?_cons_succ] at c0 c1
    gi_wp2
    exact ⟨KeepsOthers.setCell _ _ _, (Below.refl _ W).setCell (p := ⟨n3, 0, none⟩) (by show _ ≤ n3; omega) _, Below.heap_setCell W _ _ _ (by show n3 + 1 ≠ n3; omega), Below.heap_setCell W _ _ _ (by show n3 + 1 + 1 ≠ n3; omega),
     by rw [dotL_snoc]; exact hS.set _, hP.other (by omega) _, hB.setCell (p := ⟨n3, 0, none⟩) (by show _ ≤ n3; omega) _⟩
   case done =>
    rintro D W hD ⟨hS, hP, hB⟩ hKD
    have cS := hS.cell
    gi_wp2
    refine ⟨by simp, .inl ⟨_, _, rfl, run_takeDeferred hKD, ?_⟩⟩
    refine ⟨_, results_tmp2 rfl _ _ _, ?_⟩
    exact ⟨rfl, hB.trans (belowK_b (w := w) (Nat.le_refl _) W D _ _ (by omega) hKD rfl rfl)⟩
 ·rw [if_neg he] at h
  obtain ⟨rfl, rfl⟩ : 0 = r1 ∧ e0 = r2 := by simpa using h
  have he1 : (e0 != 0) = true := by simp [he]
  gi_wp2_with (refine ⟨trivial, ?_⟩; gi_at_call 59; refine (callsIn_wide.2 (column_checkAll.calls kk p _ 2 [a, b] e0 _ hC2 (by simp) he0)).mono ?_; rintro e w3 ⟨rfl, hb3⟩)
  refine ⟨_, results_tmp2 rfl _ _ _, ?_⟩
  exact ⟨rfl, hb2.trans (hb3.mono hb2.size)⟩
end Go.Proofs.Ytojnnfhalpefmaa.H
end

section
namespace Go.Proofs.Ytojnnfhalpefmaa.M
open Go.RowKit Go.Proofs.YtojnnfhalpefmaaW.PrintWords
def column_plus.f (a0 : Int) (l1 : List S45) (a2 : Int) (l3 : List S45) : Option (List S45) := if a0 = 0 then none else if l1.length + l3.length < 8796093022208 then some (H.plusL a0 a2 (H.merge l1 l3)) else none
theorem column_plus.calls (a0 : Int) (A1 : Option Addr) (c1 : Nat) (l1 : List (S45)) (a2 : Int) (A3 : Option Addr) (c3 : Nat) (l3 : List (S45)) (r : List (S45)) (w : World) (hr1 : Kd.C k45 w A1 l1.length l1) (hc1 : l1.length ≤ c1) (hr3 : Kd.C k45 w A3 l3.length l3) (hc3 : l3.length ≤ c3) (h : column_plus.f a0 l1 a2 l3 = some r) :
  Calls Try.prog 57 #[.int .i64 a0, .slice A1 l1.length c1, .int .i64 a2, .slice A3 l3.length c3] w fun e w' => ∃ v0_ : Value, e = .returned v0_ ∧ Kd.R k45 45 w' w.heap.size (fun _ => True) v0_ r ∧ Below w.heap.size w w' := by
 unfold column_plus.f at h
 by_cases hp : a0 = 0
 ·rw [if_pos hp] at h; cases h
 ·rw [if_neg hp] at h
  by_cases hl : l1.length + l3.length < 8796093022208
  ·rw [if_pos hl] at h
   cases h
   refine (callsIn_wide (n := 6)).1 ((H.plus_calls a0 a2 l1 l3 A1 A3 c1 c3 w hr1 hc1 hr3 hc3 hp hl).mono ?_)
   rintro e W' ⟨v, rfl, hown, hB⟩
   exact ⟨v, rfl, ⟨fun _ _ => trivial, _, hown, H.flatT_reps _ _ _ _⟩, hB⟩
  ·rw [if_neg hl] at h; cases h
def column_Dot.f (k : Nat) (a0 : Int) (l1 : List S45) (l2 : List S45) : Option (Int × Int) := H.dotF k a0 l1 l2
theorem column_Dot.mono : ∀ a0 a1 a2 k, LeO (column_Dot.f k a0 a1 a2) (column_Dot.f (k + 1) a0 a1 a2) := by
 intro a0 a1 a2 k
 unfold column_Dot.f H.dotF
 exact LeO.bind (column_checkAll.mono _ _ _) (fun _ => LeO.refl _)
theorem column_Dot.calls (k : Nat) (a0 : Int) (A1 : Option Addr) (c1 : Nat) (l1 : List (S45)) (A2 : Option Addr) (c2 : Nat) (l2 : List (S45)) (r1 : Int) (r2 : Int) (w : World) (hr1 : Kd.C k45 w A1 l1.length l1) (hc1 : l1.length ≤ c1) (hr2 : Kd.C k45 w A2 l2.length l2) (hc2 : l2.length ≤ c2) (h : column_Dot.f k a0 l1 l2 = some (r1, r2)) :
  Calls Try.prog 18 #[.int .i64 a0, .slice A1 l1.length c1, .slice A2 l2.length c2] w fun e w' => e = .returned (.tuple #[.int .i64 r1, .int .i64 r2]) ∧ Below w.heap.size w w' :=
 (callsIn_wide (n := 6)).1 (H.dot_calls k a0 l1 l2 A1 A2 c1 c2 w hr1 hc1 hr2 hc2 r1 r2 h)
end Go.Proofs.Ytojnnfhalpefmaa.M
end

section
namespace Go.Proofs.Ytojnnfhalpefmaa.H
open Go.RowKit Go.Proofs.YtojnnfhalpefmaaW.PrintWords Go.Proofs.YtojnnfhalpefmaaW.PrintLast Go.Proofs.YtojnnfhalpefmaaW.PrintMore Go.Proofs.Ytojnnfhalpefmaa.M
def bsL (l : List S45) (row : Int) (i j : Nat) : Nat :=
 if h : i < j then (if wrap64 ((rd_T45 l (((i + j) / 2 : Nat) : Int)).f0 - row) < 0 then bsL l row ((i + j) / 2 + 1) j else bsL l row i ((i + j) / 2)) else i
termination_by j - i
decreasing_by all_goals omega
theorem bsL_lt {l : List S45} {row : Int} {i j : Nat} (h : i < j) (hc : wrap64 ((rd_T45 l (((i + j) / 2 : Nat) : Int)).f0 - row) < 0) : bsL l row i j = bsL l row ((i + j) / 2 + 1) j := by
 rw [bsL, dif_pos h, if_pos hc]
theorem bsL_ge {l : List S45} {row : Int} {i j : Nat} (h : i < j) (hc : ¬ wrap64 ((rd_T45 l (((i + j) / 2 : Nat) : Int)).f0 - row) < 0) : bsL l row i j = bsL l row i ((i + j) / 2) := by
 rw [bsL, dif_pos h, if_neg hc]
theorem bsL_end {l : List S45} {row : Int} {i j : Nat} (h : ¬ i < j) : bsL l row i j = i := by rw [bsL, dif_neg h]
set_option maxHeartbeats 4000000 in
set_option maxRecDepth 100000 in
theorem cmp_calls (t : S45) (row : Int) (w : World) :
  Calls Try.prog 85 #[.agg #[.int .i64 t.f0, .int .i64 t.f1], .int .i64 row] w fun e w' => e = .returned (.int .i64 (wrap64 (t.f0 - row))) ∧ Below w.heap.size w w' := by
 go_enter Try.func85, Try.ntmps85
 go_wp2
 go_ret
 exact ⟨rfl, (Below.refl _ w).alloc (Nat.le_refl _) _⟩
set_option maxHeartbeats 4000000 in
set_option maxRecDepth 100000 in
theorem bs_calls (A : Option Addr) (c : Nat) (l : List S45) (row : Int) (w : World) (hC : k45.C w A l.length l) (hc : l.length ≤ c) (hl : l.length < 8796093022208) :
  Calls Try.prog 84 #[.slice A l.length c, .int .i64 row, .func (.func 85) #[] #[]] w fun e w' => ∃ f : Bool, e = .returned (.tuple #[.int .i64 (bsL l row 0 l.length), .bool f]) ∧ Below w.heap.size w w' := by
 go_enter Try.func84, Try.ntmps84
 go_wp2
 go_loopg [9, 10] l.length (fun k v9 v10 wr => ∃ i j : Nat, v9 = .int .i64 i ∧ v10 = .int .i64 j ∧ i ≤ j ∧ j ≤ l.length ∧ k = j - i ∧ As (bsL l row 0 l.length = bsL l row i j) ∧ Below w.heap.size w wr)
 case atStart => exact ⟨0, l.length, rfl, rfl, Nat.zero_le _, Nat.le_refl _, by omega, ⟨rfl⟩, Below.refl _ _⟩
 case round =>
  obtain ⟨i, j, rfl, rfl, hij, hj, hk, hb, hB⟩ := hrel
  by_cases hlt : i < j
  ·have hltb : decide ((i : Int) < (j : Int)) = true := decide_eq_true (by omega)
   obtain ⟨ad, eA, h0, h1⟩ := at_T45 (Kd.C_below hC hB) (((i + j) / 2 : Nat) : Int) (by omega) (by omega)
   subst eA
   rw [Int.toNat_natCast] at h0 h1
   by_cases hcm : wrap64 ((rd_T45 l (((i + j) / 2 : Nat) : Int)).f0 - row) < 0
   ·have hcb : decide (wrap64 ((rd_T45 l (((i + j) / 2 : Nat) : Int)).f0 - row) < 0) = true := decide_eq_true hcm
    have HN := As.mk (bsL_lt hlt hcm)
    obtain ⟨t, ht⟩ : ∃ t, rd_T45 l (((i + j) / 2 : Nat) : Int) = t := ⟨_, rfl⟩
    rw [ht] at h0 h1 hcb hcm
    go_wp2_with (go_at_call 85; refine (cmp_calls t row _).mono ?_; rintro e w' ⟨rfl, hb'⟩)
    go_roundg (j - ((i + j) / 2 + 1))
    case measure => omega
    case rel => exact ⟨(i + j) / 2 + 1, j, by rw [show ((((i + j) / 2 + 1 : Nat) : Int)) = ((i : Int) + j) / 2 + 1 by omega], rfl, by omega, hj, rfl, ⟨hb.out.trans HN.out⟩, hB.trans (hb'.mono hB.size)⟩
   ·have hcb : decide (wrap64 ((rd_T45 l (((i + j) / 2 : Nat) : Int)).f0 - row) < 0) = false := decide_eq_false hcm
    have HN := As.mk (bsL_ge hlt hcm)
    obtain ⟨t, ht⟩ : ∃ t, rd_T45 l (((i + j) / 2 : Nat) : Int) = t := ⟨_, rfl⟩
    rw [ht] at h0 h1 hcb
    clear hcm
    go_wp2_with (go_at_call 85; refine (cmp_calls t row _).mono ?_; rintro e w' ⟨rfl, hb'⟩)
    go_roundg ((i + j) / 2 - i)
    case measure => omega
    case rel => exact ⟨i, (i + j) / 2, rfl, by rw [show ((((i + j) / 2 : Nat) : Int)) = ((i : Int) + j) / 2 by omega], by omega, by omega, rfl, ⟨hb.out.trans HN.out⟩, hB.trans (hb'.mono hB.size)⟩
  ·have hltb : decide ((i : Int) < (j : Int)) = false := decide_eq_false (by omega)
   have HN := As.mk (hb.out.trans (bsL_end hlt))
   by_cases hil : i < l.length
   ·have hilb : decide ((i : Int) < (l.length : Int)) = true := decide_eq_true (by omega)
    obtain ⟨ad, eA, h0, h1⟩ := at_T45 (Kd.C_below hC hB) (i : Int) (by omega) (by omega)
    subst eA
    rw [Int.toNat_natCast] at h0 h1
    obtain ⟨t, ht⟩ : ∃ t, rd_T45 l (i : Int) = t := ⟨_, rfl⟩
    rw [ht] at h0 h1
    go_wp2_with (go_at_call 85; refine (cmp_calls t row _).mono ?_; rintro e w' ⟨rfl, hb'⟩)
    go_ret2
    exact ⟨_, by rw [HN.out]; rfl, hB.trans (hb'.mono hB.size)⟩
   ·have hilb : decide ((i : Int) < (l.length : Int)) = false := decide_eq_false (by omega)
    go_wp2
    go_ret2
    exact ⟨_, by rw [HN.out]; rfl, hB⟩
end Go.Proofs.Ytojnnfhalpefmaa.H
end

section
namespace Go.Proofs.Ytojnnfhalpefmaa.H
open Go.Maps Go.RowKit Go.Proofs.YtojnnfhalpefmaaW.PrintWords
def IMap (w : World) (b n : Nat) (M : Int → Option Int) : Prop :=
 ∃ D : DataW Unit, w.ownsMap Try.prog 3 (plainElem Try.prog 3) b n D ∧ ∀ x : Int, (Lit.int .i64 x).wf = true → ∀ z, D.atKey (.int .i64 x) z = match M x with | some v => .lit (.int .i64 v) | none => z
theorem zeroI (w : World) : (zeroValue 3).run Try.prog w = .ok (.int .i64 0) w := by kernel_rfl
theorem keyed3 : Keyed Try.prog 3 := int_keyed Try.underlying3
theorem key3 {x : Int} (h : (Lit.int .i64 x).wf = true) : keyOf Try.prog 3 (.int .i64 x) = some (.int .i64 x) := keyOf_int_mk Try.underlying3 h
theorem IMap.made (w : World) : IMap (w.alloc (.map #[] 0)) w.heap.size 0 (fun _ => none) :=
 ⟨.map [], World.ownsMap_made _ _ _ _, fun x hx z => rfl⟩
theorem IMap.look {w : World} {b n : Nat} {M : Int → Option Int} (h : IMap w b n M) {x : Int} (hx : (Lit.int .i64 x).wf = true) :
  (Instr.lookup 85 (.map (some b)) (.int .i64 x) true).run Try.prog w = .ok (.tuple #[.int .i64 ((M x).getD 0), .bool (M x).isSome]) w := by
 obtain ⟨D, hD, hM⟩ := h
 obtain ⟨v, ps, hrun, hv⟩ := hD.look_ok keyed3 Try.underlying85 (zeroI w) (plainElem_int Try.underlying3 (by decide)) (key3 hx)
 rw [hM x hx] at hv
 rw [hrun]
 cases hm : M x with
 | none =>
  rw [hm] at hv
  obtain ⟨c, rfl, hc, _⟩ := plainElem_int_inv Try.underlying3 hv
  have hc' : c = 0 := by simpa using (congrArg Prod.fst hc).symm
  rw [has_false_of_atKey (D := D) (k := .int .i64 x) (fun z => by rw [hM x hx, hm])]
  simp [hc']
 | some y =>
  rw [hm] at hv
  obtain ⟨c, rfl, hc, _⟩ := plainElem_int_inv Try.underlying3 hv
  have hc' : c = y := by simpa using (congrArg Prod.fst hc).symm
  rw [has_true_of_atKey (D := D) (k := .int .i64 x) (y := .lit (.int .i64 y)) (fun z => by rw [hM x hx, hm])]
  simp [hc']
theorem IMap.store {w : World} {b n : Nat} {M : Int → Option Int} (h : IMap w b n M) (hn : n < maxLen) {x v : Int} (hx : (Lit.int .i64 x).wf = true) (hv : (Lit.int .i64 v).wf = true) :
  ∃ w', (Instr.mapUpdate 85 (.map (some b)) (.int .i64 x) (.int .i64 v)).run Try.prog w = .ok () w' ∧ IMap w' b (n + 1) (fun y => if y = x then some v else M y) ∧ w.grownBy w' (some b) := by
 obtain ⟨D, hD, hM⟩ := h
 obtain ⟨w', hr, h1, h2⟩ := hD.update keyed3 Try.underlying85 hn (key3 hx) (plainElem_int Try.underlying3 hv)
 refine ⟨w', hr, ⟨_, h1, fun y hy z => ?_⟩, h2⟩
 by_cases e : y = x
 ·subst e
  rw [atKey_put_same hD.isMap (keyed3.key (key3 hx))]
  simp
 ·have ne : (Lit.int .i64 y) ≠ .int .i64 x := fun e2 => by cases e2; exact e rfl
  rw [atKey_put_other ne, hM y hy]
  simp [e]
theorem IMap.kept {w w' : World} {b n : Nat} {M : Int → Option Int} {row : Option Nat} (h : IMap w b n M) (hg : w.grownBy w' row) (hne : some b ≠ row) : IMap w' b n M := by
 obtain ⟨D, h1, h2⟩ := h
 exact ⟨D, h1.kept hg hne, h2⟩
theorem IMap.same {w w' : World} {b n : Nat} {M : Int → Option Int} (h : IMap w b n M) (he : w'.heap[b]? = w.heap[b]?) : IMap w' b n M := by
 obtain ⟨D, ⟨es, clock, hb, h1⟩, h2⟩ := h
 exact ⟨D, ⟨es, clock, he.trans hb, h1⟩, h2⟩
theorem IMap.lt {w : World} {b n : Nat} {M : Int → Option Int} (h : IMap w b n M) : b < w.heap.size := by
 obtain ⟨D, ⟨es, clock, hb, h1⟩, h2⟩ := h
 exact (Array.getElem?_eq_some_iff.1 hb).1
end Go.Proofs.Ytojnnfhalpefmaa.H
end
