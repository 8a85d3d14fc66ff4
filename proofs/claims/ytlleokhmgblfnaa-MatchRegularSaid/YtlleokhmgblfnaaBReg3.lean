/- A part of the proof: texts of this seat joined (printed and by hand), without what is not used. -/
import Derived.Test.YtlleokhmgblfnaaBReg2
set_option linter.unusedVariables false
set_option linter.unusedSimpArgs false
set_option linter.unusedSectionVars false
section
namespace Go.Proofs.Ytlleokhmgblfnaa.M
open Go.RowKit Go.Proofs.YtlleokhmgblfnaaW.PrintWords Go.Proofs.YtlleokhmgblfnaaW.PrintLast Go.Proofs.YtlleokhmgblfnaaW.PrintMore
attribute [local go_sem] max2_int min2_int max_two min_two max_three min_three max_four min_four   -- for this text's walks alone
def match_Size.l0 : Nat → Int → Int → List Int → Int → Int → Option (Int × Int)
  | 0, _, _, _, _, _ => none
  | k + 1, x5, x6, x14, x15, x16 => if x16 < x15 then (if 0 ≤ x16 then (if x16 < (x14.length : Int) then (if (rd x14 x16) ≥ 0 then (match_Size.l0 k x5 (wrap64 (x6 + 1)) x14 x15 (wrap64 (x16 + 1))) else (match_Size.l0 k x5 x6 x14 x15 (wrap64 (x16 + 1)))) else (none)) else (none)) else (some (x6, x5))
def match_Size.f (k : Nat) (a0_0 : Int) (a0_1 : Int) (l0_2 : List (S40)) : Option (Int × Int) := (match_Maximum.f k a0_0 a0_1 l0_2).bind fun bt202 => (match_Size.l0 k bt202.2 0 bt202.1 (bt202.1.length : Int) 0)
theorem match_Size.mono_l : ∀ k, (∀ y0 y1 y2 y3 y4, LeO (match_Size.l0 k y0 y1 y2 y3 y4) (match_Size.l0 (k + 1) y0 y1 y2 y3 y4))
  | 0 => fun _ _ _ _ _ r h => by simp [match_Size.l0] at h
  | k + 1 => by
    have ih0 := match_Size.mono_l k
    · intro y0 y1 y2 y3 y4
      unfold match_Size.l0
      repeat' first
      | (with_reducible exact ih0 _ _ _ _ _)
      | (with_reducible exact match_Maximum.mono _ _ _ _)
      | (with_reducible exact LeO.refl _)
      | (with_reducible exact LeO.none _)
      | (with_reducible refine LeO.ite ?_ ?_)
      | (with_reducible refine LeO.bind ?_ (fun _ => ?_))
      | exact ih0 _ _ _ _ _
      | exact match_Maximum.mono _ _ _ _
      | exact LeO.none _
      | refine LeO.ite ?_ ?_
      | refine LeO.bind ?_ (fun _ => ?_)
theorem match_Size.mono : ∀ a0 a1 a2 k, LeO (match_Size.f k a0 a1 a2) (match_Size.f (k + 1) a0 a1 a2) := by
  intro a0 a1 a2 k
  have ih0 := match_Size.mono_l k
  unfold match_Size.f
  repeat' first
      | (with_reducible exact ih0 _ _ _ _ _)
      | (with_reducible exact match_Maximum.mono _ _ _ _)
      | (with_reducible exact LeO.refl _)
      | (with_reducible exact LeO.none _)
      | (with_reducible refine LeO.ite ?_ ?_)
      | (with_reducible refine LeO.bind ?_ (fun _ => ?_))
      | exact ih0 _ _ _ _ _
      | exact match_Maximum.mono _ _ _ _
      | exact LeO.none _
      | refine LeO.ite ?_ ?_
      | refine LeO.bind ?_ (fun _ => ?_)
set_option maxHeartbeats 8000000 in
set_option maxRecDepth 100000 in
theorem match_Size.calls (k : Nat) (a0_0 : Int) (a0_1 : Int) (A0_2 : Option Addr) (c0_2 : Nat) (l0_2 : List (S40)) (r1 : Int) (r2 : Int) (w : World) (hr0_2 : Kd.C k40 w A0_2 l0_2.length l0_2) (hc0_2 : l0_2.length ≤ c0_2) (h : match_Size.f k a0_0 a0_1 l0_2 = some (r1, r2)) :
    Calls Try.prog 21 #[.agg #[.int .i64 a0_0, .int .i64 a0_1, .slice A0_2 l0_2.length c0_2]] w fun e w' => e = .returned (.tuple #[.int .i64 r1, .int .i64 r2]) ∧ Below w.heap.size w w' := by
  have hu33 := Try.underlying33
  have HR0_2 := Aside0.mk hr0_2
  have HC0_2 := Aside0.mk hc0_2
  clear hr0_2 hc0_2
  have HB := Aside0.mk (Below.refl w.heap.size w)
  have H : ((match_Maximum.f k a0_0 a0_1 l0_2).bind fun bt202 => (match_Size.l0 k bt202.2 0 bt202.1 (bt202.1.length : Int) 0)) = some (r1, r2) := h
  clear h
  replace H := Option.bind_eq_some_iff.mp H
  obtain ⟨⟨t202, t205⟩, A20, H⟩ := H
  replace H : (match_Size.l0 k t205 0 t202 (t202.length : Int) 0) = some (r1, r2) := H
  have A2 := Aside0.mk A20
  clear A20
  have H' := Aside0.mk H
  clear H
  go_enter Try.func21, Try.ntmps21
  go_wp2_with (first | ((with_reducible refine gate_dst (N := 1) rfl ?_); refine box_event ?hg (N := 1) ?hd (cs := #[.int .i64 a0_0, .int .i64 a0_1, .slice A0_2 l0_2.length c0_2]) (t := 33) ?hr ?_; (case hd => rfl); (case hg => rfl); (case hr => first | (go_simp; done) | (go_simp; rfl)); intro gb201 hg w3 hbox hb; have n0_ := Aside0.mk (below_step (by repeat (first | (with_reducible first | exact HB.out | apply below_alloc | apply pw_below_drewN | apply below_drew1) | exact HB.out)) hb); have n1_ := Aside0.mk (hbox); have n2_ := Aside0.mk ((by rw [hg]; exact (below_size (by repeat (first | (with_reducible first | exact HB.out | apply below_alloc | apply pw_below_drewN | apply below_drew1) | exact HB.out))) : w.heap.size ≤ gb201)); have n3_ := Aside0.mk ((by rw [hg]; exact (below_size (by repeat (first | (with_reducible first | exact HB.out | apply below_alloc | apply pw_below_drewN | apply below_drew1) | exact HB.out))) : w.heap.size ≤ gb201)); clear HB; have HB := n0_; have BK201 := n1_; have GW201 := n2_; have GE201 := n3_; clear n0_ n1_ n2_ n3_; clear hb hbox hg; have hcz4_0 : w3.cell? ⟨gb201, 0, none⟩ = some (.int .i64 a0_0) := (blk_cell BK201.out 0).trans rfl; have hcz4_1 : w3.cell? ⟨gb201, 1, none⟩ = some (.int .i64 a0_1) := (blk_cell BK201.out 1).trans rfl; have hcz4_2 : w3.cell? ⟨gb201, 2, none⟩ = some (.slice A0_2 l0_2.length c0_2) := (blk_cell BK201.out 2).trans rfl; have hfz4_0 := blk_frozen BK201.out 0; have hfz4_1 := blk_frozen BK201.out 1; have hfz4_2 := blk_frozen BK201.out 2) | ((with_reducible refine gate_callee (f := 35) rfl ?_); refine goesL_ (some 11) rfl rfl Try.func35 (by kernel_rfl) rfl #[.agg #[.int .i64 a0_0, .int .i64 a0_1, .slice A0_2 l0_2.length c0_2]] rfl (by (try simp only [List.map_toArray, List.map_cons, List.map_nil]); first | done | rfl | (simp only [List.length_drop, List.length_take]; rfl)) ?_; (with_reducible refine (match_Maximum.calls k a0_0 a0_1 _ _ l0_2 t202 t205 _ ?side1 ?side2 A2.out).mono ?_); (case side1 => repeat (first | exact (Kd.C_below HR0_2.out HB.out) | (with_reducible refine Kd.C_alloc ?_ _) | (with_reducible refine Kd.C_drewN ?_ _) | (with_reducible refine Kd.C_drew ?_))); (case side2 => exact HC0_2.out); rintro e w5 ⟨v203, rfl, ho0, hb⟩; refine ⟨_, rfl, ?_⟩; have n0_ := Aside0.mk (Kd.R_lower ho0 (below_size (by repeat (first | (with_reducible first | exact HB.out | apply below_alloc | apply pw_below_drewN | apply below_drew1 | refine below_set ?_ GE201.out) | exact HB.out)))); have n1_ := Aside0.mk (blk_below (g := gb201) (o := .cells #[.int .i64 a0_0, .int .i64 a0_1, .slice A0_2 l0_2.length c0_2] 33 (0, 0)) (by (with_reducible repeat (first | refine blk_drewN ?_ _ | refine blk_drew ?_ | refine blk_alloc ?_ _)); exact BK201.out) hb); have n2_ := Aside0.mk (below_step (by repeat (first | (with_reducible first | exact HB.out | apply below_alloc | apply pw_below_drewN | apply below_drew1 | refine below_set ?_ GE201.out) | exact HB.out)) hb); clear BK201; clear HB; have HO204 := n0_; have BK201 := n1_; have HB := n2_; clear n0_ n1_ n2_; (try clear hb); (try clear hb2); (try clear hk); (try clear hi); (try clear ho0); obtain ⟨Ao6, co6, eo6⟩ := Kd.R_slice HO204.out; subst eo6))
  go_loopg [6, 16] k (fun kq v6 v16 w' => ∃ (x6_1 : Int) (x16_1 : Int), v6 = .int .i64 x6_1 ∧ v16 = .int .i64 x16_1 ∧ Aside0 (match_Size.l0 kq t205 x6_1 t202 (t202.length : Int) x16_1 = some (r1, r2)) ∧ Aside0 (kq ≤ k) ∧ Aside0 (Kd.R (Kd.int .i64) 3 w' w.heap.size (fun _ => True) (.slice Ao6 t202.length co6) t202) ∧ Aside0 (w'.heap[gb201]? = some (.cells #[.int .i64 a0_0, .int .i64 a0_1, (.slice A0_2 l0_2.length c0_2)] 33 (0, 0))) ∧ Aside0 (Below w.heap.size w w'))
  case atStart => exact ⟨(0), (0), (by first | rfl | (simp; done) | (simp [*]; done)), (by first | rfl | (simp; done) | (simp [*]; done)), H', ⟨Nat.le_refl _⟩, ⟨by (with_reducible repeat (first | apply Kd.R_alloc | apply Kd.R_drewN | apply Kd.R_drew)); exact HO204.out⟩, ⟨by (with_reducible repeat (first | refine blk_drewN ?_ _ | refine blk_drew ?_ | refine blk_alloc ?_ _)); exact BK201.out⟩, ⟨by repeat (first | (with_reducible first | exact HB.out | apply below_alloc | apply pw_below_drewN | apply below_drew1 | refine below_set ?_ GE201.out) | exact HB.out)⟩⟩
  case round =>
    clear H'
    try clear c2
    try clear p2
    try clear c3
    try clear hcz4_0
    try clear hcz4_1
    try clear hcz4_2
    try clear hfz4_0
    try clear hfz4_1
    try clear hfz4_2
    obtain ⟨x6_1, x16_1, rfl, rfl, HA, HK1, HO_14, BK201, HB⟩ := hrel
    cases gk with
    | zero => exact absurd HA.out (by simp [match_Size.l0])
    | succ k1 =>
      have H := HA.out
      clear HA
      simp only [match_Size.l0] at H
      by_cases c7 : x16_1 < (t202.length : Int)
      · rw [if_pos c7] at H
        have c7b0 : decide (x16_1 < (t202.length : Int)) = true := decide_eq_true c7
        clear c7
        by_cases c8 : 0 ≤ x16_1
        · rw [if_pos c8] at H
          have c8b0 : decide (0 ≤ x16_1) = true := decide_eq_true c8
          clear c8
          by_cases c9 : x16_1 < (t202.length : Int)
          · rw [if_pos c9] at H
            have c9b0 : decide (x16_1 < (t202.length : Int)) = true := decide_eq_true c9
            clear c9
            by_cases c10 : (rd t202 x16_1) ≥ 0
            · rw [if_pos c10] at H
              have c10b0 : decide (0 ≤ (rd t202 x16_1)) = true := decide_eq_true c10
              clear c10
              have H' := Aside0.mk H
              clear H
              have p206 : 0 ≤ (x16_1 : Int) := of_decide_eq_true (by first | (with_reducible assumption) | assumption)
              have q206 : x16_1 < (t202.length : Int) := of_decide_eq_true (by first | (with_reducible assumption) | assumption)
              obtain ⟨ad206, e206, hx206_0⟩ := Kd.at_int (Kd.R_reads' HO_14.out).2.2 x16_1 p206 q206
              cases e206
              replace p206 := eq_true p206
              replace q206 := eq_true q206
              go_wp2
              go_roundg k1
              case measure => have := HK1.out; omega
              case rel => exact ⟨(wrap64 (x6_1 + 1)), (wrap64 (x16_1 + 1)), (by first | rfl | (simp; done) | (simp [*]; done)), (by first | rfl | (simp; done) | (simp [*]; done)), H', ⟨by have := HK1.out; omega⟩, ⟨by (with_reducible repeat (first | apply Kd.R_alloc | apply Kd.R_drewN | apply Kd.R_drew)); exact HO_14.out⟩, ⟨by (with_reducible repeat (first | refine blk_drewN ?_ _ | refine blk_drew ?_ | refine blk_alloc ?_ _)); exact BK201.out⟩, ⟨by repeat (first | (with_reducible first | exact HB.out | apply below_alloc | apply pw_below_drewN | apply below_drew1 | refine below_set ?_ GE201.out) | exact HB.out)⟩⟩
            · rw [if_neg c10] at H
              have c10b0 : decide (0 ≤ (rd t202 x16_1)) = false := decide_eq_false c10
              clear c10
              have H' := Aside0.mk H
              clear H
              have p206 : 0 ≤ (x16_1 : Int) := of_decide_eq_true (by first | (with_reducible assumption) | assumption)
              have q206 : x16_1 < (t202.length : Int) := of_decide_eq_true (by first | (with_reducible assumption) | assumption)
              obtain ⟨ad206, e206, hx206_0⟩ := Kd.at_int (Kd.R_reads' HO_14.out).2.2 x16_1 p206 q206
              cases e206
              replace p206 := eq_true p206
              replace q206 := eq_true q206
              go_wp2
              go_roundg k1
              case measure => have := HK1.out; omega
              case rel => exact ⟨(x6_1), (wrap64 (x16_1 + 1)), (by first | rfl | (simp; done) | (simp [*]; done)), (by first | rfl | (simp; done) | (simp [*]; done)), H', ⟨by have := HK1.out; omega⟩, ⟨by (with_reducible repeat (first | apply Kd.R_alloc | apply Kd.R_drewN | apply Kd.R_drew)); exact HO_14.out⟩, ⟨by (with_reducible repeat (first | refine blk_drewN ?_ _ | refine blk_drew ?_ | refine blk_alloc ?_ _)); exact BK201.out⟩, ⟨by repeat (first | (with_reducible first | exact HB.out | apply below_alloc | apply pw_below_drewN | apply below_drew1 | refine below_set ?_ GE201.out) | exact HB.out)⟩⟩
          · rw [if_neg c9] at H
            exact absurd H (by simp)
        · rw [if_neg c8] at H
          exact absurd H (by simp)
      · rw [if_neg c7] at H
        have c7b0 : decide (x16_1 < (t202.length : Int)) = false := decide_eq_false c7
        clear c7
        simp only [Option.some.injEq, Prod.mk.injEq] at H
        obtain ⟨rfl, rfl⟩ := H
        go_wp2
        go_ret2
        exact ⟨by first | rfl | (simp [errW_none, errW_some] <;> rfl) | (simp [*, errW_none, errW_some] <;> rfl), by repeat (first | (with_reducible first | exact HB.out | apply below_alloc | apply pw_below_drewN | apply below_drew1 | refine below_set ?_ GE201.out) | exact HB.out)⟩
def toruslaw30_size.f (k : Nat) (a0_0 : Int) (a0_1 : Int) (l0_2 : List (S40)) : Option (Int) := (toruslaw30_given.f a0_0 a0_1 l0_2).bind fun bt208 => ((match_Size.f k bt208.1 bt208.2.1 bt208.2.2).bind fun bt213 => (if bt213.2 = 0 then (some bt213.1) else (some (-1))))
theorem toruslaw30_size.mono : ∀ a0 a1 a2 k, LeO (toruslaw30_size.f k a0 a1 a2) (toruslaw30_size.f (k + 1) a0 a1 a2) := by
  intro a0 a1 a2 k
  unfold toruslaw30_size.f
  repeat' first
      | (with_reducible exact match_Size.mono _ _ _ _)
      | (with_reducible exact LeO.refl _)
      | (with_reducible exact LeO.none _)
      | (with_reducible refine LeO.ite ?_ ?_)
      | (with_reducible refine LeO.bind ?_ (fun _ => ?_))
      | exact match_Size.mono _ _ _ _
      | exact LeO.none _
      | refine LeO.ite ?_ ?_
      | refine LeO.bind ?_ (fun _ => ?_)
set_option maxHeartbeats 8000000 in
set_option maxRecDepth 100000 in
theorem toruslaw30_size.calls (k : Nat) (a0_0 : Int) (a0_1 : Int) (A0_2 : Option Addr) (c0_2 : Nat) (l0_2 : List (S40)) (r : Int) (w : World) (hr0_2 : Kd.C k40 w A0_2 l0_2.length l0_2) (hc0_2 : l0_2.length ≤ c0_2) (h : toruslaw30_size.f k a0_0 a0_1 l0_2 = some r) :
    Calls Try.prog 15 #[.agg #[.int .i64 a0_0, .int .i64 a0_1, .slice A0_2 l0_2.length c0_2]] w fun e w' => e = .returned (.int .i64 r) ∧ Below w.heap.size w w' := by
  have hu27 := Try.underlying27
  have HR0_2 := Aside0.mk hr0_2
  have HC0_2 := Aside0.mk hc0_2
  clear hr0_2 hc0_2
  have HB := Aside0.mk (Below.refl w.heap.size w)
  have H : ((toruslaw30_given.f a0_0 a0_1 l0_2).bind fun bt208 => ((match_Size.f k bt208.1 bt208.2.1 bt208.2.2).bind fun bt213 => (if bt213.2 = 0 then (some bt213.1) else (some (-1))))) = some r := h
  clear h
  replace H := Option.bind_eq_some_iff.mp H
  obtain ⟨⟨t208, t209, t210⟩, A20, H⟩ := H
  replace H : ((match_Size.f k t208 t209 t210).bind fun bt213 => (if bt213.2 = 0 then (some bt213.1) else (some (-1)))) = some r := H
  have A2 := Aside0.mk A20
  clear A20
  replace H := Option.bind_eq_some_iff.mp H
  obtain ⟨⟨t213, t214⟩, A30, H⟩ := H
  replace H : (if t214 = 0 then (some t213) else (some (-1))) = some r := H
  have A3 := Aside0.mk A30
  clear A30
  by_cases c4 : t214 = 0
  · rw [if_pos c4] at H
    have c4b0 : (t214 == 0) = true := beq_iff_eq.mpr c4
    have c4b1 : (t214 != 0) = false := bne_eq_false_iff_eq.mpr c4
    clear c4
    obtain rfl := Option.some.inj H
    go_enter Try.func15, Try.ntmps15
    go_wp2_with (first | ((with_reducible refine gate_dst (N := 1) rfl ?_); refine box_event ?hg (N := 1) ?hd (cs := #[.int .i64 a0_0, .int .i64 a0_1, .slice A0_2 l0_2.length c0_2]) (t := 27) ?hr ?_; (case hd => rfl); (case hg => rfl); (case hr => first | (go_simp; done) | (go_simp; rfl)); intro gb207 hg w5 hbox hb; have n0_ := Aside0.mk (below_step (by repeat (first | (with_reducible first | exact HB.out | apply below_alloc | apply pw_below_drewN | apply below_drew1) | exact HB.out)) hb); have n1_ := Aside0.mk (hbox); have n2_ := Aside0.mk ((by rw [hg]; exact (below_size (by repeat (first | (with_reducible first | exact HB.out | apply below_alloc | apply pw_below_drewN | apply below_drew1) | exact HB.out))) : w.heap.size ≤ gb207)); have n3_ := Aside0.mk ((by rw [hg]; exact (below_size (by repeat (first | (with_reducible first | exact HB.out | apply below_alloc | apply pw_below_drewN | apply below_drew1) | exact HB.out))) : w.heap.size ≤ gb207)); clear HB; have HB := n0_; have BK207 := n1_; have GW207 := n2_; have GE207 := n3_; clear n0_ n1_ n2_ n3_; clear hb hbox hg; have hcz6_0 : w5.cell? ⟨gb207, 0, none⟩ = some (.int .i64 a0_0) := (blk_cell BK207.out 0).trans rfl; have hcz6_1 : w5.cell? ⟨gb207, 1, none⟩ = some (.int .i64 a0_1) := (blk_cell BK207.out 1).trans rfl; have hcz6_2 : w5.cell? ⟨gb207, 2, none⟩ = some (.slice A0_2 l0_2.length c0_2) := (blk_cell BK207.out 2).trans rfl; have hfz6_0 := blk_frozen BK207.out 0; have hfz6_1 := blk_frozen BK207.out 1; have hfz6_2 := blk_frozen BK207.out 2) | ((with_reducible refine gate_callee (f := 14) rfl ?_); refine goesL_ (some 7) rfl rfl Try.func14 (by kernel_rfl) rfl #[.agg #[.int .i64 a0_0, .int .i64 a0_1, .slice A0_2 l0_2.length c0_2]] rfl (by (try simp only [List.map_toArray, List.map_cons, List.map_nil]); first | done | rfl | (simp only [List.length_drop, List.length_take]; rfl)) ?_; (with_reducible refine (toruslaw30_given.calls a0_0 a0_1 _ _ l0_2 t208 t209 t210 _ ?side1 ?side2 A2.out).mono ?_); (case side1 => repeat (first | exact (Kd.C_below HR0_2.out HB.out) | (with_reducible refine Kd.C_alloc ?_ _) | (with_reducible refine Kd.C_drewN ?_ _) | (with_reducible refine Kd.C_drew ?_))); (case side2 => exact HC0_2.out); rintro e w7 ⟨v211, rfl, ho0, hb⟩; refine ⟨_, rfl, ?_⟩; have n0_ := Aside0.mk (Kd.R_lower ho0 (below_size (by repeat (first | (with_reducible first | exact HB.out | apply below_alloc | apply pw_below_drewN | apply below_drew1 | refine below_set ?_ GE207.out) | exact HB.out)))); have n1_ := Aside0.mk (blk_below (g := gb207) (o := .cells #[.int .i64 a0_0, .int .i64 a0_1, .slice A0_2 l0_2.length c0_2] 27 (0, 0)) (by (with_reducible repeat (first | refine blk_drewN ?_ _ | refine blk_drew ?_ | refine blk_alloc ?_ _)); exact BK207.out) hb); have n2_ := Aside0.mk (below_step (by repeat (first | (with_reducible first | exact HB.out | apply below_alloc | apply pw_below_drewN | apply below_drew1 | refine below_set ?_ GE207.out) | exact HB.out)) hb); clear BK207; clear HB; have HO212 := n0_; have BK207 := n1_; have HB := n2_; clear n0_ n1_ n2_; (try clear hb); (try clear hb2); (try clear hk); (try clear hi); (try clear ho0); obtain ⟨Ao8, co8, eo8⟩ := Kd.R_slice HO212.out; subst eo8) | ((with_reducible refine gate_callee (f := 21) rfl ?_); refine goesL_ (some 8) rfl rfl Try.func21 (by kernel_rfl) rfl #[.agg #[.int .i64 t208, .int .i64 t209, .slice Ao8 t210.length co8]] rfl (by (try simp only [List.map_toArray, List.map_cons, List.map_nil]); first | done | rfl | (simp only [List.length_drop, List.length_take]; rfl)) ?_; (with_reducible refine (match_Size.calls k t208 t209 _ _ t210 t213 t214 _ ?side1 ?side2 A3.out).mono ?_); (case side1 => repeat (first | exact (Kd.R_reads' HO212.out).2.2 | (with_reducible refine Kd.C_alloc ?_ _) | (with_reducible refine Kd.C_drewN ?_ _) | (with_reducible refine Kd.C_drew ?_))); (case side2 => exact (Kd.R_reads' HO212.out).2.1); rintro e w9 ⟨rfl, hb⟩; refine ⟨_, rfl, ?_⟩; have n0_ := Aside0.mk (Kd.R_below (by (with_reducible repeat (first | apply Kd.R_alloc | apply Kd.R_drewN | apply Kd.R_drew)); exact HO212.out) hb); have n1_ := Aside0.mk (blk_below (g := gb207) (o := .cells #[.int .i64 a0_0, .int .i64 a0_1, .slice A0_2 l0_2.length c0_2] 27 (0, 0)) (by (with_reducible repeat (first | refine blk_drewN ?_ _ | refine blk_drew ?_ | refine blk_alloc ?_ _)); exact BK207.out) hb); have n2_ := Aside0.mk (below_step (by repeat (first | (with_reducible first | exact HB.out | apply below_alloc | apply pw_below_drewN | apply below_drew1 | refine below_set ?_ GE207.out) | exact HB.out)) hb); clear HO212; clear BK207; clear HB; have HO212 := n0_; have BK207 := n1_; have HB := n2_; clear n0_ n1_ n2_; (try clear hb); (try clear hb2); (try clear hk); (try clear hi)))
    go_ret
    exact ⟨by first | rfl | (simp [errW_none, errW_some] <;> rfl) | (simp [*, errW_none, errW_some] <;> rfl), by repeat (first | (with_reducible first | exact HB.out | apply below_alloc | apply pw_below_drewN | apply below_drew1 | refine below_set ?_ GE207.out) | exact HB.out)⟩
  · rw [if_neg c4] at H
    have c4b0 : (t214 == 0) = false := beq_eq_false_iff_ne.mpr c4
    have c4b1 : (t214 != 0) = true := bne_iff_ne.mpr c4
    obtain rfl := Option.some.inj H
    go_enter Try.func15, Try.ntmps15
    go_wp2_with (first | ((with_reducible refine gate_dst (N := 1) rfl ?_); refine box_event ?hg (N := 1) ?hd (cs := #[.int .i64 a0_0, .int .i64 a0_1, .slice A0_2 l0_2.length c0_2]) (t := 27) ?hr ?_; (case hd => rfl); (case hg => rfl); (case hr => first | (go_simp; done) | (go_simp; rfl)); intro gb207 hg w10 hbox hb; have n0_ := Aside0.mk (below_step (by repeat (first | (with_reducible first | exact HB.out | apply below_alloc | apply pw_below_drewN | apply below_drew1) | exact HB.out)) hb); have n1_ := Aside0.mk (hbox); have n2_ := Aside0.mk ((by rw [hg]; exact (below_size (by repeat (first | (with_reducible first | exact HB.out | apply below_alloc | apply pw_below_drewN | apply below_drew1) | exact HB.out))) : w.heap.size ≤ gb207)); have n3_ := Aside0.mk ((by rw [hg]; exact (below_size (by repeat (first | (with_reducible first | exact HB.out | apply below_alloc | apply pw_below_drewN | apply below_drew1) | exact HB.out))) : w.heap.size ≤ gb207)); clear HB; have HB := n0_; have BK207 := n1_; have GW207 := n2_; have GE207 := n3_; clear n0_ n1_ n2_ n3_; clear hb hbox hg; have hcz11_0 : w10.cell? ⟨gb207, 0, none⟩ = some (.int .i64 a0_0) := (blk_cell BK207.out 0).trans rfl; have hcz11_1 : w10.cell? ⟨gb207, 1, none⟩ = some (.int .i64 a0_1) := (blk_cell BK207.out 1).trans rfl; have hcz11_2 : w10.cell? ⟨gb207, 2, none⟩ = some (.slice A0_2 l0_2.length c0_2) := (blk_cell BK207.out 2).trans rfl; have hfz11_0 := blk_frozen BK207.out 0; have hfz11_1 := blk_frozen BK207.out 1; have hfz11_2 := blk_frozen BK207.out 2) | ((with_reducible refine gate_callee (f := 14) rfl ?_); refine goesL_ (some 7) rfl rfl Try.func14 (by kernel_rfl) rfl #[.agg #[.int .i64 a0_0, .int .i64 a0_1, .slice A0_2 l0_2.length c0_2]] rfl (by (try simp only [List.map_toArray, List.map_cons, List.map_nil]); first | done | rfl | (simp only [List.length_drop, List.length_take]; rfl)) ?_; (with_reducible refine (toruslaw30_given.calls a0_0 a0_1 _ _ l0_2 t208 t209 t210 _ ?side1 ?side2 A2.out).mono ?_); (case side1 => repeat (first | exact (Kd.C_below HR0_2.out HB.out) | (with_reducible refine Kd.C_alloc ?_ _) | (with_reducible refine Kd.C_drewN ?_ _) | (with_reducible refine Kd.C_drew ?_))); (case side2 => exact HC0_2.out); rintro e w12 ⟨v211, rfl, ho0, hb⟩; refine ⟨_, rfl, ?_⟩; have n0_ := Aside0.mk (Kd.R_lower ho0 (below_size (by repeat (first | (with_reducible first | exact HB.out | apply below_alloc | apply pw_below_drewN | apply below_drew1 | refine below_set ?_ GE207.out) | exact HB.out)))); have n1_ := Aside0.mk (blk_below (g := gb207) (o := .cells #[.int .i64 a0_0, .int .i64 a0_1, .slice A0_2 l0_2.length c0_2] 27 (0, 0)) (by (with_reducible repeat (first | refine blk_drewN ?_ _ | refine blk_drew ?_ | refine blk_alloc ?_ _)); exact BK207.out) hb); have n2_ := Aside0.mk (below_step (by repeat (first | (with_reducible first | exact HB.out | apply below_alloc | apply pw_below_drewN | apply below_drew1 | refine below_set ?_ GE207.out) | exact HB.out)) hb); clear BK207; clear HB; have HO212 := n0_; have BK207 := n1_; have HB := n2_; clear n0_ n1_ n2_; (try clear hb); (try clear hb2); (try clear hk); (try clear hi); (try clear ho0); obtain ⟨Ao13, co13, eo13⟩ := Kd.R_slice HO212.out; subst eo13) | ((with_reducible refine gate_callee (f := 21) rfl ?_); refine goesL_ (some 8) rfl rfl Try.func21 (by kernel_rfl) rfl #[.agg #[.int .i64 t208, .int .i64 t209, .slice Ao13 t210.length co13]] rfl (by (try simp only [List.map_toArray, List.map_cons, List.map_nil]); first | done | rfl | (simp only [List.length_drop, List.length_take]; rfl)) ?_; (with_reducible refine (match_Size.calls k t208 t209 _ _ t210 t213 t214 _ ?side1 ?side2 A3.out).mono ?_); (case side1 => repeat (first | exact (Kd.R_reads' HO212.out).2.2 | (with_reducible refine Kd.C_alloc ?_ _) | (with_reducible refine Kd.C_drewN ?_ _) | (with_reducible refine Kd.C_drew ?_))); (case side2 => exact (Kd.R_reads' HO212.out).2.1); rintro e w14 ⟨rfl, hb⟩; refine ⟨_, rfl, ?_⟩; have n0_ := Aside0.mk (Kd.R_below (by (with_reducible repeat (first | apply Kd.R_alloc | apply Kd.R_drewN | apply Kd.R_drew)); exact HO212.out) hb); have n1_ := Aside0.mk (blk_below (g := gb207) (o := .cells #[.int .i64 a0_0, .int .i64 a0_1, .slice A0_2 l0_2.length c0_2] 27 (0, 0)) (by (with_reducible repeat (first | refine blk_drewN ?_ _ | refine blk_drew ?_ | refine blk_alloc ?_ _)); exact BK207.out) hb); have n2_ := Aside0.mk (below_step (by repeat (first | (with_reducible first | exact HB.out | apply below_alloc | apply pw_below_drewN | apply below_drew1 | refine below_set ?_ GE207.out) | exact HB.out)) hb); clear HO212; clear BK207; clear HB; have HO212 := n0_; have BK207 := n1_; have HB := n2_; clear n0_ n1_ n2_; (try clear hb); (try clear hb2); (try clear hk); (try clear hi)))
    go_ret
    exact ⟨by first | rfl | (simp [errW_none, errW_some] <;> rfl) | (simp [*, errW_none, errW_some] <;> rfl), by repeat (first | (with_reducible first | exact HB.out | apply below_alloc | apply pw_below_drewN | apply below_drew1 | refine below_set ?_ GE207.out) | exact HB.out)⟩
def torusref01_Same.l0 : Nat → List Int → List Int → Int → Option (Bool)
  | 0, _, _, _ => none
  | k + 1, x0, x1, x5 => if x5 < (x0.length : Int) then (if 0 ≤ x5 then (if x5 < (x1.length : Int) then (if (rd x0 x5) = (rd x1 x5) then (torusref01_Same.l0 k x0 x1 (wrap64 (x5 + 1))) else (some false)) else (none)) else (none)) else (some true)
def torusref01_Same.f (k : Nat) (l0 : List Int) (l1 : List Int) : Option (Bool) := if (l0.length : Int) = (l1.length : Int) then (torusref01_Same.l0 k l0 l1 0) else (some false)
theorem torusref01_Same.mono_l : ∀ k, (∀ y0 y1 y2, LeO (torusref01_Same.l0 k y0 y1 y2) (torusref01_Same.l0 (k + 1) y0 y1 y2))
  | 0 => fun _ _ _ r h => by simp [torusref01_Same.l0] at h
  | k + 1 => by
    have ih0 := torusref01_Same.mono_l k
    · intro y0 y1 y2
      unfold torusref01_Same.l0
      repeat' first
      | (with_reducible exact ih0 _ _ _)
      | (with_reducible exact LeO.refl _)
      | (with_reducible exact LeO.none _)
      | (with_reducible refine LeO.ite ?_ ?_)
      | (with_reducible refine LeO.bind ?_ (fun _ => ?_))
      | exact ih0 _ _ _
      | exact LeO.none _
      | refine LeO.ite ?_ ?_
      | refine LeO.bind ?_ (fun _ => ?_)
theorem torusref01_Same.mono : ∀ a0 a1 k, LeO (torusref01_Same.f k a0 a1) (torusref01_Same.f (k + 1) a0 a1) := by
  intro a0 a1 k
  have ih0 := torusref01_Same.mono_l k
  unfold torusref01_Same.f
  repeat' first
      | (with_reducible exact ih0 _ _ _)
      | (with_reducible exact LeO.refl _)
      | (with_reducible exact LeO.none _)
      | (with_reducible refine LeO.ite ?_ ?_)
      | (with_reducible refine LeO.bind ?_ (fun _ => ?_))
      | exact ih0 _ _ _
      | exact LeO.none _
      | refine LeO.ite ?_ ?_
      | refine LeO.bind ?_ (fun _ => ?_)
set_option maxHeartbeats 8000000 in
set_option maxRecDepth 100000 in
theorem torusref01_Same.calls (k : Nat) (A0 : Option Addr) (c0 : Nat) (l0 : List Int) (A1 : Option Addr) (c1 : Nat) (l1 : List Int) (r : Bool) (w : World) (hr0 : Kd.C (Kd.int .i64) w A0 l0.length l0) (hc0 : l0.length ≤ c0) (hr1 : Kd.C (Kd.int .i64) w A1 l1.length l1) (hc1 : l1.length ≤ c1) (h : torusref01_Same.f k l0 l1 = some r) :
    Calls Try.prog 17 #[.slice A0 l0.length c0, .slice A1 l1.length c1] w fun e w' => e = .returned (.bool r) ∧ Drawn0 w w' := by
  have HR0 := Aside0.mk hr0
  have HC0 := Aside0.mk hc0
  clear hr0 hc0
  have HR1 := Aside0.mk hr1
  have HC1 := Aside0.mk hc1
  clear hr1 hc1
  have H : (if (l0.length : Int) = (l1.length : Int) then (torusref01_Same.l0 k l0 l1 0) else (some false)) = some r := h
  clear h
  by_cases c3 : (l0.length : Int) = (l1.length : Int)
  · rw [if_pos c3] at H
    have c3b0 : ((l0.length : Int) == (l1.length : Int)) = true := beq_iff_eq.mpr c3
    have c3b1 : ((l0.length : Int) != (l1.length : Int)) = false := bne_eq_false_iff_eq.mpr c3
    have c3b2 : (l0.length == l1.length) = true := by first | simpa using c3 | (simp at c3 ⊢; omega)
    clear c3
    have H' := Aside0.mk H
    clear H
    go_enter Try.func17, Try.ntmps17
    go_wp2
    repeat (go_quiet (fail); try go_wp2)
    go_loopg [5] k (fun kq v5 w' => ∃ (x5_1 : Int), v5 = .int .i64 x5_1 ∧ Aside0 (torusref01_Same.l0 kq l0 l1 x5_1 = some r) ∧ Aside0 (kq ≤ k) ∧ Drawn0 w w')
    case atStart => exact ⟨(0), (by first | rfl | (simp; done) | (simp [*]; done)), H', ⟨Nat.le_refl _⟩, by repeat (first | exact Drawn0.refl _ | apply Drawn0.step)⟩
    case round =>
      clear H'
      try clear c1
      try clear p2
      try clear c3
      try clear c3b0
      try clear c3b1
      try clear c3b2
      obtain ⟨x5_1, rfl, HA, HK1, ⟨m1, rfl⟩⟩ := hrel
      cases gk with
      | zero => exact absurd HA.out (by simp [torusref01_Same.l0])
      | succ k1 =>
        have H := HA.out
        clear HA
        simp only [torusref01_Same.l0] at H
        by_cases c4 : x5_1 < (l0.length : Int)
        · rw [if_pos c4] at H
          have c4b0 : decide (x5_1 < (l0.length : Int)) = true := decide_eq_true c4
          clear c4
          by_cases c5 : 0 ≤ x5_1
          · rw [if_pos c5] at H
            have c5b0 : decide (0 ≤ x5_1) = true := decide_eq_true c5
            clear c5
            by_cases c6 : x5_1 < (l1.length : Int)
            · rw [if_pos c6] at H
              have c6b0 : decide (x5_1 < (l1.length : Int)) = true := decide_eq_true c6
              clear c6
              by_cases c7 : (rd l0 x5_1) = (rd l1 x5_1)
              · rw [if_pos c7] at H
                have c7b0 : ((rd l0 x5_1) == (rd l1 x5_1)) = true := beq_iff_eq.mpr c7
                have c7b1 : ((rd l0 x5_1) != (rd l1 x5_1)) = false := bne_eq_false_iff_eq.mpr c7
                clear c7
                have H' := Aside0.mk H
                clear H
                have p215 : 0 ≤ (x5_1 : Int) := of_decide_eq_true (by first | (with_reducible assumption) | assumption)
                have q215 : x5_1 < (l0.length : Int) := of_decide_eq_true (by first | (with_reducible assumption) | assumption)
                obtain ⟨ad215, e215, hx215_0⟩ := Kd.at_int HR0.out x5_1 p215 q215
                cases e215
                replace p215 := eq_true p215
                replace q215 := eq_true q215
                have p216 : 0 ≤ (x5_1 : Int) := of_decide_eq_true (by first | (with_reducible assumption) | assumption)
                have q216 : x5_1 < (l1.length : Int) := of_decide_eq_true (by first | (with_reducible assumption) | assumption)
                obtain ⟨ad216, e216, hx216_0⟩ := Kd.at_int HR1.out x5_1 p216 q216
                cases e216
                replace p216 := eq_true p216
                replace q216 := eq_true q216
                go_wp2
                repeat (go_quiet (fail); try go_wp2)
                go_roundg k1
                case measure => have := HK1.out; omega
                case rel => exact ⟨(wrap64 (x5_1 + 1)), (by first | rfl | (simp; done) | (simp [*]; done)), H', ⟨by have := HK1.out; omega⟩, by repeat (first | exact Drawn0.refl _ | apply Drawn0.step)⟩
              · rw [if_neg c7] at H
                have c7b0 : ((rd l0 x5_1) == (rd l1 x5_1)) = false := beq_eq_false_iff_ne.mpr c7
                have c7b1 : ((rd l0 x5_1) != (rd l1 x5_1)) = true := bne_iff_ne.mpr c7
                obtain rfl := Option.some.inj H
                have p215 : 0 ≤ (x5_1 : Int) := of_decide_eq_true (by first | (with_reducible assumption) | assumption)
                have q215 : x5_1 < (l0.length : Int) := of_decide_eq_true (by first | (with_reducible assumption) | assumption)
                obtain ⟨ad215, e215, hx215_0⟩ := Kd.at_int HR0.out x5_1 p215 q215
                cases e215
                replace p215 := eq_true p215
                replace q215 := eq_true q215
                have p216 : 0 ≤ (x5_1 : Int) := of_decide_eq_true (by first | (with_reducible assumption) | assumption)
                have q216 : x5_1 < (l1.length : Int) := of_decide_eq_true (by first | (with_reducible assumption) | assumption)
                obtain ⟨ad216, e216, hx216_0⟩ := Kd.at_int HR1.out x5_1 p216 q216
                cases e216
                replace p216 := eq_true p216
                replace q216 := eq_true q216
                go_wp2
                repeat (go_quiet (fail); try go_wp2)
                go_ret
                exact ⟨by first | rfl | (simp; done) | (simp [*]; done), by repeat (first | exact Drawn0.refl _ | apply Drawn0.step)⟩
            · rw [if_neg c6] at H
              exact absurd H (by simp)
          · rw [if_neg c5] at H
            exact absurd H (by simp)
        · rw [if_neg c4] at H
          have c4b0 : decide (x5_1 < (l0.length : Int)) = false := decide_eq_false c4
          clear c4
          obtain rfl := Option.some.inj H
          go_wp2
          repeat (go_quiet (fail); try go_wp2)
          go_ret
          exact ⟨by first | rfl | (simp; done) | (simp [*]; done), by repeat (first | exact Drawn0.refl _ | apply Drawn0.step)⟩
  · rw [if_neg c3] at H
    have c3b0 : ((l0.length : Int) == (l1.length : Int)) = false := beq_eq_false_iff_ne.mpr c3
    have c3b1 : ((l0.length : Int) != (l1.length : Int)) = true := bne_iff_ne.mpr c3
    have c3b2 : (l0.length == l1.length) = false := by first | simpa using c3 | (simp at c3 ⊢; omega)
    obtain rfl := Option.some.inj H
    go_enter Try.func17, Try.ntmps17
    go_wp2
    repeat (go_quiet (fail); try go_wp2)
    go_ret
    exact ⟨by first | rfl | (simp; done) | (simp [*]; done), by repeat (first | exact Drawn0.refl _ | apply Drawn0.step)⟩
def match_Cover.f (k : Nat) (a0_0 : Int) (a0_1 : Int) (l0_2 : List (S40)) : Option (List Int × List Int × Int) := (match_Check.f a0_0 a0_1 l0_2).bind fun t218 => (if t218 = 0 then ((match_Graph_neighbours.f k a0_0 a0_1 l0_2).bind fun t219 => ((match_reach.f k t219 a0_1).bind fun bt222 => ((pairing_Chosen.f k bt222.1 false).bind fun t228 => ((pairing_Chosen.f k bt222.2 true).bind fun t231 => (some (t228, t231, 0)))))) else (some (([] : List Int), ([] : List Int), t218)))
theorem match_Cover.mono : ∀ a0 a1 a2 k, LeO (match_Cover.f k a0 a1 a2) (match_Cover.f (k + 1) a0 a1 a2) := by
  intro a0 a1 a2 k
  unfold match_Cover.f
  repeat' first
      | (with_reducible exact match_Graph_neighbours.mono _ _ _ _)
      | (with_reducible exact match_reach.mono _ _ _)
      | (with_reducible exact pairing_Chosen.mono _ _ _)
      | (with_reducible exact LeO.refl _)
      | (with_reducible exact LeO.none _)
      | (with_reducible refine LeO.ite ?_ ?_)
      | (with_reducible refine LeO.bind ?_ (fun _ => ?_))
      | exact match_Graph_neighbours.mono _ _ _ _
      | exact match_reach.mono _ _ _
      | exact pairing_Chosen.mono _ _ _
      | exact LeO.none _
      | refine LeO.ite ?_ ?_
      | refine LeO.bind ?_ (fun _ => ?_)
def match_Cover.T4 : Bool × List (List Nat × List Nat) := (true, [([], []), ([0], [0]), ([], []), ([2], [2]), ([1, 3, 1], [1, 3]), ([4], [4]), ([5], [5]), ([5], [5]), ([6, 4, 0, 1, 2, 3, 4, 5, 6], [6]), ([7, 8, 0, 1, 2, 3, 4, 5, 6, 7, 8], [7])])
def match_Cover.B4 : List Nat := [0, 1, 0, 4, 15, 31, 63, 63, 127, 511]
theorem match_Cover.tab4 : rtab .any (opsOf Try.f27 4) = match_Cover.T4 := by kernel_rfl
theorem match_Cover.bits4 : waitsOk match_Cover.T4.2 match_Cover.B4 = true := by kernel_rfl
set_option maxHeartbeats 8000000 in
set_option maxRecDepth 100000 in
theorem match_Cover.calls (k : Nat) (a0_0 : Int) (a0_1 : Int) (A0_2 : Option Addr) (c0_2 : Nat) (l0_2 : List (S40)) (r1 : List Int) (r2 : List Int) (r3 : Int) (w : World) (hr0_2 : Kd.C k40 w A0_2 l0_2.length l0_2) (hc0_2 : l0_2.length ≤ c0_2) (h : match_Cover.f k a0_0 a0_1 l0_2 = some (r1, r2, r3)) :
    Calls Try.prog 27 #[.agg #[.int .i64 a0_0, .int .i64 a0_1, .slice A0_2 l0_2.length c0_2]] w fun e w' => ∃ v0_ v1_ : Value, e = .returned (.tuple #[v0_, v1_, .int .i64 r3]) ∧ Kd.R (Kd.int .i64) 3 w' w.heap.size (fun k_ => some k_ ≠ (v1_ : Value).ownBlock) v0_ r1 ∧ Kd.R (Kd.int .i64) 3 w' w.heap.size (fun k_ => some k_ ≠ (v0_ : Value).ownBlock) v1_ r2 ∧ Below w.heap.size w w' := by
  have hu33 := Try.underlying33
  have HR0_2 := Aside0.mk hr0_2
  have HC0_2 := Aside0.mk hc0_2
  clear hr0_2 hc0_2
  have HB := Aside0.mk (Below.refl w.heap.size w)
  have H : ((match_Check.f a0_0 a0_1 l0_2).bind fun t218 => (if t218 = 0 then ((match_Graph_neighbours.f k a0_0 a0_1 l0_2).bind fun t219 => ((match_reach.f k t219 a0_1).bind fun bt222 => ((pairing_Chosen.f k bt222.1 false).bind fun t228 => ((pairing_Chosen.f k bt222.2 true).bind fun t231 => (some (t228, t231, 0)))))) else (some (([] : List Int), ([] : List Int), t218)))) = some (r1, r2, r3) := h
  clear h
  replace H := Option.bind_eq_some_iff.mp H
  obtain ⟨t218, A20, H⟩ := H
  replace H : (if t218 = 0 then ((match_Graph_neighbours.f k a0_0 a0_1 l0_2).bind fun t219 => ((match_reach.f k t219 a0_1).bind fun bt222 => ((pairing_Chosen.f k bt222.1 false).bind fun t228 => ((pairing_Chosen.f k bt222.2 true).bind fun t231 => (some (t228, t231, 0)))))) else (some (([] : List Int), ([] : List Int), t218))) = some (r1, r2, r3) := H
  have A2 := Aside0.mk A20
  clear A20
  by_cases c3 : t218 = 0
  · rw [if_pos c3] at H
    have c3b0 : (t218 == 0) = true := beq_iff_eq.mpr c3
    have c3b1 : (t218 != 0) = false := bne_eq_false_iff_eq.mpr c3
    clear c3
    replace H := Option.bind_eq_some_iff.mp H
    obtain ⟨t219, A40, H⟩ := H
    replace H : ((match_reach.f k t219 a0_1).bind fun bt222 => ((pairing_Chosen.f k bt222.1 false).bind fun t228 => ((pairing_Chosen.f k bt222.2 true).bind fun t231 => (some (t228, t231, 0))))) = some (r1, r2, r3) := H
    have A4 := Aside0.mk A40
    clear A40
    replace H := Option.bind_eq_some_iff.mp H
    obtain ⟨⟨t222, t223⟩, A50, H⟩ := H
    replace H : ((pairing_Chosen.f k t222 false).bind fun t228 => ((pairing_Chosen.f k t223 true).bind fun t231 => (some (t228, t231, 0)))) = some (r1, r2, r3) := H
    have A5 := Aside0.mk A50
    clear A50
    replace H := Option.bind_eq_some_iff.mp H
    obtain ⟨t228, A60, H⟩ := H
    replace H : ((pairing_Chosen.f k t223 true).bind fun t231 => (some (t228, t231, 0))) = some (r1, r2, r3) := H
    have A6 := Aside0.mk A60
    clear A60
    replace H := Option.bind_eq_some_iff.mp H
    obtain ⟨t231, A70, H⟩ := H
    replace H : (some (t228, t231, 0)) = some (r1, r2, r3) := H
    have A7 := Aside0.mk A70
    clear A70
    simp only [Option.some.injEq, Prod.mk.injEq] at H
    obtain ⟨rfl, rfl, rfl⟩ := H
    go_enter Try.func27, Try.ntmps27
    try go_wp2_with (first | ((with_reducible refine gate_dst (N := 1) rfl ?_); refine box_event ?hg (N := 1) ?hd (cs := #[.int .i64 a0_0, .int .i64 a0_1, .slice A0_2 l0_2.length c0_2]) (t := 33) ?hr ?_; (case hd => rfl); (case hg => rfl); (case hr => first | (go_simp; done) | (go_simp; rfl)); intro gb217 hg w8 hbox hb; have n0_ := Aside0.mk (below_step (by repeat (first | (with_reducible first | exact HB.out | apply below_alloc | apply pw_below_drewN | apply below_drew1) | exact HB.out)) hb); have n1_ := Aside0.mk (hbox); have n2_ := Aside0.mk ((by rw [hg]; exact (below_size (by repeat (first | (with_reducible first | exact HB.out | apply below_alloc | apply pw_below_drewN | apply below_drew1) | exact HB.out))) : w.heap.size ≤ gb217)); have n3_ := Aside0.mk ((by rw [hg]; exact (below_size (by repeat (first | (with_reducible first | exact HB.out | apply below_alloc | apply pw_below_drewN | apply below_drew1) | exact HB.out))) : w.heap.size ≤ gb217)); clear HB; have HB := n0_; have BK217 := n1_; have GW217 := n2_; have GE217 := n3_; clear n0_ n1_ n2_ n3_; clear hb hbox hg; have hcz9_0 : w8.cell? ⟨gb217, 0, none⟩ = some (.int .i64 a0_0) := (blk_cell BK217.out 0).trans rfl; have hcz9_1 : w8.cell? ⟨gb217, 1, none⟩ = some (.int .i64 a0_1) := (blk_cell BK217.out 1).trans rfl; have hcz9_2 : w8.cell? ⟨gb217, 2, none⟩ = some (.slice A0_2 l0_2.length c0_2) := (blk_cell BK217.out 2).trans rfl; have hfz9_0 := blk_frozen BK217.out 0; have hfz9_1 := blk_frozen BK217.out 1; have hfz9_2 := blk_frozen BK217.out 2) | ((with_reducible refine gate_callee (f := 23) rfl ?_); refine goesL_ (some 9) rfl rfl Try.func23 (by kernel_rfl) rfl #[.agg #[.int .i64 a0_0, .int .i64 a0_1, .slice A0_2 l0_2.length c0_2]] rfl (by (try simp only [List.map_toArray, List.map_cons, List.map_nil]); first | done | rfl | (simp only [List.length_drop, List.length_take]; rfl)) ?_; (with_reducible refine (match_Check.calls a0_0 a0_1 _ _ l0_2 t218 _ ?side1 ?side2 A2.out).mono ?_); (case side1 => repeat (first | exact (Kd.C_below HR0_2.out HB.out) | (with_reducible refine Kd.C_alloc ?_ _) | (with_reducible refine Kd.C_drewN ?_ _) | (with_reducible refine Kd.C_drew ?_))); (case side2 => exact HC0_2.out); rintro e w10 ⟨rfl, hb⟩; refine ⟨_, rfl, ?_⟩; have n0_ := Aside0.mk (blk_below (g := gb217) (o := .cells #[.int .i64 a0_0, .int .i64 a0_1, .slice A0_2 l0_2.length c0_2] 33 (0, 0)) (by (with_reducible repeat (first | refine blk_drewN ?_ _ | refine blk_drew ?_ | refine blk_alloc ?_ _)); exact BK217.out) hb); have n1_ := Aside0.mk (below_step (by repeat (first | (with_reducible first | exact HB.out | apply below_alloc | apply pw_below_drewN | apply below_drew1 | refine below_set ?_ GE217.out) | exact HB.out)) hb); clear BK217; clear HB; have BK217 := n0_; have HB := n1_; clear n0_ n1_; (try clear hb); (try clear hb2); (try clear hk); (try clear hi)))
    have n0_ := Aside0.mk (blk_drew BK217.out)
    have n1_ := Aside0.mk (below_drew1 HB.out)
    clear BK217
    clear HB
    have BK217 := n0_
    have HB := n1_
    clear n0_ n1_
    refine start_ (n := 10) (S := fun w' => w'.cell? ⟨gb217, 0, none⟩ = some (.int .i64 a0_0) ∧ w'.cell? ⟨gb217, 1, none⟩ = some (.int .i64 a0_1) ∧ w'.cell? ⟨gb217, 2, none⟩ = some (.slice A0_2 l0_2.length c0_2)) (ds := []) #[false, false, false, false, false, false, false, false, false, false] (by kernel_rfl) rfl rfl ⟨(blk_cell BK217.out 0).trans rfl, (blk_cell BK217.out 1).trans rfl, (blk_cell BK217.out 2).trans rfl⟩ (fun hHeld => ?_); refine with_tabW match_Cover.tab4 match_Cover.bits4 (fun HT_ HW_ => ?_)
    generalize w10.drew = w11 at BK217 HB hHeld ⊢
    refine pure_ (i := 2) (N := some 16) (v := ?_) (a' := ?_) #[false, false, true, false, false, false, false, false, false, false] rfl rfl (any_of HT_.out (by kernel_rfl)) (fun _ _ _ h => h) (Or.inl ⟨by rfl, ?_⟩) ?_ ?_
    rotate_left
    · intro w'
      go_simp
      with_reducible rfl
    rotate_left
    · simp only [Act.put, List.setIfInBounds_toArray, List.set_cons_zero, List.set_cons_succ, i64_w, i32_w]
      rfl
    refine take_ (i := 0) (N := some 14) (v := ?_) (a' := ?_) #[true, false, true, false, false, false, false, false, false, false] rfl rfl (take_ofW HT_.out HW_.out (by kernel_rfl)) (fun _ _ _ h => h) (Or.inl ⟨by rfl, ?_⟩) hHeld ?_ ?_
    rotate_left
    · rintro w' ⟨s0, s1, s2⟩
      go_simp
      with_reducible rfl
    rotate_left
    · simp only [Act.put, List.setIfInBounds_toArray, List.set_cons_zero, List.set_cons_succ, i64_w, i32_w]
      rfl
    refine take_ (i := 3) (N := some 17) (v := ?_) (a' := ?_) #[true, false, true, true, false, false, false, false, false, false] rfl rfl (take_ofW HT_.out HW_.out (by kernel_rfl)) (fun _ _ _ h => h) (Or.inl ⟨by rfl, ?_⟩) hHeld ?_ ?_
    rotate_left
    · rintro w' ⟨s0, s1, s2⟩
      go_simp
      with_reducible rfl
    rotate_left
    · simp only [Act.put, List.setIfInBounds_toArray, List.set_cons_zero, List.set_cons_succ, i64_w, i32_w]
      rfl
    refine one_ (i := 1) (N := some 15) #[true, true, true, true, false, false, false, false, false, false] rfl rfl (one_of HT_.out (by kernel_rfl)) (by decide) (fun K hK => ?_)
    refine goes_ Try.func42 (by kernel_rfl) rfl #[.agg #[.int .i64 a0_0, .int .i64 a0_1, .slice A0_2 l0_2.length c0_2]] (by rfl) rfl rfl (by (try simp only [List.map_toArray, List.map_cons, List.map_nil]); first | done | rfl | (simp only [List.length_drop, List.length_take]; rfl)) ?_
    with_reducible refine (match_Graph_neighbours.calls k a0_0 a0_1 _ _ l0_2 t219 _ ?side1 ?side2 A4.out).mono ?_
    (case side1 => repeat (first | exact (Kd.C_below HR0_2.out HB.out) | (with_reducible refine Kd.C_alloc ?_ _) | (with_reducible refine Kd.C_drewN ?_ _) | (with_reducible refine Kd.C_drew ?_)))
    (case side2 => exact HC0_2.out)
    rintro e w12 ⟨v220, rfl, ho0, hb⟩
    refine ⟨_, rfl, ?_⟩
    have n0_ := Aside0.mk (Kd.S_lower ho0 (below_size (by repeat (first | (with_reducible first | exact HB.out | apply below_alloc | apply pw_below_drewN | apply below_drew1 | refine below_set ?_ GE217.out) | exact HB.out))))
    have n1_ := Aside0.mk (blk_below (g := gb217) (o := .cells #[.int .i64 a0_0, .int .i64 a0_1, .slice A0_2 l0_2.length c0_2] 33 (0, 0)) (by (with_reducible repeat (first | refine blk_drewN ?_ _ | refine blk_drew ?_ | refine blk_alloc ?_ _)); exact BK217.out) hb)
    have n2_ := Aside0.mk (below_step (by repeat (first | (with_reducible first | exact HB.out | apply below_alloc | apply pw_below_drewN | apply below_drew1 | refine below_set ?_ GE217.out) | exact HB.out)) hb)
    clear BK217
    clear HB
    have HO221 := n0_
    have BK217 := n1_
    have HB := n2_
    clear n0_ n1_ n2_
    (try clear hb)
    (try clear hb2)
    (try clear hk)
    (try clear hi)
    (try clear ho0)
    obtain ⟨Ao13, co13, eo13⟩ := Kd.S_slice HO221.out
    (first | subst eo13 | (injection eo13 with f1_ f2_ f3_; have f4_ := f1_.symm; have f5_ := f3_.symm; clear f1_ f2_ f3_; subst f4_; subst f5_))
    refine hK.out _ _ ⟨(blk_cell BK217.out 0).trans rfl, (blk_cell BK217.out 1).trans rfl, (blk_cell BK217.out 2).trans rfl⟩ (fun hHeld => ?_)
    clear hK K
    refine norm_ (a' := ?_) ?_ ?_
    rotate_left
    · show Act.put _ (some 15) _ = _
      simp only [Act.put, List.setIfInBounds_toArray, List.set_cons_zero, List.set_cons_succ, i64_w, i32_w]
      rfl
    refine one_ (i := 4) (N := some 18) #[true, true, true, true, true, false, false, false, false, false] rfl rfl (one_of HT_.out (by kernel_rfl)) (by decide) (fun K hK => ?_)
    refine goes_ Try.func41 (by kernel_rfl) rfl #[.slice Ao13 t219.length co13, .int .i64 a0_1] (by rfl) rfl rfl (by (try simp only [List.map_toArray, List.map_cons, List.map_nil]); first | done | rfl | (simp only [List.length_drop, List.length_take]; rfl)) ?_
    with_reducible refine (match_reach.calls k _ _ t219 a0_1 t222 t223 _ ?side1 ?side2 A5.out).mono ?_
    (case side1 => repeat (first | exact (Kd.S_reads' HO221.out).2.2 | (with_reducible refine Kd.C_alloc ?_ _) | (with_reducible refine Kd.C_drewN ?_ _) | (with_reducible refine Kd.C_drew ?_)))
    (case side2 => exact (Kd.S_reads' HO221.out).2.1)
    rintro e w14 ⟨v224, v226, rfl, ho0, ho1, hb⟩
    refine ⟨_, rfl, ?_⟩
    have n0_ := Aside0.mk (Kd.S_below (by (with_reducible repeat (first | apply Kd.S_alloc | apply Kd.S_drewN | apply Kd.S_drew)); exact HO221.out) hb)
    have n1_ := Aside0.mk (Kd.R_lower ho0 (below_size (by repeat (first | (with_reducible first | exact HB.out | apply below_alloc | apply pw_below_drewN | apply below_drew1 | refine below_set ?_ GE217.out) | exact HB.out))))
    have n2_ := Aside0.mk (Kd.R_lower ho1 (below_size (by repeat (first | (with_reducible first | exact HB.out | apply below_alloc | apply pw_below_drewN | apply below_drew1 | refine below_set ?_ GE217.out) | exact HB.out))))
    have n3_ := Aside0.mk (blk_below (g := gb217) (o := .cells #[.int .i64 a0_0, .int .i64 a0_1, .slice A0_2 l0_2.length c0_2] 33 (0, 0)) (by (with_reducible repeat (first | refine blk_drewN ?_ _ | refine blk_drew ?_ | refine blk_alloc ?_ _)); exact BK217.out) hb)
    have n4_ := Aside0.mk (below_step (by repeat (first | (with_reducible first | exact HB.out | apply below_alloc | apply pw_below_drewN | apply below_drew1 | refine below_set ?_ GE217.out) | exact HB.out)) hb)
    clear HO221
    clear BK217
    clear HB
    have HO221 := n0_
    have HO225 := n1_
    have HO227 := n2_
    have BK217 := n3_
    have HB := n4_
    clear n0_ n1_ n2_ n3_ n4_
    (try clear hb)
    (try clear hb2)
    (try clear hk)
    (try clear hi)
    (try clear ho0)
    (try clear ho1)
    refine hK.out _ _ ⟨(blk_cell BK217.out 0).trans rfl, (blk_cell BK217.out 1).trans rfl, (blk_cell BK217.out 2).trans rfl⟩ (fun hHeld => ?_)
    clear hK K
    refine norm_ (a' := ?_) ?_ ?_
    rotate_left
    · show Act.put _ (some 18) _ = _
      simp only [Act.put, List.setIfInBounds_toArray, List.set_cons_zero, List.set_cons_succ, i64_w, i32_w]
      rfl
    refine pure_ (i := 5) (N := some 13) (v := ?_) (a' := ?_) #[true, true, true, true, true, true, false, false, false, false] rfl rfl (any_of HT_.out (by kernel_rfl)) (fun _ _ _ h => h) (Or.inl ⟨by rfl, ?_⟩) ?_ ?_
    rotate_left
    · intro w'
      go_simp
      with_reducible rfl
    rotate_left
    · simp only [Act.put, List.setIfInBounds_toArray, List.set_cons_zero, List.set_cons_succ, i64_w, i32_w]
      rfl
    refine pure_ (i := 6) (N := some 19) (v := ?_) (a' := ?_) #[true, true, true, true, true, true, true, false, false, false] rfl rfl (any_of HT_.out (by kernel_rfl)) (fun _ _ _ h => h) (Or.inl ⟨by rfl, ?_⟩) ?_ ?_
    rotate_left
    · intro w'
      go_simp
      with_reducible rfl
    rotate_left
    · simp only [Act.put, List.setIfInBounds_toArray, List.set_cons_zero, List.set_cons_succ, i64_w, i32_w]
      rfl
    refine pure_ (i := 7) (N := some 20) (v := ?_) (a' := ?_) #[true, true, true, true, true, true, true, true, false, false] rfl rfl (any_of HT_.out (by kernel_rfl)) (fun _ _ _ h => h) (Or.inl ⟨by rfl, ?_⟩) ?_ ?_
    rotate_left
    · intro w'
      go_simp
      with_reducible rfl
    rotate_left
    · simp only [Act.put, List.setIfInBounds_toArray, List.set_cons_zero, List.set_cons_succ, i64_w, i32_w]
      rfl
    refine pure_ (i := 8) (N := some 6) (v := ?_) (a' := ?_) #[true, true, true, true, true, true, true, true, true, false] rfl rfl (any_of HT_.out (by kernel_rfl)) (fun _ _ _ h => h) (Or.inl ⟨by rfl, ?_⟩) ?_ ?_
    rotate_left
    · intro w'
      go_simp
      with_reducible rfl
    rotate_left
    · simp only [Act.put, List.setIfInBounds_toArray, List.set_cons_zero, List.set_cons_succ, i64_w, i32_w]
      rfl
    refine pure_ (i := 9) (N := some 7) (v := ?_) (a' := ?_) #[true, true, true, true, true, true, true, true, true, true] rfl rfl (any_of HT_.out (by kernel_rfl)) (fun _ _ _ h => h) (Or.inl ⟨by rfl, ?_⟩) ?_ ?_
    rotate_left
    · intro w'
      go_simp
      with_reducible rfl
    rotate_left
    · simp only [Act.put, List.setIfInBounds_toArray, List.set_cons_zero, List.set_cons_succ, i64_w, i32_w]
      rfl
    refine done_ (done_of HT_.out (by kernel_rfl)) ?_
    obtain ⟨Ao15, co15, eo15⟩ := Kd.R_slice HO225.out
    subst eo15
    try go_wp2_with (first | ((with_reducible refine gate_callee (f := 43) rfl ?_); refine goesL_ (some 22) rfl rfl Try.func43 (by kernel_rfl) rfl #[.slice Ao15 t222.length co15, .bool false] rfl (by (try simp only [List.map_toArray, List.map_cons, List.map_nil]); first | done | rfl | (simp only [List.length_drop, List.length_take]; rfl)) ?_; (with_reducible refine (pairing_Chosen.calls k _ _ t222 false t228 _ ?side1 ?side2 A6.out).mono ?_); (case side1 => repeat (first | exact (Kd.R_reads' HO225.out).2.2 | (with_reducible refine Kd.C_alloc ?_ _) | (with_reducible refine Kd.C_drewN ?_ _) | (with_reducible refine Kd.C_drew ?_))); (case side2 => exact (Kd.R_reads' HO225.out).2.1); rintro e w16 ⟨v229, rfl, ho0, hb⟩; refine ⟨_, rfl, ?_⟩; have n0_ := Aside0.mk (Kd.S_elder' (by (with_reducible repeat (first | apply Kd.S_alloc | apply Kd.S_drewN | apply Kd.S_drew)); exact HO221.out) (Kd.R_base ho0) hb); have n1_ := Aside0.mk (Kd.R_below (by (with_reducible repeat (first | apply Kd.R_alloc | apply Kd.R_drewN | apply Kd.R_drew)); exact HO225.out) hb); have n2_ := Aside0.mk (Kd.R_below (by (with_reducible repeat (first | apply Kd.R_alloc | apply Kd.R_drewN | apply Kd.R_drew)); exact HO227.out) hb); have n3_ := Aside0.mk (Kd.R_lower ho0 (below_size (by repeat (first | (with_reducible first | exact HB.out | apply below_alloc | apply pw_below_drewN | apply below_drew1 | refine below_set ?_ GE217.out) | exact HB.out)))); have n4_ := Aside0.mk (blk_below (g := gb217) (o := .cells #[.int .i64 a0_0, .int .i64 a0_1, .slice A0_2 l0_2.length c0_2] 33 (0, 0)) (by (with_reducible repeat (first | refine blk_drewN ?_ _ | refine blk_drew ?_ | refine blk_alloc ?_ _)); exact BK217.out) hb); have n5_ := Aside0.mk (below_step (by repeat (first | (with_reducible first | exact HB.out | apply below_alloc | apply pw_below_drewN | apply below_drew1 | refine below_set ?_ GE217.out) | exact HB.out)) hb); clear HO221; clear HO225; clear HO227; clear BK217; clear HB; have HO221 := n0_; have HO225 := n1_; have HO227 := n2_; have HO230 := n3_; have BK217 := n4_; have HB := n5_; clear n0_ n1_ n2_ n3_ n4_ n5_; (try clear hb); (try clear hb2); (try clear hk); (try clear hi); (try clear ho0); obtain ⟨Ao17, co17, eo17⟩ := Kd.R_slice HO227.out; subst eo17) | ((with_reducible refine gate_callee (f := 43) rfl ?_); refine goesL_ (some 24) rfl rfl Try.func43 (by kernel_rfl) rfl #[.slice Ao17 t223.length co17, .bool true] rfl (by (try simp only [List.map_toArray, List.map_cons, List.map_nil]); first | done | rfl | (simp only [List.length_drop, List.length_take]; rfl)) ?_; (with_reducible refine (pairing_Chosen.calls k _ _ t223 true t231 _ ?side1 ?side2 A7.out).mono ?_); (case side1 => repeat (first | exact (Kd.R_reads' HO227.out).2.2 | (with_reducible refine Kd.C_alloc ?_ _) | (with_reducible refine Kd.C_drewN ?_ _) | (with_reducible refine Kd.C_drew ?_))); (case side2 => exact (Kd.R_reads' HO227.out).2.1); rintro e w18 ⟨v232, rfl, ho0, hb⟩; refine ⟨_, rfl, ?_⟩; have n0_ := Aside0.mk (Kd.S_elder' (by (with_reducible repeat (first | apply Kd.S_alloc | apply Kd.S_drewN | apply Kd.S_drew)); exact HO221.out) (Kd.R_base ho0) hb); have n1_ := Aside0.mk (Kd.R_below (by (with_reducible repeat (first | apply Kd.R_alloc | apply Kd.R_drewN | apply Kd.R_drew)); exact HO225.out) hb); have n2_ := Aside0.mk (Kd.R_below (by (with_reducible repeat (first | apply Kd.R_alloc | apply Kd.R_drewN | apply Kd.R_drew)); exact HO227.out) hb); have n3_ := Aside0.mk (Kd.R_elder' (by (with_reducible repeat (first | apply Kd.R_alloc | apply Kd.R_drewN | apply Kd.R_drew)); exact HO230.out) (Kd.R_base ho0) hb); have n4_ := Aside0.mk (Kd.R_lower (Kd.R_new' ho0 (Kd.R_lt (by (with_reducible repeat (first | apply Kd.R_alloc | apply Kd.R_drewN | apply Kd.R_drew)); exact HO230.out))) (below_size (by repeat (first | (with_reducible first | exact HB.out | apply below_alloc | apply pw_below_drewN | apply below_drew1 | refine below_set ?_ GE217.out) | exact HB.out)))); have n5_ := Aside0.mk (blk_below (g := gb217) (o := .cells #[.int .i64 a0_0, .int .i64 a0_1, .slice A0_2 l0_2.length c0_2] 33 (0, 0)) (by (with_reducible repeat (first | refine blk_drewN ?_ _ | refine blk_drew ?_ | refine blk_alloc ?_ _)); exact BK217.out) hb); have n6_ := Aside0.mk (below_step (by repeat (first | (with_reducible first | exact HB.out | apply below_alloc | apply pw_below_drewN | apply below_drew1 | refine below_set ?_ GE217.out) | exact HB.out)) hb); clear HO221; clear HO225; clear HO227; clear HO230; clear BK217; clear HB; have HO221 := n0_; have HO225 := n1_; have HO227 := n2_; have HO230 := n3_; have HO233 := n4_; have BK217 := n5_; have HB := n6_; clear n0_ n1_ n2_ n3_ n4_ n5_ n6_; (try clear hb); (try clear hb2); (try clear hk); (try clear hi); (try clear ho0)))
    go_ret3
    exact ⟨_, _, by first | rfl | (simp [errW_none, errW_some] <;> rfl) | (simp [*, errW_none, errW_some] <;> rfl), by (with_reducible repeat (first | apply Kd.R_alloc | apply Kd.R_drewN | apply Kd.R_drew)); exact Kd.R_mono HO230.out (fun _ hk => hk.2), by (with_reducible repeat (first | apply Kd.R_alloc | apply Kd.R_drewN | apply Kd.R_drew)); exact Kd.R_mono HO233.out (fun _ hk => hk.2), by repeat (first | (with_reducible first | exact HB.out | apply below_alloc | apply pw_below_drewN | apply below_drew1 | refine below_set ?_ GE217.out) | exact HB.out)⟩
  · rw [if_neg c3] at H
    have c3b0 : (t218 == 0) = false := beq_eq_false_iff_ne.mpr c3
    have c3b1 : (t218 != 0) = true := bne_iff_ne.mpr c3
    simp only [Option.some.injEq, Prod.mk.injEq] at H
    obtain ⟨rfl, rfl, rfl⟩ := H
    go_enter Try.func27, Try.ntmps27
    go_wp2_with (first | ((with_reducible refine gate_dst (N := 1) rfl ?_); refine box_event ?hg (N := 1) ?hd (cs := #[.int .i64 a0_0, .int .i64 a0_1, .slice A0_2 l0_2.length c0_2]) (t := 33) ?hr ?_; (case hd => rfl); (case hg => rfl); (case hr => first | (go_simp; done) | (go_simp; rfl)); intro gb217 hg w19 hbox hb; have n0_ := Aside0.mk (below_step (by repeat (first | (with_reducible first | exact HB.out | apply below_alloc | apply pw_below_drewN | apply below_drew1) | exact HB.out)) hb); have n1_ := Aside0.mk (hbox); have n2_ := Aside0.mk ((by rw [hg]; exact (below_size (by repeat (first | (with_reducible first | exact HB.out | apply below_alloc | apply pw_below_drewN | apply below_drew1) | exact HB.out))) : w.heap.size ≤ gb217)); have n3_ := Aside0.mk ((by rw [hg]; exact (below_size (by repeat (first | (with_reducible first | exact HB.out | apply below_alloc | apply pw_below_drewN | apply below_drew1) | exact HB.out))) : w.heap.size ≤ gb217)); clear HB; have HB := n0_; have BK217 := n1_; have GW217 := n2_; have GE217 := n3_; clear n0_ n1_ n2_ n3_; clear hb hbox hg; have hcz20_0 : w19.cell? ⟨gb217, 0, none⟩ = some (.int .i64 a0_0) := (blk_cell BK217.out 0).trans rfl; have hcz20_1 : w19.cell? ⟨gb217, 1, none⟩ = some (.int .i64 a0_1) := (blk_cell BK217.out 1).trans rfl; have hcz20_2 : w19.cell? ⟨gb217, 2, none⟩ = some (.slice A0_2 l0_2.length c0_2) := (blk_cell BK217.out 2).trans rfl; have hfz20_0 := blk_frozen BK217.out 0; have hfz20_1 := blk_frozen BK217.out 1; have hfz20_2 := blk_frozen BK217.out 2) | ((with_reducible refine gate_callee (f := 23) rfl ?_); refine goesL_ (some 9) rfl rfl Try.func23 (by kernel_rfl) rfl #[.agg #[.int .i64 a0_0, .int .i64 a0_1, .slice A0_2 l0_2.length c0_2]] rfl (by (try simp only [List.map_toArray, List.map_cons, List.map_nil]); first | done | rfl | (simp only [List.length_drop, List.length_take]; rfl)) ?_; (with_reducible refine (match_Check.calls a0_0 a0_1 _ _ l0_2 t218 _ ?side1 ?side2 A2.out).mono ?_); (case side1 => repeat (first | exact (Kd.C_below HR0_2.out HB.out) | (with_reducible refine Kd.C_alloc ?_ _) | (with_reducible refine Kd.C_drewN ?_ _) | (with_reducible refine Kd.C_drew ?_))); (case side2 => exact HC0_2.out); rintro e w21 ⟨rfl, hb⟩; refine ⟨_, rfl, ?_⟩; have n0_ := Aside0.mk (blk_below (g := gb217) (o := .cells #[.int .i64 a0_0, .int .i64 a0_1, .slice A0_2 l0_2.length c0_2] 33 (0, 0)) (by (with_reducible repeat (first | refine blk_drewN ?_ _ | refine blk_drew ?_ | refine blk_alloc ?_ _)); exact BK217.out) hb); have n1_ := Aside0.mk (below_step (by repeat (first | (with_reducible first | exact HB.out | apply below_alloc | apply pw_below_drewN | apply below_drew1 | refine below_set ?_ GE217.out) | exact HB.out)) hb); clear BK217; clear HB; have BK217 := n0_; have HB := n1_; clear n0_ n1_; (try clear hb); (try clear hb2); (try clear hk); (try clear hi)))
    go_ret3
    exact ⟨_, _, by first | rfl | (simp [errW_none, errW_some] <;> rfl) | (simp [*, errW_none, errW_some] <;> rfl), by first | exact Kd.R_nil _ _ _ _ _ | exact Kd.N_nil _ _ _ _ _ | exact Kd.V_nil _ _ _ _ _ | exact Kd.Q_nil _ _ _ _ _ | exact Kd.S_nil _ _ _ _ _, by first | exact Kd.R_nil _ _ _ _ _ | exact Kd.N_nil _ _ _ _ _ | exact Kd.V_nil _ _ _ _ _ | exact Kd.Q_nil _ _ _ _ _ | exact Kd.S_nil _ _ _ _ _, by repeat (first | (with_reducible first | exact HB.out | apply below_alloc | apply pw_below_drewN | apply below_drew1 | refine below_set ?_ GE217.out) | exact HB.out)⟩
def toruslaw30_ex.f  : Option (Int × Int × (List (S40))) := some (3, 2, (([(⟨0, 0⟩ : S40), (⟨1, 0⟩ : S40), (⟨2, 1⟩ : S40)] : List (S40))))
set_option maxHeartbeats 8000000 in
set_option maxRecDepth 100000 in
theorem toruslaw30_ex.calls  (r1 : Int) (r2 : Int) (r3 : List (S40)) (w : World) (h : toruslaw30_ex.f  = some (r1, r2, r3)) :
    Calls Try.prog 39 #[] w fun e w' => ∃ v2_ : Value, e = .returned (.agg #[.int .i64 r1, .int .i64 r2, v2_]) ∧ Kd.R k40 40 w' w.heap.size (fun _ => True) v2_ r3 ∧ Below w.heap.size w w' := by
  have hu33 := Try.underlying33
  have hu40 := Try.underlying40
  have HB := Aside0.mk (Below.refl w.heap.size w)
  have H : (some (3, 2, (([(⟨0, 0⟩ : S40), (⟨1, 0⟩ : S40), (⟨2, 1⟩ : S40)] : List (S40))))) = some (r1, r2, r3) := h
  clear h
  obtain ⟨y235, hy235⟩ : ∃ y_ : List (S40), y_ = (([(⟨0, 0⟩ : S40), (⟨1, 0⟩ : S40), (⟨2, 1⟩ : S40)] : List (S40))) := ⟨_, rfl⟩
  replace H : (some (3, 2, y235)) = some (r1, r2, r3) := by first | (rw [hy235]; with_reducible exact H) | (have H2_ := (Option.bind_some _ _).symm.trans H; rw [hy235]; with_reducible exact H2_) | (have H2_ := (Option.bind_some _ _).symm.trans H; with_reducible exact H2_) | with_reducible exact H | (rw [hy235]; exact H) | exact H
  have Ny235 := Aside0.mk hy235
  clear hy235
  simp only [Option.some.injEq, Prod.mk.injEq] at H
  obtain ⟨rfl, rfl, rfl⟩ := H
  go_enter Try.func39, Try.ntmps39
  go_wp2_with (first | ((with_reducible refine gate_dst (N := 0) rfl ?_); refine box_event ?hg (N := 0) ?hd (cs := #[.int .i64 0, .int .i64 0, .slice none 0 0]) (t := 33) ?hr ?_; (case hd => rfl); (case hg => rfl); (case hr => first | (go_simp; done) | (go_simp; rfl)); intro gb234 hg w1 hbox hb; have n0_ := Aside0.mk (below_step (by repeat (first | (with_reducible first | exact HB.out | apply below_alloc | apply pw_below_drewN | apply below_drew1) | exact HB.out)) hb); have n1_ := Aside0.mk (hbox); have n2_ := Aside0.mk ((by rw [hg]; exact (below_size (by repeat (first | (with_reducible first | exact HB.out | apply below_alloc | apply pw_below_drewN | apply below_drew1) | exact HB.out))) : w.heap.size ≤ gb234)); have n3_ := Aside0.mk ((by rw [hg]; exact (below_size (by repeat (first | (with_reducible first | exact HB.out | apply below_alloc | apply pw_below_drewN | apply below_drew1) | exact HB.out))) : w.heap.size ≤ gb234)); clear HB; have HB := n0_; have BK234 := n1_; have GW234 := n2_; have GE234 := n3_; clear n0_ n1_ n2_ n3_; clear hb hbox hg) | ((with_reducible refine gate_dst (N := 4) rfl ?_); refine Kd.R_lit k40 _ 40 ?hg (N := 4) ?hd (xs := ([(⟨0, 0⟩ : S40), (⟨1, 0⟩ : S40), (⟨2, 1⟩ : S40)] : List (S40))) (inner := [.int .i64 0, .int .i64 0, .int .i64 1, .int .i64 0, .int .i64 2, .int .i64 1]) (ok := fun _ => True) (okp := fun _ => True) ?hr ?hp (fun _ hk => hk) trivial (Below.refl _ _) (Nat.le_refl _) (by simp) ?_; (case hd => rfl); (case hg => rfl); (case hr => first | (go_simp; done) | (go_simp; rfl)); (case hp => exact (Reps.c2 (show Kd.M k40 _ _ _ (⟨0, 0⟩ : S40) [.int .i64 0, .int .i64 0] from (k40_mkM _ _ _ (⟨0, 0⟩ : S40) )) (Reps.c2 (show Kd.M k40 _ _ _ (⟨1, 0⟩ : S40) [.int .i64 1, .int .i64 0] from (k40_mkM _ _ _ (⟨1, 0⟩ : S40) )) (Reps.c2 (show Kd.M k40 _ _ _ (⟨2, 1⟩ : S40) [.int .i64 2, .int .i64 1] from (k40_mkM _ _ _ (⟨2, 1⟩ : S40) )) (Reps.none _ _))))); intro v236 w2 ho3 hb hg_ hnew_; clear hg_ hnew_; (first | rw [← Ny235.out] at ho3 | (simp only [Int.reduceToNat] at ho3; rw [← Ny235.out] at ho3)); have n0_ := Aside0.mk (Kd.R_lower ho3 (below_size (by repeat (first | (with_reducible first | exact HB.out | apply below_alloc | apply pw_below_drewN | apply below_drew1 | refine below_set ?_ GE234.out) | exact HB.out)))); have n1_ := Aside0.mk (blk_below (g := gb234) (o := .cells #[.int .i64 0, .int .i64 0, .slice none 0 0] 33 (0, 0)) (by (with_reducible repeat (first | refine blk_drewN ?_ _ | refine blk_drew ?_ | refine blk_alloc ?_ _)); exact BK234.out) hb); have n2_ := Aside0.mk (below_step (by repeat (first | (with_reducible first | exact HB.out | apply below_alloc | apply pw_below_drewN | apply below_drew1 | refine below_set ?_ GE234.out) | exact HB.out)) hb); clear BK234; clear HB; have HO237 := n0_; have BK234 := n1_; have HB := n2_; clear n0_ n1_ n2_; clear hb ho3; obtain ⟨Ao4, co4, eo4⟩ := Kd.R_slice HO237.out; subst eo4; have hcz5_0 : w2.cell? ⟨gb234, 0, none⟩ = some (.int .i64 0) := (blk_cell BK234.out 0).trans rfl; have hcz5_1 : w2.cell? ⟨gb234, 1, none⟩ = some (.int .i64 0) := (blk_cell BK234.out 1).trans rfl; have hcz5_2 : w2.cell? ⟨gb234, 2, none⟩ = some (.slice none 0 0) := (blk_cell BK234.out 2).trans rfl; have hfz5_0 := blk_frozen BK234.out 0; have hfz5_1 := blk_frozen BK234.out 1; have hfz5_2 := blk_frozen BK234.out 2))
  refine bodyPost_ret (results_cell_row rfl _ _ gb234 33 #[.int .i64 3, .int .i64 2, .slice Ao4 y235.length co4] (0, 0) _ rfl (by (with_reducible repeat (first | refine blk_drewN ?_ _ | refine blk_drew ?_ | refine blk_alloc ?_ _)); refine blk_put (cs := #[.int .i64 3, .int .i64 2, .slice none 0 0]) ?_ 2 _ rfl; (with_reducible repeat (first | refine blk_drewN ?_ _ | refine blk_drew ?_ | refine blk_alloc ?_ _)); refine blk_put (cs := #[.int .i64 3, .int .i64 0, .slice none 0 0]) ?_ 1 _ rfl; (with_reducible repeat (first | refine blk_drewN ?_ _ | refine blk_drew ?_ | refine blk_alloc ?_ _)); refine blk_put (cs := #[.int .i64 0, .int .i64 0, .slice none 0 0]) ?_ 0 _ rfl; (with_reducible repeat (first | refine blk_drewN ?_ _ | refine blk_drew ?_ | refine blk_alloc ?_ _)); exact BK234.out) Try.underlying33 rfl (by kernel_rfl)) rfl ?_
  exact ⟨_, by first | rfl | (simp [errW_none, errW_some] <;> rfl) | (simp [*, errW_none, errW_some] <;> rfl), by (with_reducible repeat (first | apply Kd.R_alloc | apply Kd.R_drewN | apply Kd.R_drew)); exact Kd.R_mono (Kd.R_far (p := ⟨gb234, 2, none⟩) (Kd.R_far (p := ⟨gb234, 1, none⟩) (Kd.R_far (p := ⟨gb234, 0, none⟩) (Kd.R_types HO237.out BK234.out (by decide)) (fun _ hk => hk.2) (.int .i64 3)) (fun _ hk => hk.2) (.int .i64 2)) (fun _ hk => hk.2) (.slice Ao4 y235.length co4)) (fun _ hk => trivial), by repeat (first | (with_reducible first | exact HB.out | apply below_alloc | apply pw_below_drewN | apply below_drew1 | refine below_set ?_ GE234.out) | exact HB.out)⟩
end Go.Proofs.Ytlleokhmgblfnaa.M
end

section
namespace Go.Proofs.Ytlleokhmgblfnaa.M
open Go.RowKit Go.Proofs.YtlleokhmgblfnaaW.PrintWords
theorem aw_max : match_Maximum.f 60 2 2 [⟨0, 0⟩, ⟨0, 1⟩, ⟨1, 0⟩] = some ([1, 0], 0) := by decide +kernel
theorem aw_size : match_Size.f 60 3 2 [⟨0, 0⟩, ⟨1, 0⟩, ⟨2, 1⟩] = some (2, 0) := by decide +kernel
theorem aw_hall : match_Hall.f 60 3 2 [⟨0, 0⟩, ⟨1, 0⟩, ⟨2, 1⟩] = some ([0, 1], [0], 0) := by decide +kernel
theorem aw_cover : match_Cover.f 60 3 2 [⟨0, 0⟩, ⟨1, 0⟩, ⟨2, 1⟩] = some ([2], [0], 0) := by decide +kernel
theorem aw_ex : toruslaw30_ex.f = some (3, 2, [⟨0, 0⟩, ⟨1, 0⟩, ⟨2, 1⟩]) := rfl
theorem aw_s1 : torusref01_Same.f 60 [1, 0] [1, 0] = some true := by decide +kernel
theorem aw_s2 : torusref01_Same.f 60 [0, 1] [0, 1] = some true := by decide +kernel
theorem aw_s3 : torusref01_Same.f 60 [0] [0] = some true := by decide +kernel
theorem aw_s4 : torusref01_Same.f 60 [2] [2] = some true := by decide +kernel
theorem C_E3 {W : World} {g : Nat} (a b c : S40) (h : W.heap[g]? = some (.cells #[.int .i64 a.f0, .int .i64 a.f1, .int .i64 b.f0, .int .i64 b.f1, .int .i64 c.f0, .int .i64 c.f1] 40 (0, 0))) : Kd.C k40 W (some ⟨g, 0, none⟩) ([a, b, c] : List S40).length [a, b, c] := by
  refine ⟨rfl, by simp, fun _ => ⟨_, rfl, fun j p hp => ?_⟩⟩
  match j, hp with
  | 0, hp =>
    cases hp
    refine ⟨_, rfl, k40_mk W a, fun i u hu => ?_⟩
    rw [add_plain, blk_cell h]
    match i, hu with
    | 0, hu => exact hu
    | 1, hu => exact hu
  | 1, hp =>
    cases hp
    refine ⟨_, rfl, k40_mk W b, fun i u hu => ?_⟩
    rw [add_plain, blk_cell h]
    match i, hu with
    | 0, hu => exact hu
    | 1, hu => exact hu
  | 2, hp =>
    cases hp
    refine ⟨_, rfl, k40_mk W c, fun i u hu => ?_⟩
    rw [add_plain, blk_cell h]
    match i, hu with
    | 0, hu => exact hu
    | 1, hu => exact hu
theorem aw_hold {w W w1 : World} (hb : Below w.heap.size w W) (o : Obj) (h : Below (W.alloc o).heap.size (W.alloc o) w1) : Below w.heap.size w w1 := below_step (below_alloc hb o) h
set_option maxHeartbeats 1000000 in
set_option maxRecDepth 100000 in
theorem awake_calls (w : World) : Calls Try.prog 16 #[] w fun e w' => e = .returned (.bool true) ∧ Below w.heap.size w w' := by
  go_enter Try.func16, Try.ntmps16
  go_wp2_with fail
  refine (match_Maximum.calls 60 2 2 _ _ [⟨0, 0⟩, ⟨0, 1⟩, ⟨1, 0⟩] [1, 0] 0 _ (C_E3 ⟨0, 0⟩ ⟨0, 1⟩ ⟨1, 0⟩ (blk_new _ _)) (Nat.le_refl _) aw_max).mono ?_
  rintro e w1 ⟨v0, rfl, hr0, hb⟩
  have HB1 := Aside0.mk (below_step (below_alloc (Below.refl w.heap.size w) _) hb)
  obtain ⟨A0, c0, rfl, hl0, hC0⟩ := Kd.R_reads hr0
  have HC0 := Aside0.mk hC0
  have HL0 := Aside0.mk hl0
  clear hb hr0 hC0 hl0
  go_wp2_with fail
  refine (toruslaw30_ex.calls 3 2 _ _ aw_ex).mono ?_
  rintro e w2 ⟨v1, rfl, hr1, hb⟩
  obtain ⟨A1, c1, rfl, hl1, hC1⟩ := Kd.R_reads hr1
  have HB2 := Aside0.mk (below_step HB1.out hb)
  replace HC0 := Aside0.mk (Kd.C_below HC0.out hb)
  have HC1 := Aside0.mk hC1
  have HL1 := Aside0.mk hl1
  clear hb hr1 hC1 hl1 HB1
  go_wp2_with fail
  refine (match_Size.calls 60 3 2 _ _ _ 2 0 _ HC1.out HL1.out aw_size).mono ?_
  rintro e w3 ⟨rfl, hb⟩
  have HB3 := Aside0.mk (below_step HB2.out hb)
  replace HC0 := Aside0.mk (Kd.C_below HC0.out hb)
  clear hb HB2 HC1 HL1
  go_wp2_with fail
  refine (toruslaw30_ex.calls 3 2 _ _ aw_ex).mono ?_
  rintro e w4 ⟨v2, rfl, hr1, hb⟩
  obtain ⟨A2, c2, rfl, hl1, hC1⟩ := Kd.R_reads hr1
  have HB4 := Aside0.mk (below_step HB3.out hb)
  replace HC0 := Aside0.mk (Kd.C_below HC0.out hb)
  have HC2 := Aside0.mk hC1
  have HL2 := Aside0.mk hl1
  clear hb hr1 hC1 hl1 HB3
  go_wp2_with fail
  refine (match_Hall.calls 60 3 2 _ _ _ [0, 1] [0] 0 _ HC2.out HL2.out aw_hall).mono ?_
  rintro e w5 ⟨v3, v4, rfl, hr3, hr4, hb⟩
  obtain ⟨A3, c3, rfl, hl3, hC3⟩ := Kd.R_reads hr3
  obtain ⟨A4, c4, rfl, hl4, hC4⟩ := Kd.R_reads hr4
  have HB5 := Aside0.mk (below_step HB4.out hb)
  replace HC0 := Aside0.mk (Kd.C_below HC0.out hb)
  have HC3 := Aside0.mk hC3
  have HC4 := Aside0.mk hC4
  have HL3 := Aside0.mk hl3
  have HL4 := Aside0.mk hl4
  clear hb hr3 hr4 hC3 hC4 hl3 hl4 HB4 HC2 HL2
  go_wp2_with fail
  refine (toruslaw30_ex.calls 3 2 _ _ aw_ex).mono ?_
  rintro e w6 ⟨v5, rfl, hr1, hb⟩
  obtain ⟨A5, c5, rfl, hl1, hC1⟩ := Kd.R_reads hr1
  have HB6 := Aside0.mk (below_step HB5.out hb)
  replace HC0 := Aside0.mk (Kd.C_below HC0.out hb)
  replace HC3 := Aside0.mk (Kd.C_below HC3.out hb)
  replace HC4 := Aside0.mk (Kd.C_below HC4.out hb)
  have HC5 := Aside0.mk hC1
  have HL5 := Aside0.mk hl1
  clear hb hr1 hC1 hl1 HB5
  go_wp2_with fail
  refine (match_Cover.calls 60 3 2 _ _ _ [2] [0] 0 _ HC5.out HL5.out aw_cover).mono ?_
  rintro e w7 ⟨v6, v7, rfl, hr3, hr4, hb⟩
  obtain ⟨A6, c6, rfl, hl3, hC3⟩ := Kd.R_reads hr3
  obtain ⟨A7, c7, rfl, hl4, hC4⟩ := Kd.R_reads hr4
  have HB7 := Aside0.mk (below_step HB6.out hb)
  replace HC0 := Aside0.mk (Kd.C_below HC0.out hb)
  replace HC3 := Aside0.mk (Kd.C_below HC3.out hb)
  replace HC4 := Aside0.mk (Kd.C_below HC4.out hb)
  have HC6 := Aside0.mk hC3
  have HC7 := Aside0.mk hC4
  have HL6 := Aside0.mk hl3
  have HL7 := Aside0.mk hl4
  clear hb hr3 hr4 hC3 hC4 hl3 hl4 HB6 HC5 HL5
  go_wp2_with fail
  refine (torusref01_Same.calls 60 _ _ [1, 0] _ _ [1, 0] true _ (Kd.C_alloc HC0.out _) HL0.out (H.Row.reads (xs := [1, 0]) (blk_new _ _) (by decide)) (Nat.le_refl _) aw_s1).mono ?_
  rintro e w8 ⟨rfl, hd⟩
  have hb := hd.below
  have HB8 := Aside0.mk (aw_hold HB7.out _ hb)
  replace HC3 := Aside0.mk (Kd.C_below (Kd.C_alloc HC3.out _) hb)
  replace HC4 := Aside0.mk (Kd.C_below (Kd.C_alloc HC4.out _) hb)
  replace HC6 := Aside0.mk (Kd.C_below (Kd.C_alloc HC6.out _) hb)
  replace HC7 := Aside0.mk (Kd.C_below (Kd.C_alloc HC7.out _) hb)
  clear hb hd HB7 HC0 HL0
  go_wp2_with fail
  refine (torusref01_Same.calls 60 _ _ [0, 1] _ _ [0, 1] true _ (Kd.C_alloc HC3.out _) HL3.out (H.Row.reads (xs := [0, 1]) (blk_new _ _) (by decide)) (Nat.le_refl _) aw_s2).mono ?_
  rintro e w9 ⟨rfl, hd⟩
  have hb := hd.below
  have HB9 := Aside0.mk (aw_hold HB8.out _ hb)
  replace HC4 := Aside0.mk (Kd.C_below (Kd.C_alloc HC4.out _) hb)
  replace HC6 := Aside0.mk (Kd.C_below (Kd.C_alloc HC6.out _) hb)
  replace HC7 := Aside0.mk (Kd.C_below (Kd.C_alloc HC7.out _) hb)
  clear hb hd HB8 HC3 HL3
  go_wp2_with fail
  refine (torusref01_Same.calls 60 _ _ [0] _ _ [0] true _ (Kd.C_alloc HC4.out _) HL4.out (H.Row.reads (xs := [0]) (blk_new _ _) (by decide)) (Nat.le_refl _) aw_s3).mono ?_
  rintro e w10 ⟨rfl, hd⟩
  have hb := hd.below
  have HB10 := Aside0.mk (aw_hold HB9.out _ hb)
  replace HC6 := Aside0.mk (Kd.C_below (Kd.C_alloc HC6.out _) hb)
  replace HC7 := Aside0.mk (Kd.C_below (Kd.C_alloc HC7.out _) hb)
  clear hb hd HB9 HC4 HL4
  go_wp2_with fail
  refine (torusref01_Same.calls 60 _ _ [2] _ _ [2] true _ (Kd.C_alloc HC6.out _) HL6.out (H.Row.reads (xs := [2]) (blk_new _ _) (by decide)) (Nat.le_refl _) aw_s4).mono ?_
  rintro e w11 ⟨rfl, hd⟩
  have hb := hd.below
  have HB11 := Aside0.mk (aw_hold HB10.out _ hb)
  replace HC7 := Aside0.mk (Kd.C_below (Kd.C_alloc HC7.out _) hb)
  clear hb hd HB10 HC6 HL6
  go_wp2_with fail
  refine (torusref01_Same.calls 60 _ _ [0] _ _ [0] true _ (Kd.C_alloc HC7.out _) HL7.out (H.Row.reads (xs := [0]) (blk_new _ _) (by decide)) (Nat.le_refl _) aw_s3).mono ?_
  rintro e w12 ⟨rfl, hd⟩
  have hb := hd.below
  have HB12 := Aside0.mk (aw_hold HB11.out _ hb)
  clear hb hd HB11 HC7 HL7
  go_wp2_with fail
  go_ret
  exact ⟨rfl, HB12.out⟩
def toruslaw30_awake.f : Option Bool := some true
theorem toruslaw30_awake.calls (r : Bool) (w : World) (h : toruslaw30_awake.f = some r) : Calls Try.prog 16 #[] w fun e w' => e = .returned (.bool r) ∧ Below w.heap.size w w' := by
  cases h
  exact awake_calls w
end Go.Proofs.Ytlleokhmgblfnaa.M
end

section
namespace Go.Proofs.Ytlleokhmgblfnaa.H
open Go.RowKit Go.Proofs.YtlleokhmgblfnaaW.PrintWords
abbrev Tab := Int → Int → Int
def upd (T : Tab) (v c x : Int) : Tab := fun v' c' => if v' = v ∧ c' = c then x else T v' c'
def updO (O : Int → Int) (i x : Int) : Int → Int := fun j => if j = i then x else O j
def missF (m : Int) (row : Int → Int) : Nat → Int → Option Int
  | 0, _ => none
  | k + 1, c => if c < m then if 0 ≤ row c then missF m row k (c + 1) else some c else none
section
variable (n m e : Int) (X Y : Int → Int)
def pathF (s : Int) (T : Tab) : Nat → Int → Int → List Int → Option (List Int)
  | 0, _, _, _ => none
  | k + 1, u, c, p =>
    if 0 ≤ u ∧ u < n ∧ 0 ≤ c ∧ c < m then
      if 0 ≤ T u c then if T u c < e ∧ p.length < 65536 then pathF s T k (X (T u c) + Y (T u c) - u) (s - c) (p ++ [T u c]) else none
      else some p
    else none
def clearF (O : Int → Int) : List Int → Tab → Option Tab
  | [], T => some T
  | j :: p, T => if 0 ≤ j ∧ j < e ∧ 0 ≤ O j ∧ O j < m then clearF O p (upd (upd T (X j) (O j) (-1)) (Y j) (O j) (-1)) else none
def setF (s : Int) : List Int → Tab → (Int → Int) → Option (Tab × (Int → Int))
  | [], T, O => some (T, O)
  | j :: p, T, O => if 0 ≤ j ∧ j < e ∧ 0 ≤ O j ∧ O j < m ∧ 0 ≤ s - O j ∧ s - O j < m then setF s p (upd (upd T (X j) (s - O j) j) (Y j) (s - O j) j) (updO O j (s - O j)) else none
def flipF (K : Nat) (T : Tab) (O : Int → Int) (w a b : Int) : Option (Tab × (Int → Int)) :=
  (pathF n m e X Y (a + b) T K w a []).bind fun p => (clearF m e X Y O p T).bind fun T1 => setF m e X Y (a + b) p T1 O
def mainF (K : Nat) : Nat → Int → Tab → (Int → Int) → Option (Int → Int)
  | 0, _, _, _ => none
  | k + 1, i, T, O =>
    if i < e then
      (missF m (T (X i)) K 0).bind fun a => (missF m (T (Y i)) K 0).bind fun b =>
        if a = b then mainF K k (i + 1) (upd (upd T (X i) a i) (Y i) a i) (updO O i a)
        else (flipF n m e X Y K T O (Y i) a b).bind fun s => mainF K k (i + 1) (upd (upd s.1 (X i) a i) (Y i) a i) (updO s.2 i a)
    else some O
end
theorem missF_rng {m : Int} {row : Int → Int} : ∀ {k : Nat} {c a : Int}, missF m row k c = some a → 0 ≤ c → 0 ≤ a ∧ a < m
  | 0, _, _, h, _ => by cases h
  | k + 1, c, a, h, hc => by
    unfold missF at h
    split at h
    · split at h
      · exact missF_rng h (by omega)
      · obtain rfl := Option.some.inj h; omega
    · cases h
structure Lay (B n gb pa ra po ro pe : Nat) (rb : Int → Nat) : Prop where
  bb : B ≤ ro ∧ ∀ v : Int, 0 ≤ v → v < n → B ≤ rb v
  dr : ∀ v : Int, 0 ≤ v → v < n → rb v ≠ gb ∧ rb v ≠ pa ∧ rb v ≠ ra ∧ rb v ≠ ro ∧ rb v ≠ po ∧ rb v ≠ pe
  dd : ∀ u v : Int, 0 ≤ u → u < n → 0 ≤ v → v < n → rb u = rb v → u = v
  dO : ro ≠ gb ∧ ro ≠ pa ∧ ro ≠ ra ∧ ro ≠ po ∧ ro ≠ pe
structure St (n m e gb pa ra po ro pe : Nat) (rb : Int → Nat) (L R : Int) (A : Option Addr) (cp : Nat) (T : Tab) (O : Int → Int) (w : World) : Prop where
  g : w.heap[gb]? = some (.cells #[.int .i64 L, .int .i64 R, .slice A e cp] 33 (0, 0))
  at_ : w.heap[pa]? = some (.cells #[.slice (some ⟨ra, 0, none⟩) n n] 69 (0, 0))
  rows : w.rowIs ra 29 n (fun v => .slice (some ⟨rb v, 0, none⟩) m m)
  row : ∀ v : Int, 0 ≤ v → v < n → w.rowIs (rb v) 3 m (fun c => .int .i64 (T v c))
  out : w.heap[po]? = some (.cells #[.slice (some ⟨ro, 0, none⟩) e e] 29 (0, 0))
  orow : w.rowIs ro 3 e (fun i => .int .i64 (O i))
  ends : w.heap[pe]? = some (.cells #[.func (.func 47) #[] #[.pointer (some ⟨gb, 0, none⟩)]] 77 (0, 0))
section
variable {B n m e gb pa ra po ro pe : Nat} {rb : Int → Nat} {L R : Int} {A : Option Addr} {cp : Nat} {T : Tab} {O : Int → Int} {w : World}
theorem St.cG (h : St n m e gb pa ra po ro pe rb L R A cp T O w) : w.cell? ⟨gb, 0, none⟩ = some (.int .i64 L) ∧ w.cell? ⟨gb, 1, none⟩ = some (.int .i64 R) ∧ w.cell? ⟨gb, 2, none⟩ = some (.slice A e cp) :=
  ⟨(blk_cell h.g 0).trans rfl, (blk_cell h.g 1).trans rfl, (blk_cell h.g 2).trans rfl⟩
theorem St.cA (h : St n m e gb pa ra po ro pe rb L R A cp T O w) : w.cell? ⟨pa, 0, none⟩ = some (.slice (some ⟨ra, 0, none⟩) n n) := (blk_cell h.at_ 0).trans rfl
theorem St.cO (h : St n m e gb pa ra po ro pe rb L R A cp T O w) : w.cell? ⟨po, 0, none⟩ = some (.slice (some ⟨ro, 0, none⟩) e e) := (blk_cell h.out 0).trans rfl
theorem St.cE (h : St n m e gb pa ra po ro pe rb L R A cp T O w) : w.cell? ⟨pe, 0, none⟩ = some (.func (.func 47) #[] #[.pointer (some ⟨gb, 0, none⟩)]) := (blk_cell h.ends 0).trans rfl
theorem St.cR (h : St n m e gb pa ra po ro pe rb L R A cp T O w) (v : Int) (v0 : 0 ≤ v) (v1 : v < n) : w.cell? ⟨ra, v.toNat, none⟩ = some (.slice (some ⟨rb v, 0, none⟩) m m) := by
  have := h.rows.cell (i := v.toNat) (by omega)
  rw [this, show ((v.toNat : Nat) : Int) = v by omega]
theorem St.cT (h : St n m e gb pa ra po ro pe rb L R A cp T O w) (v c : Int) (v0 : 0 ≤ v) (v1 : v < n) (c0 : 0 ≤ c) (c1 : c < m) : w.cell? ⟨rb v, c.toNat, none⟩ = some (.int .i64 (T v c)) := by
  have := (h.row v v0 v1).cell (i := c.toNat) (by omega)
  rw [this, show ((c.toNat : Nat) : Int) = c by omega]
theorem St.fT (h : St n m e gb pa ra po ro pe rb L R A cp T O w) (v c : Int) (v0 : 0 ≤ v) (v1 : v < n) : w.frozen? ⟨rb v, c.toNat, none⟩ = false := (h.row v v0 v1).frozen _
theorem St.cOut (h : St n m e gb pa ra po ro pe rb L R A cp T O w) (i : Int) (i0 : 0 ≤ i) (i1 : i < e) : w.cell? ⟨ro, i.toNat, none⟩ = some (.int .i64 (O i)) := by
  have := h.orow.cell (i := i.toNat) (by omega)
  rw [this, show ((i.toNat : Nat) : Int) = i by omega]
theorem St.fO (h : St n m e gb pa ra po ro pe rb L R A cp T O w) (i : Int) : w.frozen? ⟨ro, i.toNat, none⟩ = false := h.orow.frozen _
theorem St.put (l : Lay B n gb pa ra po ro pe rb) (h : St n m e gb pa ra po ro pe rb L R A cp T O w) (v c x : Int) (v0 : 0 ≤ v) (v1 : v < n) (c0 : 0 ≤ c) : St n m e gb pa ra po ro pe rb L R A cp (upd T v c x) O (w.setCell ⟨rb v, c.toNat, none⟩ (.int .i64 x)) := by
  obtain ⟨d1, d2, d3, d4, d5, d6⟩ := l.dr v v0 v1
  refine ⟨blk_far h.g (p := ⟨rb v, c.toNat, none⟩) (Ne.symm d1) _, blk_far h.at_ (p := ⟨rb v, c.toNat, none⟩) (Ne.symm d2) _, h.rows.setOther (a := ⟨rb v, c.toNat, none⟩) (Ne.symm d3) _, fun u u0 u1 => ?_, blk_far h.out (p := ⟨rb v, c.toNat, none⟩) (Ne.symm d5) _, h.orow.setOther (a := ⟨rb v, c.toNat, none⟩) (Ne.symm d4) _, blk_far h.ends (p := ⟨rb v, c.toNat, none⟩) (Ne.symm d6) _⟩
  by_cases e : u = v
  · subst e
    refine ((h.row u u0 u1).set c.toNat (.int .i64 x)).congr fun i hi => ?_
    unfold upd
    by_cases h : i = c.toNat
    · rw [if_pos h, if_pos ⟨rfl, by omega⟩]
    · rw [if_neg h, if_neg (by rintro ⟨_, h2⟩; omega)]
  · refine ((h.row u u0 u1).setOther (a := ⟨rb v, c.toNat, none⟩) (fun h => e (l.dd u v u0 u1 v0 v1 h)) _).congr fun i hi => ?_
    unfold upd
    rw [if_neg (fun h => e h.1)]
theorem St.putO (l : Lay B n gb pa ra po ro pe rb) (h : St n m e gb pa ra po ro pe rb L R A cp T O w) (i x : Int) (i0 : 0 ≤ i) : St n m e gb pa ra po ro pe rb L R A cp T (updO O i x) (w.setCell ⟨ro, i.toNat, none⟩ (.int .i64 x)) := by
  obtain ⟨d1, d2, d3, d4, d5⟩ := l.dO
  refine ⟨blk_far h.g (p := ⟨ro, i.toNat, none⟩) (Ne.symm d1) _, blk_far h.at_ (p := ⟨ro, i.toNat, none⟩) (Ne.symm d2) _, h.rows.setOther (a := ⟨ro, i.toNat, none⟩) (Ne.symm d3) _, fun u u0 u1 => (h.row u u0 u1).setOther (a := ⟨ro, i.toNat, none⟩) (l.dr u u0 u1).2.2.2.1 _, blk_far h.out (p := ⟨ro, i.toNat, none⟩) (Ne.symm d4) _, ?_, blk_far h.ends (p := ⟨ro, i.toNat, none⟩) (Ne.symm d5) _⟩
  refine (h.orow.set i.toNat (.int .i64 x)).congr fun j hj => ?_
  unfold updO
  by_cases h : j = i.toNat
  · rw [if_pos h, if_pos (by omega)]
  · rw [if_neg h, if_neg (by omega)]
theorem St.same {w' : World} (h : St n m e gb pa ra po ro pe rb L R A cp T O w) (hs : ∀ k, k < w.heap.size → w'.heap[k]? = w.heap[k]?) : St n m e gb pa ra po ro pe rb L R A cp T O w' :=
  ⟨(hs _ (blk_lt h.g)).trans h.g, (hs _ (blk_lt h.at_)).trans h.at_, h.rows.of_block (hs _ h.rows.lt), fun v a b => (h.row v a b).of_block (hs _ (h.row v a b).lt), (hs _ (blk_lt h.out)).trans h.out, h.orow.of_block (hs _ h.orow.lt), (hs _ (blk_lt h.ends)).trans h.ends⟩
theorem St.alloc (h : St n m e gb pa ra po ro pe rb L R A cp T O w) (o : Obj) : St n m e gb pa ra po ro pe rb L R A cp T O (w.alloc o) := h.same fun k hk => Go.Deep.blk_alloc_lt _ _ _ hk
theorem St.drewN (h : St n m e gb pa ra po ro pe rb L R A cp T O w) (nd : Nat) : St n m e gb pa ra po ro pe rb L R A cp T O (w.drewN nd) := h.same fun k hk => rfl
end
end Go.Proofs.Ytlleokhmgblfnaa.H
end

section
namespace Go.Proofs.Ytlleokhmgblfnaa.H
open Go.RowKit Go.Proofs.YtlleokhmgblfnaaW.PrintWords
attribute [local go_sem] eqE
section
variable {n m e gb pa ra po ro pe : Nat} {rb : Int → Nat} {L R : Int} {A : Option Addr} {cp : Nat} {T : Tab} {O : Int → Int}
set_option maxHeartbeats 2000000 in
set_option maxRecDepth 100000 in
theorem ends_calls (E : List (Int × Int)) (w : World) (i : Int) (hs : St n m e gb pa ra po ro pe rb L R A cp T O w) (hE : kE.C w A e E) (i0 : 0 ≤ i) (i1 : i < e) (h : 0 ≤ L ∧ L ≤ 1024 ∧ 0 ≤ (rdE E i).2 ∧ (rdE E i).2 ≤ 1024) :
    Calls Try.prog 47 #[.int .i64 i, .pointer (some ⟨gb, 0, none⟩)] w fun x w' => x = .returned (.tuple #[.int .i64 (rdE E i).1, .int .i64 (L + (rdE E i).2)]) ∧ Drawn0 w w' := by
  obtain ⟨g0, g1, g2⟩ := hs.cG
  obtain ⟨ad, eA, hx0, hx1⟩ := at_E hE i i0 i1
  subst eA
  have hw : wrap64 (L + (rdE E i).2) = L + (rdE E i).2 := by unfold wrap64; omega
  obtain ⟨x, hX⟩ : ∃ x, rdE E i = x := ⟨_, rfl⟩
  rw [hX] at hx0 hx1 hw h ⊢
  obtain ⟨x0, x1⟩ := x
  have HS := Aside0.mk hs
  have HE := Aside0.mk hE
  have HH := Aside0.mk h
  clear hX hs hE h
  go_enter Try.func47, Try.ntmps47
  go_wp2
  go_quiet (fail)
  go_wp2
  refine bodyPost_ret (v := .tuple #[.int .i64 x0, .int .i64 (L + x1)]) (by simp [results, Try.results47, go_sem, hw]) rfl ⟨rfl, nq, rfl⟩
set_option maxHeartbeats 2000000 in
set_option maxRecDepth 100000 in
theorem missing_calls (w : World) (v : Int) (k : Nat) (a : Int) (hs : St n m e gb pa ra po ro pe rb L R A cp T O w) (v0 : 0 ≤ v) (v1 : v < n) (hm : m ≤ 1000000) (h : missF m (T v) k 0 = some a) :
    Calls Try.prog 48 #[.int .i64 v, .pointer (some ⟨pa, 0, none⟩)] w fun x w' => x = .returned (.int .i64 a) ∧ Drawn0 w w' := by
  have hA := hs.cA
  have hR := hs.cR v v0 v1
  have HS := Aside0.mk hs
  have H := Aside0.mk h
  clear hs h
  go_enter Try.func48, Try.ntmps48
  go_wp2_with fail
  go_loopg [4] k (fun kq v4 wr => ∃ c : Int, v4 = .int .i64 c ∧ Aside0 (0 ≤ c ∧ missF m (T v) kq c = some a) ∧ Aside0 (Drawn0 w wr))
  case atStart => exact ⟨0, rfl, ⟨by omega, H.out⟩, ⟨Drawn0.refl _⟩⟩
  case round =>
    clear H
    obtain ⟨c, rfl, HA, HD⟩ := hrel
    have c0 : 0 ≤ c := HA.out.1
    cases gk with
    | zero => exact absurd HA.out.2 (by simp [missF])
    | succ k1 =>
      have H := HA.out.2
      clear HA
      simp only [missF] at H
      by_cases c1 : c < m
      · rw [if_pos c1] at H
        obtain ⟨nd, hnd⟩ := HD.out
        subst hnd
        have hT := HS.out.cT v c v0 v1 c0 c1
        by_cases ht : 0 ≤ T v c
        · rw [if_pos ht] at H
          have HH := Aside0.mk H
          clear H
          go_wp2
          go_roundg k1
          case measure => omega
          case rel => exact ⟨c + 1, by go_num, ⟨by omega, HH.out⟩, ⟨nd, rfl⟩⟩
        · rw [if_neg ht] at H
          obtain rfl := Option.some.inj H
          go_wp2
          refine bodyPost_ret (v := .int .i64 c) (by simp [results, Try.results48, go_sem]) rfl ⟨rfl, nd, rfl⟩
      · rw [if_neg c1] at H
        exact absurd H (by simp)
end
end Go.Proofs.Ytlleokhmgblfnaa.H
end

section
namespace Go.Proofs.Ytlleokhmgblfnaa.H
open Go.RowKit Go.Proofs.YtlleokhmgblfnaaW.PrintWords
attribute [local go_sem] eqE
def eX (E : List (Int × Int)) (j : Int) : Int := (rdE E j).1
def eY (L : Int) (E : List (Int × Int)) (j : Int) : Int := L + (rdE E j).2
def EndsOK (L : Int) (n e : Nat) (E : List (Int × Int)) : Prop := 0 ≤ L ∧ L ≤ 1024 ∧ n ≤ 2048 ∧ ∀ j : Int, 0 ≤ j → j < e → 0 ≤ eX E j ∧ eX E j < L ∧ L ≤ eY L E j ∧ eY L E j < n ∧ (rdE E j).2 ≤ 1024
section
variable {B n m e gb pa ra po ro pe : Nat} {rb : Int → Nat} {L R : Int} {A : Option Addr} {cp : Nat} {T : Tab} {O : Int → Int}
theorem ends_at (E : List (Int × Int)) (w : World) (i : Int) (hs : St n m e gb pa ra po ro pe rb L R A cp T O w) (hE : kE.C w A e E) (i0 : 0 ≤ i) (i1 : i < e) (h : EndsOK L n e E) :
    Calls Try.prog 47 #[.int .i64 i, .pointer (some ⟨gb, 0, none⟩)] w fun x w' => x = .returned (.tuple #[.int .i64 (eX E i), .int .i64 (eY L E i)]) ∧ Drawn0 w w' := by
  obtain ⟨h1, h2, h3, h4⟩ := h
  have := h4 i i0 i1
  unfold eY at this
  exact ends_calls E w i hs hE i0 i1 ⟨h1, h2, by omega, this.2.2.2.2⟩
theorem St.grown {w wr w1 : World} {row : Option Nat} {T' : Tab} {O' : Int → Int} (h0 : St n m e gb pa ra po ro pe rb L R A cp T' O' w) (h : St n m e gb pa ra po ro pe rb L R A cp T O wr) (hw : w.heap.size ≤ wr.heap.size) (hg : wr.grownBy w1 row) (hr : ∀ k, row = some k → w.heap.size ≤ k) : St n m e gb pa ra po ro pe rb L R A cp T O w1 := by
  have key : ∀ g, g < w.heap.size → w1.heap[g]? = wr.heap[g]? := fun g hgl => hg.block g (by omega) (fun e => by have := hr g e.symm; omega)
  exact ⟨(key _ (blk_lt h0.g)).trans h.g, (key _ (blk_lt h0.at_)).trans h.at_, h.rows.of_block (key _ h0.rows.lt), fun v x y => (h.row v x y).of_block (key _ (h0.row v x y).lt), (key _ (blk_lt h0.out)).trans h.out, h.orow.of_block (key _ h0.orow.lt), (key _ (blk_lt h0.ends)).trans h.ends⟩
set_option maxHeartbeats 4000000 in
set_option maxRecDepth 100000 in
theorem flip_calls (w0 : World) (E : List (Int × Int)) (w : World) (u a b : Int) (k : Nat) (r : Tab × (Int → Int)) (l : Lay w0.heap.size n gb pa ra po ro pe rb)
    (hs : St n m e gb pa ra po ro pe rb L R A cp T O w) (hE : kE.C w0 A e E) (hw : Below w0.heap.size w0 w) (hok : EndsOK L n e E) (hm : m ≤ 1000000) (he : e ≤ 1000000)
    (a0 : 0 ≤ a ∧ a < m ∧ 0 ≤ b ∧ b < m) (h : flipF n m e (eX E) (eY L E) k T O u a b = some r) :
    Calls Try.prog 49 #[.int .i64 u, .int .i64 a, .int .i64 b, .pointer (some ⟨pa, 0, none⟩), .pointer (some ⟨pe, 0, none⟩), .pointer (some ⟨po, 0, none⟩)] w
      fun x w' => x = .returned (.tuple #[]) ∧ St n m e gb pa ra po ro pe rb L R A cp r.1 r.2 w' ∧ Below w0.heap.size w0 w' := by
  unfold flipF at h
  obtain ⟨P, hP, h⟩ := Option.bind_eq_some_iff.1 h
  obtain ⟨T1, hT1, hr⟩ := Option.bind_eq_some_iff.1 h
  clear h
  have LL := Aside0.mk l
  have HS0 := Aside0.mk hs
  have HE := Aside0.mk hE
  have HW0 := Aside0.mk hw
  have OK := Aside0.mk hok
  have HP := Aside0.mk hP
  have HT1 := Aside0.mk hT1
  have HR := Aside0.mk hr
  obtain ⟨a1, a2, b1, b2⟩ := a0
  clear hs hE hw hok hP hT1 hr l
  go_enter Try.func49, Try.ntmps49
  go_wp2_with fail
  go_loopg [0, 9, 10] k (fun kq v0 v9 v10 wr => ∃ (u c : Int) (p : List Int), v0 = .int .i64 u ∧ v10 = .int .i64 c ∧ Aside0 (pathF n m e (eX E) (eY L E) (a + b) T kq u c p = some P) ∧ Aside0 (St n m e gb pa ra po ro pe rb L R A cp T O wr ∧ Below w0.heap.size w0 wr ∧ w.heap.size ≤ wr.heap.size) ∧ Aside0 (Kd.Q (Kd.int .i64) 3 wr w.heap.size (fun _ => True) v9 p))
  case atStart => exact ⟨u, a, [], rfl, rfl, HP, ⟨HS0.out, HW0.out, Nat.le_refl _⟩, ⟨Kd.Q_nil _ _ _ _ _⟩⟩
  case round =>
    clear HP
    obtain ⟨u, c, p, rfl, rfl, HA, HW, HQ⟩ := hrel
    cases gk with
    | zero => exact absurd HA.out (by simp [pathF])
    | succ k1 =>
      have H := HA.out
      clear HA
      simp only [pathF] at H
      by_cases h1 : 0 ≤ u ∧ u < n ∧ 0 ≤ c ∧ c < m
      · rw [if_pos h1] at H
        obtain ⟨u0, u1, c0, c1⟩ := h1
        have cA := HW.out.1.cA
        have cR := HW.out.1.cR u u0 u1
        have cT := HW.out.1.cT u c u0 u1 c0 c1
        obtain ⟨rv, hrv⟩ : ∃ rv, rb u = rv := ⟨_, rfl⟩
        rw [hrv] at cR cT
        obtain ⟨j, hj⟩ : ∃ j, T u c = j := ⟨_, rfl⟩
        rw [hj] at cT H
        have HJ := Aside0.mk hj
        clear hrv hj
        by_cases j0 : 0 ≤ j
        · rw [if_pos j0] at H
          by_cases j1 : j < e ∧ p.length < 65536
          · rw [if_pos j1] at H
            obtain ⟨j1, hp⟩ := j1
            have HH := Aside0.mk H
            clear H
            have hx := OK.out.2.2.2 j j0 j1
            have hl0 := OK.out.1
            have hl1 := OK.out.2.1
            have hn1 := OK.out.2.2.1
            have HX := Aside0.mk hx
            go_wp2_with (first | ((with_reducible refine gate_builtin (b := .append) (xs := #[.tmp 35, .tmp 43]) rfl ?_); at_builtin; refine Kd.Q_append (Kd.int .i64) w.heap.size rfl (.tmp 35) (.tmp 43) 29 3 (.int .i64 0) 8 rfl Try.underlying29 info3 rfl (by decide) (by omega) u9 p j [.int .i64 j] (fun _ => True) (fun _ => False) rfl rfl ?aP (fun _ hk => hk.elim) (fun _ _ => trivial) HQ.out (Below.refl _ _) ?aS ?aL ?_; (case aP => exact rfl); (case aS => exact HW.out.2.2); (case aL => omega); intro v1 w1 ho hb hg hat; have HQ1 := Aside0.mk ho; have HS1 : Aside0 (St n m e gb pa ra po ro pe rb L R A cp T O w1) := ⟨St.grown HS0.out HW.out.1 HW.out.2.2 hg (Kd.Q_base HQ.out)⟩; have HB1 : Aside0 (Below w0.heap.size w0 w1) := ⟨pw_below_grown HW.out.2.1 _ HW.out.2.1.size hg (fun k hk => Nat.le_trans HW0.out.size (Kd.Q_base HQ.out k hk))⟩; have HZ1 : Aside0 (w.heap.size ≤ w1.heap.size) := ⟨Nat.le_trans HW.out.2.2 hg.size⟩; clear ho hb hg hat cA cR cT HW))
            have cA := HS1.out.cA
            have cR := HS1.out.cR u u0 u1
            have cT := HS1.out.cT u c u0 u1 c0 c1
            have cE := HS1.out.cE
            rw [HJ.out] at cT
            go_quiet (first | (go_at_call 47; refine (ends_at E _ j (HS1.out.drewN _) (Kd.C_below HE.out (pw_below_drewN HB1.out _)) j0 j1 OK.out).mono ?_; rintro x w' ⟨rfl, ⟨nd, rfl⟩⟩; exact ⟨rfl, _, World.drewN_drewN _ _ _⟩))
            go_wp2
            go_roundg k1
            case measure => omega
            case rel => exact ⟨_, _, _, by go_num, by go_num, ⟨HH.out⟩, ⟨HS1.out.drewN _, pw_below_drewN HB1.out _, HZ1.out⟩, ⟨Kd.Q_drewN HQ1.out _⟩⟩
          · rw [if_neg j1] at H
            exact absurd H (by simp)
        · rw [if_neg j0] at H
          obtain rfl := Option.some.inj H
          clear H
          obtain ⟨A9, c9, rfl, hc9⟩ := Kd.Q_slice HQ.out
          go_wp2_with fail
          have hmp := Kd.C_max (Kd.Q_reads' HQ.out).2.2
          clear cA cR cT HJ
          go_loopg [64] (p.length + 1) (fun kq v64 wr => ∃ (i : Int) (T' : Tab), v64 = .int .i64 i ∧ Aside0 (0 ≤ i ∧ i ≤ p.length ∧ (p.length : Int) < i + kq ∧ clearF m e (eX E) (eY L E) O (p.drop i.toNat) T' = some T1) ∧ Aside0 (St n m e gb pa ra po ro pe rb L R A cp T' O wr ∧ Below w0.heap.size w0 wr ∧ w.heap.size ≤ wr.heap.size) ∧ Aside0 (Kd.Q (Kd.int .i64) 3 wr w.heap.size (fun _ => True) (.slice A9 p.length c9) p))
          case atStart => exact ⟨0, T, rfl, ⟨by omega, by omega, by omega, by simpa using HT1.out⟩, HW, HQ⟩
          case round =>
            clear HW HQ HT1
            obtain ⟨i, T', rfl, HA, HW, HQ⟩ := hrel
            have i0 : 0 ≤ i := HA.out.1
            by_cases hlt : i < p.length
            · obtain ⟨ad9, e9, hx9⟩ := Kd.at_int (Kd.Q_reads' HQ.out).2.2 i i0 hlt
              subst e9
              have hdr : p.drop i.toNat = rd p i :: p.drop (i + 1).toNat := by
                rw [show (i + 1).toNat = i.toNat + 1 by omega, List.drop_eq_getElem_cons (by omega)]
                unfold rd
                rw [List.getD_eq_getElem?_getD, List.getElem?_eq_getElem (by omega)]
                rfl
              have H := HA.out.2.2.2
              rw [hdr] at H
              obtain ⟨j, hj⟩ : ∃ j, rd p i = j := ⟨_, rfl⟩
              rw [hj] at hx9 H
              clear hdr hj
              unfold clearF at H
              by_cases h2 : 0 ≤ j ∧ j < e ∧ 0 ≤ O j ∧ O j < m
              · rw [if_pos h2] at H
                obtain ⟨j0, j1, o0, o1⟩ := h2
                have HH := Aside0.mk H
                clear H
                have hx := OK.out.2.2.2 j j0 j1
                obtain ⟨x, hxx⟩ : ∃ x, eX E j = x := ⟨_, rfl⟩
                obtain ⟨y, hyy⟩ : ∃ y, eY L E j = y := ⟨_, rfl⟩
                obtain ⟨o, hoo⟩ : ∃ o, O j = o := ⟨_, rfl⟩
                have hends := ends_at E wr j HW.out.1 (Kd.C_below HE.out HW.out.2.1) j0 j1 OK.out
                have cOut := HW.out.1.cOut j j0 j1
                rw [hxx, hyy] at hx hends
                rw [hoo] at o0 o1 cOut
                have H1 : Aside0 (clearF m e (eX E) (eY L E) O (p.drop (i + 1).toNat) (upd (upd T' x o (-1)) y o (-1)) = some T1) := ⟨by rw [← hxx, ← hyy, ← hoo]; exact HH.out⟩
                clear HH hxx hyy hoo
                have x0 : 0 ≤ x := hx.1
                have x1 : x < n := by omega
                have y0 : 0 ≤ y := by omega
                have y1 : y < n := hx.2.2.2.1
                have xy : x ≠ y := by omega
                have cA := HW.out.1.cA
                have cO := HW.out.1.cO
                have cE := HW.out.1.cE
                have cX := HW.out.1.cR x x0 x1
                have cY := HW.out.1.cR y y0 y1
                have tX := HW.out.1.cT x o x0 x1 o0 o1
                have tY := HW.out.1.cT y o y0 y1 o0 o1
                have fX := HW.out.1.fT x o x0 x1
                have fY := HW.out.1.fT y o y0 y1
                have nxy : rb x ≠ rb y := fun h => xy (LL.out.dd x y x0 x1 y0 y1 h)
                have nyx := nxy.symm
                have HX := Aside0.mk hx
                have HXY := Aside0.mk xy
                have HC := Aside0.mk hends
                clear hx hends xy
                go_wp2_with (go_at_call 47; refine HC.out.mono ?_; rintro x w' ⟨rfl, ⟨nd, rfl⟩⟩)
                go_region
                all_goals go_wp2
                go_roundg (gk - 1)
                case measure => have := HA.out.2.2.1; omega
                case rel => exact ⟨i + 1, _, by go_num, ⟨by omega, by omega, by have := HA.out.2.2.1; omega, H1.out⟩, ⟨((HW.out.1.drewN _).put LL.out x o (-1) x0 x1 o0).put LL.out y o (-1) y0 y1 o0, below_set (below_set (pw_below_drewN HW.out.2.1 _) (LL.out.bb.2 x x0 x1)) (LL.out.bb.2 y y0 y1), by simpa using HW.out.2.2⟩, ⟨Q_put (Q_put (Kd.Q_drewN HQ.out _) (HS0.out.row x x0 x1).lt _ _) (HS0.out.row y y0 y1).lt _ _⟩⟩
              · rw [if_neg h2] at H
                exact absurd H (by simp)
            · have hie : p.drop i.toNat = [] := List.drop_eq_nil_of_le (by omega)
              have H := HA.out.2.2.2
              rw [hie] at H
              obtain rfl := Option.some.inj (show some T' = some T1 from H)
              clear H hie HA
              go_wp2_with fail
              go_loopg [95] (p.length + 1) (fun kq v95 wr => ∃ (i : Int) (T1 : Tab) (O' : Int → Int), v95 = .int .i64 i ∧ Aside0 (0 ≤ i ∧ i ≤ p.length ∧ (p.length : Int) < i + kq ∧ setF m e (eX E) (eY L E) (a + b) (p.drop i.toNat) T1 O' = some r) ∧ Aside0 (St n m e gb pa ra po ro pe rb L R A cp T1 O' wr ∧ Below w0.heap.size w0 wr ∧ w.heap.size ≤ wr.heap.size) ∧ Aside0 (Kd.Q (Kd.int .i64) 3 wr w.heap.size (fun _ => True) (.slice A9 p.length c9) p))
              case atStart => exact ⟨0, T', O, rfl, ⟨by omega, by omega, by omega, by simpa using HR.out⟩, HW, HQ⟩
              case round =>
                clear HW HQ HR
                obtain ⟨i, T1, O', rfl, HA, HW, HQ⟩ := hrel
                have i0 : 0 ≤ i := HA.out.1
                by_cases hlt : i < p.length
                · obtain ⟨ad9, e9, hx9⟩ := Kd.at_int (Kd.Q_reads' HQ.out).2.2 i i0 hlt
                  subst e9
                  have hdr : p.drop i.toNat = rd p i :: p.drop (i + 1).toNat := by
                    rw [show (i + 1).toNat = i.toNat + 1 by omega, List.drop_eq_getElem_cons (by omega)]
                    unfold rd
                    rw [List.getD_eq_getElem?_getD, List.getElem?_eq_getElem (by omega)]
                    rfl
                  have H := HA.out.2.2.2
                  rw [hdr] at H
                  obtain ⟨j, hj⟩ : ∃ j, rd p i = j := ⟨_, rfl⟩
                  rw [hj] at hx9 H
                  clear hdr hj
                  unfold setF at H
                  by_cases h2 : 0 ≤ j ∧ j < e ∧ 0 ≤ O' j ∧ O' j < m ∧ 0 ≤ a + b - O' j ∧ a + b - O' j < m
                  · rw [if_pos h2] at H
                    obtain ⟨j0, j1, q0, q1, o0, o1⟩ := h2
                    have HH := Aside0.mk H
                    clear H
                    have hx := OK.out.2.2.2 j j0 j1
                    obtain ⟨x, hxx⟩ : ∃ x, eX E j = x := ⟨_, rfl⟩
                    obtain ⟨y, hyy⟩ : ∃ y, eY L E j = y := ⟨_, rfl⟩
                    obtain ⟨q, hqq⟩ : ∃ q, O' j = q := ⟨_, rfl⟩
                    obtain ⟨o, hoo⟩ : ∃ o, a + b - q = o := ⟨_, rfl⟩
                    have hends := ends_at E wr j HW.out.1 (Kd.C_below HE.out HW.out.2.1) j0 j1 OK.out
                    have cOut := HW.out.1.cOut j j0 j1
                    have fOut := HW.out.1.fO j
                    rw [hxx, hyy] at hx hends
                    rw [hqq] at q0 q1 o0 o1 cOut
                    rw [hoo] at o0 o1
                    have hw1 : wrap64 (wrap64 (a + b) - q) = o := by
                      rw [show wrap64 (a + b) = a + b by unfold wrap64; omega, hoo]
                      unfold wrap64; omega
                    have H1 : Aside0 (setF m e (eX E) (eY L E) (a + b) (p.drop (i + 1).toNat) (upd (upd T1 x o j) y o j) (updO O' j o) = some r) := ⟨by rw [← hxx, ← hyy, ← hoo, ← hqq]; exact HH.out⟩
                    clear HH hxx hyy hqq
                    have x0 : 0 ≤ x := hx.1
                    have x1 : x < n := by omega
                    have y0 : 0 ≤ y := by omega
                    have y1 : y < n := hx.2.2.2.1
                    have xy : x ≠ y := by omega
                    have cO := HW.out.1.cO
                    have cE := HW.out.1.cE
                    have HX := Aside0.mk hx
                    have HOO := Aside0.mk hoo
                    have HC := Aside0.mk hends
                    clear hx hends hoo
                    go_wp2_with (go_at_call 47; refine HC.out.mono ?_; rintro x w' ⟨rfl, ⟨nd, rfl⟩⟩)
                    go_region
                    clear cO cE cOut fOut
                    have HS2 : Aside0 (St n m e gb pa ra po ro pe rb L R A cp T1 (updO O' j o) ((wr.drewN (nd + 1)).setCell ⟨ro, j.toNat, none⟩ (.int .i64 (a + b - q)))) := ⟨by rw [HOO.out]; exact (HW.out.1.drewN _).putO LL.out j o j0⟩
                    have HB2 : Aside0 (Below w0.heap.size w0 ((wr.drewN (nd + 1)).setCell ⟨ro, j.toNat, none⟩ (.int .i64 (a + b - q)))) := ⟨below_set (pw_below_drewN HW.out.2.1 _) LL.out.bb.1⟩
                    have HZ2 : Aside0 (w.heap.size ≤ ((wr.drewN (nd + 1)).setCell ⟨ro, j.toNat, none⟩ (.int .i64 (a + b - q))).heap.size) := ⟨by simpa using HW.out.2.2⟩
                    have HQ2 : Aside0 (Kd.Q (Kd.int .i64) 3 ((wr.drewN (nd + 1)).setCell ⟨ro, j.toNat, none⟩ (.int .i64 (a + b - q))) w.heap.size (fun _ => True) (.slice (some ad9) p.length c9) p) := ⟨Q_put (Kd.Q_drewN HQ.out _) HS0.out.orow.lt _ _⟩
                    generalize (wr.drewN (nd + 1)).setCell ⟨ro, j.toNat, none⟩ (.int .i64 (a + b - q)) = w2 at *
                    have cO := HS2.out.cO
                    have cOut : w2.cell? ⟨ro, j.toNat, none⟩ = some (.int .i64 o) := by
                      have := HS2.out.cOut j j0 j1
                      rw [this]; unfold updO; rw [if_pos rfl]
                    have cA := HS2.out.cA
                    have cX := HS2.out.cR x x0 x1
                    have cY := HS2.out.cR y y0 y1
                    have tX := HS2.out.cT x o x0 x1 o0 o1
                    have tY := HS2.out.cT y o y0 y1 o0 o1
                    have fX := HS2.out.fT x o x0 x1
                    have fY := HS2.out.fT y o y0 y1
                    have nxy : rb x ≠ rb y := fun h => xy (LL.out.dd x y x0 x1 y0 y1 h)
                    have nyx := nxy.symm
                    clear HQ HW hw1 xy hx9
                    go_wp2
                    go_region
                    all_goals go_wp2
                    go_roundg (gk - 1)
                    case measure => have := HA.out.2.2.1; omega
                    case rel => exact ⟨i + 1, _, _, by go_num, ⟨by omega, by omega, by have := HA.out.2.2.1; omega, H1.out⟩, ⟨((HS2.out.drewN _).put LL.out x o j x0 x1 o0).put LL.out y o j y0 y1 o0, below_set (below_set (pw_below_drewN HB2.out _) (LL.out.bb.2 x x0 x1)) (LL.out.bb.2 y y0 y1), by simpa using HZ2.out⟩, ⟨Q_put (Q_put (Kd.Q_drewN HQ2.out _) (HS0.out.row x x0 x1).lt _ _) (HS0.out.row y y0 y1).lt _ _⟩⟩
                  · rw [if_neg h2] at H
                    exact absurd H (by simp)
                · have hie : p.drop i.toNat = [] := List.drop_eq_nil_of_le (by omega)
                  have H := HA.out.2.2.2
                  rw [hie] at H
                  obtain rfl := Option.some.inj (show some (T1, O') = some r from H)
                  go_wp2
                  go_end0
                  exact ⟨rfl, HW.out.1, HW.out.2.1⟩
      · rw [if_neg h1] at H
        exact absurd H (by simp)
end
end Go.Proofs.Ytlleokhmgblfnaa.H
end

section
namespace Go.Proofs.Ytlleokhmgblfnaa.H
def degS : List Int → (Int → Int) → Int → (Int → Int) × Int
  | [], D, mo => (D, mo)
  | v :: vs, D, mo => degS vs (updO D v (D v + 1)) (if mo < D v + 1 then D v + 1 else mo)
def degF (L : Int) : List (Int × Int) → (Int → Int) → Int → Int
  | [], _, mo => mo
  | x :: E, D, mo => degF L E (degS [x.1, L + x.2] D mo).1 (degS [x.1, L + x.2] D mo).2
end Go.Proofs.Ytlleokhmgblfnaa.H
end

section
namespace Go.Proofs.Ytlleokhmgblfnaa.H
open Go.RowKit Go.Proofs.YtlleokhmgblfnaaW.PrintWords
open Go.Maps
attribute [local go_sem] eqE
theorem chkGo_rng' (L R : Int) : ∀ (E : List (Int × Int)) (p : Option (Int × Int)), chkGo L R p E = 0 → ∀ x ∈ E, 0 ≤ x.1 ∧ x.1 < L ∧ 0 ≤ x.2 ∧ x.2 < R
  | [], _, _, x, hx => by cases hx
  | y :: E, p, h, x, hx => by
    unfold chkGo at h
    split at h
    · omega
    · have ih := chkGo_rng' L R E (some y)
      have h2 : chkGo L R (some y) E = 0 := by
        cases p with
        | none => exact h
        | some q =>
          simp only at h
          split at h
          · omega
          · split at h
            · omega
            · exact h
      rcases List.mem_cons.1 hx with e | hx
      · subst e; omega
      · exact ih h2 x hx
end Go.Proofs.Ytlleokhmgblfnaa.H
end

section
namespace Go.Proofs.Ytlleokhmgblfnaa.H
open Go.RowKit Go.Proofs.YtlleokhmgblfnaaW.PrintWords Go.Proofs.YtlleokhmgblfnaaW.PrintMore
attribute [local go_sem] eqE max2_int max_two
def colF (L R : Int) (E : List (Int × Int)) : Option (List Int × Int) :=
  if chk L R E = 0 then
    (mainF (L + R) (degF L E (fun _ => 0) 0) E.length (eX E) (eY L E) (2 * E.length + 5) (E.length + 1) 0 (fun _ _ => -1) (fun _ => 0)).map fun O => ((List.range E.length).map fun i => O (i : Int), 0)
  else some ([], chk L R E)
def ColPost (w : World) (r : List Int × Int) (e : Ending) (w' : World) : Prop :=
  ∃ v0 : Value, e = .returned (.tuple #[v0, .int .i64 r.2]) ∧ Kd.R (Kd.int .i64) 3 w' w.heap.size (fun _ => True) v0 r.1 ∧ Below w.heap.size w w'
theorem scope_jumps {P : Program} {a : Act} {w : World} {Q : Exit → Act → World → Prop} {c rest : Code} (l : Nat) (J : Act → World → Prop) (μ : Act → World → Nat) (hf : findLabel c l = some (Code.skip.seq rest))
    (pass : ∀ a w, J a w → rest.wp P (Exit.jump l (fun a' w' => J a' w' ∧ μ a' w' < μ a w) Q) a w)
    (first : (∀ a w, J a w → rest.wp P (Exit.jump l J Q) a w) → c.wp P (Exit.jump l J Q) a w) : (Code.scope c).wp P Q a w :=
  wp_scope_jumps l J μ hf (first fun a w h => wp_mono (pass a w h) fun e a w hq => by
    cases e <;> first | exact ⟨hq.1, hq.2.1⟩ | exact hq) (fun a w h => wp_seq (wp_skip (pass a w h)))
def slotInt (a : Act) (k : Nat) : Int := match a.tmps.getD k undef with | .int _ q => q | _ => 0
set_option maxRecDepth 100000 in
def colFrame (L R : Int) (A : Option Addr) (e c gb gd n : Nat) (mo : Int) (pa po pe : Nat) (i : Int) (u : Nat → Value) : Act :=
  { tmps := List.toArray ((.agg #[.int .i64 L, .int .i64 R, .slice A e c] : Value) :: (.pointer (some ⟨gb, 0, none⟩) : Value) :: (.slice none 0 0 : Value) :: (.int .i64 0 : Value) :: (.int .i64 0 : Value) :: (.slice (some ⟨gd, 0, none⟩) n n : Value) :: (.int .i64 mo : Value) :: (u 7 : Value) :: (u 8 : Value) :: (u 9 : Value) :: (u 10 : Value) :: (.pointer (some ⟨pa, 0, none⟩) : Value) :: (u 12 : Value) :: (u 13 : Value) :: (.pointer (some ⟨po, 0, none⟩) : Value) :: (.pointer (some ⟨pe, 0, none⟩) : Value) :: (.func (.func 48) #[] #[.pointer (some ⟨pa, 0, none⟩)] : Value) :: (.func (.func 49) #[] #[.pointer (some ⟨pa, 0, none⟩), .pointer (some ⟨pe, 0, none⟩), .pointer (some ⟨po, 0, none⟩)] : Value) :: (.int .i64 i : Value) :: (u 19 : Value) :: (u 20 : Value) :: (u 21 : Value) :: (u 22 : Value) :: (u 23 : Value) :: (u 24 : Value) :: (u 25 : Value) :: (u 26 : Value) :: (u 27 : Value) :: (u 28 : Value) :: (u 29 : Value) :: (u 30 : Value) :: (u 31 : Value) :: (u 32 : Value) :: (u 33 : Value) :: (u 34 : Value) :: (u 35 : Value) :: (u 36 : Value) :: (u 37 : Value) :: (u 38 : Value) :: (u 39 : Value) :: (u 40 : Value) :: (u 41 : Value) :: (u 42 : Value) :: (u 43 : Value) :: (u 44 : Value) :: (u 45 : Value) :: (u 46 : Value) :: (u 47 : Value) :: (u 48 : Value) :: (u 49 : Value) :: (u 50 : Value) :: (u 51 : Value) :: (u 52 : Value) :: (u 53 : Value) :: (u 54 : Value) :: (u 55 : Value) :: (u 56 : Value) :: (u 57 : Value) :: (u 58 : Value) :: (u 59 : Value) :: (u 60 : Value) :: (u 61 : Value) :: (u 62 : Value) :: (u 63 : Value) :: (u 64 : Value) :: (u 65 : Value) :: (u 66 : Value) :: (u 67 : Value) :: (u 68 : Value) :: (u 69 : Value) :: (u 70 : Value) :: (u 71 : Value) :: (u 72 : Value) :: (u 73 : Value) :: (u 74 : Value) :: (u 75 : Value) :: (u 76 : Value) :: (u 77 : Value) :: (u 78 : Value) :: (u 79 : Value) :: (u 80 : Value) :: (u 81 : Value) :: (u 82 : Value) :: (u 83 : Value) :: (u 84 : Value) :: (u 85 : Value) :: (u 86 : Value) :: (u 87 : Value) :: (u 88 : Value) :: (u 89 : Value) :: (u 90 : Value) :: (u 91 : Value) :: (u 92 : Value) :: (u 93 : Value) :: (u 94 : Value) :: (u 95 : Value) :: (u 96 : Value) :: (u 97 : Value) :: (u 98 : Value) :: (u 99 : Value) :: (u 100 : Value) :: (u 101 : Value) :: (u 102 : Value) :: (u 103 : Value) :: (u 104 : Value) :: (u 105 : Value) :: (u 106 : Value) :: (u 107 : Value) :: (u 108 : Value) :: (u 109 : Value) :: (u 110 : Value) :: (u 111 : Value) :: (u 112 : Value) :: (u 113 : Value) :: (u 114 : Value) :: (u 115 : Value) :: (u 116 : Value) :: (u 117 : Value) :: (u 118 : Value) :: (u 119 : Value) :: (u 120 : Value) :: (u 121 : Value) :: (u 122 : Value) :: (u 123 : Value) :: (u 124 : Value) :: (u 125 : Value) :: (u 126 : Value) :: (u 127 : Value) :: (u 128 : Value) :: (u 129 : Value) :: (u 130 : Value) :: (u 131 : Value) :: (u 132 : Value) :: (u 133 : Value) :: (u 134 : Value) :: (u 135 : Value) :: (u 136 : Value) :: (u 137 : Value) :: (u 138 : Value) :: (u 139 : Value) :: (u 140 : Value) :: (u 141 : Value) :: (u 142 : Value) :: (u 143 : Value) :: (u 144 : Value) :: (u 145 : Value) :: (u 146 : Value) :: (u 147 : Value) :: (u 148 : Value) :: (u 149 : Value) :: (u 150 : Value) :: (u 151 : Value) :: (u 152 : Value) :: []), defers := [] }
theorem row_of {w : World} {g n : Nat} {O : Int → Int} (h : w.rowIs g 3 n (fun i => .int .i64 (O i))) : Row w g ((List.range n).map fun i : Nat => O (i : Int)) := by
  obtain ⟨c, hb, hn, hc⟩ := h
  unfold Row
  rw [hb]
  congr 2
  apply Array.ext
  · simp [hn]
  · intro i h1 h2
    have h3 := hc i (by omega)
    rw [Array.getElem?_eq_getElem h1] at h3
    rw [Option.some.inj h3]
    simp
theorem frame_u (X : Act) {L R : Int} {A : Option Addr} {e c gb gd n : Nat} {mo : Int} {pa po pe : Nat} {i : Int} (h : X = colFrame L R A e c gb gd n mo pa po pe i (fun k => X.tmps.getD k undef)) : ∃ u : Nat → Value, X = colFrame L R A e c gb gd n mo pa po pe i u := ⟨_, h⟩
def ColJ (w : World) (L R : Int) (E : List (Int × Int)) (A : Option Addr) (c n m : Nat) (r : List Int × Int) (a : Act) (wr : World) : Prop :=
  ∃ (gb gd pa ra po ro pe : Nat) (rb : Int → Nat) (i : Int) (k : Nat) (T : Tab) (O : Int → Int), (∃ u : Nat → Value, a = colFrame L R A E.length c gb gd n m pa po pe i u) ∧ 0 ≤ i ∧ i ≤ E.length ∧ Lay w.heap.size n gb pa ra po ro pe rb ∧
    St n m E.length gb pa ra po ro pe rb L R A c T O wr ∧ Below w.heap.size w wr ∧ EndsOK L n E.length E ∧ m ≤ 1000000 ∧ E.length ≤ 65536 ∧
    (mainF n m E.length (eX E) (eY L E) (2 * E.length + 5) k i T O).map (fun O => ((List.range E.length).map fun i => O (i : Int), (0 : Int))) = some r
structure TabW (w : World) (gb ra n m e : Nat) (L R : Int) (A : Option Addr) (cp : Nat) (j i : Nat) (wr : World) : Prop where
  rows : wr.rowIs ra 29 n (fun v => if v < j then .slice (some ⟨ra + 2 + v, 0, none⟩) m m else .slice none 0 0)
  row : ∀ v, v < i → wr.rowIs (ra + 2 + v) 3 m (fun _ => .int .i64 (-1))
  at_ : wr.heap[ra + 1]? = some (.cells #[.slice (some ⟨ra, 0, none⟩) n n] 69 (0, 0))
  g : wr.heap[gb]? = some (.cells #[.int .i64 L, .int .i64 R, .slice A e cp] 33 (0, 0))
  below : Below w.heap.size w wr
  size : wr.heap.size = ra + 2 + j
  lo : w.heap.size ≤ gb ∧ gb < ra
section
variable {w wr : World} {gb ra n m e : Nat} {L R : Int} {A : Option Addr} {cp j i : Nat}
theorem TabW.far (h : TabW w gb ra n m e L R A cp j i wr) (k : Nat) (v : Value) : TabW w gb ra n m e L R A cp j i (wr.setCell ⟨ra + 2 + i, k, none⟩ v) := by
  have lo := h.lo
  refine ⟨h.rows.setOther (a := ⟨ra + 2 + i, k, none⟩) (by show ra ≠ ra + 2 + i; omega) v, fun u hu => (h.row u hu).setOther (a := ⟨ra + 2 + i, k, none⟩) (by show ra + 2 + u ≠ ra + 2 + i; omega) v, blk_far h.at_ (p := ⟨ra + 2 + i, k, none⟩) (by show ra + 1 ≠ ra + 2 + i; omega) v, blk_far h.g (p := ⟨ra + 2 + i, k, none⟩) (by show gb ≠ ra + 2 + i; omega) v, below_set h.below (by show w.heap.size ≤ ra + 2 + i; omega), ?_, lo⟩
  have := h.size
  simpa using this
theorem TabW.hang (h : TabW w gb ra n m e L R A cp i i wr) (o : Obj) : TabW w gb ra n m e L R A cp (i + 1) i ((wr.alloc o).setCell ⟨ra, i, none⟩ (.slice (some ⟨wr.heap.size, 0, none⟩) m m)) := by
  have lo := h.lo
  have hsz := h.size
  refine ⟨((h.rows.alloc o).set i _).congr fun v hv => ?_, fun u hu => ((h.row u hu).alloc o).setOther (a := ⟨ra, i, none⟩) (by show ra + 2 + u ≠ ra; omega) _, blk_far (blk_alloc h.at_ o) (p := ⟨ra, i, none⟩) (by show ra + 1 ≠ ra; omega) _, blk_far (blk_alloc h.g o) (p := ⟨ra, i, none⟩) (by show gb ≠ ra; omega) _, below_set (below_alloc h.below o) (by show w.heap.size ≤ ra; omega), ?_, lo⟩
  · by_cases e : v = i
    · rw [if_pos e, if_pos (by omega), e, hsz]
    · rw [if_neg e]
      by_cases e2 : v < i
      · rw [if_pos e2, if_pos (by omega)]
      · rw [if_neg e2, if_neg (by omega)]
  · have e1 : ((wr.alloc o).setCell ⟨ra, i, none⟩ (.slice (some ⟨wr.heap.size, 0, none⟩) m m)).heap.size = (wr.alloc o).heap.size := by simp
    have e2 : (wr.alloc o).heap.size = wr.heap.size + 1 := Go.Deep.nblk_alloc _ _
    rw [e1, e2, hsz]
    omega
theorem TabW.drew (h : TabW w gb ra n m e L R A cp j i wr) : TabW w gb ra n m e L R A cp j i wr.drew := ⟨h.rows.drew, fun v hv => (h.row v hv).drew, h.at_, h.g, below_drew h.below, h.size, h.lo⟩
theorem TabW.next (h : TabW w gb ra n m e L R A cp (i + 1) i wr) (hr : wr.rowIs (ra + 2 + i) 3 m (fun _ => .int .i64 (-1))) : TabW w gb ra n m e L R A cp (i + 1) (i + 1) wr :=
  ⟨h.rows, fun u hu => by
    by_cases e : u = i
    · rw [e]; exact hr
    · exact h.row u (by omega), h.at_, h.g, h.below, h.size, h.lo⟩
end
set_option maxHeartbeats 8000000 in
set_option maxRecDepth 100000 in
theorem col_calls (L R : Int) (E : List (Int × Int)) (A : Option Addr) (c : Nat) (r : List Int × Int) (w : World) (hE : kE.C w A E.length E) (hc : E.length ≤ c) (h : colF L R E = some r) :
    Calls Try.prog 38 #[.agg #[.int .i64 L, .int .i64 R, .slice A E.length c]] w (ColPost w r) := by
  have hm := Kd.C_max hE
  have HE := Aside0.mk hE
  clear hE
  obtain ⟨q, hq⟩ : ∃ q, chk L R E = q := ⟨_, rfl⟩
  have HR := Aside0.mk h
  have HQ := Aside0.mk hq
  clear h hq
  go_enter Try.func38, Try.ntmps38
  go_wp2_with fail
  obtain ⟨n, hn⟩ : ∃ n, n = (L + R).toNat := ⟨_, rfl⟩
  obtain ⟨m, hmm⟩ : ∃ m, m = (degF L E (fun _ => 0) 0).toNat := ⟨_, rfl⟩
  have HN := Aside0.mk hn
  have HM := Aside0.mk hmm
  clear hn hmm
  refine scope_jumps 0 (ColJ w L R E A c n m r) (fun a _ => (E.length - slotInt a 18).toNat) rfl ?_ ?_
  · rintro a wr ⟨gb, gd, pa, ra, po, ro, pe, rb, i, k, T, O, ⟨u, rfl⟩, i0, i1, hl, hs, hb, hok, hm1, he1, hr⟩
    unfold colFrame
    generalize u 7 = u7
    generalize u 8 = u8
    generalize u 9 = u9
    generalize u 10 = u10
    generalize u 12 = u12
    generalize u 13 = u13
    generalize u 19 = u19
    generalize u 20 = u20
    generalize u 21 = u21
    generalize u 22 = u22
    generalize u 23 = u23
    generalize u 24 = u24
    generalize u 25 = u25
    generalize u 26 = u26
    generalize u 27 = u27
    generalize u 28 = u28
    generalize u 29 = u29
    generalize u 30 = u30
    generalize u 31 = u31
    generalize u 32 = u32
    generalize u 33 = u33
    generalize u 34 = u34
    generalize u 35 = u35
    generalize u 36 = u36
    generalize u 37 = u37
    generalize u 38 = u38
    generalize u 39 = u39
    generalize u 40 = u40
    generalize u 41 = u41
    generalize u 42 = u42
    generalize u 43 = u43
    generalize u 44 = u44
    generalize u 45 = u45
    generalize u 46 = u46
    generalize u 47 = u47
    generalize u 48 = u48
    generalize u 49 = u49
    generalize u 50 = u50
    generalize u 51 = u51
    generalize u 52 = u52
    generalize u 53 = u53
    generalize u 54 = u54
    generalize u 55 = u55
    generalize u 56 = u56
    generalize u 57 = u57
    generalize u 58 = u58
    generalize u 59 = u59
    generalize u 60 = u60
    generalize u 61 = u61
    generalize u 62 = u62
    generalize u 63 = u63
    generalize u 64 = u64
    generalize u 65 = u65
    generalize u 66 = u66
    generalize u 67 = u67
    generalize u 68 = u68
    generalize u 69 = u69
    generalize u 70 = u70
    generalize u 71 = u71
    generalize u 72 = u72
    generalize u 73 = u73
    generalize u 74 = u74
    generalize u 75 = u75
    generalize u 76 = u76
    generalize u 77 = u77
    generalize u 78 = u78
    generalize u 79 = u79
    generalize u 80 = u80
    generalize u 81 = u81
    generalize u 82 = u82
    generalize u 83 = u83
    generalize u 84 = u84
    generalize u 85 = u85
    generalize u 86 = u86
    generalize u 87 = u87
    generalize u 88 = u88
    generalize u 89 = u89
    generalize u 90 = u90
    generalize u 91 = u91
    generalize u 92 = u92
    generalize u 93 = u93
    generalize u 94 = u94
    generalize u 95 = u95
    generalize u 96 = u96
    generalize u 97 = u97
    generalize u 98 = u98
    generalize u 99 = u99
    generalize u 100 = u100
    generalize u 101 = u101
    generalize u 102 = u102
    generalize u 103 = u103
    generalize u 104 = u104
    generalize u 105 = u105
    generalize u 106 = u106
    generalize u 107 = u107
    generalize u 108 = u108
    generalize u 109 = u109
    generalize u 110 = u110
    generalize u 111 = u111
    generalize u 112 = u112
    generalize u 113 = u113
    generalize u 114 = u114
    generalize u 115 = u115
    generalize u 116 = u116
    generalize u 117 = u117
    generalize u 118 = u118
    generalize u 119 = u119
    generalize u 120 = u120
    generalize u 121 = u121
    generalize u 122 = u122
    generalize u 123 = u123
    generalize u 124 = u124
    generalize u 125 = u125
    generalize u 126 = u126
    generalize u 127 = u127
    generalize u 128 = u128
    generalize u 129 = u129
    generalize u 130 = u130
    generalize u 131 = u131
    generalize u 132 = u132
    generalize u 133 = u133
    generalize u 134 = u134
    generalize u 135 = u135
    generalize u 136 = u136
    generalize u 137 = u137
    generalize u 138 = u138
    generalize u 139 = u139
    generalize u 140 = u140
    generalize u 141 = u141
    generalize u 142 = u142
    generalize u 143 = u143
    generalize u 144 = u144
    generalize u 145 = u145
    generalize u 146 = u146
    generalize u 147 = u147
    generalize u 148 = u148
    generalize u 149 = u149
    generalize u 150 = u150
    generalize u 151 = u151
    generalize u 152 = u152
    clear u
    have LL := Aside0.mk hl
    have HS := Aside0.mk hs
    have HB := Aside0.mk hb
    have OK := Aside0.mk hok
    have g2 := hs.cG.2.2
    clear hl hs hb hok HQ HR HN HM
    by_cases hlt : i < E.length
    · cases k with
      | zero => exact absurd hr (by simp [mainF])
      | succ k =>
        unfold mainF at hr
        rw [if_pos hlt] at hr
        have hx := OK.out.2.2.2 i i0 hlt
        have hends := ends_at E wr i HS.out (Kd.C_below HE.out HB.out) i0 hlt OK.out
        obtain ⟨x, hxx⟩ : ∃ x, eX E i = x := ⟨_, rfl⟩
        obtain ⟨y, hyy⟩ : ∃ y, eY L E i = y := ⟨_, rfl⟩
        rw [hxx, hyy] at hx hends hr
        clear hxx hyy
        cases ha : missF m (T x) (2 * E.length + 5) 0 with
        | none => rw [ha] at hr; exact absurd hr (by simp)
        | some a =>
        cases hb : missF m (T y) (2 * E.length + 5) 0 with
        | none => rw [ha, hb] at hr; exact absurd hr (by simp)
        | some b =>
        rw [ha, hb] at hr
        simp only [Option.bind_some] at hr
        have hra := missF_rng ha (by omega)
        have hrb := missF_rng hb (by omega)
        have x0 : 0 ≤ x := hx.1
        have x1 : x < n := by omega
        have y0 : 0 ≤ y := by omega
        have y1 : y < n := hx.2.2.2.1
        have xy : x ≠ y := by omega
        have a0 : 0 ≤ a := hra.1
        have a1 : a < m := hra.2
        have HA := Aside0.mk ha
        have HBb := Aside0.mk hb
        have HRB := Aside0.mk hrb
        have HX := Aside0.mk hx
        have HC := Aside0.mk hends
        have cE := HS.out.cE
        have nxy : rb x ≠ rb y := fun h => xy (LL.out.dd x y x0 x1 y0 y1 h)
        have nyx := nxy.symm
        clear ha hb hra hrb hx hends
        by_cases hab : a = b
        · rw [if_pos hab] at hr
          have HR := Aside0.mk hr
          have hab1 : (a != b) = false := by simpa using hab
          have HAB := Aside0.mk hab
          clear hr hab
          go_wp2_with (first | (go_at_call 47; refine HC.out.mono ?_; rintro e1 w1 ⟨rfl, hd⟩; have HS1 : Aside0 (St n m E.length gb pa ra po ro pe rb L R A c T O w1) := ⟨by obtain ⟨nd, rfl⟩ := hd; exact HS.out.drewN nd⟩; have HB1 : Aside0 (Below w.heap.size w w1) := ⟨by obtain ⟨nd, rfl⟩ := hd; exact pw_below_drewN HB.out nd⟩; clear hd cE g2) | (go_at_call_of 48 (Value.int .i64 x); refine (missing_calls w1 x (2 * E.length + 5) a HS1.out x0 x1 hm1 HA.out).mono ?_; rintro e2 w2 ⟨rfl, hd⟩; have HS2 : Aside0 (St n m E.length gb pa ra po ro pe rb L R A c T O w2) := ⟨by obtain ⟨nd, rfl⟩ := hd; exact HS1.out.drewN nd⟩; have HB2 : Aside0 (Below w.heap.size w w2) := ⟨by obtain ⟨nd, rfl⟩ := hd; exact pw_below_drewN HB1.out nd⟩; clear hd) | (go_at_call_of 48 (Value.int .i64 y); refine (missing_calls w2 y (2 * E.length + 5) b HS2.out y0 y1 hm1 HBb.out).mono ?_; rintro e3 w3 ⟨rfl, hd⟩; have HS3 : Aside0 (St n m E.length gb pa ra po ro pe rb L R A c T O w3) := ⟨by obtain ⟨nd, rfl⟩ := hd; exact HS2.out.drewN nd⟩; have HB3 : Aside0 (Below w.heap.size w w3) := ⟨by obtain ⟨nd, rfl⟩ := hd; exact pw_below_drewN HB2.out nd⟩; clear hd))
          have cA := HS3.out.cA
          have cX := HS3.out.cR x x0 x1
          have cY := HS3.out.cR y y0 y1
          have tX := HS3.out.cT x a x0 x1 a0 a1
          have tY := HS3.out.cT y a y0 y1 a0 a1
          have fX := HS3.out.fT x a x0 x1
          have fY := HS3.out.fT y a y0 y1
          clear xy
          go_wp2
          go_region
          clear cA cX cY tX tY fX fY
          have HS4 : Aside0 (St n m E.length gb pa ra po ro pe rb L R A c (upd (upd T x a i) y a i) O ((w3.setCell ⟨rb x, a.toNat, none⟩ (.int .i64 i)).setCell ⟨rb y, a.toNat, none⟩ (.int .i64 i))) := ⟨(HS3.out.put LL.out x a i x0 x1 a0).put LL.out y a i y0 y1 a0⟩
          have HB4 : Aside0 (Below w.heap.size w ((w3.setCell ⟨rb x, a.toNat, none⟩ (.int .i64 i)).setCell ⟨rb y, a.toNat, none⟩ (.int .i64 i))) := ⟨below_set (below_set (HB3.out) (LL.out.bb.2 x x0 x1)) (LL.out.bb.2 y y0 y1)⟩
          generalize (w3.setCell ⟨rb x, a.toNat, none⟩ (.int .i64 i)).setCell ⟨rb y, a.toNat, none⟩ (.int .i64 i) = w4 at *
          have cO := HS4.out.cO
          have cOut := HS4.out.cOut i i0 hlt
          have fO := HS4.out.fO i
          have hi1 : i + 1 ≤ E.length := by omega
          have hw1 : wrap64 (i + 1) = i + 1 := by unfold wrap64; omega
          go_wp2
          go_step3
          refine ⟨rfl, ⟨gb, gd, pa, ra, po, ro, pe, rb, i + 1, k, _, _, frame_u _ (by first | rfl | (rw [hw1]; rfl)), by omega, hi1, LL.out, (HS4.out.putO LL.out i a i0).same (fun k hk => rfl), below_drew (below_set HB4.out LL.out.bb.1), OK.out, hm1, he1, HR.out⟩, ?_⟩
          simp [slotInt]
          omega
        · rw [if_neg hab] at hr
          cases hf : flipF n m E.length (eX E) (eY L E) (2 * E.length + 5) T O y a b with
          | none => rw [hf] at hr; exact absurd hr (by simp)
          | some s =>
          rw [hf] at hr
          simp only [Option.bind_some] at hr
          obtain ⟨T3, O3⟩ := s
          have HR := Aside0.mk hr
          have HF := Aside0.mk hf
          have hab1 : (a != b) = true := by simpa using hab
          have HAB := Aside0.mk hab
          clear hr hf hab
          go_wp2_with (first | (go_at_call 47; refine HC.out.mono ?_; rintro e1 w1 ⟨rfl, hd⟩; have HS1 : Aside0 (St n m E.length gb pa ra po ro pe rb L R A c T O w1) := ⟨by obtain ⟨nd, rfl⟩ := hd; exact HS.out.drewN nd⟩; have HB1 : Aside0 (Below w.heap.size w w1) := ⟨by obtain ⟨nd, rfl⟩ := hd; exact pw_below_drewN HB.out nd⟩; clear hd cE g2) | (go_at_call_of 48 (Value.int .i64 x); refine (missing_calls w1 x (2 * E.length + 5) a HS1.out x0 x1 hm1 HA.out).mono ?_; rintro e2 w2 ⟨rfl, hd⟩; have HS2 : Aside0 (St n m E.length gb pa ra po ro pe rb L R A c T O w2) := ⟨by obtain ⟨nd, rfl⟩ := hd; exact HS1.out.drewN nd⟩; have HB2 : Aside0 (Below w.heap.size w w2) := ⟨by obtain ⟨nd, rfl⟩ := hd; exact pw_below_drewN HB1.out nd⟩; clear hd) | (go_at_call_of 48 (Value.int .i64 y); refine (missing_calls w2 y (2 * E.length + 5) b HS2.out y0 y1 hm1 HBb.out).mono ?_; rintro e3 wz ⟨rfl, hd⟩; have HSz : Aside0 (St n m E.length gb pa ra po ro pe rb L R A c T O wz) := ⟨by obtain ⟨nd, rfl⟩ := hd; exact HS2.out.drewN nd⟩; have HBz : Aside0 (Below w.heap.size w wz) := ⟨by obtain ⟨nd, rfl⟩ := hd; exact pw_below_drewN HB2.out nd⟩; clear hd) | (go_at_call 49; refine (flip_calls w E wz y a b (2 * E.length + 5) (T3, O3) LL.out HSz.out HE.out HBz.out OK.out hm1 (by omega) ⟨a0, a1, HRB.out.1, HRB.out.2⟩ HF.out).mono ?_; rintro e5 w3 ⟨rfl, hs5, hb5⟩; have HS5 := Aside0.mk hs5; have HB5 := Aside0.mk hb5; clear hs5 hb5))
          have cA := HS5.out.cA
          have cX := HS5.out.cR x x0 x1
          have cY := HS5.out.cR y y0 y1
          have tX := HS5.out.cT x a x0 x1 a0 a1
          have tY := HS5.out.cT y a y0 y1 a0 a1
          have fX := HS5.out.fT x a x0 x1
          have fY := HS5.out.fT y a y0 y1
          clear xy
          go_wp2
          go_region
          clear cA cX cY tX tY fX fY
          have HS4 : Aside0 (St n m E.length gb pa ra po ro pe rb L R A c (upd (upd T3 x a i) y a i) O3 ((w3.setCell ⟨rb x, a.toNat, none⟩ (.int .i64 i)).setCell ⟨rb y, a.toNat, none⟩ (.int .i64 i))) := ⟨(HS5.out.put LL.out x a i x0 x1 a0).put LL.out y a i y0 y1 a0⟩
          have HB4 : Aside0 (Below w.heap.size w ((w3.setCell ⟨rb x, a.toNat, none⟩ (.int .i64 i)).setCell ⟨rb y, a.toNat, none⟩ (.int .i64 i))) := ⟨below_set (below_set (HB5.out) (LL.out.bb.2 x x0 x1)) (LL.out.bb.2 y y0 y1)⟩
          generalize (w3.setCell ⟨rb x, a.toNat, none⟩ (.int .i64 i)).setCell ⟨rb y, a.toNat, none⟩ (.int .i64 i) = w4 at *
          have cO := HS4.out.cO
          have cOut := HS4.out.cOut i i0 hlt
          have fO := HS4.out.fO i
          have hi1 : i + 1 ≤ E.length := by omega
          have hw1 : wrap64 (i + 1) = i + 1 := by unfold wrap64; omega
          go_wp2
          go_step3
          refine ⟨rfl, ⟨gb, gd, pa, ra, po, ro, pe, rb, i + 1, k, _, _, frame_u _ (by first | rfl | (rw [hw1]; rfl)), by omega, hi1, LL.out, (HS4.out.putO LL.out i a i0).same (fun k hk => rfl), below_drew (below_set HB4.out LL.out.bb.1), OK.out, hm1, he1, HR.out⟩, ?_⟩
          simp [slotInt]
          omega
    · have hie : i = E.length := by omega
      subst hie
      have hb1 : decide ((E.length : Int) < (E.length : Int)) = false := by simp
      cases k with
      | zero => exact absurd hr (by simp [mainF])
      | succ k =>
        unfold mainF at hr
        rw [if_neg hlt] at hr
        obtain rfl := Option.some.inj hr
        have cO := HS.out.cO
        clear hlt hr
        go_wp2
        simp only [Exit.jump]
        go_ret2
        refine ⟨.slice (some ⟨ro, 0, none⟩) E.length E.length, rfl, ?_, HB.out⟩
        have := (row_of HS.out.orow).R (base := w.heap.size) (ok := fun _ => True) LL.out.bb.1 (by simp; omega) trivial
        simpa using this
  · intro hpass
    go_wp2_with fail
    have kb := blk_new w (.cells #[Value.int IntKind.i64 L, Value.int IntKind.i64 R, Value.slice A E.length c] 33)
    have bel := below_alloc (Below.refl w.heap.size w) (.cells #[Value.int IntKind.i64 L, Value.int IntKind.i64 R, Value.slice A E.length c] 33)
    have HE1 := Aside0.mk (Kd.C_below HE.out bel)
    refine (check_any L R E A c _ HE1.out hc).mono ?_
    rintro e w1 ⟨rfl, b1⟩
    rw [HQ.out]
    replace kb := blk_below kb b1
    replace bel := below_step bel b1
    clear b1 HE1
    obtain ⟨gb, hgb⟩ : ∃ gb, w.heap.size = gb := ⟨_, rfl⟩
    rw [hgb] at kb
    have g0 : w1.cell? ⟨gb, 0, none⟩ = some (.int .i64 L) := (blk_cell kb 0).trans rfl
    have g1 : w1.cell? ⟨gb, 1, none⟩ = some (.int .i64 R) := (blk_cell kb 1).trans rfl
    have g2 : w1.cell? ⟨gb, 2, none⟩ = some (.slice A E.length c) := (blk_cell kb 2).trans rfl
    rw [hgb]
    by_cases hq0 : q = 0
    case neg =>
      have hb : (q != 0) = true := by simpa using hq0
      have h1 := HR.out
      unfold colF at h1
      rw [HQ.out, if_neg hq0] at h1
      cases h1
      have HX := Aside0.mk hq0
      have HBL := Aside0.mk bel
      clear hq0 bel
      go_wp2
      simp only [Exit.jump]
      go_ret2
      exact ⟨.slice none 0 0, rfl, Kd.R_nil _ _ _ _ _, HBL.out⟩
    subst hq0
    have h1 := HR.out
    unfold colF at h1
    rw [HQ.out, if_pos rfl] at h1
    replace HR := Aside0.mk h1
    clear h1
    have hLR : 0 ≤ L ∧ L ≤ 1024 ∧ 0 ≤ R ∧ R ≤ 1024 ∧ E.length ≤ 65536 := by
      have h := HQ.out
      unfold chk at h
      split at h
      · omega
      · split at h
        · omega
        · omega
    have hn : L + R = n := by have := HN.out; omega
    have HLR := Aside0.mk hLR
    obtain ⟨l0, l1, r0, r1, el⟩ := hLR
    have hmk := run_make_row' (P := Try.prog) 29 3 (.int .i64 0) 8 Try.underlying29 info3 rfl .i64 .i64 n (by omega) (by omega)
    have hmk0 := run_make_row' (P := Try.prog) 69 29 (.slice none 0 0) 24 Try.underlying69 info29 rfl .i64 .i64 n (by omega) (by omega)
    rw [← hn] at hmk hmk0
    obtain ⟨gd, hgd⟩ : ∃ gd, w1.heap.size = gd := ⟨_, rfl⟩
    have rd0 := World.rowIs_made w1 (.int .i64 0) n 3
    have kb1 := blk_alloc kb (.cells (madeCells #[.int .i64 0] n) 3)
    have bel1 := below_alloc bel (.cells (madeCells #[.int .i64 0] n) 3)
    have lgd := blk_lt kb
    rw [hgd] at rd0 lgd
    have HGD := Aside0.mk lgd
    have HNN := Aside0.mk hn
    have HGB := Aside0.mk hgb
    clear lgd hn hgb
    have g0' : (w1.alloc (.cells (madeCells #[.int .i64 0] n) 3)).cell? ⟨gb, 2, none⟩ = some (.slice A E.length c) := (blk_cell kb1 2).trans rfl
    go_wp2_with fail
    have hok : EndsOK L n E.length E := by
      refine ⟨l0, l1, by have := HNN.out; omega, fun j j0 j1 => ?_⟩
      have h := HQ.out
      unfold chk at h
      split at h
      · omega
      · split at h
        · omega
        · have := chkGo_rng' L R E none h (rdE E j) (by unfold rdE; rw [List.getD_eq_getElem?_getD, List.getElem?_eq_getElem (by omega)]; exact List.getElem_mem _)
          unfold eX eY
          have h2 := HNN.out
          omega
    have OK := Aside0.mk hok
    generalize w1.alloc (.cells (madeCells #[.int .i64 0] n) 3) = W4 at *
    clear hgd kb bel g0 g1 g2 hok
    obtain ⟨M, hM⟩ : ∃ M, degF L E (fun _ => 0) 0 = M := ⟨_, rfl⟩
    have HMM := Aside0.mk hM
    rw [hM] at HM HR
    clear hM
    go_loopg [6, 37] (E.length + 1) (fun kq v6 v37 wr => ∃ (i mo : Int) (D : Int → Int), v6 = .int .i64 mo ∧ v37 = .int .i64 i ∧ Aside0 (0 ≤ i ∧ i ≤ E.length ∧ (E.length : Int) < i + kq ∧ degF L (E.drop i.toNat) D mo = M ∧ (∀ v, 0 ≤ D v ∧ D v ≤ 2 * i) ∧ 0 ≤ mo ∧ mo ≤ 2 * i) ∧ Aside0 (wr.rowIs gd 3 n (fun v => .int .i64 (D v))) ∧ Aside0 (Below w.heap.size w wr ∧ wr.heap[gb]? = some (.cells #[.int .i64 L, .int .i64 R, .slice A E.length c] 33 (0, 0))))
    case atStart => exact ⟨0, 0, fun _ => 0, rfl, rfl, ⟨by omega, by omega, by omega, by simpa using HMM.out, fun v => ⟨by simp, by simp⟩, by omega, by omega⟩, ⟨rd0⟩, ⟨bel1, kb1⟩⟩
    case round =>
      clear rd0 bel1 kb1 g0'
      obtain ⟨i, mo, D, rfl, rfl, HA, HD, HW⟩ := hrel
      have i0 : 0 ≤ i := HA.out.1
      by_cases hlt : i < E.length
      · obtain ⟨ad, eA, hx0, hx1⟩ := at_E (Kd.C_below HE.out HW.out.1) i i0 hlt
        subst eA
        have hdr : E.drop i.toNat = rdE E i :: E.drop (i + 1).toNat := by
          rw [show (i + 1).toNat = i.toNat + 1 by omega, List.drop_eq_getElem_cons (by omega)]
          unfold rdE
          rw [List.getD_eq_getElem?_getD, List.getElem?_eq_getElem (by omega)]
          rfl
        have hg := OK.out.2.2.2 i i0 hlt
        unfold eX eY at hg
        have hdeg := HA.out.2.2.2.1
        rw [hdr] at hdeg
        unfold degF at hdeg
        obtain ⟨x, hX⟩ : ∃ x, rdE E i = x := ⟨_, rfl⟩
        rw [hX] at hx0 hx1 hg hdeg
        obtain ⟨x0, x1⟩ := x
        simp only at hx0 hx1 hg hdeg
        have HG := Aside0.mk hdeg
        have hgb2 := HW.out.2
        have c0 : wr.cell? ⟨gb, 0, none⟩ = some (.int .i64 L) := (blk_cell hgb2 0).trans rfl
        clear hX hdr hdeg
        have ngx : gb ≠ wr.heap.size := Nat.ne_of_lt (blk_lt hgb2)
        have ngx2 := ngx.symm
        go_wp2_with ((with_reducible refine gate_dst (N := 8) rfl ?_); refine box_event ?hg (N := 8) ?hd (cs := #[.int .i64 0, .int .i64 0]) (t := 40) ?hr ?_; (case hd => rfl); (case hg => rfl); (case hr => first | (go_simp; done) | (go_simp; rfl)); intro gx hgx w5 hbox hb; (try have z0 : w5.cell? ⟨gx, 0, none⟩ = some (.int .i64 0) := (blk_cell hbox 0).trans rfl); (try have z1 : w5.cell? ⟨gx, 1, none⟩ = some (.int .i64 0) := (blk_cell hbox 1).trans rfl); (try have f0 := blk_frozen hbox 0); (try have f1 := blk_frozen hbox 1); (try have k0 : w5.cell? ⟨gb, 0, none⟩ = some (.int .i64 L) := (blk_cell (blk_below hgb2 hb) 0).trans rfl); (try have ngy : gb ≠ gx := by (rw [hgx]; exact Nat.ne_of_lt (blk_lt hgb2))); (try have ngy2 := ngy.symm); (try have HBX := Aside0.mk hbox); (try have HB5 := Aside0.mk hb); (try have HGX := Aside0.mk hgx); (try clear hbox hb hgx c0))
        have gxw : w.heap.size ≤ gx := by rw [HGX.out]; exact HW.out.1.size
        have gdx : gd ≠ gx := by rw [HGX.out]; exact Nat.ne_of_lt HD.out.lt
        have HD6 := Aside0.mk ((((HD.out.of_block (HB5.out.block gd HD.out.lt)).setOther (a := ⟨gx, 0, none⟩) gdx (.int .i64 x0)).setOther (a := ⟨gx, 1, none⟩) gdx (.int .i64 x1)).alloc (.cells #[.int .i64 x0, .int .i64 (L + x1)] 3))
        have HG6 := Aside0.mk (blk_alloc (blk_far (p := ⟨gx, 1, none⟩) (blk_far (p := ⟨gx, 0, none⟩) (blk_below hgb2 HB5.out) ngy (.int .i64 x0)) ngy (.int .i64 x1)) (.cells #[.int .i64 x0, .int .i64 (L + x1)] 3))
        have HB6 : Aside0 (Below w.heap.size w (((w5.setCell ⟨gx, 0, none⟩ (.int .i64 x0)).setCell ⟨gx, 1, none⟩ (.int .i64 x1)).alloc (.cells #[.int .i64 x0, .int .i64 (L + x1)] 3))) := ⟨below_alloc (below_set (below_set (below_step HW.out.1 HB5.out) gxw) gxw) _⟩
        have HR6 : Aside0 (Row (((w5.setCell ⟨gx, 0, none⟩ (.int .i64 x0)).setCell ⟨gx, 1, none⟩ (.int .i64 x1)).alloc (.cells #[.int .i64 x0, .int .i64 (L + x1)] 3)) w5.heap.size [x0, L + x1]) := ⟨by
          have := blk_new ((w5.setCell ⟨gx, 0, none⟩ (.int .i64 x0)).setCell ⟨gx, 1, none⟩ (.int .i64 x1)) (.cells #[.int .i64 x0, .int .i64 (L + x1)] 3)
          simpa [Row] using this⟩
        generalize ((w5.setCell ⟨gx, 0, none⟩ (.int .i64 x0)).setCell ⟨gx, 1, none⟩ (.int .i64 x1)).alloc (.cells #[.int .i64 x0, .int .i64 (L + x1)] 3) = W6 at *
        have hgq : gd < w5.heap.size := Nat.lt_of_lt_of_le HD.out.lt HB5.out.size
        generalize w5.heap.size = gq at *
        have HGQ := Aside0.mk hgq
        clear hgq
        have HLT := Aside0.mk hlt
        obtain ⟨g1, hg1⟩ : ∃ g1, gk = g1 + 1 := ⟨gk - 1, by have := HA.out.2.2.1; omega⟩
        subst hg1
        clear z0 z1 f0 f1 k0 HBX HB5 HGX hx0 hx1 hgb2 ngx ngx2 ngy ngy2 gdx gxw HD HW
        go_loopg [6, 50] 3 (fun kq v6 v50 wv => ∃ (s mo' : Int) (D' : Int → Int), v6 = .int .i64 mo' ∧ v50 = .int .i64 s ∧ Aside0 (0 ≤ s ∧ s ≤ 2 ∧ 2 < s + kq ∧ degS ([x0, L + x1].drop s.toNat) D' mo' = degS [x0, L + x1] D mo ∧ (∀ v, 0 ≤ D' v ∧ D' v ≤ 2 * i + s) ∧ 0 ≤ mo' ∧ mo' ≤ 2 * i + s) ∧ Aside0 (wv.rowIs gd 3 n (fun v => .int .i64 (D' v))) ∧ Aside0 (Below w.heap.size w wv ∧ wv.heap[gb]? = some (.cells #[.int .i64 L, .int .i64 R, .slice (some ad) E.length c] 33 (0, 0)) ∧ Row wv gq [x0, L + x1]))
        case atStart => exact ⟨0, mo, D, rfl, rfl, ⟨by omega, by omega, by omega, by simp, fun v => by have := HA.out.2.2.2.2.1 v; omega, by have := HA.out.2.2.2.2.2; omega, by have := HA.out.2.2.2.2.2; omega⟩, HD6, ⟨HB6.out, HG6.out, HR6.out⟩⟩
        case round =>
          clear HD6 HB6 HG6 HR6
          obtain ⟨s, mo', D', rfl, rfl, HA2, HD, HW⟩ := hrel
          have s0 : 0 ≤ s := HA2.out.1
          by_cases hs : s < 2
          · have cq := HW.out.2.2.cell s s0 (by simp; omega)
            have hds : [x0, L + x1].drop s.toNat = rd [x0, L + x1] s :: [x0, L + x1].drop (s + 1).toNat := by
              rw [show (s + 1).toNat = s.toNat + 1 by omega, List.drop_eq_getElem_cons (by simp; omega)]
              unfold rd
              rw [List.getD_eq_getElem?_getD, List.getElem?_eq_getElem (by simp; omega)]
              rfl
            have hrv : 0 ≤ rd [x0, L + x1] s ∧ rd [x0, L + x1] s < n := by
              have : s = 0 ∨ s = 1 := by omega
              rcases this with rfl | rfl
              · show 0 ≤ x0 ∧ x0 < (n : Int); omega
              · show 0 ≤ L + x1 ∧ L + x1 < (n : Int); omega
            have hdg : degS ([x0, L + x1].drop (s + 1).toNat) (updO D' (rd [x0, L + x1] s) (D' (rd [x0, L + x1] s) + 1)) (if mo' < D' (rd [x0, L + x1] s) + 1 then D' (rd [x0, L + x1] s) + 1 else mo') = degS [x0, L + x1] D mo := by
              have := HA2.out.2.2.2.1
              rw [hds] at this
              exact this
            obtain ⟨v, hv⟩ : ∃ v, rd [x0, L + x1] s = v := ⟨_, rfl⟩
            rw [hv] at cq hdg hrv
            obtain ⟨v0, v1⟩ := hrv
            have hDv := HA2.out.2.2.2.2.1 v
            have hmo := HA2.out.2.2.2.2.2
            have hil : i ≤ 65536 := by have := HA.out.2.1; omega
            have cd := HD.out.cell (i := v.toNat) (by omega)
            rw [show ((v.toNat : Nat) : Int) = v by omega] at cd
            have fd := HD.out.frozen v.toNat
            have hlen : decide (s < 2) = true := by simpa using hs
            obtain ⟨dv, hdv⟩ : ∃ dv, D' v = dv := ⟨_, rfl⟩
            rw [hdv] at cd hdg hDv
            clear hds hv
            by_cases hmx : mo' < dv + 1
            · rw [if_pos hmx] at hdg
              have HDG := Aside0.mk hdg
              have HDV := Aside0.mk hdv
              clear hdg hdv
              go_wp2
              go_roundg (gk - 1)
              case measure => have := HA2.out.2.2.1; omega
              case rel =>
                refine ⟨s + 1, _, updO D' v (dv + 1), rfl, by go_num, ⟨by omega, by omega, by have := HA2.out.2.2.1; omega, HDG.out, fun z => ?_, by omega, by omega⟩, ⟨(HD.out.set v.toNat (.int .i64 (dv + 1))).congr fun j hj => ?_⟩, ⟨below_set HW.out.1 (by have := HGB.out; have := HGD.out; show w.heap.size ≤ gd; omega), blk_far HW.out.2.1 (by have := HGD.out; show gb ≠ gd; omega) _, HW.out.2.2.far (by have := HGQ.out; show gq ≠ gd; omega) _⟩⟩
                · have := HA2.out.2.2.2.2.1 z
                  unfold updO
                  by_cases e : z = v
                  · rw [if_pos e]; omega
                  · rw [if_neg e]; omega
                · unfold updO
                  by_cases e : j = v.toNat
                  · rw [if_pos e, if_pos (by omega)]
                  · rw [if_neg e, if_neg (by omega)]
            · rw [if_neg hmx] at hdg
              have HDG := Aside0.mk hdg
              have HDV := Aside0.mk hdv
              clear hdg hdv
              go_wp2
              go_roundg (gk - 1)
              case measure => have := HA2.out.2.2.1; omega
              case rel =>
                refine ⟨s + 1, _, updO D' v (dv + 1), rfl, by go_num, ⟨by omega, by omega, by have := HA2.out.2.2.1; omega, HDG.out, fun z => ?_, by omega, by omega⟩, ⟨(HD.out.set v.toNat (.int .i64 (dv + 1))).congr fun j hj => ?_⟩, ⟨below_set HW.out.1 (by have := HGB.out; have := HGD.out; show w.heap.size ≤ gd; omega), blk_far HW.out.2.1 (by have := HGD.out; show gb ≠ gd; omega) _, HW.out.2.2.far (by have := HGQ.out; show gq ≠ gd; omega) _⟩⟩
                · have := HA2.out.2.2.2.2.1 z
                  unfold updO
                  by_cases e : z = v
                  · rw [if_pos e]; omega
                  · rw [if_neg e]; omega
                · unfold updO
                  by_cases e : j = v.toNat
                  · rw [if_pos e, if_pos (by omega)]
                  · rw [if_neg e, if_neg (by omega)]
          · have hds : [x0, L + x1].drop s.toNat = [] := List.drop_eq_nil_of_le (by simp; omega)
            have hdg : (D', mo') = degS [x0, L + x1] D mo := by
              have := HA2.out.2.2.2.1
              rw [hds] at this
              exact this
            rw [← hdg] at HG
            have hs2 : s = 2 := by have := HA2.out.2.1; omega
            subst hs2
            have hd2 : decide ((2 : Int) < 2) = false := by simp
            have hil : i + 1 ≤ E.length := by have := HLT.out; omega
            clear hdg hs hds
            go_wp2
            go_roundg g1
            case measure => omega
            case rel => exact ⟨i + 1, mo', D', rfl, by go_num, ⟨by omega, by omega, by have := HA.out.2.2.1; omega, HG.out, fun z => by have := HA2.out.2.2.2.2.1 z; omega, by have := HA2.out.2.2.2.2.2; omega, by have := HA2.out.2.2.2.2.2; omega⟩, HD, ⟨HW.out.1, HW.out.2.1⟩⟩
      · have hie : i = E.length := by have := HA.out.2.1; omega
        subst hie
        have hmM : mo = M := by
          have h1 := HA.out.2.2.2.1
          rw [show (E.length : Int).toNat = E.length by omega, List.drop_length] at h1
          exact h1
        have hmo : mo = m := by
          have := HM.out
          have := HA.out.2.2.2.2.2
          omega
        have HMm : Aside0 (M = m) := ⟨by omega⟩
        subst hmo
        clear hmM
        have hm1 : m ≤ 131072 := by have := HA.out.2.2.2.2.2; omega
        have hb1 : decide ((E.length : Int) < (E.length : Int)) = false := by simp
        have hg2 := HW.out.2
        have c0 : wr.cell? ⟨gb, 0, none⟩ = some (.int .i64 L) := (blk_cell hg2 0).trans rfl
        have c1 : wr.cell? ⟨gb, 1, none⟩ = some (.int .i64 R) := (blk_cell hg2 1).trans rfl
        have BEL := Aside0.mk HW.out.1
        have HG2 := Aside0.mk hg2
        have hmk2 := run_make_row' (P := Try.prog) 29 3 (.int .i64 0) 8 Try.underlying29 info3 rfl .i64 .i64 m (by omega) (by omega)
        have hmk3 := run_make_row' (P := Try.prog) 29 3 (.int .i64 0) 8 Try.underlying29 info3 rfl .i64 .i64 E.length (by omega) (by omega)
        clear hmk hlt HA HD HW hg2
        go_wp2_with fail
        obtain ⟨ra, hra⟩ : ∃ ra, wr.heap.size = ra := ⟨_, rfl⟩
        have HT : Aside0 (TabW w gb ra n m E.length L R A c 0 0 ((wr.alloc (.cells (madeCells #[.slice none 0 0] n) 29)).alloc (.cells #[.slice (some ⟨wr.heap.size, 0, none⟩) n n] 69))) := ⟨by
          have b1 := blk_new (wr.alloc (.cells (madeCells #[.slice none 0 0] n) 29)) (.cells #[.slice (some ⟨wr.heap.size, 0, none⟩) n n] 69)
          have e2 : (wr.alloc (.cells (madeCells #[.slice none 0 0] n) 29)).heap.size = ra + 1 := by rw [Go.Deep.nblk_alloc, hra]
          rw [e2, hra] at b1
          have r1 := (World.rowIs_made wr (.slice none 0 0) n 29).alloc (.cells #[.slice (some ⟨wr.heap.size, 0, none⟩) n n] 69)
          rw [hra] at r1 ⊢
          refine ⟨r1.congr fun v hv => by rw [if_neg (by omega)], fun v hv => by omega, b1, blk_alloc (blk_alloc HG2.out _) _, below_alloc (below_alloc BEL.out _) _, ?_, by have := HGB.out; omega, by rw [← hra]; exact blk_lt HG2.out⟩
          rw [Go.Deep.nblk_alloc, Go.Deep.nblk_alloc, hra]⟩
        rw [hra]
        rw [hra] at HT
        generalize (wr.alloc (.cells (madeCells #[.slice none 0 0] n) 29)).alloc (.cells #[.slice (some ⟨ra, 0, none⟩) n n] 69) = W7 at *
        clear c0 c1 hra BEL HG2 hmk0
        go_loopg [76] (n + 1) (fun kq v76 wr => ∃ i : Nat, v76 = .int .i64 i ∧ Aside0 (i ≤ n ∧ n < i + kq) ∧ Aside0 (TabW w gb ra n m E.length L R A c i i wr))
        case atStart => exact ⟨0, rfl, ⟨by omega, by omega⟩, HT⟩
        case round =>
          clear HT
          obtain ⟨i, rfl, HA, HT⟩ := hrel
          by_cases hlt : (i : Int) < n
          · have hin : i < n := by omega
            have cA : wr.cell? ⟨ra + 1, 0, none⟩ = some (.slice (some ⟨ra, 0, none⟩) n n) := (blk_cell HT.out.at_ 0).trans rfl
            have cR := HT.out.rows.cell hin
            rw [if_neg (by omega)] at cR
            have fR := HT.out.rows.frozen i
            have hti : ((i : Nat) : Int).toNat = i := by omega
            have i0 : (0 : Int) ≤ i := by omega
            have nra : ra ≠ ra + 1 := by omega
            have cA2 : (wr.alloc (.cells (madeCells #[.int .i64 0] m) 3)).cell? ⟨ra + 1, 0, none⟩ = some (.slice (some ⟨ra, 0, none⟩) n n) := (blk_cell (blk_alloc HT.out.at_ _) 0).trans rfl
            have cR2 := (HT.out.rows.alloc (.cells (madeCells #[.int .i64 0] m) 3)).cell hin
            rw [if_neg (by omega)] at cR2
            have fR2 := (HT.out.rows.alloc (.cells (madeCells #[.int .i64 0] m) 3)).frozen i
            go_wp2
            go_region
            go_wp2_with fail
            have HT8 := Aside0.mk (HT.out.hang (.cells (madeCells #[.int .i64 0] m) 3)).drew
            have HR8 := Aside0.mk (((World.rowIs_made wr (.int .i64 0) m 3).setOther (a := ⟨ra, i, none⟩) (by have := HT.out.size; show wr.heap.size ≠ ra; omega) (.slice (some ⟨wr.heap.size, 0, none⟩) m m)).drew)
            generalize (((wr.alloc (.cells (madeCells #[.int .i64 0] m) 3)).setCell ⟨ra, i, none⟩ (.slice (some ⟨wr.heap.size, 0, none⟩) m m)).drew) = W8 at *
            obtain ⟨q, hq⟩ : ∃ q, wr.heap.size = q := ⟨_, rfl⟩
            have hq2 : q = ra + 2 + i := by rw [← hq]; exact HT.out.size
            rw [hq] at HR8 ⊢
            have HQ2 := Aside0.mk hq2
            obtain ⟨g1, hg1⟩ : ∃ g1, gk = g1 + 1 := ⟨gk - 1, by have := HA.out; omega⟩
            subst hg1
            have HIN := Aside0.mk hin
            clear hq hq2 cA cR fR cA2 cR2 fR2 HT hlt hin
            go_loopg [89] (m + 1) (fun kq v89 wr => ∃ s : Nat, v89 = .int .i64 s ∧ Aside0 (s ≤ m ∧ m < s + kq) ∧ Aside0 (TabW w gb ra n m E.length L R A c (i + 1) i wr) ∧ Aside0 (wr.rowIs q 3 m (fun c => .int .i64 (if c < s then -1 else 0))))
            case atStart => exact ⟨0, rfl, ⟨by omega, by omega⟩, HT8, ⟨HR8.out.congr fun j hj => by rw [if_neg (by omega)]⟩⟩
            case round =>
              clear HT8 HR8
              obtain ⟨s, rfl, HA2, HT, HR⟩ := hrel
              by_cases hlt : (s : Int) < m
              · have hsm : s < m := by omega
                have cA : wr.cell? ⟨ra + 1, 0, none⟩ = some (.slice (some ⟨ra, 0, none⟩) n n) := (blk_cell HT.out.at_ 0).trans rfl
                have cR := HT.out.rows.cell HIN.out
                rw [if_pos (by omega), ← HQ2.out] at cR
                have cS := HR.out.cell hsm
                have fS := HR.out.frozen s
                have hti2 : ((s : Nat) : Int).toNat = s := by omega
                have s0 : (0 : Int) ≤ s := by omega
                have hin2 : (i : Int) < n := by have := HIN.out; omega
                go_wp2
                go_roundg (gk - 1)
                case measure => have := HA2.out; omega
                case rel => exact ⟨s + 1, by go_num, ⟨by omega, by have := HA2.out; omega⟩, ⟨by rw [HQ2.out]; exact HT.out.far s _⟩, ⟨(HR.out.set s (.int .i64 (-1))).congr fun j hj => by
                  by_cases e : j = s
                  · rw [if_pos e, if_pos (by omega)]
                  · rw [if_neg e]
                    by_cases e2 : j < s
                    · rw [if_pos e2, if_pos (by omega)]
                    · rw [if_neg e2, if_neg (by omega)]⟩⟩
              · have hsm : s = m := by have := HA2.out; omega
                subst hsm
                have hd2 : decide ((s : Int) < (s : Int)) = false := by simp
                have hn2 := OK.out.2.2.1
                have hin3 := HIN.out
                clear hlt
                go_wp2
                go_roundg g1
                case measure => omega
                case rel => exact ⟨i + 1, by go_num, ⟨by have := HIN.out; omega, by have := HA.out; omega⟩, ⟨HT.out.next (by rw [← HQ2.out]; exact HR.out.congr fun j hj => by rw [if_pos hj])⟩⟩
          · have hin : i = n := by have := HA.out; omega
            subst hin
            have hd2 : decide ((i : Int) < (i : Int)) = false := by simp
            have c0 : wr.cell? ⟨gb, 2, none⟩ = some (.slice A E.length c) := (blk_cell HT.out.g 2).trans rfl
            have hgd : gb ≠ gd := by have := HGD.out; omega
            have hmf : ∀ (fn : Fn) (first cap : Array Value) (w : World), (Instr.makeFunc fn first cap).run Try.prog w = .ok (.func fn first cap) w := fun _ _ _ _ => rfl
            clear hlt
            go_wp2_with fail
            go_step3
            obtain ⟨Z, hZ⟩ : ∃ Z, wr.heap.size = Z := ⟨_, rfl⟩
            have hZ2 : Z = ra + 2 + i := by rw [← hZ]; exact HT.out.size
            have e1 : (wr.alloc (.cells (madeCells #[.int .i64 0] E.length) 3)).heap.size = Z + 1 := by rw [Go.Deep.nblk_alloc, hZ]
            have e2 : ((wr.alloc (.cells (madeCells #[.int .i64 0] E.length) 3)).alloc (.cells #[.slice (some ⟨Z, 0, none⟩) E.length E.length] 29)).heap.size = Z + 1 + 1 := by rw [Go.Deep.nblk_alloc, e1]
            have n1 := blk_alloc (blk_new (wr.alloc (.cells (madeCells #[.int .i64 0] E.length) 3)) (.cells #[.slice (some ⟨Z, 0, none⟩) E.length E.length] 29)) (.cells #[.func (.func 47) #[] #[.pointer (some ⟨gb, 0, none⟩)]] 77)
            have n2 := blk_new ((wr.alloc (.cells (madeCells #[.int .i64 0] E.length) 3)).alloc (.cells #[.slice (some ⟨Z, 0, none⟩) E.length E.length] 29)) (.cells #[.func (.func 47) #[] #[.pointer (some ⟨gb, 0, none⟩)]] 77)
            have n3 := ((World.rowIs_made wr (.int .i64 0) E.length 3).alloc (.cells #[.slice (some ⟨Z, 0, none⟩) E.length E.length] 29)).alloc (.cells #[.func (.func 47) #[] #[.pointer (some ⟨gb, 0, none⟩)]] 77)
            rw [e1] at n1
            rw [e2] at n2
            rw [hZ] at n3 ⊢
            have lo := HT.out.lo
            simp only [Exit.then]
            rename_i hK
            refine hK _ _ ?_
            refine hpass _ _ ?_
            refine ⟨gb, gd, ra + 1, ra, Z + 1, Z, Z + 1 + 1, fun v => ra + 2 + v.toNat, 0, E.length + 1, fun _ _ => -1, fun _ => 0, frame_u _ rfl, by omega, by omega, ⟨⟨by omega, fun v v0 v1 => by show w.heap.size ≤ ra + 2 + v.toNat; omega⟩, fun v v0 v1 => ⟨?_, ?_, ?_, ?_, ?_, ?_⟩, fun u v u0 u1 v0 v1 h => ?_, ?_⟩, ⟨blk_alloc (blk_alloc (blk_alloc HT.out.g _) _) _, blk_alloc (blk_alloc (blk_alloc HT.out.at_ _) _) _, (((HT.out.rows.alloc _).alloc _).alloc _).congr fun v hv => ?_, fun v v0 v1 => (((HT.out.row v.toNat (by omega)).alloc _).alloc _).alloc _, n1, n3, n2⟩, below_alloc (below_alloc (below_alloc HT.out.below _) _) _, OK.out, by omega, by omega, ?_⟩
            · show ra + 2 + v.toNat ≠ gb; omega
            · show ra + 2 + v.toNat ≠ ra + 1; omega
            · show ra + 2 + v.toNat ≠ ra; omega
            · show ra + 2 + v.toNat ≠ Z; omega
            · show ra + 2 + v.toNat ≠ Z + 1; omega
            · show ra + 2 + v.toNat ≠ Z + 1 + 1; omega
            · have h' : ra + 2 + u.toNat = ra + 2 + v.toNat := h
              omega
            · exact ⟨by omega, by omega, by omega, by omega, by omega⟩
            · rw [if_pos hv, show ((v : Nat) : Int).toNat = v by omega]
            · have := HR.out
              rw [HNN.out, HMm.out] at this
              exact this
end Go.Proofs.Ytlleokhmgblfnaa.H
end

section
namespace Go.Proofs.Ytlleokhmgblfnaa.M
open Go.RowKit Go.Proofs.YtlleokhmgblfnaaW.PrintWords
def match_Colours.f (a0_0 : Int) (a0_1 : Int) (l0_2 : List S40) : Option (List Int × Int) := H.colF a0_0 a0_1 (l0_2.map prE)
theorem match_Colours.calls (a0_0 : Int) (a0_1 : Int) (A0_2 : Option Addr) (c0_2 : Nat) (l0_2 : List (S40)) (r1 : List Int) (r2 : Int) (w : World) (hr0_2 : Kd.C k40 w A0_2 l0_2.length l0_2) (hc0_2 : l0_2.length ≤ c0_2) (h : match_Colours.f a0_0 a0_1 l0_2 = some (r1, r2)) :
    Calls Try.prog 38 #[.agg #[.int .i64 a0_0, .int .i64 a0_1, .slice A0_2 l0_2.length c0_2]] w fun e w' => ∃ v0_ : Value, e = .returned (.tuple #[v0_, .int .i64 r2]) ∧ Kd.R (Kd.int .i64) 3 w' w.heap.size (fun _ => True) v0_ r1 ∧ Below w.heap.size w w' := by
  unfold match_Colours.f at h
  have hk : H.kE.C w A0_2 l0_2.length (l0_2.map prE) := H.C_iso hr0_2
  have hl : (l0_2.map prE).length = l0_2.length := by simp
  rw [← hl] at hk hc0_2 ⊢
  exact H.col_calls a0_0 a0_1 (l0_2.map prE) A0_2 c0_2 (r1, r2) w hk hc0_2 h
end Go.Proofs.Ytlleokhmgblfnaa.M
end

section
namespace Go.Proofs.Ytlleokhmgblfnaa.M
open Go.RowKit Go.Proofs.YtlleokhmgblfnaaW.PrintWords Go.Proofs.YtlleokhmgblfnaaW.PrintLast Go.Proofs.YtlleokhmgblfnaaW.PrintMore
attribute [local go_sem] max2_int min2_int max_two min_two max_three min_three max_four min_four   -- for this text's walks alone
def toruslaw30_count.l0 : Nat → Int → List Int → Int → Int → Option (Int)
  | 0, _, _, _, _ => none
  | k + 1, x3, x6, x7, x8 => if x8 < x7 then (if 0 ≤ x8 then (if x8 < (x6.length : Int) then (if (rd x6 x8) = (-1) then (toruslaw30_count.l0 k x3 x6 x7 (wrap64 (x8 + 1))) else (toruslaw30_count.l0 k (wrap64 (x3 + 1)) x6 x7 (wrap64 (x8 + 1)))) else (none)) else (none)) else (some x3)
def toruslaw30_count.f (k : Nat) (l0 : List Int) : Option (Int) := toruslaw30_count.l0 k 0 l0 (l0.length : Int) 0
theorem toruslaw30_count.mono_l : ∀ k, (∀ y0 y1 y2 y3, LeO (toruslaw30_count.l0 k y0 y1 y2 y3) (toruslaw30_count.l0 (k + 1) y0 y1 y2 y3))
  | 0 => fun _ _ _ _ r h => by simp [toruslaw30_count.l0] at h
  | k + 1 => by
    have ih0 := toruslaw30_count.mono_l k
    · intro y0 y1 y2 y3
      unfold toruslaw30_count.l0
      repeat' first
      | (with_reducible exact ih0 _ _ _ _)
      | (with_reducible exact LeO.refl _)
      | (with_reducible exact LeO.none _)
      | (with_reducible refine LeO.ite ?_ ?_)
      | (with_reducible refine LeO.bind ?_ (fun _ => ?_))
      | exact ih0 _ _ _ _
      | exact LeO.none _
      | refine LeO.ite ?_ ?_
      | refine LeO.bind ?_ (fun _ => ?_)
theorem toruslaw30_count.mono : ∀ a0 k, LeO (toruslaw30_count.f k a0) (toruslaw30_count.f (k + 1) a0) := by
  intro a0 k
  have ih0 := toruslaw30_count.mono_l k
  unfold toruslaw30_count.f
  repeat' first
      | (with_reducible exact ih0 _ _ _ _)
      | (with_reducible exact LeO.refl _)
      | (with_reducible exact LeO.none _)
      | (with_reducible refine LeO.ite ?_ ?_)
      | (with_reducible refine LeO.bind ?_ (fun _ => ?_))
      | exact ih0 _ _ _ _
      | exact LeO.none _
      | refine LeO.ite ?_ ?_
      | refine LeO.bind ?_ (fun _ => ?_)
set_option maxHeartbeats 8000000 in
set_option maxRecDepth 100000 in
theorem toruslaw30_count.calls (k : Nat) (A0 : Option Addr) (c0 : Nat) (l0 : List Int) (r : Int) (w : World) (hr0 : Kd.C (Kd.int .i64) w A0 l0.length l0) (hc0 : l0.length ≤ c0) (h : toruslaw30_count.f k l0 = some r) :
    Calls Try.prog 36 #[.slice A0 l0.length c0] w fun e w' => e = .returned (.int .i64 r) ∧ Drawn0 w w' := by
  have HR0 := Aside0.mk hr0
  have HC0 := Aside0.mk hc0
  clear hr0 hc0
  have H : (toruslaw30_count.l0 k 0 l0 (l0.length : Int) 0) = some r := h
  clear h
  have H' := Aside0.mk H
  clear H
  go_enter Try.func36, Try.ntmps36
  go_wp2
  go_loopg [3, 8] k (fun kq v3 v8 w' => ∃ (x3_1 : Int) (x8_1 : Int), v3 = .int .i64 x3_1 ∧ v8 = .int .i64 x8_1 ∧ Aside0 (toruslaw30_count.l0 kq x3_1 l0 (l0.length : Int) x8_1 = some r) ∧ Aside0 (kq ≤ k) ∧ Drawn0 w w')
  case atStart => exact ⟨(0), (0), (by first | rfl | (simp; done) | (simp [*]; done)), (by first | rfl | (simp; done) | (simp [*]; done)), H', ⟨Nat.le_refl _⟩, by repeat (first | exact Drawn0.refl _ | apply Drawn0.step)⟩
  case round =>
    clear H'
    obtain ⟨x3_1, x8_1, rfl, rfl, HA, HK1, ⟨m1, rfl⟩⟩ := hrel
    cases gk with
    | zero => exact absurd HA.out (by simp [toruslaw30_count.l0])
    | succ k1 =>
      have H := HA.out
      clear HA
      simp only [toruslaw30_count.l0] at H
      by_cases c2 : x8_1 < (l0.length : Int)
      · rw [if_pos c2] at H
        have c2b0 : decide (x8_1 < (l0.length : Int)) = true := decide_eq_true c2
        clear c2
        by_cases c3 : 0 ≤ x8_1
        · rw [if_pos c3] at H
          have c3b0 : decide (0 ≤ x8_1) = true := decide_eq_true c3
          clear c3
          by_cases c4 : x8_1 < (l0.length : Int)
          · rw [if_pos c4] at H
            have c4b0 : decide (x8_1 < (l0.length : Int)) = true := decide_eq_true c4
            clear c4
            by_cases c5 : (rd l0 x8_1) = (-1)
            · rw [if_pos c5] at H
              have c5b0 : ((rd l0 x8_1) == (-1)) = true := beq_iff_eq.mpr c5
              have c5b1 : ((rd l0 x8_1) != (-1)) = false := bne_eq_false_iff_eq.mpr c5
              clear c5
              have H' := Aside0.mk H
              clear H
              have p238 : 0 ≤ (x8_1 : Int) := of_decide_eq_true (by first | (with_reducible assumption) | assumption)
              have q238 : x8_1 < (l0.length : Int) := of_decide_eq_true (by first | (with_reducible assumption) | assumption)
              obtain ⟨ad238, e238, hx238_0⟩ := Kd.at_int HR0.out x8_1 p238 q238
              cases e238
              replace p238 := eq_true p238
              replace q238 := eq_true q238
              go_wp2
              go_roundg k1
              case measure => have := HK1.out; omega
              case rel => exact ⟨(x3_1), (wrap64 (x8_1 + 1)), (by first | rfl | (simp; done) | (simp [*]; done)), (by first | rfl | (simp; done) | (simp [*]; done)), H', ⟨by have := HK1.out; omega⟩, by repeat (first | exact Drawn0.refl _ | apply Drawn0.step)⟩
            · rw [if_neg c5] at H
              have c5b0 : ((rd l0 x8_1) == (-1)) = false := beq_eq_false_iff_ne.mpr c5
              have c5b1 : ((rd l0 x8_1) != (-1)) = true := bne_iff_ne.mpr c5
              have H' := Aside0.mk H
              clear H
              have p238 : 0 ≤ (x8_1 : Int) := of_decide_eq_true (by first | (with_reducible assumption) | assumption)
              have q238 : x8_1 < (l0.length : Int) := of_decide_eq_true (by first | (with_reducible assumption) | assumption)
              obtain ⟨ad238, e238, hx238_0⟩ := Kd.at_int HR0.out x8_1 p238 q238
              cases e238
              replace p238 := eq_true p238
              replace q238 := eq_true q238
              go_wp2
              go_roundg k1
              case measure => have := HK1.out; omega
              case rel => exact ⟨(wrap64 (x3_1 + 1)), (wrap64 (x8_1 + 1)), (by first | rfl | (simp; done) | (simp [*]; done)), (by first | rfl | (simp; done) | (simp [*]; done)), H', ⟨by have := HK1.out; omega⟩, by repeat (first | exact Drawn0.refl _ | apply Drawn0.step)⟩
          · rw [if_neg c4] at H
            exact absurd H (by simp)
        · rw [if_neg c3] at H
          exact absurd H (by simp)
      · rw [if_neg c2] at H
        have c2b0 : decide (x8_1 < (l0.length : Int)) = false := decide_eq_false c2
        clear c2
        obtain rfl := Option.some.inj H
        go_wp2
        go_ret
        exact ⟨by first | rfl | (simp; done) | (simp [*]; done), by repeat (first | exact Drawn0.refl _ | apply Drawn0.step)⟩
end Go.Proofs.Ytlleokhmgblfnaa.M
end

section
namespace Go.Proofs.Ytlleokhmgblfnaa.M
open Go.RowKit Go.Proofs.YtlleokhmgblfnaaW.PrintWords Go.Proofs.YtlleokhmgblfnaaW.PrintLast Go.Proofs.YtlleokhmgblfnaaW.PrintMore
attribute [local go_sem] max2_int min2_int max_two min_two max_three min_three max_four min_four   -- for this text's walks alone
mutual
def toruslaw30_MatchRegular.l0 : Nat → Int → Int → Int → Int → Int → List (S40) → Option (Bool)
  | 0, _, _, _, _, _, _ => none
  | k + 1, x5, x6, x8, x277000, x277001, x277002 => if x8 < x5 then (toruslaw30_MatchRegular.l1 k x5 x6 x8 0 x277000 x277001 x277002) else ((match_Maximum.f k x277000 x277001 x277002).bind fun bt280 => ((match_Colours.f x277000 x277001 x277002).bind fun bt284 => (if bt280.2 = 0 then (if bt284.2 = 0 then ((toruslaw30_count.f k bt280.1).bind fun t288 => (if t288 = x5 then (toruslaw30_MatchRegular.j2 k x5 x6 bt284.1 ((bt284.1.length : Int) != (wrap64 (x5 * x6)))) else (toruslaw30_MatchRegular.j2 k x5 x6 bt284.1 true))) else (toruslaw30_MatchRegular.j2 k x5 x6 bt284.1 true)) else (toruslaw30_MatchRegular.j2 k x5 x6 bt284.1 true))))
def toruslaw30_MatchRegular.l1 : Nat → Int → Int → Int → Int → Int → Int → List (S40) → Option (Bool)
  | 0, _, _, _, _, _, _, _ => none
  | k + 1, x5, x6, x8, x9, x277000, x277001, x277002 => if x9 < x5 then (if x5 = 0 then (none) else (if (Int.tmod (wrap64 ((wrap64 (x9 - x8)) + x5)) x5) < x6 then (if x277002.length < 8796093022208 then (toruslaw30_MatchRegular.l1 k x5 x6 x8 (wrap64 (x9 + 1)) x277000 x277001 (x277002 ++ [(⟨x8, x9⟩ : S40)])) else (none)) else (toruslaw30_MatchRegular.l1 k x5 x6 x8 (wrap64 (x9 + 1)) x277000 x277001 x277002))) else (toruslaw30_MatchRegular.l0 k x5 x6 (wrap64 (x8 + 1)) x277000 x277001 x277002)
def toruslaw30_MatchRegular.j2 : Nat → Int → Int → List Int → Bool → Option (Bool)
  | 0, _, _, _, _ => none
  | k + 1, x5, x6, x12, x87 => if x87 = true then (some false) else (if 0 ≤ x6 then (if (x6 : Int).toNat ≤ 35184372088832 then (toruslaw30_MatchRegular.l2 k x5 x6 (List.replicate (x6 : Int).toNat 0) x12 (x12.length : Int) 0) else (none)) else (none))
def toruslaw30_MatchRegular.l2 : Nat → Int → Int → List Int → List Int → Int → Int → Option (Bool)
  | 0, _, _, _, _, _, _ => none
  | k + 1, x5, x6, x14, x90, x91, x92 => if x92 < x91 then (if 0 ≤ x92 then (if x92 < (x90.length : Int) then (if (rd x90 x92) < 0 then (some false) else (if (rd x90 x92) ≥ x6 then (some false) else (if 0 ≤ (rd x90 x92) then (if (rd x90 x92) < (x14.length : Int) then (toruslaw30_MatchRegular.l2 k x5 x6 (x14.set ((rd x90 x92) : Int).toNat (wrap64 ((rd x14 (rd x90 x92)) + 1))) x90 x91 (wrap64 (x92 + 1))) else (none)) else (none)))) else (none)) else (none)) else (toruslaw30_MatchRegular.l3 k x5 x14 (x14.length : Int) 0)
def toruslaw30_MatchRegular.l3 : Nat → Int → List Int → Int → Int → Option (Bool)
  | 0, _, _, _, _ => none
  | k + 1, x5, x110, x111, x112 => if x112 < x111 then (if 0 ≤ x112 then (if x112 < (x110.length : Int) then (if (rd x110 x112) = x5 then (toruslaw30_MatchRegular.l3 k x5 x110 x111 (wrap64 (x112 + 1))) else (some false)) else (none)) else (none)) else ((toruslaw30_awake.f).bind fun t296 => (some t296))
end
def toruslaw30_MatchRegular.f (k : Nat) (a0 : Int) (a1 : Int) : Option (Bool) := if (wrap64 (1 + (wrap64 (Int.tmod a0 40)))) = 0 then (none) else (toruslaw30_MatchRegular.l0 k (wrap64 (1 + (wrap64 (Int.tmod a0 40)))) (wrap64 (1 + (Int.tmod (wrap64 (a1)) (wrap64 (1 + (wrap64 (Int.tmod a0 40))))))) 0 (wrap64 (1 + (wrap64 (Int.tmod a0 40)))) (wrap64 (1 + (wrap64 (Int.tmod a0 40)))) ([] : List (S40)))
theorem toruslaw30_MatchRegular.mono_l : ∀ k, (∀ y0 y1 y2 y3 y4 y5, LeO (toruslaw30_MatchRegular.l0 k y0 y1 y2 y3 y4 y5) (toruslaw30_MatchRegular.l0 (k + 1) y0 y1 y2 y3 y4 y5)) ∧ (∀ y0 y1 y2 y3 y4 y5 y6, LeO (toruslaw30_MatchRegular.l1 k y0 y1 y2 y3 y4 y5 y6) (toruslaw30_MatchRegular.l1 (k + 1) y0 y1 y2 y3 y4 y5 y6)) ∧ (∀ y0 y1 y2 y3, LeO (toruslaw30_MatchRegular.j2 k y0 y1 y2 y3) (toruslaw30_MatchRegular.j2 (k + 1) y0 y1 y2 y3)) ∧ (∀ y0 y1 y2 y3 y4 y5, LeO (toruslaw30_MatchRegular.l2 k y0 y1 y2 y3 y4 y5) (toruslaw30_MatchRegular.l2 (k + 1) y0 y1 y2 y3 y4 y5)) ∧ (∀ y0 y1 y2 y3, LeO (toruslaw30_MatchRegular.l3 k y0 y1 y2 y3) (toruslaw30_MatchRegular.l3 (k + 1) y0 y1 y2 y3))
  | 0 => ⟨fun _ _ _ _ _ _ r h => by simp [toruslaw30_MatchRegular.l0] at h, fun _ _ _ _ _ _ _ r h => by simp [toruslaw30_MatchRegular.l1] at h, fun _ _ _ _ r h => by simp [toruslaw30_MatchRegular.j2] at h, fun _ _ _ _ _ _ r h => by simp [toruslaw30_MatchRegular.l2] at h, fun _ _ _ _ r h => by simp [toruslaw30_MatchRegular.l3] at h⟩
  | k + 1 => by
    obtain ⟨ih0, ih1, ih2, ih3, ih4⟩ := toruslaw30_MatchRegular.mono_l k
    refine ⟨?_, ?_, ?_, ?_, ?_⟩
    · intro y0 y1 y2 y3 y4 y5
      unfold toruslaw30_MatchRegular.l0
      repeat' first
      | (with_reducible exact ih0 _ _ _ _ _ _)
      | (with_reducible exact ih1 _ _ _ _ _ _ _)
      | (with_reducible exact ih2 _ _ _ _)
      | (with_reducible exact ih3 _ _ _ _ _ _)
      | (with_reducible exact ih4 _ _ _ _)
      | (with_reducible exact match_Maximum.mono _ _ _ _)
      | (with_reducible exact toruslaw30_count.mono _ _)
      | (with_reducible exact LeO.refl _)
      | (with_reducible exact LeO.none _)
      | (with_reducible refine LeO.ite ?_ ?_)
      | (with_reducible refine LeO.bind ?_ (fun _ => ?_))
      | exact ih0 _ _ _ _ _ _
      | exact ih1 _ _ _ _ _ _ _
      | exact ih2 _ _ _ _
      | exact ih3 _ _ _ _ _ _
      | exact ih4 _ _ _ _
      | exact match_Maximum.mono _ _ _ _
      | exact toruslaw30_count.mono _ _
      | exact LeO.none _
      | refine LeO.ite ?_ ?_
      | refine LeO.bind ?_ (fun _ => ?_)
    · intro y0 y1 y2 y3 y4 y5 y6
      unfold toruslaw30_MatchRegular.l1
      repeat' first
      | (with_reducible exact ih0 _ _ _ _ _ _)
      | (with_reducible exact ih1 _ _ _ _ _ _ _)
      | (with_reducible exact ih2 _ _ _ _)
      | (with_reducible exact ih3 _ _ _ _ _ _)
      | (with_reducible exact ih4 _ _ _ _)
      | (with_reducible exact match_Maximum.mono _ _ _ _)
      | (with_reducible exact toruslaw30_count.mono _ _)
      | (with_reducible exact LeO.refl _)
      | (with_reducible exact LeO.none _)
      | (with_reducible refine LeO.ite ?_ ?_)
      | (with_reducible refine LeO.bind ?_ (fun _ => ?_))
      | exact ih0 _ _ _ _ _ _
      | exact ih1 _ _ _ _ _ _ _
      | exact ih2 _ _ _ _
      | exact ih3 _ _ _ _ _ _
      | exact ih4 _ _ _ _
      | exact match_Maximum.mono _ _ _ _
      | exact toruslaw30_count.mono _ _
      | exact LeO.none _
      | refine LeO.ite ?_ ?_
      | refine LeO.bind ?_ (fun _ => ?_)
    · intro y0 y1 y2 y3
      unfold toruslaw30_MatchRegular.j2
      repeat' first
      | (with_reducible exact ih0 _ _ _ _ _ _)
      | (with_reducible exact ih1 _ _ _ _ _ _ _)
      | (with_reducible exact ih2 _ _ _ _)
      | (with_reducible exact ih3 _ _ _ _ _ _)
      | (with_reducible exact ih4 _ _ _ _)
      | (with_reducible exact match_Maximum.mono _ _ _ _)
      | (with_reducible exact toruslaw30_count.mono _ _)
      | (with_reducible exact LeO.refl _)
      | (with_reducible exact LeO.none _)
      | (with_reducible refine LeO.ite ?_ ?_)
      | (with_reducible refine LeO.bind ?_ (fun _ => ?_))
      | exact ih0 _ _ _ _ _ _
      | exact ih1 _ _ _ _ _ _ _
      | exact ih2 _ _ _ _
      | exact ih3 _ _ _ _ _ _
      | exact ih4 _ _ _ _
      | exact match_Maximum.mono _ _ _ _
      | exact toruslaw30_count.mono _ _
      | exact LeO.none _
      | refine LeO.ite ?_ ?_
      | refine LeO.bind ?_ (fun _ => ?_)
    · intro y0 y1 y2 y3 y4 y5
      unfold toruslaw30_MatchRegular.l2
      repeat' first
      | (with_reducible exact ih0 _ _ _ _ _ _)
      | (with_reducible exact ih1 _ _ _ _ _ _ _)
      | (with_reducible exact ih2 _ _ _ _)
      | (with_reducible exact ih3 _ _ _ _ _ _)
      | (with_reducible exact ih4 _ _ _ _)
      | (with_reducible exact match_Maximum.mono _ _ _ _)
      | (with_reducible exact toruslaw30_count.mono _ _)
      | (with_reducible exact LeO.refl _)
      | (with_reducible exact LeO.none _)
      | (with_reducible refine LeO.ite ?_ ?_)
      | (with_reducible refine LeO.bind ?_ (fun _ => ?_))
      | exact ih0 _ _ _ _ _ _
      | exact ih1 _ _ _ _ _ _ _
      | exact ih2 _ _ _ _
      | exact ih3 _ _ _ _ _ _
      | exact ih4 _ _ _ _
      | exact match_Maximum.mono _ _ _ _
      | exact toruslaw30_count.mono _ _
      | exact LeO.none _
      | refine LeO.ite ?_ ?_
      | refine LeO.bind ?_ (fun _ => ?_)
    · intro y0 y1 y2 y3
      unfold toruslaw30_MatchRegular.l3
      repeat' first
      | (with_reducible exact ih0 _ _ _ _ _ _)
      | (with_reducible exact ih1 _ _ _ _ _ _ _)
      | (with_reducible exact ih2 _ _ _ _)
      | (with_reducible exact ih3 _ _ _ _ _ _)
      | (with_reducible exact ih4 _ _ _ _)
      | (with_reducible exact match_Maximum.mono _ _ _ _)
      | (with_reducible exact toruslaw30_count.mono _ _)
      | (with_reducible exact LeO.refl _)
      | (with_reducible exact LeO.none _)
      | (with_reducible refine LeO.ite ?_ ?_)
      | (with_reducible refine LeO.bind ?_ (fun _ => ?_))
      | exact ih0 _ _ _ _ _ _
      | exact ih1 _ _ _ _ _ _ _
      | exact ih2 _ _ _ _
      | exact ih3 _ _ _ _ _ _
      | exact ih4 _ _ _ _
      | exact match_Maximum.mono _ _ _ _
      | exact toruslaw30_count.mono _ _
      | exact LeO.none _
      | refine LeO.ite ?_ ?_
      | refine LeO.bind ?_ (fun _ => ?_)
theorem toruslaw30_MatchRegular.mono : ∀ a0 a1 k, LeO (toruslaw30_MatchRegular.f k a0 a1) (toruslaw30_MatchRegular.f (k + 1) a0 a1) := by
  intro a0 a1 k
  obtain ⟨ih0, ih1, ih2, ih3, ih4⟩ := toruslaw30_MatchRegular.mono_l k
  unfold toruslaw30_MatchRegular.f
  repeat' first
      | (with_reducible exact ih0 _ _ _ _ _ _)
      | (with_reducible exact ih1 _ _ _ _ _ _ _)
      | (with_reducible exact ih2 _ _ _ _)
      | (with_reducible exact ih3 _ _ _ _ _ _)
      | (with_reducible exact ih4 _ _ _ _)
      | (with_reducible exact match_Maximum.mono _ _ _ _)
      | (with_reducible exact toruslaw30_count.mono _ _)
      | (with_reducible exact LeO.refl _)
      | (with_reducible exact LeO.none _)
      | (with_reducible refine LeO.ite ?_ ?_)
      | (with_reducible refine LeO.bind ?_ (fun _ => ?_))
      | exact ih0 _ _ _ _ _ _
      | exact ih1 _ _ _ _ _ _ _
      | exact ih2 _ _ _ _
      | exact ih3 _ _ _ _ _ _
      | exact ih4 _ _ _ _
      | exact match_Maximum.mono _ _ _ _
      | exact toruslaw30_count.mono _ _
      | exact LeO.none _
      | refine LeO.ite ?_ ?_
      | refine LeO.bind ?_ (fun _ => ?_)
set_option maxHeartbeats 8000000 in
set_option maxRecDepth 100000 in
theorem toruslaw30_MatchRegular.calls (k : Nat) (a0 : Int) (a1 : Int) (r : Bool) (w : World) (h : toruslaw30_MatchRegular.f k a0 a1 = some r) (hrt : r = true) :
    Calls Try.prog 10 #[.int .u8 a0, .int .u8 a1] w fun e w' => e = .returned (.bool r) ∧ Below w.heap.size w w' := by
  have hu33 := Try.underlying33
  have hu40 := Try.underlying40
  have HB := Aside0.mk (Below.refl w.heap.size w)
  have H : (if (wrap64 (1 + (wrap64 (Int.tmod a0 40)))) = 0 then (none) else (toruslaw30_MatchRegular.l0 k (wrap64 (1 + (wrap64 (Int.tmod a0 40)))) (wrap64 (1 + (Int.tmod (wrap64 (a1)) (wrap64 (1 + (wrap64 (Int.tmod a0 40))))))) 0 (wrap64 (1 + (wrap64 (Int.tmod a0 40)))) (wrap64 (1 + (wrap64 (Int.tmod a0 40)))) ([] : List (S40)))) = some r := h
  clear h
  by_cases c3 : (wrap64 (1 + (wrap64 (Int.tmod a0 40)))) = 0
  · rw [if_pos c3] at H
    exact absurd H (by simp)
  · rw [if_neg c3] at H
    have c3b0 : ((wrap64 (1 + (wrap64 (Int.tmod a0 40)))) == 0) = false := beq_eq_false_iff_ne.mpr c3
    have c3b1 : ((wrap64 (1 + (wrap64 (Int.tmod a0 40)))) != 0) = true := bne_iff_ne.mpr c3
    have H' := Aside0.mk H
    clear H
    go_enter Try.func10, Try.ntmps10
    go_wp2_with (first | ((with_reducible refine gate_dst (N := 7) rfl ?_); (try (refine gate_guard (by rfl) ?_; dsimp only)); refine box_event ?hg (N := 7) ?hd (cs := #[.int .i64 0, .int .i64 0, .slice none 0 0]) (t := 33) ?hr ?_; (case hd => rfl); (case hg => rfl); (case hr => first | (go_simp; done) | (go_simp; rfl)); intro gb276 hg w4 hbox hb; have n0_ := Aside0.mk (below_step (by repeat (first | (with_reducible first | exact HB.out | apply below_alloc | apply pw_below_drewN | apply below_drew1) | exact HB.out)) hb); have n1_ := Aside0.mk (hbox); have n2_ := Aside0.mk ((by rw [hg]; exact (below_size (by repeat (first | (with_reducible first | exact HB.out | apply below_alloc | apply pw_below_drewN | apply below_drew1) | exact HB.out))) : w.heap.size ≤ gb276)); have n3_ := Aside0.mk ((by rw [hg]; exact (below_size (by repeat (first | (with_reducible first | exact HB.out | apply below_alloc | apply pw_below_drewN | apply below_drew1) | exact HB.out))) : w.heap.size ≤ gb276)); clear HB; have HB := n0_; have BK276 := n1_; have GW276 := n2_; have GE276 := n3_; clear n0_ n1_ n2_ n3_; clear hb hbox hg; have hcz5_0 : w4.cell? ⟨gb276, 0, none⟩ = some (.int .i64 0) := (blk_cell BK276.out 0).trans rfl; have hcz5_1 : w4.cell? ⟨gb276, 1, none⟩ = some (.int .i64 0) := (blk_cell BK276.out 1).trans rfl; have hcz5_2 : w4.cell? ⟨gb276, 2, none⟩ = some (.slice none 0 0) := (blk_cell BK276.out 2).trans rfl; have hfz5_0 := blk_frozen BK276.out 0; have hfz5_1 := blk_frozen BK276.out 1; have hfz5_2 := blk_frozen BK276.out 2))
    go_loopg [8] k (fun kq v8 w' => ∃ (x8_1 : Int) (x277002_1 : List (S40)) (u277002 : Value), v8 = .int .i64 x8_1 ∧ Aside0 (toruslaw30_MatchRegular.l0 kq (wrap64 (1 + (wrap64 (Int.tmod a0 40)))) (wrap64 (1 + (Int.tmod (wrap64 (a1)) (wrap64 (1 + (wrap64 (Int.tmod a0 40))))))) x8_1 (wrap64 (1 + (wrap64 (Int.tmod a0 40)))) (wrap64 (1 + (wrap64 (Int.tmod a0 40)))) x277002_1 = some r) ∧ Aside0 (kq ≤ k) ∧ Aside0 (Kd.R k40 40 w' w.heap.size (fun _ => True) u277002 x277002_1) ∧ Aside0 (w'.heap[gb276]? = some (.cells #[.int .i64 (wrap64 (1 + (wrap64 (Int.tmod a0 40)))), .int .i64 (wrap64 (1 + (wrap64 (Int.tmod a0 40)))), u277002] 33 (0, 0))) ∧ Aside0 (Below w.heap.size w w'))
    case atStart => exact ⟨(0), (([] : List (S40))), (.slice none 0 0), (by first | rfl | (simp; done) | (simp [*]; done)), H', ⟨Nat.le_refl _⟩, ⟨by first | exact Kd.R_nil _ _ _ _ _ | exact Kd.N_nil _ _ _ _ _ | exact Kd.V_nil _ _ _ _ _ | exact Kd.Q_nil _ _ _ _ _ | exact Kd.S_nil _ _ _ _ _⟩, ⟨by (with_reducible repeat (first | refine blk_drewN ?_ _ | refine blk_drew ?_ | refine blk_alloc ?_ _)); refine blk_put (cs := #[.int .i64 (wrap64 (1 + (wrap64 (Int.tmod a0 40)))), .int .i64 (wrap64 (1 + (wrap64 (Int.tmod a0 40)))), .slice none 0 0]) ?_ 2 _ rfl; (with_reducible repeat (first | refine blk_drewN ?_ _ | refine blk_drew ?_ | refine blk_alloc ?_ _)); refine blk_put (cs := #[.int .i64 (wrap64 (1 + (wrap64 (Int.tmod a0 40)))), .int .i64 0, .slice none 0 0]) ?_ 1 _ rfl; (with_reducible repeat (first | refine blk_drewN ?_ _ | refine blk_drew ?_ | refine blk_alloc ?_ _)); refine blk_put (cs := #[.int .i64 0, .int .i64 0, .slice none 0 0]) ?_ 0 _ rfl; (with_reducible repeat (first | refine blk_drewN ?_ _ | refine blk_drew ?_ | refine blk_alloc ?_ _)); exact BK276.out⟩, ⟨by repeat (first | (with_reducible first | exact HB.out | apply below_alloc | apply pw_below_drewN | apply below_drew1 | refine below_set ?_ GE276.out) | exact HB.out)⟩⟩
    case round =>
      clear H'
      try clear c1
      try clear p2
      try clear c3
      try clear c3b0
      try clear c3b1
      try clear hcz5_0
      try clear hcz5_1
      try clear hcz5_2
      try clear hfz5_0
      try clear hfz5_1
      try clear hfz5_2
      obtain ⟨x8_1, x277002_1, u277002, rfl, HA, HK1, HO_277002, BK276, HB⟩ := hrel
      cases gk with
      | zero => exact absurd HA.out (by simp [toruslaw30_MatchRegular.l0])
      | succ k1 =>
        have H := HA.out
        clear HA
        simp only [toruslaw30_MatchRegular.l0] at H
        by_cases c6 : x8_1 < (wrap64 (1 + (wrap64 (Int.tmod a0 40))))
        · rw [if_pos c6] at H
          have c6b0 : decide (x8_1 < (wrap64 (1 + (wrap64 (Int.tmod a0 40))))) = true := decide_eq_true c6
          clear c6
          have H' := Aside0.mk H
          clear H
          go_wp2
          go_loopg [9] k1 (fun kq v9 w' => ∃ (x9_2 : Int) (x277002_2 : List (S40)) (u277002 : Value), v9 = .int .i64 x9_2 ∧ Aside0 (toruslaw30_MatchRegular.l1 kq (wrap64 (1 + (wrap64 (Int.tmod a0 40)))) (wrap64 (1 + (Int.tmod (wrap64 (a1)) (wrap64 (1 + (wrap64 (Int.tmod a0 40))))))) x8_1 x9_2 (wrap64 (1 + (wrap64 (Int.tmod a0 40)))) (wrap64 (1 + (wrap64 (Int.tmod a0 40)))) x277002_2 = some r) ∧ Aside0 (kq ≤ k1) ∧ Aside0 (Kd.R k40 40 w' w.heap.size (fun _ => True) u277002 x277002_2) ∧ Aside0 (w'.heap[gb276]? = some (.cells #[.int .i64 (wrap64 (1 + (wrap64 (Int.tmod a0 40)))), .int .i64 (wrap64 (1 + (wrap64 (Int.tmod a0 40)))), u277002] 33 (0, 0))) ∧ Aside0 (Below w.heap.size w w'))
          case atStart => exact ⟨(0), (x277002_1), (u277002), (by first | rfl | (simp; done) | (simp [*]; done)), H', ⟨Nat.le_refl _⟩, ⟨by (with_reducible repeat (first | apply Kd.R_alloc | apply Kd.R_drewN | apply Kd.R_drew)); exact HO_277002.out⟩, ⟨by (with_reducible repeat (first | refine blk_drewN ?_ _ | refine blk_drew ?_ | refine blk_alloc ?_ _)); exact BK276.out⟩, ⟨by repeat (first | (with_reducible first | exact HB.out | apply below_alloc | apply pw_below_drewN | apply below_drew1 | refine below_set ?_ GE276.out) | exact HB.out)⟩⟩
          case round =>
            clear H'
            try clear c1
            try clear p2
            try clear c3
            try clear c3b0
            try clear c3b1
            try clear c6
            try clear c6b0
            try clear p6
            try clear hcz5_0
            try clear hcz5_1
            try clear hcz5_2
            try clear hfz5_0
            try clear hfz5_1
            try clear hfz5_2
            try clear p2
            obtain ⟨x9_2, x277002_2, u277002, rfl, HA, HK2, HO_277002, BK276, HB⟩ := hrel
            cases gk with
            | zero => exact absurd HA.out (by simp [toruslaw30_MatchRegular.l1])
            | succ k2 =>
              have H := HA.out
              clear HA
              simp only [toruslaw30_MatchRegular.l1] at H
              by_cases c7 : x9_2 < (wrap64 (1 + (wrap64 (Int.tmod a0 40))))
              · rw [if_pos c7] at H
                have c7b0 : decide (x9_2 < (wrap64 (1 + (wrap64 (Int.tmod a0 40))))) = true := decide_eq_true c7
                clear c7
                by_cases c8 : (wrap64 (1 + (wrap64 (Int.tmod a0 40)))) = 0
                · rw [if_pos c8] at H
                  exact absurd H (by simp)
                · rw [if_neg c8] at H
                  have c8b0 : ((wrap64 (1 + (wrap64 (Int.tmod a0 40)))) == 0) = false := beq_eq_false_iff_ne.mpr c8
                  have c8b1 : ((wrap64 (1 + (wrap64 (Int.tmod a0 40)))) != 0) = true := bne_iff_ne.mpr c8
                  by_cases c9 : (Int.tmod (wrap64 ((wrap64 (x9_2 - x8_1)) + (wrap64 (1 + (wrap64 (Int.tmod a0 40)))))) (wrap64 (1 + (wrap64 (Int.tmod a0 40))))) < (wrap64 (1 + (Int.tmod (wrap64 (a1)) (wrap64 (1 + (wrap64 (Int.tmod a0 40)))))))
                  · rw [if_pos c9] at H
                    have c9b0 : decide ((Int.tmod (wrap64 ((wrap64 (x9_2 - x8_1)) + (wrap64 (1 + (wrap64 (Int.tmod a0 40)))))) (wrap64 (1 + (wrap64 (Int.tmod a0 40))))) < (wrap64 (1 + (Int.tmod (wrap64 (a1)) (wrap64 (1 + (wrap64 (Int.tmod a0 40)))))))) = true := decide_eq_true c9
                    clear c9
                    by_cases c10 : x277002_2.length < 8796093022208
                    · rw [if_pos c10] at H
                      have LMc10 := Aside0.mk c10
                      clear c10
                      obtain ⟨y277, hy277⟩ : ∃ y_ : List (S40), y_ = (x277002_2 ++ [(⟨x8_1, x9_2⟩ : S40)]) := ⟨_, rfl⟩
                      replace H : (toruslaw30_MatchRegular.l1 k2 (wrap64 (1 + (wrap64 (Int.tmod a0 40)))) (wrap64 (1 + (Int.tmod (wrap64 (a1)) (wrap64 (1 + (wrap64 (Int.tmod a0 40))))))) x8_1 (wrap64 (x9_2 + 1)) (wrap64 (1 + (wrap64 (Int.tmod a0 40)))) (wrap64 (1 + (wrap64 (Int.tmod a0 40)))) y277) = some r := by first | (rw [hy277]; with_reducible exact H) | (have H2_ := (Option.bind_some _ _).symm.trans H; rw [hy277]; with_reducible exact H2_) | (have H2_ := (Option.bind_some _ _).symm.trans H; with_reducible exact H2_) | with_reducible exact H | (rw [hy277]; exact H) | exact H
                      have Ny277 := Aside0.mk hy277
                      clear hy277
                      have H' := Aside0.mk H
                      clear H
                      have hcz11_0 : wr.cell? ⟨gb276, 0, none⟩ = some (.int .i64 (wrap64 (1 + (wrap64 (Int.tmod a0 40))))) := (blk_cell BK276.out 0).trans rfl
                      have hcz11_1 : wr.cell? ⟨gb276, 1, none⟩ = some (.int .i64 (wrap64 (1 + (wrap64 (Int.tmod a0 40))))) := (blk_cell BK276.out 1).trans rfl
                      have hcz11_2 : wr.cell? ⟨gb276, 2, none⟩ = some (u277002) := (blk_cell BK276.out 2).trans rfl
                      have hfz11_0 := blk_frozen BK276.out 0
                      have hfz11_1 := blk_frozen BK276.out 1
                      have hfz11_2 := blk_frozen BK276.out 2
                      go_wp2_with (first | ((with_reducible refine gate_builtin (b := .append) (xs := #[.tmp 51, .tmp 55]) rfl ?_); (try (refine gate_guard (by rfl) ?_; dsimp only)); at_builtin; refine Kd.R_append k40 (w0 := w) w.heap.size rfl (.tmp 51) (.tmp 55) 25 40 (.agg #[(.int .i64 0), (.int .i64 0)]) 16 rfl Try.underlying25 info40 rfl (by decide) (by omega) u277002 x277002_2 (⟨x8_1, x9_2⟩ : S40) [.int .i64 x8_1, .int .i64 x9_2] (fun _ => True) (fun _ => False) rfl rfl ?aP (fun _ hk => hk.elim) ?aF ?aO ?aB ?aS ?aL ?_; (case aP => exact k40_mkM _ _ _ (⟨x8_1, x9_2⟩ : S40)); (case aB => exact (by repeat (first | (with_reducible first | exact HB.out | apply below_alloc | apply pw_below_drewN | apply below_drew1 | refine below_set ?_ GE276.out) | exact HB.out))); (case aF => exact (fun _ _ => trivial)); (case aO => exact (by (with_reducible repeat (first | apply Kd.R_alloc | apply Kd.R_drewN | apply Kd.R_drew)); exact HO_277002.out)); (case aS => exact (below_size (by repeat (first | (with_reducible first | exact HB.out | apply below_alloc | apply pw_below_drewN | apply below_drew1 | refine below_set ?_ GE276.out) | exact HB.out)))); (case aL => have := LMc10.out; omega); intro v278 w12 ho hb hg hat; rw [← Ny277.out] at ho; have n0_ := Aside0.mk (blk_grown (g := gb276) (o := .cells #[.int .i64 (wrap64 (1 + (wrap64 (Int.tmod a0 40)))), .int .i64 (wrap64 (1 + (wrap64 (Int.tmod a0 40)))), u277002] 33 (0, 0)) (by (with_reducible repeat (first | refine blk_drewN ?_ _ | refine blk_drew ?_ | refine blk_alloc ?_ _)); exact BK276.out) hg (Kd.R_ne HO_277002.out BK276.out (by decide))); have n1_ := Aside0.mk (hb); have n2_ := Aside0.mk (ho); clear BK276; clear HB; clear HO_277002; have BK276 := n0_; have HB := n1_; have HO279 := n2_; clear n0_ n1_ n2_; clear ho hb hg hat; obtain ⟨Ao13, co13, eo13⟩ := Kd.R_slice HO279.out; subst eo13; have hcz14_0 : w12.cell? ⟨gb276, 0, none⟩ = some (.int .i64 (wrap64 (1 + (wrap64 (Int.tmod a0 40))))) := (blk_cell BK276.out 0).trans rfl; have hcz14_1 : w12.cell? ⟨gb276, 1, none⟩ = some (.int .i64 (wrap64 (1 + (wrap64 (Int.tmod a0 40))))) := (blk_cell BK276.out 1).trans rfl; have hcz14_2 : w12.cell? ⟨gb276, 2, none⟩ = some (u277002) := (blk_cell BK276.out 2).trans rfl; have hfz14_0 := blk_frozen BK276.out 0; have hfz14_1 := blk_frozen BK276.out 1; have hfz14_2 := blk_frozen BK276.out 2))
                      go_roundg k2
                      case measure => have := HK1.out; have := HK2.out; omega
                      case rel => exact ⟨(wrap64 (x9_2 + 1)), (y277), (.slice Ao13 y277.length co13), (by first | rfl | (simp; done) | (simp [*]; done)), H', ⟨by have := HK1.out; have := HK2.out; omega⟩, ⟨by (with_reducible repeat (first | apply Kd.R_alloc | apply Kd.R_drewN | apply Kd.R_drew)); exact Kd.R_mono (Kd.R_far (p := ⟨gb276, 2, none⟩) (Kd.R_types HO279.out BK276.out (by decide)) (fun _ hk => hk.2) (.slice Ao13 y277.length co13)) (fun _ hk => trivial)⟩, ⟨by (with_reducible repeat (first | refine blk_drewN ?_ _ | refine blk_drew ?_ | refine blk_alloc ?_ _)); refine blk_put (cs := #[.int .i64 (wrap64 (1 + (wrap64 (Int.tmod a0 40)))), .int .i64 (wrap64 (1 + (wrap64 (Int.tmod a0 40)))), u277002]) ?_ 2 _ rfl; (with_reducible repeat (first | refine blk_drewN ?_ _ | refine blk_drew ?_ | refine blk_alloc ?_ _)); exact BK276.out⟩, ⟨by repeat (first | (with_reducible first | exact HB.out | apply below_alloc | apply pw_below_drewN | apply below_drew1 | refine below_set ?_ GE276.out) | exact HB.out)⟩⟩
                    · rw [if_neg c10] at H
                      exact absurd H (by simp)
                  · rw [if_neg c9] at H
                    have c9b0 : decide ((Int.tmod (wrap64 ((wrap64 (x9_2 - x8_1)) + (wrap64 (1 + (wrap64 (Int.tmod a0 40)))))) (wrap64 (1 + (wrap64 (Int.tmod a0 40))))) < (wrap64 (1 + (Int.tmod (wrap64 (a1)) (wrap64 (1 + (wrap64 (Int.tmod a0 40)))))))) = false := decide_eq_false c9
                    clear c9
                    have H' := Aside0.mk H
                    clear H
                    go_wp2
                    go_roundg k2
                    case measure => have := HK1.out; have := HK2.out; omega
                    case rel => exact ⟨(wrap64 (x9_2 + 1)), (x277002_2), (u277002), (by first | rfl | (simp; done) | (simp [*]; done)), H', ⟨by have := HK1.out; have := HK2.out; omega⟩, ⟨by (with_reducible repeat (first | apply Kd.R_alloc | apply Kd.R_drewN | apply Kd.R_drew)); exact HO_277002.out⟩, ⟨by (with_reducible repeat (first | refine blk_drewN ?_ _ | refine blk_drew ?_ | refine blk_alloc ?_ _)); exact BK276.out⟩, ⟨by repeat (first | (with_reducible first | exact HB.out | apply below_alloc | apply pw_below_drewN | apply below_drew1 | refine below_set ?_ GE276.out) | exact HB.out)⟩⟩
              · rw [if_neg c7] at H
                have c7b0 : decide (x9_2 < (wrap64 (1 + (wrap64 (Int.tmod a0 40))))) = false := decide_eq_false c7
                clear c7
                have H' := Aside0.mk H
                clear H
                go_wp2
                go_roundg k2
                case measure => have := HK1.out; have := HK2.out; omega
                case rel => exact ⟨(wrap64 (x8_1 + 1)), (x277002_2), (u277002), (by first | rfl | (simp; done) | (simp [*]; done)), H', ⟨by have := HK1.out; have := HK2.out; omega⟩, ⟨by (with_reducible repeat (first | apply Kd.R_alloc | apply Kd.R_drewN | apply Kd.R_drew)); exact HO_277002.out⟩, ⟨by (with_reducible repeat (first | refine blk_drewN ?_ _ | refine blk_drew ?_ | refine blk_alloc ?_ _)); exact BK276.out⟩, ⟨by repeat (first | (with_reducible first | exact HB.out | apply below_alloc | apply pw_below_drewN | apply below_drew1 | refine below_set ?_ GE276.out) | exact HB.out)⟩⟩
        · rw [if_neg c6] at H
          have c6b0 : decide (x8_1 < (wrap64 (1 + (wrap64 (Int.tmod a0 40))))) = false := decide_eq_false c6
          clear c6
          replace H := Option.bind_eq_some_iff.mp H
          obtain ⟨⟨t280, t283⟩, A150, H⟩ := H
          replace H : ((match_Colours.f (wrap64 (1 + (wrap64 (Int.tmod a0 40)))) (wrap64 (1 + (wrap64 (Int.tmod a0 40)))) x277002_1).bind fun bt284 => (if t283 = 0 then (if bt284.2 = 0 then ((toruslaw30_count.f k1 t280).bind fun t288 => (if t288 = (wrap64 (1 + (wrap64 (Int.tmod a0 40)))) then (toruslaw30_MatchRegular.j2 k1 (wrap64 (1 + (wrap64 (Int.tmod a0 40)))) (wrap64 (1 + (Int.tmod (wrap64 (a1)) (wrap64 (1 + (wrap64 (Int.tmod a0 40))))))) bt284.1 ((bt284.1.length : Int) != (wrap64 ((wrap64 (1 + (wrap64 (Int.tmod a0 40)))) * (wrap64 (1 + (Int.tmod (wrap64 (a1)) (wrap64 (1 + (wrap64 (Int.tmod a0 40))))))))))) else (toruslaw30_MatchRegular.j2 k1 (wrap64 (1 + (wrap64 (Int.tmod a0 40)))) (wrap64 (1 + (Int.tmod (wrap64 (a1)) (wrap64 (1 + (wrap64 (Int.tmod a0 40))))))) bt284.1 true))) else (toruslaw30_MatchRegular.j2 k1 (wrap64 (1 + (wrap64 (Int.tmod a0 40)))) (wrap64 (1 + (Int.tmod (wrap64 (a1)) (wrap64 (1 + (wrap64 (Int.tmod a0 40))))))) bt284.1 true)) else (toruslaw30_MatchRegular.j2 k1 (wrap64 (1 + (wrap64 (Int.tmod a0 40)))) (wrap64 (1 + (Int.tmod (wrap64 (a1)) (wrap64 (1 + (wrap64 (Int.tmod a0 40))))))) bt284.1 true))) = some r := H
          have A15 := Aside0.mk A150
          clear A150
          replace H := Option.bind_eq_some_iff.mp H
          obtain ⟨⟨t284, t287⟩, A160, H⟩ := H
          replace H : (if t283 = 0 then (if t287 = 0 then ((toruslaw30_count.f k1 t280).bind fun t288 => (if t288 = (wrap64 (1 + (wrap64 (Int.tmod a0 40)))) then (toruslaw30_MatchRegular.j2 k1 (wrap64 (1 + (wrap64 (Int.tmod a0 40)))) (wrap64 (1 + (Int.tmod (wrap64 (a1)) (wrap64 (1 + (wrap64 (Int.tmod a0 40))))))) t284 ((t284.length : Int) != (wrap64 ((wrap64 (1 + (wrap64 (Int.tmod a0 40)))) * (wrap64 (1 + (Int.tmod (wrap64 (a1)) (wrap64 (1 + (wrap64 (Int.tmod a0 40))))))))))) else (toruslaw30_MatchRegular.j2 k1 (wrap64 (1 + (wrap64 (Int.tmod a0 40)))) (wrap64 (1 + (Int.tmod (wrap64 (a1)) (wrap64 (1 + (wrap64 (Int.tmod a0 40))))))) t284 true))) else (toruslaw30_MatchRegular.j2 k1 (wrap64 (1 + (wrap64 (Int.tmod a0 40)))) (wrap64 (1 + (Int.tmod (wrap64 (a1)) (wrap64 (1 + (wrap64 (Int.tmod a0 40))))))) t284 true)) else (toruslaw30_MatchRegular.j2 k1 (wrap64 (1 + (wrap64 (Int.tmod a0 40)))) (wrap64 (1 + (Int.tmod (wrap64 (a1)) (wrap64 (1 + (wrap64 (Int.tmod a0 40))))))) t284 true)) = some r := H
          have A16 := Aside0.mk A160
          clear A160
          have HC17 := Aside0.mk H
          clear H
          have hcz18_0 : wr.cell? ⟨gb276, 0, none⟩ = some (.int .i64 (wrap64 (1 + (wrap64 (Int.tmod a0 40))))) := (blk_cell BK276.out 0).trans rfl
          have hcz18_1 : wr.cell? ⟨gb276, 1, none⟩ = some (.int .i64 (wrap64 (1 + (wrap64 (Int.tmod a0 40))))) := (blk_cell BK276.out 1).trans rfl
          have hcz18_2 : wr.cell? ⟨gb276, 2, none⟩ = some (u277002) := (blk_cell BK276.out 2).trans rfl
          have hfz18_0 := blk_frozen BK276.out 0
          have hfz18_1 := blk_frozen BK276.out 1
          have hfz18_2 := blk_frozen BK276.out 2
          obtain ⟨Ao19, co19, eo19⟩ := Kd.R_slice HO_277002.out
          subst eo19
          go_upto_region 14 with (first | ((with_reducible refine gate_callee (f := 35) rfl ?_); refine goesL_ (some 60) rfl rfl Try.func35 (by kernel_rfl) rfl #[.agg #[.int .i64 (wrap64 (1 + (wrap64 (Int.tmod a0 40)))), .int .i64 (wrap64 (1 + (wrap64 (Int.tmod a0 40)))), .slice Ao19 x277002_1.length co19]] rfl (by (try simp only [List.map_toArray, List.map_cons, List.map_nil]); first | done | rfl | (simp only [List.length_drop, List.length_take]; rfl)) ?_; (with_reducible refine (match_Maximum.calls k1 (wrap64 (1 + (wrap64 (Int.tmod a0 40)))) (wrap64 (1 + (wrap64 (Int.tmod a0 40)))) _ _ x277002_1 t280 t283 _ ?side1 ?side2 A15.out).mono ?_); (case side1 => repeat (first | exact (Kd.R_reads' HO_277002.out).2.2 | (with_reducible refine Kd.C_alloc ?_ _) | (with_reducible refine Kd.C_drewN ?_ _) | (with_reducible refine Kd.C_drew ?_))); (case side2 => exact (Kd.R_reads' HO_277002.out).2.1); rintro e w20 ⟨v281, rfl, ho0, hb⟩; refine ⟨_, rfl, ?_⟩; have n0_ := Aside0.mk (Kd.R_below (by (with_reducible repeat (first | apply Kd.R_alloc | apply Kd.R_drewN | apply Kd.R_drew)); exact HO_277002.out) hb); have n1_ := Aside0.mk (Kd.R_lower ho0 (below_size (by repeat (first | (with_reducible first | exact HB.out | apply below_alloc | apply pw_below_drewN | apply below_drew1 | refine below_set ?_ GE276.out) | exact HB.out)))); have n2_ := Aside0.mk (blk_below (g := gb276) (o := .cells #[.int .i64 (wrap64 (1 + (wrap64 (Int.tmod a0 40)))), .int .i64 (wrap64 (1 + (wrap64 (Int.tmod a0 40)))), .slice Ao19 x277002_1.length co19] 33 (0, 0)) (by (with_reducible repeat (first | refine blk_drewN ?_ _ | refine blk_drew ?_ | refine blk_alloc ?_ _)); exact BK276.out) hb); have n3_ := Aside0.mk (below_step (by repeat (first | (with_reducible first | exact HB.out | apply below_alloc | apply pw_below_drewN | apply below_drew1 | refine below_set ?_ GE276.out) | exact HB.out)) hb); clear HO_277002; clear BK276; clear HB; have HO_277002 := n0_; have HO282 := n1_; have BK276 := n2_; have HB := n3_; clear n0_ n1_ n2_ n3_; (try clear hb); (try clear hb2); (try clear hk); (try clear hi); (try clear ho0); have hcz21_0 : w20.cell? ⟨gb276, 0, none⟩ = some (.int .i64 (wrap64 (1 + (wrap64 (Int.tmod a0 40))))) := (blk_cell BK276.out 0).trans rfl; have hcz21_1 : w20.cell? ⟨gb276, 1, none⟩ = some (.int .i64 (wrap64 (1 + (wrap64 (Int.tmod a0 40))))) := (blk_cell BK276.out 1).trans rfl; have hcz21_2 : w20.cell? ⟨gb276, 2, none⟩ = some (.slice Ao19 x277002_1.length co19) := (blk_cell BK276.out 2).trans rfl; have hfz21_0 := blk_frozen BK276.out 0; have hfz21_1 := blk_frozen BK276.out 1; have hfz21_2 := blk_frozen BK276.out 2) | ((with_reducible refine gate_callee (f := 38) rfl ?_); refine goesL_ (some 65) rfl rfl Try.func38 (by kernel_rfl) rfl #[.agg #[.int .i64 (wrap64 (1 + (wrap64 (Int.tmod a0 40)))), .int .i64 (wrap64 (1 + (wrap64 (Int.tmod a0 40)))), .slice Ao19 x277002_1.length co19]] rfl (by (try simp only [List.map_toArray, List.map_cons, List.map_nil]); first | done | rfl | (simp only [List.length_drop, List.length_take]; rfl)) ?_; (with_reducible refine (match_Colours.calls (wrap64 (1 + (wrap64 (Int.tmod a0 40)))) (wrap64 (1 + (wrap64 (Int.tmod a0 40)))) _ _ x277002_1 t284 t287 _ ?side1 ?side2 A16.out).mono ?_); (case side1 => repeat (first | exact (Kd.R_reads' HO_277002.out).2.2 | (with_reducible refine Kd.C_alloc ?_ _) | (with_reducible refine Kd.C_drewN ?_ _) | (with_reducible refine Kd.C_drew ?_))); (case side2 => exact (Kd.R_reads' HO_277002.out).2.1); rintro e w22 ⟨v285, rfl, ho0, hb⟩; refine ⟨_, rfl, ?_⟩; have n0_ := Aside0.mk (Kd.R_below (by (with_reducible repeat (first | apply Kd.R_alloc | apply Kd.R_drewN | apply Kd.R_drew)); exact HO_277002.out) hb); have n1_ := Aside0.mk (Kd.R_elder' (by (with_reducible repeat (first | apply Kd.R_alloc | apply Kd.R_drewN | apply Kd.R_drew)); exact HO282.out) (Kd.R_base ho0) hb); have n2_ := Aside0.mk (Kd.R_lower (Kd.R_new' ho0 (Kd.R_lt (by (with_reducible repeat (first | apply Kd.R_alloc | apply Kd.R_drewN | apply Kd.R_drew)); exact HO282.out))) (below_size (by repeat (first | (with_reducible first | exact HB.out | apply below_alloc | apply pw_below_drewN | apply below_drew1 | refine below_set ?_ GE276.out) | exact HB.out)))); have n3_ := Aside0.mk (blk_below (g := gb276) (o := .cells #[.int .i64 (wrap64 (1 + (wrap64 (Int.tmod a0 40)))), .int .i64 (wrap64 (1 + (wrap64 (Int.tmod a0 40)))), .slice Ao19 x277002_1.length co19] 33 (0, 0)) (by (with_reducible repeat (first | refine blk_drewN ?_ _ | refine blk_drew ?_ | refine blk_alloc ?_ _)); exact BK276.out) hb); have n4_ := Aside0.mk (below_step (by repeat (first | (with_reducible first | exact HB.out | apply below_alloc | apply pw_below_drewN | apply below_drew1 | refine below_set ?_ GE276.out) | exact HB.out)) hb); clear HO_277002; clear HO282; clear BK276; clear HB; have HO_277002 := n0_; have HO282 := n1_; have HO286 := n2_; have BK276 := n3_; have HB := n4_; clear n0_ n1_ n2_ n3_ n4_; (try clear hb); (try clear hb2); (try clear hk); (try clear hi); (try clear ho0)))
          (try simp only [Act.put, List.setIfInBounds_toArray, List.set_cons_zero, List.set_cons_succ])
          go_cut [87] (fun v87 wc => ∃ (kq : Nat) (x87_16 : Bool), v87 = .bool x87_16 ∧ Aside0 (toruslaw30_MatchRegular.j2 kq (wrap64 (1 + (wrap64 (Int.tmod a0 40)))) (wrap64 (1 + (Int.tmod (wrap64 (a1)) (wrap64 (1 + (wrap64 (Int.tmod a0 40))))))) t284 x87_16 = some r) ∧ Aside0 (kq ≤ k1) ∧ Aside0 (Kd.R (Kd.int .i64) 3 wc w.heap.size (fun _ => True) v285 t284) ∧ Aside0 (Kd.R k40 40 wc w.heap.size (fun _ => True) (.slice Ao19 x277002_1.length co19) x277002_1) ∧ Aside0 (wc.heap[gb276]? = some (.cells #[.int .i64 (wrap64 (1 + (wrap64 (Int.tmod a0 40)))), .int .i64 (wrap64 (1 + (wrap64 (Int.tmod a0 40)))), (.slice Ao19 x277002_1.length co19)] 33 (0, 0))) ∧ Aside0 (Below w.heap.size w wc))
          case first =>
            have H := HC17.out
            clear HC17
            by_cases c23 : t283 = 0
            · rw [if_pos c23] at H
              have c23b0 : (t283 == 0) = true := beq_iff_eq.mpr c23
              have c23b1 : (t283 != 0) = false := bne_eq_false_iff_eq.mpr c23
              clear c23
              (first | rw [c23b0] | (simp only [i64_w, i32_w]; rw [c23b0]) | skip)
              by_cases c24 : t287 = 0
              · rw [if_pos c24] at H
                have c24b0 : (t287 == 0) = true := beq_iff_eq.mpr c24
                have c24b1 : (t287 != 0) = false := bne_eq_false_iff_eq.mpr c24
                clear c24
                replace H := Option.bind_eq_some_iff.mp H
                obtain ⟨t288, A250, H⟩ := H
                replace H : (if t288 = (wrap64 (1 + (wrap64 (Int.tmod a0 40)))) then (toruslaw30_MatchRegular.j2 k1 (wrap64 (1 + (wrap64 (Int.tmod a0 40)))) (wrap64 (1 + (Int.tmod (wrap64 (a1)) (wrap64 (1 + (wrap64 (Int.tmod a0 40))))))) t284 ((t284.length : Int) != (wrap64 ((wrap64 (1 + (wrap64 (Int.tmod a0 40)))) * (wrap64 (1 + (Int.tmod (wrap64 (a1)) (wrap64 (1 + (wrap64 (Int.tmod a0 40))))))))))) else (toruslaw30_MatchRegular.j2 k1 (wrap64 (1 + (wrap64 (Int.tmod a0 40)))) (wrap64 (1 + (Int.tmod (wrap64 (a1)) (wrap64 (1 + (wrap64 (Int.tmod a0 40))))))) t284 true)) = some r := H
                have A25 := Aside0.mk A250
                clear A250
                by_cases c26 : t288 = (wrap64 (1 + (wrap64 (Int.tmod a0 40))))
                · rw [if_pos c26] at H
                  have c26b0 : (t288 == (wrap64 (1 + (wrap64 (Int.tmod a0 40))))) = true := beq_iff_eq.mpr c26
                  have c26b1 : (t288 != (wrap64 (1 + (wrap64 (Int.tmod a0 40))))) = false := bne_eq_false_iff_eq.mpr c26
                  clear c26
                  have H' := Aside0.mk H
                  clear H
                  obtain ⟨Ao27, co27, eo27⟩ := Kd.R_slice HO282.out
                  subst eo27
                  go_wp2_with (first | (go_at_call 36; (with_reducible refine (toruslaw30_count.calls k1 _ _ t280 t288 _ ?side1 ?side2 A25.out).mono ?_); (case side1 => repeat (first | exact (Kd.R_reads' HO282.out).2.2 | (with_reducible refine Kd.C_alloc ?_ _) | (with_reducible refine Kd.C_drewN ?_ _) | (with_reducible refine Kd.C_drew ?_))); (case side2 => exact (Kd.R_reads' HO282.out).2.1); rintro e w' ⟨rfl, ⟨nd, rfl⟩⟩; obtain ⟨Ao28, co28, eo28⟩ := Kd.R_slice HO286.out; subst eo28))
                  go_meet
                  case rel => exact ⟨_, (((t284.length : Int) != (wrap64 ((wrap64 (1 + (wrap64 (Int.tmod a0 40)))) * (wrap64 (1 + (Int.tmod (wrap64 (a1)) (wrap64 (1 + (wrap64 (Int.tmod a0 40))))))))))), (by first | rfl | (simp; done) | (simp [*]; done)), H', ⟨by have := HK1.out; first | omega | exact Nat.le_refl _⟩, ⟨by (with_reducible repeat (first | apply Kd.R_alloc | apply Kd.R_drewN | apply Kd.R_drew)); exact Kd.R_mono HO286.out (fun _ hk => trivial)⟩, ⟨by (with_reducible repeat (first | apply Kd.R_alloc | apply Kd.R_drewN | apply Kd.R_drew)); exact HO_277002.out⟩, ⟨by (with_reducible repeat (first | refine blk_drewN ?_ _ | refine blk_drew ?_ | refine blk_alloc ?_ _)); exact BK276.out⟩, ⟨by repeat (first | (with_reducible first | exact HB.out | apply below_alloc | apply pw_below_drewN | apply below_drew1 | refine below_set ?_ GE276.out) | exact HB.out)⟩⟩
                · rw [if_neg c26] at H
                  have c26b0 : (t288 == (wrap64 (1 + (wrap64 (Int.tmod a0 40))))) = false := beq_eq_false_iff_ne.mpr c26
                  have c26b1 : (t288 != (wrap64 (1 + (wrap64 (Int.tmod a0 40))))) = true := bne_iff_ne.mpr c26
                  have H' := Aside0.mk H
                  clear H
                  obtain ⟨Ao29, co29, eo29⟩ := Kd.R_slice HO282.out
                  subst eo29
                  go_wp2_with (first | (go_at_call 36; (with_reducible refine (toruslaw30_count.calls k1 _ _ t280 t288 _ ?side1 ?side2 A25.out).mono ?_); (case side1 => repeat (first | exact (Kd.R_reads' HO282.out).2.2 | (with_reducible refine Kd.C_alloc ?_ _) | (with_reducible refine Kd.C_drewN ?_ _) | (with_reducible refine Kd.C_drew ?_))); (case side2 => exact (Kd.R_reads' HO282.out).2.1); rintro e w' ⟨rfl, ⟨nd, rfl⟩⟩))
                  go_meet
                  case rel => exact ⟨_, (true), (by first | rfl | (simp; done) | (simp [*]; done)), H', ⟨by have := HK1.out; first | omega | exact Nat.le_refl _⟩, ⟨by (with_reducible repeat (first | apply Kd.R_alloc | apply Kd.R_drewN | apply Kd.R_drew)); exact Kd.R_mono HO286.out (fun _ hk => trivial)⟩, ⟨by (with_reducible repeat (first | apply Kd.R_alloc | apply Kd.R_drewN | apply Kd.R_drew)); exact HO_277002.out⟩, ⟨by (with_reducible repeat (first | refine blk_drewN ?_ _ | refine blk_drew ?_ | refine blk_alloc ?_ _)); exact BK276.out⟩, ⟨by repeat (first | (with_reducible first | exact HB.out | apply below_alloc | apply pw_below_drewN | apply below_drew1 | refine below_set ?_ GE276.out) | exact HB.out)⟩⟩
              · rw [if_neg c24] at H
                have c24b0 : (t287 == 0) = false := beq_eq_false_iff_ne.mpr c24
                have c24b1 : (t287 != 0) = true := bne_iff_ne.mpr c24
                have H' := Aside0.mk H
                clear H
                go_wp2
                go_meet
                case rel => exact ⟨_, (true), (by first | rfl | (simp; done) | (simp [*]; done)), H', ⟨by have := HK1.out; first | omega | exact Nat.le_refl _⟩, ⟨by (with_reducible repeat (first | apply Kd.R_alloc | apply Kd.R_drewN | apply Kd.R_drew)); exact Kd.R_mono HO286.out (fun _ hk => trivial)⟩, ⟨by (with_reducible repeat (first | apply Kd.R_alloc | apply Kd.R_drewN | apply Kd.R_drew)); exact HO_277002.out⟩, ⟨by (with_reducible repeat (first | refine blk_drewN ?_ _ | refine blk_drew ?_ | refine blk_alloc ?_ _)); exact BK276.out⟩, ⟨by repeat (first | (with_reducible first | exact HB.out | apply below_alloc | apply pw_below_drewN | apply below_drew1 | refine below_set ?_ GE276.out) | exact HB.out)⟩⟩
            · rw [if_neg c23] at H
              have c23b0 : (t283 == 0) = false := beq_eq_false_iff_ne.mpr c23
              have c23b1 : (t283 != 0) = true := bne_iff_ne.mpr c23
              (first | rw [c23b0] | (simp only [i64_w, i32_w]; rw [c23b0]) | skip)
              have H' := Aside0.mk H
              clear H
              go_wp2
              go_meet
              case rel => exact ⟨_, (true), (by first | rfl | (simp; done) | (simp [*]; done)), H', ⟨by have := HK1.out; first | omega | exact Nat.le_refl _⟩, ⟨by (with_reducible repeat (first | apply Kd.R_alloc | apply Kd.R_drewN | apply Kd.R_drew)); exact Kd.R_mono HO286.out (fun _ hk => trivial)⟩, ⟨by (with_reducible repeat (first | apply Kd.R_alloc | apply Kd.R_drewN | apply Kd.R_drew)); exact HO_277002.out⟩, ⟨by (with_reducible repeat (first | refine blk_drewN ?_ _ | refine blk_drew ?_ | refine blk_alloc ?_ _)); exact BK276.out⟩, ⟨by repeat (first | (with_reducible first | exact HB.out | apply below_alloc | apply pw_below_drewN | apply below_drew1 | refine below_set ?_ GE276.out) | exact HB.out)⟩⟩
          case rest =>
            clear HC17
            try clear c1
            try clear c2
            try clear p2
            try clear c3
            try clear c3b0
            try clear c3b1
            try clear c6
            try clear c6b0
            try clear p6
            try clear c7
            try clear c7b0
            try clear c8
            try clear c8b0
            try clear c8b1
            try clear c9
            try clear c9b0
            try clear c10
            try clear c23
            try clear c23b0
            try clear c23b1
            try clear c24
            try clear c24b0
            try clear c24b1
            try clear c26
            try clear c26b0
            try clear c26b1
            try clear hcz11_0
            try clear hcz11_1
            try clear hcz11_2
            try clear hcz14_0
            try clear hcz14_1
            try clear hcz14_2
            try clear hcz18_0
            try clear hcz18_1
            try clear hcz18_2
            try clear hcz21_0
            try clear hcz21_1
            try clear hcz21_2
            try clear hcz5_0
            try clear hcz5_1
            try clear hcz5_2
            try clear hfz11_0
            try clear hfz11_1
            try clear hfz11_2
            try clear hfz14_0
            try clear hfz14_1
            try clear hfz14_2
            try clear hfz18_0
            try clear hfz18_1
            try clear hfz18_2
            try clear hfz21_0
            try clear hfz21_1
            try clear hfz21_2
            try clear hfz5_0
            try clear hfz5_1
            try clear hfz5_2
            try clear p2
            try clear p6
            obtain ⟨kq, x87_16, rfl, HA, HJ16, HO_12, HO_277002, BK276, HB⟩ := hcut
            cases kq with
            | zero => exact absurd HA.out (by simp [toruslaw30_MatchRegular.j2])
            | succ kj16 =>
              have H := HA.out
              clear HA
              simp only [toruslaw30_MatchRegular.j2] at H
              by_cases c30 : x87_16 = true
              · subst c30
                have H1 : (some false) = some r := by rw [if_pos rfl] at H; exact H
                clear H
                have H := H1
                clear H1
                exact absurd (Option.some.inj H) (by rw [hrt]; exact Bool.false_ne_true)
              · replace c30 := Bool.eq_false_iff.mpr c30
                subst c30
                have H1 : (if 0 ≤ (wrap64 (1 + (Int.tmod (wrap64 (a1)) (wrap64 (1 + (wrap64 (Int.tmod a0 40))))))) then (if ((wrap64 (1 + (Int.tmod (wrap64 (a1)) (wrap64 (1 + (wrap64 (Int.tmod a0 40))))))) : Int).toNat ≤ 35184372088832 then (toruslaw30_MatchRegular.l2 kj16 (wrap64 (1 + (wrap64 (Int.tmod a0 40)))) (wrap64 (1 + (Int.tmod (wrap64 (a1)) (wrap64 (1 + (wrap64 (Int.tmod a0 40))))))) (List.replicate ((wrap64 (1 + (Int.tmod (wrap64 (a1)) (wrap64 (1 + (wrap64 (Int.tmod a0 40))))))) : Int).toNat 0) t284 (t284.length : Int) 0) else (none)) else (none)) = some r := by rw [if_neg (show ¬ (false = true) by decide)] at H; exact H
                clear H
                have H := H1
                clear H1
                obtain ⟨ji31, hji31⟩ : ∃ j_ : Int, (wrap64 (1 + (Int.tmod (wrap64 (a1)) (wrap64 (1 + (wrap64 (Int.tmod a0 40))))))) = j_ := ⟨_, rfl⟩
                replace H : (if 0 ≤ (ji31) then (if ((ji31) : Int).toNat ≤ 35184372088832 then (toruslaw30_MatchRegular.l2 kj16 (wrap64 (1 + (wrap64 (Int.tmod a0 40)))) (ji31) (List.replicate ((ji31) : Int).toNat 0) t284 (t284.length : Int) 0) else (none)) else (none)) = some r := by first | (rw [hji31] at H; exact H) | (simp only [hji31] at H ⊢; exact H)
                have hji31w : (IntKind.i64.wrap (1 + (Int.tmod (wrap64 (a1)) (wrap64 (1 + (wrap64 (Int.tmod a0 40))))))) = ji31 := (i64_w _).trans hji31
                by_cases c32 : 0 ≤ (ji31)
                · rw [if_pos c32] at H
                  have c32b0 := eq_true c32
                  have c32b1 : decide (0 ≤ (ji31)) = true := decide_eq_true c32
                  clear c32
                  by_cases c33 : ((ji31) : Int).toNat ≤ 35184372088832
                  · rw [if_pos c33] at H
                    have c33b0 := eq_true c33
                    have c33b1 : decide (((ji31) : Int).toNat ≤ 35184372088832) = true := decide_eq_true c33
                    clear c33
                    obtain ⟨y289, hy289⟩ : ∃ y_ : List Int, y_ = (List.replicate ((ji31) : Int).toNat 0) := ⟨_, rfl⟩
                    replace H : (toruslaw30_MatchRegular.l2 kj16 (wrap64 (1 + (wrap64 (Int.tmod a0 40)))) (ji31) y289 t284 (t284.length : Int) 0) = some r := by first | (rw [hy289]; with_reducible exact H) | (have H2_ := (Option.bind_some _ _).symm.trans H; rw [hy289]; with_reducible exact H2_) | (have H2_ := (Option.bind_some _ _).symm.trans H; with_reducible exact H2_) | with_reducible exact H | (rw [hy289]; exact H) | exact H
                    have Ny289 := Aside0.mk hy289
                    clear hy289
                    have H' := Aside0.mk H
                    clear H
                    rw [hji31]
                    go_wp2_with (first | ((with_reducible refine gate_dst (N := 89) rfl ?_); (try (refine gate_guard (by rfl) ?_; dsimp only)); refine Kd.R_make (Kd.int .i64) _ 3 rfl (N := 89) rfl 29 _ _ rfl (ji31) rfl rfl Try.underlying29 (.int .i64 0) 8 info3 rfl (by decide) (by omega) 0 (ok := fun _ => True) (okp := fun _ => True) rfl (fun _ hk => hk) trivial (of_decide_eq_true (by first | (with_reducible assumption) | assumption)) (Nat.le_trans (Nat.mul_le_mul_right _ (of_decide_eq_true (by first | (with_reducible assumption) | assumption) : (ji31).toNat ≤ 35184372088832)) (by omega)) (Below.refl _ _) (Nat.le_refl _) ?_; intro v290 w34 ho35 hb hg_ hnew_; clear hg_ hnew_; (first | rw [← Ny289.out] at ho35 | (simp only [Int.reduceToNat] at ho35; rw [← Ny289.out] at ho35)); have n0_ := Aside0.mk (Kd.R_elder' (by (with_reducible repeat (first | apply Kd.R_alloc | apply Kd.R_drewN | apply Kd.R_drew)); exact HO_12.out) (Kd.R_base ho35) hb); have n1_ := Aside0.mk (Kd.R_below (by (with_reducible repeat (first | apply Kd.R_alloc | apply Kd.R_drewN | apply Kd.R_drew)); exact HO_277002.out) hb); have n2_ := Aside0.mk (Kd.R_lower (Kd.R_new' ho35 (Kd.R_lt (by (with_reducible repeat (first | apply Kd.R_alloc | apply Kd.R_drewN | apply Kd.R_drew)); exact HO_12.out))) (below_size (by repeat (first | (with_reducible first | exact HB.out | apply below_alloc | apply pw_below_drewN | apply below_drew1 | refine below_set ?_ GE276.out) | exact HB.out)))); have n3_ := Aside0.mk (blk_below (g := gb276) (o := .cells #[.int .i64 (wrap64 (1 + (wrap64 (Int.tmod a0 40)))), .int .i64 (wrap64 (1 + (wrap64 (Int.tmod a0 40)))), .slice Ao19 x277002_1.length co19] 33 (0, 0)) (by (with_reducible repeat (first | refine blk_drewN ?_ _ | refine blk_drew ?_ | refine blk_alloc ?_ _)); exact BK276.out) hb); have n4_ := Aside0.mk (below_step (by repeat (first | (with_reducible first | exact HB.out | apply below_alloc | apply pw_below_drewN | apply below_drew1 | refine below_set ?_ GE276.out) | exact HB.out)) hb); clear HO_12; clear HO_277002; clear BK276; clear HB; have HO_12 := n0_; have HO_277002 := n1_; have HO291 := n2_; have BK276 := n3_; have HB := n4_; clear n0_ n1_ n2_ n3_ n4_; clear hb ho35; obtain ⟨Ao36, co36, eo36⟩ := Kd.R_slice HO_12.out; subst eo36))
                    go_loopg [92] kj16 (fun kq v92 w' => ∃ (x14_3 : List Int) (x92_3 : Int), v92 = .int .i64 x92_3 ∧ Aside0 (toruslaw30_MatchRegular.l2 kq (wrap64 (1 + (wrap64 (Int.tmod a0 40)))) (ji31) x14_3 t284 (t284.length : Int) x92_3 = some r) ∧ Aside0 (kq ≤ kj16) ∧ Aside0 (Kd.R (Kd.int .i64) 3 w' w.heap.size (fun k_ => some k_ ≠ ((.slice Ao36 t284.length co36) : Value).ownBlock) v290 x14_3) ∧ Aside0 (Kd.R (Kd.int .i64) 3 w' w.heap.size (fun k_ => some k_ ≠ (v290 : Value).ownBlock) (.slice Ao36 t284.length co36) t284) ∧ Aside0 (Kd.R k40 40 w' w.heap.size (fun _ => True) (.slice Ao19 x277002_1.length co19) x277002_1) ∧ Aside0 (w'.heap[gb276]? = some (.cells #[.int .i64 (wrap64 (1 + (wrap64 (Int.tmod a0 40)))), .int .i64 (wrap64 (1 + (wrap64 (Int.tmod a0 40)))), (.slice Ao19 x277002_1.length co19)] 33 (0, 0))) ∧ Aside0 (Below w.heap.size w w'))
                    case atStart => exact ⟨(y289), (0), (by first | rfl | (simp; done) | (simp [*]; done)), H', ⟨Nat.le_refl _⟩, ⟨by (with_reducible repeat (first | apply Kd.R_alloc | apply Kd.R_drewN | apply Kd.R_drew)); exact Kd.R_mono HO291.out (fun _ hk => hk.2)⟩, ⟨by (with_reducible repeat (first | apply Kd.R_alloc | apply Kd.R_drewN | apply Kd.R_drew)); exact Kd.R_mono HO_12.out (fun _ hk => hk.2)⟩, ⟨by (with_reducible repeat (first | apply Kd.R_alloc | apply Kd.R_drewN | apply Kd.R_drew)); exact HO_277002.out⟩, ⟨by (with_reducible repeat (first | refine blk_drewN ?_ _ | refine blk_drew ?_ | refine blk_alloc ?_ _)); exact BK276.out⟩, ⟨by repeat (first | (with_reducible first | exact HB.out | apply below_alloc | apply pw_below_drewN | apply below_drew1 | refine below_set ?_ GE276.out) | exact HB.out)⟩⟩
                    case round =>
                      clear H'
                      try clear c1
                      try clear c2
                      try clear p2
                      try clear c3
                      try clear c3b0
                      try clear c3b1
                      try clear c6
                      try clear c6b0
                      try clear p6
                      try clear c7
                      try clear c7b0
                      try clear c8
                      try clear c8b0
                      try clear c8b1
                      try clear c9
                      try clear c9b0
                      try clear c10
                      try clear c23
                      try clear c23b0
                      try clear c23b1
                      try clear c24
                      try clear c24b0
                      try clear c24b1
                      try clear c26
                      try clear c26b0
                      try clear c26b1
                      try clear c30
                      try clear c32
                      try clear c32b0
                      try clear c32b1
                      try clear c33
                      try clear c33b0
                      try clear c33b1
                      try clear c35
                      try clear hcz11_0
                      try clear hcz11_1
                      try clear hcz11_2
                      try clear hcz14_0
                      try clear hcz14_1
                      try clear hcz14_2
                      try clear hcz18_0
                      try clear hcz18_1
                      try clear hcz18_2
                      try clear hcz21_0
                      try clear hcz21_1
                      try clear hcz21_2
                      try clear hcz5_0
                      try clear hcz5_1
                      try clear hcz5_2
                      try clear hfz11_0
                      try clear hfz11_1
                      try clear hfz11_2
                      try clear hfz14_0
                      try clear hfz14_1
                      try clear hfz14_2
                      try clear hfz18_0
                      try clear hfz18_1
                      try clear hfz18_2
                      try clear hfz21_0
                      try clear hfz21_1
                      try clear hfz21_2
                      try clear hfz5_0
                      try clear hfz5_1
                      try clear hfz5_2
                      try clear p2
                      try clear p6
                      obtain ⟨x14_3, x92_3, rfl, HA, HK3, HO_14, HO_90, HO_277002, BK276, HB⟩ := hrel
                      cases gk with
                      | zero => exact absurd HA.out (by simp [toruslaw30_MatchRegular.l2])
                      | succ k3 =>
                        have H := HA.out
                        clear HA
                        simp only [toruslaw30_MatchRegular.l2] at H
                        by_cases c37 : x92_3 < (t284.length : Int)
                        · rw [if_pos c37] at H
                          have c37b0 : decide (x92_3 < (t284.length : Int)) = true := decide_eq_true c37
                          clear c37
                          by_cases c38 : 0 ≤ x92_3
                          · rw [if_pos c38] at H
                            have c38b0 : decide (0 ≤ x92_3) = true := decide_eq_true c38
                            clear c38
                            by_cases c39 : x92_3 < (t284.length : Int)
                            · rw [if_pos c39] at H
                              have c39b0 : decide (x92_3 < (t284.length : Int)) = true := decide_eq_true c39
                              clear c39
                              by_cases c40 : (rd t284 x92_3) < 0
                              · rw [if_pos c40] at H
                                have c40b0 : decide ((rd t284 x92_3) < 0) = true := decide_eq_true c40
                                clear c40
                                exact absurd (Option.some.inj H) (by rw [hrt]; exact Bool.false_ne_true)
                              · rw [if_neg c40] at H
                                have c40b0 : decide ((rd t284 x92_3) < 0) = false := decide_eq_false c40
                                clear c40
                                by_cases c41 : (rd t284 x92_3) ≥ (ji31)
                                · rw [if_pos c41] at H
                                  have c41b0 : decide ((ji31) ≤ (rd t284 x92_3)) = true := decide_eq_true c41
                                  clear c41
                                  exact absurd (Option.some.inj H) (by rw [hrt]; exact Bool.false_ne_true)
                                · rw [if_neg c41] at H
                                  have c41b0 : decide ((ji31) ≤ (rd t284 x92_3)) = false := decide_eq_false c41
                                  clear c41
                                  by_cases c42 : 0 ≤ (rd t284 x92_3)
                                  · rw [if_pos c42] at H
                                    have c42b0 : decide (0 ≤ (rd t284 x92_3)) = true := decide_eq_true c42
                                    clear c42
                                    by_cases c43 : (rd t284 x92_3) < (x14_3.length : Int)
                                    · rw [if_pos c43] at H
                                      have c43b0 : decide ((rd t284 x92_3) < (x14_3.length : Int)) = true := decide_eq_true c43
                                      clear c43
                                      obtain ⟨y294, hy294⟩ : ∃ y_ : List Int, y_ = (x14_3.set ((rd t284 x92_3) : Int).toNat (wrap64 ((rd x14_3 (rd t284 x92_3)) + 1))) := ⟨_, rfl⟩
                                      replace H : (toruslaw30_MatchRegular.l2 k3 (wrap64 (1 + (wrap64 (Int.tmod a0 40)))) (ji31) y294 t284 (t284.length : Int) (wrap64 (x92_3 + 1))) = some r := by first | (rw [hy294]; with_reducible exact H) | (have H2_ := (Option.bind_some _ _).symm.trans H; rw [hy294]; with_reducible exact H2_) | (have H2_ := (Option.bind_some _ _).symm.trans H; with_reducible exact H2_) | with_reducible exact H | (rw [hy294]; exact H) | exact H
                                      have Ny294 := Aside0.mk hy294
                                      clear hy294
                                      have H' := Aside0.mk H
                                      clear H
                                      have p292 : 0 ≤ (x92_3 : Int) := of_decide_eq_true (by first | (with_reducible assumption) | assumption)
                                      have q292 : x92_3 < (t284.length : Int) := of_decide_eq_true (by first | (with_reducible assumption) | assumption)
                                      obtain ⟨ad292, e292, hx292_0⟩ := Kd.at_int (Kd.R_reads' HO_90.out).2.2 x92_3 p292 q292
                                      cases e292
                                      replace p292 := eq_true p292
                                      replace q292 := eq_true q292
                                      obtain ⟨Ao45, co45, eo45⟩ := Kd.R_slice HO_14.out
                                      subst eo45
                                      have p293 : 0 ≤ ((rd t284 x92_3) : Int) := of_decide_eq_true (by first | (with_reducible assumption) | assumption)
                                      have q293 : (rd t284 x92_3) < (x14_3.length : Int) := of_decide_eq_true (by first | (with_reducible assumption) | assumption)
                                      obtain ⟨ad293, e293, hx293_0⟩ := Kd.at_int (Kd.R_reads' HO_14.out).2.2 (rd t284 x92_3) p293 q293
                                      cases e293
                                      replace p293 := eq_true p293
                                      replace q293 := eq_true q293
                                      have p44 : 0 ≤ ((rd t284 x92_3) : Int) := of_decide_eq_true (by first | (with_reducible assumption) | assumption)
                                      have q44 : ((rd t284 x92_3) : Int) < ((x14_3.length : Int) : Int) := of_decide_eq_true (by first | (with_reducible assumption) | assumption)
                                      obtain ⟨go44, co44, eo44, gb44, gl44, cl44, HG44⟩ := Kd.R_form HO_14.out (by first | omega | (have e_ := (Kd.R_reads' HO_14.out).1; omega))
                                      (first | cases eo44 | (injection eo44 with ea_ en_ ec_; (first | subst ea_ | (injection ea_ with ea_; subst ea_)); subst ec_; clear en_))
                                      have GB44 := Aside0.mk gb44
                                      have GG44 := Aside0.mk HG44
                                      clear gb44 gl44 HG44
                                      (first | simp only [add_plain] at hx293_0 | skip)
                                      obtain ⟨hx44_0, hf44_0⟩ := Kd.R_celln 0 HO_14.out ((rd t284 x92_3) : Int) p44 q44
                                      replace p44 := eq_true p44
                                      replace q44 := eq_true q44
                                      have HP46 := Kd.R_putg HO_14.out ((rd t284 x92_3) : Int) (wrap64 ((rd x14_3 (rd t284 x92_3)) + 1))
                                      go_wp2_with (first | ((with_reducible refine gate_store (t := 3) (p := 108) rfl ?_); refine store_event (t := 3) (p := 108) (v := ?vo_w47) (w1 := (wr.setCell ⟨go44, ((rd t284 x92_3) : Int).toNat, none⟩ (.int .i64 (wrap64 ((rd x14_3 (rd t284 x92_3)) + 1))))) ?hg ?ho ?hn ?hr ?_; (case ho => rfl); (case hg => rfl); (case hn => rfl); (case hr => first | (go_simp; done) | (go_simp; rfl)); intro w47 hw; have hg : wr.grownBy w47 (some go44) := (by rw [hw]; exact HP46.2); have hp_ : Kd.R (Kd.int .i64) 3 w47 w.heap.size (fun k_ => some k_ ≠ (.slice (some ad292) t284.length co36 : Value).ownBlock) (.slice (some ⟨go44, 0, none⟩) x14_3.length co45) y294 := (by rw [hw, Ny294.out]; exact HP46.1); clear HP46; have n0_ := Aside0.mk (hp_); have n1_ := Aside0.mk (Kd.R_after (v := (.slice (some ⟨go44, 0, none⟩) x14_3.length co45)) (v1 := (.slice (some ⟨go44, 0, none⟩) x14_3.length co45)) (ok := (fun _ => True)) (by (with_reducible repeat (first | apply Kd.R_alloc | apply Kd.R_drewN | apply Kd.R_drew)); exact Kd.R_mono HO_90.out (fun _ hk => ⟨trivial, hk⟩)) hg (.inl rfl)); have n2_ := Aside0.mk (Kd.R_over' (v := (.slice (some ⟨go44, 0, none⟩) x14_3.length co45)) (by (with_reducible repeat (first | apply Kd.R_alloc | apply Kd.R_drewN | apply Kd.R_drew)); exact HO_277002.out) (Kd.R_typed HO_14.out) (by decide) hg); have n3_ := Aside0.mk (blk_grown (g := gb276) (o := .cells #[.int .i64 (wrap64 (1 + (wrap64 (Int.tmod a0 40)))), .int .i64 (wrap64 (1 + (wrap64 (Int.tmod a0 40)))), .slice Ao19 x277002_1.length co19] 33 (0, 0)) (by (with_reducible repeat (first | refine blk_drewN ?_ _ | refine blk_drew ?_ | refine blk_alloc ?_ _)); exact BK276.out) hg (Kd.R_ne HO_14.out BK276.out (by decide))); have n4_ := Aside0.mk ((by rw [hw]; exact below_set (HB.out) GB44.out : Below w.heap.size w w47)); clear HO_14; clear HO_90; clear HO_277002; clear BK276; clear HB; have HO_14 := n0_; have HO_90 := n1_; have HO_277002 := n2_; have BK276 := n3_; have HB := n4_; clear n0_ n1_ n2_ n3_ n4_; clear hg hw hp_))
                                      go_roundg k3
                                      case measure => have := HK1.out; have := HJ16.out; have := HK3.out; omega
                                      case rel => exact ⟨(y294), (wrap64 (x92_3 + 1)), (by first | rfl | (simp; done) | (simp [*]; done)), H', ⟨by have := HK1.out; have := HJ16.out; have := HK3.out; omega⟩, ⟨by (with_reducible repeat (first | apply Kd.R_alloc | apply Kd.R_drewN | apply Kd.R_drew)); exact HO_14.out⟩, ⟨by (with_reducible repeat (first | apply Kd.R_alloc | apply Kd.R_drewN | apply Kd.R_drew)); exact Kd.R_mono HO_90.out (fun _ hk => hk.2)⟩, ⟨by (with_reducible repeat (first | apply Kd.R_alloc | apply Kd.R_drewN | apply Kd.R_drew)); exact HO_277002.out⟩, ⟨by (with_reducible repeat (first | refine blk_drewN ?_ _ | refine blk_drew ?_ | refine blk_alloc ?_ _)); exact BK276.out⟩, ⟨by repeat (first | (with_reducible first | exact HB.out | apply below_alloc | apply pw_below_drewN | apply below_drew1 | refine below_set ?_ GE276.out) | exact HB.out)⟩⟩
                                    · rw [if_neg c43] at H
                                      exact absurd H (by simp)
                                  · rw [if_neg c42] at H
                                    exact absurd H (by simp)
                            · rw [if_neg c39] at H
                              exact absurd H (by simp)
                          · rw [if_neg c38] at H
                            exact absurd H (by simp)
                        · rw [if_neg c37] at H
                          have c37b0 : decide (x92_3 < (t284.length : Int)) = false := decide_eq_false c37
                          clear c37
                          have H' := Aside0.mk H
                          clear H
                          obtain ⟨Ao48, co48, eo48⟩ := Kd.R_slice HO_14.out
                          subst eo48
                          go_wp2
                          go_loopg [112] k3 (fun kq v112 w' => ∃ (x112_4 : Int), v112 = .int .i64 x112_4 ∧ Aside0 (toruslaw30_MatchRegular.l3 kq (wrap64 (1 + (wrap64 (Int.tmod a0 40)))) x14_3 (x14_3.length : Int) x112_4 = some r) ∧ Aside0 (kq ≤ k3) ∧ Aside0 (Kd.R (Kd.int .i64) 3 w' w.heap.size (fun _ => True) (.slice Ao48 x14_3.length co48) x14_3) ∧ Aside0 (Kd.R k40 40 w' w.heap.size (fun _ => True) (.slice Ao19 x277002_1.length co19) x277002_1) ∧ Aside0 (w'.heap[gb276]? = some (.cells #[.int .i64 (wrap64 (1 + (wrap64 (Int.tmod a0 40)))), .int .i64 (wrap64 (1 + (wrap64 (Int.tmod a0 40)))), (.slice Ao19 x277002_1.length co19)] 33 (0, 0))) ∧ Aside0 (Below w.heap.size w w'))
                          case atStart => exact ⟨(0), (by first | rfl | (simp; done) | (simp [*]; done)), H', ⟨Nat.le_refl _⟩, ⟨by (with_reducible repeat (first | apply Kd.R_alloc | apply Kd.R_drewN | apply Kd.R_drew)); exact Kd.R_mono HO_14.out (fun _ hk => trivial)⟩, ⟨by (with_reducible repeat (first | apply Kd.R_alloc | apply Kd.R_drewN | apply Kd.R_drew)); exact HO_277002.out⟩, ⟨by (with_reducible repeat (first | refine blk_drewN ?_ _ | refine blk_drew ?_ | refine blk_alloc ?_ _)); exact BK276.out⟩, ⟨by repeat (first | (with_reducible first | exact HB.out | apply below_alloc | apply pw_below_drewN | apply below_drew1 | refine below_set ?_ GE276.out) | exact HB.out)⟩⟩
                          case round =>
                            clear H'
                            try clear c1
                            try clear c2
                            try clear p2
                            try clear q2
                            try clear hx2
                            try clear c3
                            try clear c3b0
                            try clear c3b1
                            try clear c4
                            try clear p4
                            try clear q4
                            try clear hx4
                            try clear hf4
                            try clear c6
                            try clear c6b0
                            try clear p6
                            try clear c7
                            try clear c7b0
                            try clear c8
                            try clear c8b0
                            try clear c8b1
                            try clear c9
                            try clear c9b0
                            try clear c10
                            try clear c23
                            try clear c23b0
                            try clear c23b1
                            try clear c24
                            try clear c24b0
                            try clear c24b1
                            try clear c26
                            try clear c26b0
                            try clear c26b1
                            try clear p29
                            try clear q29
                            try clear hx29
                            try clear c30
                            try clear c32
                            try clear c32b0
                            try clear c32b1
                            try clear c33
                            try clear c33b0
                            try clear c33b1
                            try clear c35
                            try clear c37
                            try clear c37b0
                            try clear c38
                            try clear c38b0
                            try clear c39
                            try clear c39b0
                            try clear c40
                            try clear c40b0
                            try clear c41
                            try clear c41b0
                            try clear c42
                            try clear c42b0
                            try clear c43
                            try clear c43b0
                            try clear p44
                            try clear q44
                            try clear hx44
                            try clear hf44
                            try clear hcz11_0
                            try clear hcz11_1
                            try clear hcz11_2
                            try clear hcz14_0
                            try clear hcz14_1
                            try clear hcz14_2
                            try clear hcz18_0
                            try clear hcz18_1
                            try clear hcz18_2
                            try clear hcz21_0
                            try clear hcz21_1
                            try clear hcz21_2
                            try clear hcz5_0
                            try clear hcz5_1
                            try clear hcz5_2
                            try clear hfz11_0
                            try clear hfz11_1
                            try clear hfz11_2
                            try clear hfz14_0
                            try clear hfz14_1
                            try clear hfz14_2
                            try clear hfz18_0
                            try clear hfz18_1
                            try clear hfz18_2
                            try clear hfz21_0
                            try clear hfz21_1
                            try clear hfz21_2
                            try clear hfz5_0
                            try clear hfz5_1
                            try clear hfz5_2
                            try clear hx292_0
                            try clear hx293_0
                            try clear hx44_0
                            try clear p2
                            try clear p292
                            try clear p293
                            try clear p44
                            try clear p6
                            try clear q292
                            try clear q293
                            try clear q44
                            obtain ⟨x112_4, rfl, HA, HK4, HO_110, HO_277002, BK276, HB⟩ := hrel
                            cases gk with
                            | zero => exact absurd HA.out (by simp [toruslaw30_MatchRegular.l3])
                            | succ k4 =>
                              have H := HA.out
                              clear HA
                              simp only [toruslaw30_MatchRegular.l3] at H
                              by_cases c49 : x112_4 < (x14_3.length : Int)
                              · rw [if_pos c49] at H
                                have c49b0 : decide (x112_4 < (x14_3.length : Int)) = true := decide_eq_true c49
                                clear c49
                                by_cases c50 : 0 ≤ x112_4
                                · rw [if_pos c50] at H
                                  have c50b0 : decide (0 ≤ x112_4) = true := decide_eq_true c50
                                  clear c50
                                  by_cases c51 : x112_4 < (x14_3.length : Int)
                                  · rw [if_pos c51] at H
                                    have c51b0 : decide (x112_4 < (x14_3.length : Int)) = true := decide_eq_true c51
                                    clear c51
                                    by_cases c52 : (rd x14_3 x112_4) = (wrap64 (1 + (wrap64 (Int.tmod a0 40))))
                                    · rw [if_pos c52] at H
                                      have c52b0 : ((rd x14_3 x112_4) == (wrap64 (1 + (wrap64 (Int.tmod a0 40))))) = true := beq_iff_eq.mpr c52
                                      have c52b1 : ((rd x14_3 x112_4) != (wrap64 (1 + (wrap64 (Int.tmod a0 40))))) = false := bne_eq_false_iff_eq.mpr c52
                                      clear c52
                                      have H' := Aside0.mk H
                                      clear H
                                      have p295 : 0 ≤ (x112_4 : Int) := of_decide_eq_true (by first | (with_reducible assumption) | assumption)
                                      have q295 : x112_4 < (x14_3.length : Int) := of_decide_eq_true (by first | (with_reducible assumption) | assumption)
                                      obtain ⟨ad295, e295, hx295_0⟩ := Kd.at_int (Kd.R_reads' HO_110.out).2.2 x112_4 p295 q295
                                      cases e295
                                      replace p295 := eq_true p295
                                      replace q295 := eq_true q295
                                      go_wp2
                                      go_roundg k4
                                      case measure => have := HK1.out; have := HJ16.out; have := HK3.out; have := HK4.out; omega
                                      case rel => exact ⟨(wrap64 (x112_4 + 1)), (by first | rfl | (simp; done) | (simp [*]; done)), H', ⟨by have := HK1.out; have := HJ16.out; have := HK3.out; have := HK4.out; omega⟩, ⟨by (with_reducible repeat (first | apply Kd.R_alloc | apply Kd.R_drewN | apply Kd.R_drew)); exact HO_110.out⟩, ⟨by (with_reducible repeat (first | apply Kd.R_alloc | apply Kd.R_drewN | apply Kd.R_drew)); exact HO_277002.out⟩, ⟨by (with_reducible repeat (first | refine blk_drewN ?_ _ | refine blk_drew ?_ | refine blk_alloc ?_ _)); exact BK276.out⟩, ⟨by repeat (first | (with_reducible first | exact HB.out | apply below_alloc | apply pw_below_drewN | apply below_drew1 | refine below_set ?_ GE276.out) | exact HB.out)⟩⟩
                                    · rw [if_neg c52] at H
                                      have c52b0 : ((rd x14_3 x112_4) == (wrap64 (1 + (wrap64 (Int.tmod a0 40))))) = false := beq_eq_false_iff_ne.mpr c52
                                      have c52b1 : ((rd x14_3 x112_4) != (wrap64 (1 + (wrap64 (Int.tmod a0 40))))) = true := bne_iff_ne.mpr c52
                                      exact absurd (Option.some.inj H) (by rw [hrt]; exact Bool.false_ne_true)
                                  · rw [if_neg c51] at H
                                    exact absurd H (by simp)
                                · rw [if_neg c50] at H
                                  exact absurd H (by simp)
                              · rw [if_neg c49] at H
                                have c49b0 : decide (x112_4 < (x14_3.length : Int)) = false := decide_eq_false c49
                                clear c49
                                replace H := Option.bind_eq_some_iff.mp H
                                obtain ⟨t296, A530, H⟩ := H
                                replace H : (some t296) = some r := H
                                have A53 := Aside0.mk A530
                                clear A530
                                obtain rfl := Option.some.inj H
                                go_wp2_with (first | ((with_reducible refine gate_callee (f := 16) rfl ?_); refine goesL_ (some 120) rfl rfl Try.func16 (by kernel_rfl) rfl #[] rfl (by (try simp only [List.map_toArray, List.map_cons, List.map_nil]); first | done | rfl | (simp only [List.length_drop, List.length_take]; rfl)) ?_; (with_reducible refine (toruslaw30_awake.calls  t296 _ A53.out).mono ?_); rintro e w54 ⟨rfl, hb⟩; refine ⟨_, rfl, ?_⟩; have n0_ := Aside0.mk (Kd.R_below (by (with_reducible repeat (first | apply Kd.R_alloc | apply Kd.R_drewN | apply Kd.R_drew)); exact HO_110.out) hb); have n1_ := Aside0.mk (Kd.R_below (by (with_reducible repeat (first | apply Kd.R_alloc | apply Kd.R_drewN | apply Kd.R_drew)); exact HO_277002.out) hb); have n2_ := Aside0.mk (blk_below (g := gb276) (o := .cells #[.int .i64 (wrap64 (1 + (wrap64 (Int.tmod a0 40)))), .int .i64 (wrap64 (1 + (wrap64 (Int.tmod a0 40)))), .slice Ao19 x277002_1.length co19] 33 (0, 0)) (by (with_reducible repeat (first | refine blk_drewN ?_ _ | refine blk_drew ?_ | refine blk_alloc ?_ _)); exact BK276.out) hb); have n3_ := Aside0.mk (below_step (by repeat (first | (with_reducible first | exact HB.out | apply below_alloc | apply pw_below_drewN | apply below_drew1 | refine below_set ?_ GE276.out) | exact HB.out)) hb); clear HO_110; clear HO_277002; clear BK276; clear HB; have HO_110 := n0_; have HO_277002 := n1_; have BK276 := n2_; have HB := n3_; clear n0_ n1_ n2_ n3_; (try clear hb); (try clear hb2); (try clear hk); (try clear hi)))
                                go_ret
                                exact ⟨by first | rfl | (simp [errW_none, errW_some] <;> rfl) | (simp only [← hji31]; first | rfl | (simp [errW_none, errW_some] <;> rfl)) | (simp [*, errW_none, errW_some] <;> rfl), by repeat (first | (with_reducible first | exact HB.out | apply below_alloc | apply pw_below_drewN | apply below_drew1 | refine below_set ?_ GE276.out) | exact HB.out)⟩
                  · rw [if_neg c33] at H
                    exact absurd H (by simp)
                · rw [if_neg c32] at H
                  exact absurd H (by simp)
def toruslaw30_MatchRegular.Pure : Prop := ∀ (a0 : Int) (a1 : Int), (Lit.int .u8 a0).wf = true → (Lit.int .u8 a1).wf = true → ∃ k, toruslaw30_MatchRegular.f k a0 a1 = some true
theorem toruslaw30_MatchRegular.walk (P : toruslaw30_MatchRegular.Pure) (a0 : Int) (a1 : Int) (w : World) (w0 : (Lit.int .u8 a0).wf = true) (w1 : (Lit.int .u8 a1).wf = true) :
    Calls Try.prog 10 #[.int .u8 a0, .int .u8 a1] w fun e w' => e = .returned (.bool true) ∧ Below w.heap.size w w' := by
  obtain ⟨k, h⟩ := P a0 a1 w0 w1
  refine (toruslaw30_MatchRegular.calls k a0 a1 true w h rfl).mono ?_
  rintro e w' ⟨rfl, hd⟩
  exact ⟨rfl, hd⟩
end Go.Proofs.Ytlleokhmgblfnaa.M
end

section
namespace Go.Proofs.Ytlleokhmgblfnaa.P
def cnt : Nat → (Int → Bool) → Nat
  | 0, _ => 0
  | n + 1, p => cnt n p + if p n then 1 else 0
theorem cnt_succ (n : Nat) (p : Int → Bool) : cnt (n + 1) p = cnt n p + if p n then 1 else 0 := rfl
theorem cnt_le (p : Int → Bool) : ∀ n, cnt n p ≤ n
  | 0 => Nat.le_refl _
  | n + 1 => by have := cnt_le p n; unfold cnt; split <;> omega
theorem cnt_congr {p q : Int → Bool} : ∀ n : Nat, (∀ i : Int, 0 ≤ i → i < n → p i = q i) → cnt n p = cnt n q
  | 0, _ => rfl
  | n + 1, h => by
    unfold cnt
    rw [cnt_congr n (fun i h0 h1 => h i h0 (by omega)), h n (by omega) (by omega)]
theorem cnt_mono {p q : Int → Bool} : ∀ n : Nat, (∀ i : Int, 0 ≤ i → i < n → p i = true → q i = true) → cnt n p ≤ cnt n q
  | 0, _ => Nat.le_refl _
  | n + 1, h => by
    unfold cnt
    have h1 := cnt_mono n (fun i h0 h1 => h i h0 (by omega))
    have h2 := h n (by omega) (by omega)
    by_cases hp : p n = true
    · rw [if_pos hp, if_pos (h2 hp)]; omega
    · rw [if_neg hp]; omega
theorem cnt_all {p : Int → Bool} (n : Nat) (h : ∀ i : Int, 0 ≤ i → i < n → p i = true) : cnt n p = n := by
  induction n with
  | zero => rfl
  | succ n ih =>
    unfold cnt
    rw [ih (fun i h0 h1 => h i h0 (by omega)), h n (by omega) (by omega)]
    rfl
theorem cnt_not (p : Int → Bool) : ∀ n, cnt n p + cnt n (fun i => !p i) = n
  | 0 => rfl
  | n + 1 => by
    have := cnt_not p n
    unfold cnt
    cases hp : p n <;> simp [hp] <;> omega
theorem cnt_split (p q : Int → Bool) : ∀ n, cnt n p = cnt n (fun i => p i && q i) + cnt n (fun i => p i && !q i)
  | 0 => rfl
  | n + 1 => by
    have := cnt_split p q n
    unfold cnt
    cases hp : p n <;> cases hq : q n <;> simp [hp, hq] <;> omega
theorem cnt_out (p : Int → Bool) (j : Int) : ∀ n : Nat, 0 ≤ j → j < n → p j = true → cnt n p = cnt n (fun i => p i && i != j) + 1
  | 0, h0, h1, _ => by omega
  | n + 1, h0, h1, hp => by
    unfold cnt
    by_cases e : j = n
    · subst e
      have : cnt n (fun i => p i && i != (n : Int)) = cnt n p := cnt_congr n (fun i h0 h1 => by
        have : (i != (n : Int)) = true := by simp; omega
        rw [this, Bool.and_true])
      rw [this, hp]
      simp
    · have := cnt_out p j n h0 (by omega) hp
      rw [this]
      have e2 : (p n && (n : Int) != j) = p n := by
        have : ((n : Int) != j) = true := by simp; omega
        rw [this, Bool.and_true]
      show _ = cnt n (fun i => p i && i != j) + (if (p n && (n : Int) != j) = true then 1 else 0) + 1
      rw [e2]
      omega
theorem cnt_put (p : Int → Bool) (j : Int) (n : Nat) (h0 : 0 ≤ j) (h1 : j < n) (hp : p j = false) : cnt n (fun i => p i || i == j) = cnt n p + 1 := by
  rw [cnt_out (fun i => p i || i == j) j n h0 h1 (by simp)]
  congr 1
  refine cnt_congr n (fun i _ _ => ?_)
  by_cases e : i = j
  · subst e; simp [hp]
  · have : (i == j) = false := by simpa using e
    simp [this, e]
theorem cnt_inj {p : Int → Bool} (f : Int → Int) (m : Nat) : ∀ (n : Nat) (q : Int → Bool), (∀ i : Int, 0 ≤ i → i < n → p i = true → 0 ≤ f i ∧ f i < m ∧ q (f i) = true) →
    (∀ i j : Int, 0 ≤ i → i < n → 0 ≤ j → j < n → p i = true → p j = true → f i = f j → i = j) → cnt n p ≤ cnt m q
  | 0, _, _, _ => Nat.zero_le _
  | n + 1, q, h, hi => by
    rw [cnt_succ]
    by_cases hp : p n = true
    · rw [if_pos hp]
      obtain ⟨a, b, c⟩ := h n (by omega) (by omega) hp
      rw [cnt_out q (f n) m a b c]
      have := cnt_inj f m n (fun i => q i && i != f n) (fun i h0 h1 hpi => by
        obtain ⟨a', b', c'⟩ := h i h0 (by omega) hpi
        refine ⟨a', b', ?_⟩
        have : f i ≠ f n := fun e => by have := hi i n h0 (by omega) (by omega) (by omega) hpi hp e; omega
        simp [c', this]) (fun i j a1 a2 a3 a4 a5 a6 a7 => hi i j a1 (by omega) a3 (by omega) a5 a6 a7)
      omega
    · rw [if_neg hp]
      exact cnt_inj f m n q (fun i h0 h1 => h i h0 (by omega)) (fun i j a1 a2 a3 a4 => hi i j a1 (by omega) a3 (by omega))
structure IsM (n R : Nat) (Adj : Int → Int → Prop) (M : Int → Int) : Prop where
  lt : ∀ v : Int, 0 ≤ v → v < n → 0 ≤ M v → M v < R
  adj : ∀ v : Int, 0 ≤ v → v < n → 0 ≤ M v → Adj v (M v)
  inj : ∀ v v' : Int, 0 ≤ v → v < n → 0 ≤ v' → v' < n → 0 ≤ M v → M v = M v' → v = v'
def has (M : Int → Int) (v : Int) : Bool := decide (0 ≤ M v)
def msize (n : Nat) (M : Int → Int) : Nat := cnt n (has M)
structure IsMax (n R : Nat) (Adj : Int → Int → Prop) (s : Nat) : Prop where
  some : ∃ M, IsM n R Adj M ∧ msize n M = s
  all : ∀ M, IsM n R Adj M → msize n M ≤ s
theorem IsMax.eq {n R : Nat} {Adj : Int → Int → Prop} {s t : Nat} (h : IsMax n R Adj s) (k : IsMax n R Adj t) : s = t := by
  obtain ⟨M, hM, e⟩ := h.some
  obtain ⟨M', hM', e'⟩ := k.some
  have := h.all M' hM'
  have := k.all M hM
  omega
theorem cover_bound {n R : Nat} {Adj : Int → Int → Prop} {M : Int → Int} (h : IsM n R Adj M) (CL CR : Int → Bool) (hc : ∀ v w : Int, 0 ≤ v → v < n → 0 ≤ w → w < R → Adj v w → CL v = true ∨ CR w = true) :
    msize n M ≤ cnt n CL + cnt R CR := by
  unfold msize
  rw [cnt_split (has M) CL n]
  have h1 : cnt n (fun i => has M i && CL i) ≤ cnt n CL := cnt_mono n (fun i _ _ hi => by simp at hi; exact hi.2)
  have h2 : cnt n (fun i => has M i && !CL i) ≤ cnt R CR := by
    refine cnt_inj M R n CR (fun i h0 h1 hp => ?_) (fun i j a1 a2 a3 a4 a5 a6 a7 => ?_)
    · simp [has] at hp
      refine ⟨hp.1, h.lt i h0 h1 hp.1, ?_⟩
      rcases hc i (M i) h0 h1 hp.1 (h.lt i h0 h1 hp.1) (h.adj i h0 h1 hp.1) with h3 | h3
      · rw [hp.2] at h3; cases h3
      · exact h3
    · simp [has] at a5
      exact h.inj i j a1 a2 a3 a4 a5.1 a7
  omega
end Go.Proofs.Ytlleokhmgblfnaa.P
namespace Go.Proofs.Ytlleokhmgblfnaa.P
open Go.RowKit Go.Proofs.YtlleokhmgblfnaaW.PrintWords Go.Proofs.Ytlleokhmgblfnaa.H
theorem rd_set (xs : List Int) (i j y : Int) (h0 : 0 ≤ i) (h1 : i < xs.length) (hj : 0 ≤ j) : rd (xs.set i.toNat y) j = if j = i then y else rd xs j := by
  unfold rd
  rw [List.getD_eq_getElem?_getD, List.getD_eq_getElem?_getD, List.getElem?_set]
  by_cases e : j = i
  · subst e
    rw [if_pos rfl, if_pos rfl, if_pos (by omega)]
    rfl
  · rw [if_neg (by omega), if_neg e]
theorem rd_set_eq {xs : List Int} {i y : Int} (h0 : 0 ≤ i) (h1 : i < xs.length) : rd (xs.set i.toNat y) i = y := by rw [rd_set xs i i y h0 h1 h0, if_pos rfl]
theorem rd_set_ne {xs : List Int} {i j y : Int} (h0 : 0 ≤ i) (h1 : i < xs.length) (hj : 0 ≤ j) (hne : j ≠ i) : rd (xs.set i.toNat y) j = rd xs j := by rw [rd_set xs i j y h0 h1 hj, if_neg hne]
theorem rd_mem {xs : List Int} {i : Int} (h0 : 0 ≤ i) (h1 : i < xs.length) : rd xs i ∈ xs := by
  unfold rd
  rw [List.getD_eq_getElem?_getD, List.getElem?_eq_getElem (by omega)]
  exact List.getElem_mem _
theorem mem_rd {xs : List Int} {x : Int} (h : x ∈ xs) : ∃ i : Int, 0 ≤ i ∧ i < xs.length ∧ rd xs i = x := by
  obtain ⟨i, hi, e⟩ := List.getElem_of_mem h
  exact ⟨i, by omega, by omega, by simp [rd, hi, e]⟩
theorem extG_mono_k (next : List (List Int)) (v j : Int) (m b l : List Int) : ∀ k, LeO ((fun k => extG next k v j m b l) k) ((fun k => extG next k v j m b l) (k + 1)) := fun k => extG_mono next k v j m b l
def NV (next : List (List Int)) (R : Nat) : Prop := ∀ v : Int, 0 ≤ v → v < next.length → ∀ w ∈ rdL next v, 0 ≤ w ∧ w < R
structure Hole (next : List (List Int)) (R : Nat) (m b : List Int) (h : Int) : Prop where
  lm : m.length = next.length
  lb : b.length = R
  mm : ∀ v : Int, 0 ≤ v → v < next.length → 0 ≤ rd m v → rd m v < R ∧ rd m v ∈ rdL next v ∧ rd b (rd m v) = v ∧ rd m v ≠ h
  bb : ∀ w : Int, 0 ≤ w → w < R → w ≠ h → 0 ≤ rd b w → rd b w < next.length ∧ rd m (rd b w) = w
theorem Hole.fill {next : List (List Int)} {R : Nat} {m b : List Int} {w v : Int} (h : Hole next R m b w) (hv0 : 0 ≤ v) (hv1 : v < next.length) (hw0 : 0 ≤ w) (hw1 : w < R) (ha : w ∈ rdL next v) :
    Hole next R (m.set v.toNat w) (b.set w.toNat v) (rd m v) := by
  have l1 := h.lm
  have l2 := h.lb
  refine ⟨by rw [List.length_set]; exact l1, by rw [List.length_set]; exact l2, fun x hx0 hx1 hx => ?_, fun y hy0 hy1 hne hy => ?_⟩
  · by_cases e : x = v
    · subst e
      rw [rd_set_eq hx0 (by omega)] at hx ⊢
      refine ⟨hw1, ha, by rw [rd_set_eq hw0 (by omega)], fun e2 => ?_⟩
      exact (h.mm x hx0 hx1 (e2 ▸ hw0)).2.2.2 e2.symm
    · rw [rd_set_ne hv0 (by omega) hx0 e] at hx ⊢
      obtain ⟨a1, a2, a3, a4⟩ := h.mm x hx0 hx1 hx
      refine ⟨a1, a2, by rw [rd_set_ne hw0 (by omega) hx a4]; exact a3, fun e2 => ?_⟩
      by_cases hv : 0 ≤ rd m v
      · have := (h.mm v hv0 hv1 hv).2.2.1
        rw [← e2, a3] at this
        exact e this
      · omega
  · by_cases e : y = w
    · subst e
      rw [rd_set_eq hy0 (by omega)] at hy ⊢
      exact ⟨hv1, by rw [rd_set_eq hv0 (by omega)]⟩
    · rw [rd_set_ne hw0 (by omega) hy0 e] at hy ⊢
      obtain ⟨a1, a2⟩ := h.bb y hy0 hy1 e hy
      refine ⟨a1, ?_⟩
      rw [rd_set_ne hv0 (by omega) hy]
      · exact a2
      · intro e2
        rw [e2] at a2
        exact hne a2.symm
theorem Hole.other {next : List (List Int)} {R : Nat} {m b : List Int} {w : Int} (h : Hole next R m b (-1)) (hw0 : 0 ≤ w) (hw1 : w < R) (hb : rd b w < 0) : Hole next R m b w :=
  ⟨h.lm, h.lb, fun v a c d => ⟨(h.mm v a c d).1, (h.mm v a c d).2.1, (h.mm v a c d).2.2.1, fun e => by have := (h.mm v a c d).2.2.1; rw [e] at this; omega⟩, fun y a c _ d => h.bb y a c (by omega) d⟩
theorem Hole.neg {next : List (List Int)} {R : Nat} {m b : List Int} {w : Int} (h : Hole next R m b w) (hw : w < 0) : Hole next R m b (-1) :=
  ⟨h.lm, h.lb, fun v a c d => ⟨(h.mm v a c d).1, (h.mm v a c d).2.1, (h.mm v a c d).2.2.1, by omega⟩, fun y a c _ d => h.bb y a c (by omega) d⟩
def Base (n : Nat) (l0 l : List Int) : Prop := ∀ x : Int, 0 ≤ x → x < n → rd l x = rd l0 x ∨ rd l x = -1
def DC (next : List (List Int)) (b l0 l : List Int) : Prop :=
  ∀ x : Int, 0 ≤ x → x < next.length → 0 ≤ rd l0 x → rd l x = -1 → ∀ w ∈ rdL next x, 0 ≤ rd b w ∧ (rd l0 (rd b w) = rd l0 x + 1 → rd l (rd b w) = -1)
structure ExtSpec (next : List (List Int)) (R : Nat) (m b l : List Int) (v : Int) (q : Bool × List Int × List Int × List Int) : Prop where
  ll : q.2.2.2.length = next.length
  lv : ∀ x : Int, 0 ≤ x → x < next.length → rd q.2.2.2 x = rd l x ∨ (rd q.2.2.2 x = -1 ∧ (x = v ∨ rd l v < rd l x))
  ok : q.1 = true → Hole next R q.2.1 q.2.2.1 (rd m v) ∧ (∀ x : Int, 0 ≤ x → x < next.length → (0 ≤ rd q.2.1 x ↔ 0 ≤ rd m x ∨ x = v)) ∧ (∀ x : Int, 0 ≤ x → x < next.length → rd l x < rd l v → rd q.2.1 x = rd m x)
  no : q.1 = false → q.2.1 = m ∧ q.2.2.1 = b ∧ rd q.2.2.2 v = -1
  dc : q.1 = false → ∀ l0, Base next.length l0 l → DC next b l0 l → DC next b l0 q.2.2.2
theorem ext_spec {next : List (List Int)} {R : Nat} (hn : next.length ≤ 35184372088832) (hNV : NV next R) {m b : List Int} (hg : Hole next R m b (-1)) :
    ∀ (d : Nat) (v : Int) (l : List Int), 0 ≤ v → v < next.length → l.length = next.length → (∀ x : Int, 0 ≤ x → x < next.length → -1 ≤ rd l x ∧ rd l x ≤ next.length) → 0 ≤ rd l v → (next.length : Int) < rd l v + d →
      ∃ K q, extG next K v 0 m b l = some q ∧ ExtSpec next R m b l v q := by
  intro d
  induction d with
  | zero => intro v l h0 h1 h2 h3 h4 h5; have := h3 v h0 h1; omega
  | succ d ih =>
    intro v l hv0 hv1 hl hL hlv hd
    have wr : wrap64 (rd l v + 1) = rd l v + 1 := by have := hL v hv0 hv1; unfold wrap64; omega
    have key : ∀ (e : Nat) (j : Int) (l' : List Int), (rdL next v).length ≤ j + e → 0 ≤ j → l'.length = next.length → rd l' v = rd l v →
        (∀ x : Int, 0 ≤ x → x < next.length → rd l' x = rd l x ∨ (rd l' x = -1 ∧ rd l v < rd l x)) →
        (∀ j' : Int, 0 ≤ j' → j' < j → 0 ≤ rd b (rd (rdL next v) j')) →
        (∀ l0, Base next.length l0 l → DC next b l0 l → DC next b l0 l' ∧ (∀ j' : Int, 0 ≤ j' → j' < j → rd l0 (rd b (rd (rdL next v) j')) = rd l0 v + 1 → rd l' (rd b (rd (rdL next v) j')) = -1)) →
        ∃ K q, extG next K v j m b l' = some q ∧ ExtSpec next R m b l v q := by
      intro e
      induction e with
      | zero =>
        intro j l' he hj hl' hlv' hlx hs hp
        refine ⟨1, (false, m, b, l'.set v.toNat (-1)), by rw [extG, if_neg (by omega)], ?_⟩
        refine ⟨by simpa using hl', fun x h0 h1 => ?_, (fun h => by cases h), fun _ => ⟨rfl, rfl, rd_set_eq hv0 (by omega)⟩, fun _ l0 hb0 hd0 => ?_⟩
        · by_cases ex : x = v
          · subst ex
            exact .inr ⟨rd_set_eq h0 (by omega), .inl rfl⟩
          · show rd (l'.set v.toNat (-1)) x = _ ∨ (rd (l'.set v.toNat (-1)) x = -1 ∧ _)
            rw [rd_set_ne hv0 (by omega) h0 ex]
            rcases hlx x h0 h1 with h | ⟨h, h'⟩
            · exact .inl h
            · exact .inr ⟨h, .inr h'⟩
        · obtain ⟨p1, p2⟩ := hp l0 hb0 hd0
          intro x h0 h1 h2 h3 w hw
          show 0 ≤ rd b w ∧ (_ → rd (l'.set v.toNat (-1)) (rd b w) = -1)
          by_cases ex : x = v
          · subst ex
            obtain ⟨i, i0, i1, rfl⟩ := mem_rd hw
            have hb := hs i i0 (by omega)
            refine ⟨hb, fun h4 => ?_⟩
            have h5 := p2 i i0 (by omega) h4
            by_cases ey : rd b (rd (rdL next x) i) = x
            · rw [ey]; exact rd_set_eq h0 (by omega)
            · rw [rd_set_ne h0 (by omega) hb ey]; exact h5
          · have h3' : rd l' x = -1 := by
              have : rd (l'.set v.toNat (-1)) x = -1 := h3
              rwa [rd_set_ne hv0 (by omega) h0 ex] at this
            obtain ⟨hb, h5⟩ := p1 x h0 h1 h2 h3' w hw
            refine ⟨hb, fun h4 => ?_⟩
            by_cases ey : rd b w = v
            · rw [ey]; exact rd_set_eq hv0 (by omega)
            · rw [rd_set_ne hv0 (by omega) hb ey]; exact h5 h4
      | succ e ihe =>
        intro j l' he hj hl' hlv' hlx hs hp
        by_cases hlt : j < (rdL next v).length
        case neg => exact ihe j l' (by omega) hj hl' hlv' hlx hs hp
        obtain ⟨x, hx⟩ : ∃ x, rd (rdL next v) j = x := ⟨_, rfl⟩
        have hxm : x ∈ rdL next v := hx ▸ rd_mem hj hlt
        obtain ⟨hx0, hx1⟩ := hNV v hv0 hv1 x hxm
        obtain ⟨u, hu⟩ : ∃ u, rd b x = u := ⟨_, rfl⟩
        have hlb := hg.lb
        have hlm := hg.lm
        by_cases hu0 : u < 0
        · refine ⟨1, (true, m.set v.toNat x, b.set x.toNat v, l'), by rw [extG, if_pos hlt, hx, if_pos hx0, if_pos (by omega), hu, if_pos hu0], ?_⟩
          refine ⟨hl', fun y h0 h1 => ?_, fun _ => ⟨(hg.other hx0 hx1 (by omega)).fill hv0 hv1 hx0 hx1 hxm, fun y h0 h1 => ?_, fun y h0 h1 h2 => ?_⟩, (fun h => by cases h), (fun h => by cases h)⟩
          · rcases hlx y h0 h1 with h | ⟨h, h'⟩
            · exact .inl h
            · exact .inr ⟨h, .inr h'⟩
          · show 0 ≤ rd (m.set v.toNat x) y ↔ _
            by_cases ey : y = v
            · subst ey; rw [rd_set_eq h0 (by omega)]; simp [hx0]
            · rw [rd_set_ne hv0 (by omega) h0 ey]; simp [ey]
          · exact rd_set_ne hv0 (by omega) h0 (fun ey => by rw [ey] at h2; omega)
        have hu0' : 0 ≤ u := by omega
        obtain ⟨hun, hum⟩ := hg.bb x hx0 hx1 (by omega) (by omega)
        rw [hu] at hun hum
        by_cases hlu : rd l' u = wrap64 (rd l' v + 1)
        · have hlu2 : rd l' u = rd l v + 1 := by rw [hlu, hlv', wr]
          have hL' : ∀ y : Int, 0 ≤ y → y < next.length → -1 ≤ rd l' y ∧ rd l' y ≤ next.length := fun y h0 h1 => by
            rcases hlx y h0 h1 with h | ⟨h, _⟩
            · rw [h]; exact hL y h0 h1
            · rw [h]; omega
          obtain ⟨K1, q, hq, S⟩ := ih u l' hu0' hun hl' hL' (by omega) (by omega)
          have hqx : ∀ y : Int, 0 ≤ y → y < next.length → rd q.2.2.2 y = rd l y ∨ (rd q.2.2.2 y = -1 ∧ rd l v < rd l y) := fun y h0 h1 => by
            rcases S.lv y h0 h1 with h | ⟨h, h' | h'⟩
            · rw [h]; exact hlx y h0 h1
            · rcases hlx y h0 h1 with h2 | ⟨h2, _⟩
              · exact .inr ⟨h, by rw [h'] at h2 ⊢; omega⟩
              · rw [h'] at h2; omega
            · rcases hlx y h0 h1 with h2 | ⟨h2, _⟩
              · exact .inr ⟨h, by omega⟩
              · omega
          obtain ⟨q0, qm, qb, ql⟩ := q
          cases q0 with
          | true =>
            obtain ⟨s1, s2, s3⟩ := S.ok rfl
            refine ⟨K1 + 1, (true, qm.set v.toNat x, qb.set x.toNat v, ql), by rw [extG, if_pos hlt, hx, if_pos hx0, if_pos (by omega), hu, if_neg hu0, if_pos (by omega), if_pos hun, if_pos hlu, hq], ?_⟩
            rw [hum] at s1
            have e1 : rd qm v = rd m v := s3 v hv0 hv1 (by omega)
            have lqm : qm.length = next.length := s1.lm
            refine ⟨S.ll, fun y h0 h1 => ?_, fun _ => ⟨?_, fun y h0 h1 => ?_, fun y h0 h1 h2 => ?_⟩, (fun h => by cases h), (fun h => by cases h)⟩
            · rcases hqx y h0 h1 with h | ⟨h, h'⟩
              · exact .inl h
              · exact .inr ⟨h, .inr h'⟩
            · have := s1.fill hv0 hv1 hx0 hx1 hxm
              rw [e1] at this
              exact this
            · show 0 ≤ rd (qm.set v.toNat x) y ↔ _
              by_cases ey : y = v
              · subst ey; rw [rd_set_eq h0 (by omega)]; simp [hx0]
              · rw [rd_set_ne hv0 (by omega) h0 ey, s2 y h0 h1]
                constructor
                · rintro (h | h)
                  · exact .inl h
                  · subst h; exact .inl (by omega)
                · rintro (h | h)
                  · exact .inl h
                  · exact absurd h ey
            · have ey : y ≠ v := fun ey => by rw [ey] at h2; omega
              show rd (qm.set v.toNat x) y = _
              rw [rd_set_ne hv0 (by omega) h0 ey]
              refine s3 y h0 h1 ?_
              rcases hlx y h0 h1 with h | ⟨h, h'⟩
              · omega
              · omega
          | false =>
            obtain ⟨s1, s2, s3⟩ := S.no rfl
            have s1' : qm = m := s1
            have s2' : qb = b := s2
            subst s1' s2'
            have hqv : rd ql v = rd l v := by
              rcases hqx v hv0 hv1 with h | ⟨h, h'⟩
              · exact h
              · omega
            obtain ⟨K2, q2, hq2, S2⟩ := ihe (j + 1) ql (by omega) (by omega) S.ll hqv hqx
              (fun j' h0 h1 => by
                by_cases ej : j' = j
                · subst ej; rw [hx, hu]; exact hu0'
                · exact hs j' h0 (by omega))
              (fun l0 hb0 hd0 => by
                obtain ⟨p1, p2⟩ := hp l0 hb0 hd0
                have hb1 : Base next.length l0 l' := fun y h0 h1 => by
                  rcases hlx y h0 h1 with h | ⟨h, _⟩
                  · rw [h]; exact hb0 y h0 h1
                  · exact .inr h
                refine ⟨S.dc rfl l0 hb1 p1, fun j' h0 h1 h2 => ?_⟩
                by_cases ej : j' = j
                · subst ej; rw [hx, hu]; exact s3
                · have h3 := p2 j' h0 (by omega) h2
                  have hb3 := hs j' h0 (by omega)
                  have hm3 : rd (rdL next v) j' ∈ rdL next v := rd_mem h0 (by omega)
                  obtain ⟨w0, w1⟩ := hNV v hv0 hv1 _ hm3
                  obtain ⟨b1, _⟩ := hg.bb _ w0 w1 (by omega) hb3
                  rcases S.lv _ hb3 b1 with h | ⟨h, _⟩
                  · exact h.trans h3
                  · exact h)
            refine ⟨max K1 K2 + 1, q2, ?_, S2⟩
            have a1 := at_rounds (extG_mono_k next u 0 qm qb l') (Nat.le_max_left K1 K2) hq
            have a2 := at_rounds (extG_mono_k next v (j + 1) qm qb ql) (Nat.le_max_right K1 K2) hq2
            rw [extG, if_pos hlt, hx, if_pos hx0, if_pos (by omega), hu, if_neg hu0, if_pos (by omega), if_pos hun, if_pos hlu, a1]
            exact a2
        · obtain ⟨K2, q2, hq2, S2⟩ := ihe (j + 1) l' (by omega) (by omega) hl' hlv' hlx
            (fun j' h0 h1 => by
              by_cases ej : j' = j
              · subst ej; rw [hx, hu]; exact hu0'
              · exact hs j' h0 (by omega))
            (fun l0 hb0 hd0 => by
              obtain ⟨p1, p2⟩ := hp l0 hb0 hd0
              refine ⟨p1, fun j' h0 h1 h2 => ?_⟩
              by_cases ej : j' = j
              · subst ej
                rw [hx, hu] at h2 ⊢
                rw [hlv', wr] at hlu
                have b1 := hb0 u hu0' hun
                have b2 := hb0 v hv0 hv1
                have b3 := hlx u hu0' hun
                omega
              · exact p2 j' h0 (by omega) h2)
          refine ⟨K2 + 1, q2, ?_, S2⟩
          rw [extG, if_pos hlt, hx, if_pos hx0, if_pos (by omega), hu, if_neg hu0, if_pos (by omega), if_pos hun, if_neg hlu]
          exact hq2
    exact key (rdL next v).length 0 l (by omega) (by omega) hl rfl (fun x _ _ => .inl rfl) (fun j' h0 h1 => by omega) (fun l0 hb hd => ⟨hd, fun j' h0 h1 => by omega⟩)
end Go.Proofs.Ytlleokhmgblfnaa.P
end

section
namespace Go.Proofs.Ytlleokhmgblfnaa.P
open Go.RowKit Go.Proofs.YtlleokhmgblfnaaW.PrintWords Go.Proofs.Ytlleokhmgblfnaa.H
theorem nodup_cnt (i : Nat) : ∀ q : List Int, q.Nodup → (∀ j ∈ q, 0 ≤ j ∧ j < i) → q.length ≤ cnt i (fun x => decide (x ∈ q))
  | [], _, _ => Nat.zero_le _
  | j :: q, hn, hr => by
    rw [List.nodup_cons] at hn
    have ih := nodup_cnt i q hn.2 (fun x hx => hr x (List.mem_cons_of_mem _ hx))
    have hj := hr j List.mem_cons_self
    have e := cnt_put (fun x => decide (x ∈ q)) j i hj.1 hj.2 (by simpa using hn.1)
    have e2 : cnt i (fun x => decide (x ∈ j :: q)) = cnt i (fun x => decide (x ∈ q) || x == j) := cnt_congr i (fun x _ _ => by
      by_cases h1 : x = j <;> by_cases h2 : x ∈ q <;> simp [h1, h2])
    rw [e2, e, List.length_cons]
    omega
theorem nodup_len {i : Nat} {q : List Int} (hn : q.Nodup) (hr : ∀ j ∈ q, 0 ≤ j ∧ j < i) : q.length ≤ i :=
  Nat.le_trans (nodup_cnt i q hn hr) (cnt_le _ _)
theorem miss_some (m : Int) (row : Int → Int) (a0 : Int) (h1 : a0 < m) (h2 : row a0 < 0) : ∀ (k : Nat) (c : Int), c ≤ a0 → m < c + k → ∃ a, missF m row k c = some a ∧ c ≤ a ∧ a < m ∧ row a < 0
  | 0, c, h, hk => by omega
  | k + 1, c, h, hk => by
    unfold missF
    rw [if_pos (by omega)]
    by_cases h3 : 0 ≤ row c
    · rw [if_pos h3]
      have : c ≠ a0 := fun e => by subst e; omega
      obtain ⟨a, e1, e2, e3, e4⟩ := miss_some m row a0 h1 h2 k (c + 1) (by omega) (by omega)
      exact ⟨a, e1, by omega, e3, e4⟩
    · rw [if_neg h3]
      exact ⟨c, rfl, by omega, by omega, by omega⟩
structure Gr (n m e L : Int) (X Y : Int → Int) : Prop where
  x0 : ∀ j, 0 ≤ j → j < e → 0 ≤ X j
  x1 : ∀ j, 0 ≤ j → j < e → X j < L
  y0 : ∀ j, 0 ≤ j → j < e → L ≤ Y j
  y1 : ∀ j, 0 ≤ j → j < e → Y j < n
structure Inv (n m : Int) (X Y : Int → Int) (i : Int) (T : Tab) (O : Int → Int) : Prop where
  col : ∀ j, 0 ≤ j → j < i → 0 ≤ O j ∧ O j < m
  row : ∀ v c, 0 ≤ v → v < n → 0 ≤ c → c < m → T v c = -1 ∨ (0 ≤ T v c ∧ T v c < i ∧ (X (T v c) = v ∨ Y (T v c) = v) ∧ O (T v c) = c)
  inX : ∀ j, 0 ≤ j → j < i → T (X j) (O j) = j
  inY : ∀ j, 0 ≤ j → j < i → T (Y j) (O j) = j
section
variable {n m e L i : Int} {X Y : Int → Int} {T : Tab} {O : Int → Int} {w a b : Int}
theorem Inv.at_ (h : Inv n m X Y i T O) {j v : Int} (j0 : 0 ≤ j) (j1 : j < i) (hv : X j = v ∨ Y j = v) : T v (O j) = j := by
  rcases hv with rfl | rfl
  · exact h.inX j j0 j1
  · exact h.inY j j0 j1
inductive Way (X Y : Int → Int) (T : Tab) (w a b : Int) : List Int → Int → Int → Prop
  | nil : Way X Y T w a b [] w a
  | cons {q : List Int} {u c j : Int} : Way X Y T w a b q u c → T u c = j → 0 ≤ j → Way X Y T w a b (j :: q) (X j + Y j - u) (a + b - c)
structure Set1 (n m e L i : Int) (X Y : Int → Int) (T : Tab) (O : Int → Int) (w a b : Int) : Prop where
  gr : Gr n m e L X Y
  inv : Inv n m X Y i T O
  ie : i ≤ e
  L0 : 0 ≤ L
  Ln : L ≤ n
  w0 : L ≤ w
  w1 : w < n
  a0 : 0 ≤ a
  a1 : a < m
  b0 : 0 ≤ b
  b1 : b < m
  ab : a ≠ b
  wb : T w b = -1
theorem Set1.edge (s : Set1 n m e L i X Y T O w a b) {u c : Int} (u0 : 0 ≤ u) (u1 : u < n) (c0 : 0 ≤ c) (c1 : c < m) (h : 0 ≤ T u c) : T u c < i ∧ (X (T u c) = u ∨ Y (T u c) = u) ∧ O (T u c) = c := by
  rcases s.inv.row u c u0 u1 c0 c1 with h1 | h1
  · omega
  · exact h1.2
theorem Way.side (s : Set1 n m e L i X Y T O w a b) {q : List Int} {u c : Int} (h : Way X Y T w a b q u c) : (c = a ∧ L ≤ u ∧ u < n) ∨ (c = b ∧ 0 ≤ u ∧ u < L) := by
  induction h with
  | nil => exact .inl ⟨rfl, s.w0, s.w1⟩
  | @cons q u c j h hj j0 ih =>
    have L0 := s.L0
    have Ln := s.Ln
    have hs : 0 ≤ u ∧ u < n ∧ 0 ≤ c ∧ c < m := by
      have := s.a0; have := s.a1; have := s.b0; have := s.b1
      omega
    have he := s.edge hs.1 hs.2.1 hs.2.2.1 hs.2.2.2 (by rw [hj]; exact j0)
    rw [hj] at he
    have ie := s.ie
    have x0 := s.gr.x0 j j0 (by omega)
    have x1 := s.gr.x1 j j0 (by omega)
    have y0 := s.gr.y0 j j0 (by omega)
    have y1 := s.gr.y1 j j0 (by omega)
    omega
theorem Way.rng (s : Set1 n m e L i X Y T O w a b) {q : List Int} {u c : Int} (h : Way X Y T w a b q u c) : 0 ≤ u ∧ u < n ∧ 0 ≤ c ∧ c < m := by
  have := h.side s
  have := s.L0; have := s.Ln; have := s.a0; have := s.a1; have := s.b0; have := s.b1
  omega
theorem Way.came (s : Set1 n m e L i X Y T O w a b) {q : List Int} {u c : Int} (h : Way X Y T w a b q u c) : (q = [] ∧ u = w ∧ c = a) ∨ ∃ j q', q = j :: q' ∧ 0 ≤ j ∧ j < i ∧ T u (a + b - c) = j := by
  cases h with
  | nil => exact .inl ⟨rfl, rfl, rfl⟩
  | @cons q u c j h hj j0 =>
    have hs := h.rng s
    have he := s.edge hs.1 hs.2.1 hs.2.2.1 hs.2.2.2 (by rw [hj]; exact j0)
    rw [hj] at he
    refine .inr ⟨j, q, rfl, j0, he.1, ?_⟩
    have h2 := s.inv.at_ (v := X j + Y j - u) j0 he.1 (by omega)
    rw [he.2.2] at h2
    rw [show a + b - (a + b - c) = c by omega]
    exact h2
theorem Way.one (s : Set1 n m e L i X Y T O w a b) : ∀ {q q' : List Int} {u c : Int}, Way X Y T w a b q u c → Way X Y T w a b q' u c → q = q' := by
  intro q
  induction q with
  | nil =>
    intro q' u c h h'
    cases h with
    | nil =>
      rcases h'.came s with h2 | ⟨j, q2, e, j0, j1, ht⟩
      · exact h2.1.symm
      · rw [show a + b - a = b by omega, s.wb] at ht; omega
  | cons j q ih =>
    intro q' u c h h'
    rcases h.came s with h2 | ⟨j1, q1, e1, p0, p1, t1⟩
    · cases h2.1
    · rcases h'.came s with h3 | ⟨j2, q2, e2, r0, r1, t2⟩
      · obtain ⟨_, rfl, rfl⟩ := h3
        rw [show c + b - c = b by omega, s.wb] at t1; omega
      · have ej : j1 = j2 := t1.symm.trans t2
        subst ej
        cases e1
        subst e2
        generalize hu : u = u1 at h
        generalize hc : c = c1 at h
        cases h with
        | @cons _ u3 c3 _ h4 hj4 _ =>
          generalize hu' : u = u2 at h'
          generalize hc' : c = c2 at h'
          cases h' with
          | @cons _ u5 c5 _ h6 hj6 _ =>
            have eu : u5 = u3 := by omega
            have ec : c5 = c3 := by omega
            subst eu ec
            rw [ih h4 h6]
theorem Way.part {q : List Int} {u c : Int} (h : Way X Y T w a b q u c) : ∀ j ∈ q, ∃ q0 u0 c0, q0.length < q.length ∧ Way X Y T w a b q0 u0 c0 ∧ T u0 c0 = j ∧ 0 ≤ j := by
  induction h with
  | nil => intro j hj; cases hj
  | @cons q u c j0 h hj j00 ih =>
    intro j hjm
    rcases List.mem_cons.1 hjm with rfl | hjm
    · exact ⟨q, u, c, by simp, h, hj, j00⟩
    · obtain ⟨q0, u0, c0, h1, h2, h3, h4⟩ := ih j hjm
      exact ⟨q0, u0, c0, by simp; omega, h2, h3, h4⟩
theorem Way.edge (s : Set1 n m e L i X Y T O w a b) {q : List Int} {u c : Int} (h : Way X Y T w a b q u c) : ∀ j ∈ q, 0 ≤ j ∧ j < i ∧ (O j = a ∨ O j = b) := by
  intro j hj
  obtain ⟨q0, u0, c0, h1, h2, h3, h4⟩ := h.part j hj
  have hs := h2.rng s
  have he := s.edge hs.1 hs.2.1 hs.2.2.1 hs.2.2.2 (by rw [h3]; exact h4)
  rw [h3] at he
  have := h2.side s
  omega
theorem Way.fresh (s : Set1 n m e L i X Y T O w a b) {q : List Int} {u c : Int} (h : Way X Y T w a b q u c) (hj : 0 ≤ T u c) : T u c ∉ q := by
  intro hm
  obtain ⟨q0, u0, c0, h1, h2, h3, h4⟩ := h.part _ hm
  have hs := h.rng s
  have hs0 := h2.rng s
  have he := s.edge hs.1 hs.2.1 hs.2.2.1 hs.2.2.2 hj
  have he0 := s.edge hs0.1 hs0.2.1 hs0.2.2.1 hs0.2.2.2 (by rw [h3]; exact h4)
  rw [h3] at he0
  have ec : c0 = c := by omega
  have s1 := h.side s
  have s2 := h2.side s
  have ie := s.ie
  have x0 := s.gr.x0 _ h4 (by omega)
  have x1 := s.gr.x1 _ h4 (by omega)
  have y0 := s.gr.y0 _ h4 (by omega)
  have ab := s.ab
  have eu : u0 = u := by omega
  subst ec eu
  rw [h2.one s h] at h1
  omega
theorem Way.nodup (s : Set1 n m e L i X Y T O w a b) {q : List Int} {u c : Int} (h : Way X Y T w a b q u c) : q.Nodup := by
  induction h with
  | nil => exact List.nodup_nil
  | @cons q u c j h hj j0 ih =>
    rw [List.nodup_cons]
    refine ⟨?_, ih⟩
    rw [← hj]
    exact h.fresh s (by rw [hj]; exact j0)
theorem Way.shut (s : Set1 n m e L i X Y T O w a b) {q : List Int} {u c : Int} (h : Way X Y T w a b q u c) : ∀ j ∈ q, ∀ z, (X j = z ∨ Y j = z) → T z (a + b - O j) = -1 ∨ T z (a + b - O j) ∈ q ∨ (z = u ∧ a + b - O j = c) := by
  induction h with
  | nil => intro j hj; cases hj
  | @cons q u c j0 h hj j00 ih =>
    intro j hjm z hz
    have hs := h.rng s
    have he := s.edge hs.1 hs.2.1 hs.2.2.1 hs.2.2.2 (by rw [hj]; exact j00)
    rw [hj] at he
    rcases List.mem_cons.1 hjm with rfl | hjm
    · rw [he.2.2]
      by_cases e : z = u
      · subst e
        rcases h.came s with ⟨_, rfl, rfl⟩ | ⟨j1, q1, rfl, p0, p1, t1⟩
        · left; rw [show c + b - c = b by omega]; exact s.wb
        · right; left; rw [t1]; simp
      · right; right
        have ie := s.ie
        have x1 := s.gr.x1 _ j00 (by omega)
        have y0 := s.gr.y0 _ j00 (by omega)
        omega
    · rcases ih j hjm z hz with h1 | h1 | ⟨h1, h2⟩
      · exact .inl h1
      · exact .inr (.inl (List.mem_cons_of_mem _ h1))
      · right; left
        rw [h2, h1, hj]
        exact List.mem_cons_self
theorem Way.left (s : Set1 n m e L i X Y T O w a b) {q : List Int} {u c : Int} (h : Way X Y T w a b q u c) : ∀ j ∈ q, O j = b → 0 ≤ T (X j) a := by
  intro j hj ho
  obtain ⟨q0, u0, c0, h1, h2, h3, h4⟩ := h.part j hj
  have hs := h2.rng s
  have he := s.edge hs.1 hs.2.1 hs.2.2.1 hs.2.2.2 (by rw [h3]; exact h4)
  rw [h3] at he
  have ab := s.ab
  have ie := s.ie
  have x1 := s.gr.x1 _ h4 (by omega)
  have y0 := s.gr.y0 _ h4 (by omega)
  have eu : X j = u0 := by have := h2.side s; omega
  rcases h2.came s with ⟨_, _, hc⟩ | ⟨j1, q1, e1, p0, p1, t1⟩
  · omega
  · rw [show a + b - c0 = a by omega] at t1
    rw [eu, t1]; exact p0
theorem Way.first (s : Set1 n m e L i X Y T O w a b) {q : List Int} {u c : Int} (h : Way X Y T w a b q u c) : q = [] ∧ u = w ∧ c = a ∨ T w a ∈ q := by
  induction h with
  | nil => exact .inl ⟨rfl, rfl, rfl⟩
  | @cons q u c j0 h hj j00 ih =>
    right
    rcases ih with ⟨rfl, rfl, rfl⟩ | h1
    · rw [hj]; exact List.mem_cons_self
    · exact List.mem_cons_of_mem _ h1
theorem path_ok (s : Set1 n m e L i X Y T O w a b) (he : e ≤ 65536) (hi : 0 ≤ i) : ∀ (k : Nat) (q : List Int) (u c : Int), Way X Y T w a b q u c → i < q.length + k →
    ∃ q' u' c', pathF n m e X Y (a + b) T k u c q.reverse = some q'.reverse ∧ Way X Y T w a b q' u' c' ∧ T u' c' < 0
  | 0, q, u, c, h, hk => by
    have := nodup_len (i := i.toNat) (h.nodup s) (fun j hj => by have := h.edge s j hj; omega)
    omega
  | k + 1, q, u, c, h, hk => by
    have hs := h.rng s
    unfold pathF
    rw [if_pos hs]
    by_cases hj : 0 ≤ T u c
    · rw [if_pos hj]
      have hed := s.edge hs.1 hs.2.1 hs.2.2.1 hs.2.2.2 hj
      have h2 : Way X Y T w a b (T u c :: q) (X (T u c) + Y (T u c) - u) (a + b - c) := .cons h rfl hj
      have hlen := nodup_len (i := i.toNat) (h2.nodup s) (fun j hj => by have := h2.edge s j hj; omega)
      have ie := s.ie
      rw [List.length_cons] at hlen
      rw [if_pos ⟨by omega, by rw [List.length_reverse]; omega⟩, show q.reverse ++ [T u c] = (T u c :: q).reverse by simp]
      exact path_ok s he hi k _ _ _ h2 (by rw [List.length_cons]; omega)
    · rw [if_neg hj]
      exact ⟨q, u, c, rfl, h, by omega⟩
end
end Go.Proofs.Ytlleokhmgblfnaa.P
end

section
namespace Go.Proofs.Ytlleokhmgblfnaa.P
open Go.RowKit Go.Proofs.YtlleokhmgblfnaaW.PrintWords Go.Proofs.Ytlleokhmgblfnaa.H
section
variable {n m e L i : Int} {X Y : Int → Int} {T : Tab} {O : Int → Int} {w a b : Int}
theorem upd2 (T : Tab) (x y c j v d : Int) : upd (upd T x c j) y c j v d = if (x = v ∨ y = v) ∧ c = d then j else T v d := by
  unfold upd
  by_cases h1 : v = y ∧ d = c
  · rw [if_pos h1, if_pos ⟨.inr h1.1.symm, h1.2.symm⟩]
  · rw [if_neg h1]
    by_cases h2 : v = x ∧ d = c
    · rw [if_pos h2, if_pos ⟨.inl h2.1.symm, h2.2.symm⟩]
    · rw [if_neg h2, if_neg (fun h => h.1.elim (fun h3 => h2 ⟨h3.symm, h.2.symm⟩) (fun h3 => h1 ⟨h3.symm, h.2.symm⟩))]
theorem clear_ok : ∀ (p : List Int) (T : Tab), (∀ j ∈ p, 0 ≤ j ∧ j < e ∧ 0 ≤ O j ∧ O j < m) →
    ∃ T2, clearF m e X Y O p T = some T2 ∧ ∀ v c, T2 v c = T v c ∧ (∀ j ∈ p, ¬ ((X j = v ∨ Y j = v) ∧ O j = c)) ∨ T2 v c = -1 ∧ (∃ j ∈ p, (X j = v ∨ Y j = v) ∧ O j = c)
  | [], T, _ => ⟨T, rfl, fun v c => .inl ⟨rfl, fun j hj => by cases hj⟩⟩
  | j :: p, T, h => by
    have hj := h j List.mem_cons_self
    obtain ⟨T2, h1, h2⟩ := clear_ok p (upd (upd T (X j) (O j) (-1)) (Y j) (O j) (-1)) (fun x hx => h x (List.mem_cons_of_mem _ hx))
    refine ⟨T2, ?_, fun v c => ?_⟩
    · unfold clearF
      rw [if_pos hj]
      exact h1
    · rcases h2 v c with ⟨h3, h4⟩ | ⟨h3, j', h4, h5⟩
      · rw [upd2] at h3
        by_cases h6 : (X j = v ∨ Y j = v) ∧ O j = c
        · rw [if_pos h6] at h3
          exact .inr ⟨h3, j, List.mem_cons_self, h6⟩
        · rw [if_neg h6] at h3
          refine .inl ⟨h3, fun x hx => ?_⟩
          rcases List.mem_cons.1 hx with rfl | hx
          · exact h6
          · exact h4 x hx
      · exact .inr ⟨h3, j', List.mem_cons_of_mem _ h4, h5⟩
theorem set_ok (s : Int) : ∀ (p : List Int) (T : Tab) (O : Int → Int), p.Nodup → (∀ j ∈ p, 0 ≤ j ∧ j < e ∧ 0 ≤ O j ∧ O j < m ∧ 0 ≤ s - O j ∧ s - O j < m) →
    (∀ j ∈ p, ∀ j' ∈ p, ∀ v, (X j = v ∨ Y j = v) → (X j' = v ∨ Y j' = v) → O j = O j' → j = j') →
    ∃ T3 O3, setF m e X Y s p T O = some (T3, O3) ∧ (∀ j, j ∉ p → O3 j = O j) ∧ (∀ j ∈ p, O3 j = s - O j) ∧
      (∀ v c, T3 v c = T v c ∧ (∀ j ∈ p, ¬ ((X j = v ∨ Y j = v) ∧ s - O j = c)) ∨ ∃ j ∈ p, (X j = v ∨ Y j = v) ∧ s - O j = c ∧ T3 v c = j)
  | [], T, O, _, _, _ => ⟨T, O, rfl, fun j _ => rfl, fun j hj => absurd hj List.not_mem_nil, fun v c => .inl ⟨rfl, fun j hj => absurd hj List.not_mem_nil⟩⟩
  | j :: p, T, O, hn, h, hu => by
    rw [List.nodup_cons] at hn
    have hj := h j List.mem_cons_self
    have hO : ∀ x, x ∈ p → updO O j (s - O j) x = O x := fun x hx => by
      unfold updO
      rw [if_neg (fun h => hn.1 (by rw [← h]; exact hx))]
    obtain ⟨T3, O3, h1, h2, h3, h4⟩ := set_ok s p (upd (upd T (X j) (s - O j) j) (Y j) (s - O j) j) (updO O j (s - O j)) hn.2
      (fun x hx => by rw [hO x hx]; exact h x (List.mem_cons_of_mem _ hx))
      (fun x hx x' hx' v hv hv' he => hu x (List.mem_cons_of_mem _ hx) x' (List.mem_cons_of_mem _ hx') v hv hv' (by rw [hO x hx, hO x' hx'] at he; exact he))
    refine ⟨T3, O3, ?_, fun x hx => ?_, fun x hx => ?_, fun v c => ?_⟩
    · unfold setF
      rw [if_pos hj]
      exact h1
    · rw [h2 x (fun hp => hx (List.mem_cons_of_mem _ hp))]
      unfold updO
      rw [if_neg (fun e => hx (by rw [e]; exact List.mem_cons_self))]
    · rcases List.mem_cons.1 hx with rfl | hx
      · rw [h2 x hn.1]
        unfold updO
        rw [if_pos rfl]
      · rw [h3 x hx, hO x hx]
    · rcases h4 v c with ⟨h5, h6⟩ | ⟨j', h5, h6, h7, h8⟩
      · rw [upd2] at h5
        by_cases h9 : (X j = v ∨ Y j = v) ∧ s - O j = c
        · rw [if_pos h9] at h5
          exact .inr ⟨j, List.mem_cons_self, h9.1, h9.2, h5⟩
        · rw [if_neg h9] at h5
          refine .inl ⟨h5, fun x hx => ?_⟩
          rcases List.mem_cons.1 hx with rfl | hx
          · exact h9
          · have := h6 x hx
            rw [hO x hx] at this
            exact this
      · rw [hO j' h5] at h7
        exact .inr ⟨j', List.mem_cons_of_mem _ h5, h6, h7, h8⟩
theorem flip_in {q qr : List Int} {T2 T3 : Tab} {O3 : Int → Int} (s : Set1 n m e L i X Y T O w a b) (hed : ∀ j ∈ q, 0 ≤ j ∧ j < i ∧ (O j = a ∨ O j = b)) (hmem : ∀ j, j ∈ qr ↔ j ∈ q)
    (one : ∀ j, 0 ≤ j → j < i → ∀ j', 0 ≤ j' → j' < i → ∀ v, (X j = v ∨ Y j = v) → (X j' = v ∨ Y j' = v) → O j = O j' → j = j')
    (shut2 : ∀ j ∈ q, ∀ z, (X j = z ∨ Y j = z) → T z (a + b - O j) = -1 ∨ T z (a + b - O j) ∈ q)
    (hT2 : ∀ v c, T2 v c = T v c ∧ (∀ j ∈ qr, ¬ ((X j = v ∨ Y j = v) ∧ O j = c)) ∨ T2 v c = -1 ∧ (∃ j ∈ qr, (X j = v ∨ Y j = v) ∧ O j = c))
    (hO1 : ∀ j, j ∉ qr → O3 j = O j) (hO2 : ∀ j ∈ qr, O3 j = a + b - O j)
    (hT3 : ∀ v c, T3 v c = T2 v c ∧ (∀ j ∈ qr, ¬ ((X j = v ∨ Y j = v) ∧ a + b - O j = c)) ∨ ∃ j ∈ qr, (X j = v ∨ Y j = v) ∧ a + b - O j = c ∧ T3 v c = j) :
    ∀ j, 0 ≤ j → j < i → ∀ v, (X j = v ∨ Y j = v) → T3 v (O3 j) = j := by
  intro j j0 j1 v hv
  by_cases hj : j ∈ q
  · have hjr := (hmem j).2 hj
    rw [hO2 j hjr]
    rcases hT3 v (a + b - O j) with ⟨_, h5⟩ | ⟨j', h4, h5, h6, h7⟩
    · exact absurd ⟨hv, rfl⟩ (h5 j hjr)
    · rw [h7]
      have hj' := hed j' ((hmem j').1 h4)
      exact one j' hj'.1 hj'.2.1 j j0 j1 v h5 hv (by omega)
  · have hjr : j ∉ qr := fun h => hj ((hmem j).1 h)
    rw [hO1 j hjr]
    have e1 := s.inv.at_ j0 j1 hv
    rcases hT3 v (O j) with ⟨h4, h5⟩ | ⟨j', h4, h5, h6, h7⟩
    · rw [h4]
      rcases hT2 v (O j) with ⟨h6, h7⟩ | ⟨h6, j', h7, h8, h9⟩
      · rw [h6]; exact e1
      · have hj' := hed j' ((hmem j').1 h7)
        have := one j' hj'.1 hj'.2.1 j j0 j1 v h8 hv h9
        exact absurd (this ▸ h7) hjr
    · have hj' := hed j' ((hmem j').1 h4)
      rcases shut2 j' ((hmem j').1 h4) v h5 with h8 | h8
      · rw [h6, e1] at h8; omega
      · rw [h6, e1] at h8; exact absurd h8 hj
theorem flip_ok (s : Set1 n m e L i X Y T O w a b) (he : e ≤ 65536) (hi : 0 ≤ i) (K : Nat) (hK : i < K) :
    ∃ T3 O3, flipF n m e X Y K T O w a b = some (T3, O3) ∧ Inv n m X Y i T3 O3 ∧ T3 w a = -1 ∧ ∀ v, 0 ≤ v → v < L → T v a = -1 → T3 v a = -1 := by
  obtain ⟨q, u, c, h1, hw, hend⟩ := path_ok s he hi K [] w a .nil (by simpa using hK)
  have hed := hw.edge s
  have hshut := hw.shut s
  have hleft := hw.left s
  have hrng := hw.rng s
  have huc : T u c = -1 := by
    rcases s.inv.row u c hrng.1 hrng.2.1 hrng.2.2.1 hrng.2.2.2 with h | h
    · exact h
    · omega
  have nd := hw.nodup s
  have ie := s.ie
  have a0 := s.a0
  have a1 := s.a1
  have b0 := s.b0
  have b1 := s.b1
  have ab := s.ab
  have hmem : ∀ j, j ∈ q.reverse ↔ j ∈ q := fun j => List.mem_reverse
  have one : ∀ j, 0 ≤ j → j < i → ∀ j', 0 ≤ j' → j' < i → ∀ v, (X j = v ∨ Y j = v) → (X j' = v ∨ Y j' = v) → O j = O j' → j = j' := fun j p0 p1 j' r0 r1 v hv hv' ho => by
    have e1 := s.inv.at_ p0 p1 hv
    have e2 := s.inv.at_ r0 r1 hv'
    rw [← e1, ← e2, ho]
  obtain ⟨T2, h2, hT2⟩ := clear_ok (m := m) (e := e) (X := X) (Y := Y) (O := O) q.reverse T (fun j hj => by have := hed j ((hmem j).1 hj); omega)
  obtain ⟨T3, O3, h3, hO1, hO2, hT3⟩ := set_ok (m := m) (e := e) (X := X) (Y := Y) (a + b) q.reverse T2 O (List.pairwise_reverse.2 (nd.imp fun h => h.symm)) (fun j hj => by have := hed j ((hmem j).1 hj); omega)
    (fun j hj j' hj' v hv hv' ho => one j (hed j ((hmem j).1 hj)).1 (hed j ((hmem j).1 hj)).2.1 j' (hed j' ((hmem j').1 hj')).1 (hed j' ((hmem j').1 hj')).2.1 v hv hv' ho)
  have shut2 : ∀ j ∈ q, ∀ z, (X j = z ∨ Y j = z) → T z (a + b - O j) = -1 ∨ T z (a + b - O j) ∈ q := fun j hj z hz => by
    rcases hshut j hj z hz with h | h | ⟨rfl, h⟩
    · exact .inl h
    · exact .inr h
    · left; rw [h]; exact huc
  refine ⟨T3, O3, ?_, ⟨fun j j0 j1 => ?_, fun v d v0 v1 d0 d1 => ?_, ?_, ?_⟩, ?_, fun v v0 v1 hv => ?_⟩
  · unfold flipF
    rw [show (([] : List Int)) = [].reverse by rfl, h1]
    simp only [Option.bind_some]
    rw [h2]
    exact h3
  · by_cases hj : j ∈ q
    · rw [hO2 j ((hmem j).2 hj)]
      have := hed j hj
      omega
    · rw [hO1 j (fun h => hj ((hmem j).1 h))]
      exact s.inv.col j j0 j1
  · rcases hT3 v d with ⟨h4, h5⟩ | ⟨j, h4, h5, h6, h7⟩
    · rcases hT2 v d with ⟨h6, h7⟩ | ⟨h6, _⟩
      · rw [h4, h6]
        rcases s.inv.row v d v0 v1 d0 d1 with h8 | ⟨h8, h9, h10, h11⟩
        · exact .inl h8
        · refine .inr ⟨h8, h9, h10, ?_⟩
          rw [hO1 _ (fun h => h7 _ h ⟨h10, h11⟩)]
          exact h11
      · rw [h4, h6]; exact .inl rfl
    · have hj := hed j ((hmem j).1 h4)
      rw [h7]
      exact .inr ⟨hj.1, hj.2.1, h5, by rw [hO2 j h4]; exact h6⟩
  · intro j j0 j1
    exact flip_in s hed hmem one shut2 hT2 hO1 hO2 hT3 j j0 j1 (X j) (.inl rfl)
  · intro j j0 j1
    exact flip_in s hed hmem one shut2 hT2 hO1 hO2 hT3 j j0 j1 (Y j) (.inr rfl)
  · rcases hT3 w a with ⟨h4, h5⟩ | ⟨j, h4, h5, h6, h7⟩
    · rw [h4]
      rcases hT2 w a with ⟨h6, h7⟩ | ⟨h6, _⟩
      · rw [h6]
        rcases hw.first s with ⟨rfl, rfl, rfl⟩ | hm
        · exact huc
        · have hj := hed _ hm
          have hwr : T w a < i ∧ (X (T w a) = w ∨ Y (T w a) = w) ∧ O (T w a) = a := s.edge (by have := s.L0; have := s.w0; omega) s.w1 a0 a1 hj.1
          exact absurd hwr.2 (h7 _ ((hmem _).2 hm))
      · exact h6
    · have hj := hed j ((hmem j).1 h4)
      have e1 := s.inv.at_ hj.1 hj.2.1 h5
      rw [show O j = b by omega, s.wb] at e1
      omega
  · rcases hT3 v a with ⟨h4, h5⟩ | ⟨j, h4, h5, h6, h7⟩
    · rw [h4]
      rcases hT2 v a with ⟨h6, _⟩ | ⟨h6, _⟩
      · rw [h6]; exact hv
      · exact h6
    · have hj := hed j ((hmem j).1 h4)
      have hb : O j = b := by omega
      have := hleft j ((hmem j).1 h4) hb
      have y0 := s.gr.y0 j hj.1 (by omega)
      have ex : X j = v := by omega
      rw [ex, hv] at this
      omega
end
end Go.Proofs.Ytlleokhmgblfnaa.P
end
