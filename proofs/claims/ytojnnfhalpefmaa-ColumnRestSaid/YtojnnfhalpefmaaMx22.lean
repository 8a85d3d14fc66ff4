-- Written by a program of this session (a widened copy of the kit's printer) out of the translation.
import Derived.Test.YtojnnfhalpefmaaMx20
import Derived.Test.YtojnnfhalpefmaaEAw
import Derived.Test.YtojnnfhalpefmaaMx6
import Derived.Test.YtojnnfhalpefmaaMx7
import Derived.Test.YtojnnfhalpefmaaMx8
namespace Go.Proofs.Ytojnnfhalpefmaa.M
open Go.RowKit Go.Proofs.YtojnnfhalpefmaaW.PrintWords Go.Proofs.YtojnnfhalpefmaaW.PrintLast Go.Proofs.YtojnnfhalpefmaaW.PrintMore
attribute [local go_sem] max2_int min2_int max_two min_two max_three min_three max_four min_four   -- for this text's walks alone
set_option linter.unusedVariables false
set_option linter.unusedSimpArgs false

/-! ### toruslaw04_ColumnDenseMatches: function 5 -/
def toruslaw04_ColumnDenseMatches.j0 : Nat → Int → List Int → List (S45) → Int → Bool → Option (Bool)
  | 0, _, _, _, _, _ => none
  | k + 1, x0, x1, x2, x3, x29 => if x29 = true then ((toruslaw04_awake.f).bind fun t367 => (some t367)) else ((column_Of.f k x0 x1).bind fun bt368 => ((torusref04_Of.f k x0 x1).bind fun bt372 => ((column_Dense.f k x0 x2 x3).bind fun bt376 => ((torusref04_Dense.f k x0 x2 x3).bind fun bt380 => ((torusref04_Same.f k bt368.1 bt372.1).bind fun t384 => (if t384 = true then (if bt368.2 = bt372.2 then ((torusref01_Same.f k bt376.1 bt380.1).bind fun t385 => (if t385 = true then (if bt376.2 = bt380.2 then ((toruslaw04_awake.f).bind fun t386 => (some t386)) else (some false)) else (some false))) else (some false)) else (some false)))))))
def toruslaw04_ColumnDenseMatches.f (k : Nat) (a0 : Int) (l1 : List Int) (l2 : List (S45)) (a3 : Int) : Option (Bool) := if (l1.length : Int) > 60 then (if (l1.length : Int) ≤ 1024 then (toruslaw04_ColumnDenseMatches.j0 k a0 l1 l2 a3 true) else (toruslaw04_ColumnDenseMatches.j0 k a0 l1 l2 a3 (decide ((l2.length : Int) > 30)))) else (toruslaw04_ColumnDenseMatches.j0 k a0 l1 l2 a3 (decide ((l2.length : Int) > 30)))
theorem toruslaw04_ColumnDenseMatches.mono_l : ∀ k, (∀ y0 y1 y2 y3 y4, LeO (toruslaw04_ColumnDenseMatches.j0 k y0 y1 y2 y3 y4) (toruslaw04_ColumnDenseMatches.j0 (k + 1) y0 y1 y2 y3 y4))
  | 0 => fun _ _ _ _ _ r h => by simp [toruslaw04_ColumnDenseMatches.j0] at h
  | k + 1 => by
    have ih0 := toruslaw04_ColumnDenseMatches.mono_l k
    · intro y0 y1 y2 y3 y4
      unfold toruslaw04_ColumnDenseMatches.j0
      repeat' first
      | (with_reducible exact ih0 _ _ _ _ _)
      | (with_reducible exact column_Dense.mono _ _ _ _)
      | (with_reducible exact column_Of.mono _ _ _)
      | (with_reducible exact torusref01_Same.mono _ _ _)
      | (with_reducible exact torusref04_Dense.mono _ _ _ _)
      | (with_reducible exact torusref04_Of.mono _ _ _)
      | (with_reducible exact torusref04_Same.mono _ _ _)
      | (with_reducible exact LeO.refl _)
      | (with_reducible exact LeO.none _)
      | (with_reducible refine LeO.ite ?_ ?_)
      | (with_reducible refine LeO.bind ?_ (fun _ => ?_))
      | exact ih0 _ _ _ _ _
      | exact column_Dense.mono _ _ _ _
      | exact column_Of.mono _ _ _
      | exact torusref01_Same.mono _ _ _
      | exact torusref04_Dense.mono _ _ _ _
      | exact torusref04_Of.mono _ _ _
      | exact torusref04_Same.mono _ _ _
      | exact LeO.none _
      | refine LeO.ite ?_ ?_
      | refine LeO.bind ?_ (fun _ => ?_)
theorem toruslaw04_ColumnDenseMatches.mono : ∀ a0 a1 a2 a3 k, LeO (toruslaw04_ColumnDenseMatches.f k a0 a1 a2 a3) (toruslaw04_ColumnDenseMatches.f (k + 1) a0 a1 a2 a3) := by
  intro a0 a1 a2 a3 k
  have ih0 := toruslaw04_ColumnDenseMatches.mono_l k
  unfold toruslaw04_ColumnDenseMatches.f
  repeat' first
      | (with_reducible exact ih0 _ _ _ _ _)
      | (with_reducible exact column_Dense.mono _ _ _ _)
      | (with_reducible exact column_Of.mono _ _ _)
      | (with_reducible exact torusref01_Same.mono _ _ _)
      | (with_reducible exact torusref04_Dense.mono _ _ _ _)
      | (with_reducible exact torusref04_Of.mono _ _ _)
      | (with_reducible exact torusref04_Same.mono _ _ _)
      | (with_reducible exact LeO.refl _)
      | (with_reducible exact LeO.none _)
      | (with_reducible refine LeO.ite ?_ ?_)
      | (with_reducible refine LeO.bind ?_ (fun _ => ?_))
      | exact ih0 _ _ _ _ _
      | exact column_Dense.mono _ _ _ _
      | exact column_Of.mono _ _ _
      | exact torusref01_Same.mono _ _ _
      | exact torusref04_Dense.mono _ _ _ _
      | exact torusref04_Of.mono _ _ _
      | exact torusref04_Same.mono _ _ _
      | exact LeO.none _
      | refine LeO.ite ?_ ?_
      | refine LeO.bind ?_ (fun _ => ?_)
set_option maxHeartbeats 8000000 in
set_option maxRecDepth 100000 in
theorem toruslaw04_ColumnDenseMatches.calls (k : Nat) (a0 : Int) (A1 : Option Addr) (c1 : Nat) (l1 : List Int) (A2 : Option Addr) (c2 : Nat) (l2 : List (S45)) (a3 : Int) (r : Bool) (w : World) (hr1 : Kd.C (Kd.int .i64) w A1 l1.length l1) (hc1 : l1.length ≤ c1) (hr2 : Kd.C k45 w A2 l2.length l2) (hc2 : l2.length ≤ c2) (h : toruslaw04_ColumnDenseMatches.f k a0 l1 l2 a3 = some r) (hrt : r = true) :
    Calls Try.prog 5 #[.int .i64 a0, .slice A1 l1.length c1, .slice A2 l2.length c2, .int .i64 a3] w fun e w' => e = .returned (.bool r) ∧ Below w.heap.size w w' := by
  have HR1 := Aside0.mk hr1
  have HC1 := Aside0.mk hc1
  clear hr1 hc1
  have HR2 := Aside0.mk hr2
  have HC2 := Aside0.mk hc2
  clear hr2 hc2
  have HB := Aside0.mk (Below.refl w.heap.size w)
  have H : (if (l1.length : Int) > 60 then (if (l1.length : Int) ≤ 1024 then (toruslaw04_ColumnDenseMatches.j0 k a0 l1 l2 a3 true) else (toruslaw04_ColumnDenseMatches.j0 k a0 l1 l2 a3 (decide ((l2.length : Int) > 30)))) else (toruslaw04_ColumnDenseMatches.j0 k a0 l1 l2 a3 (decide ((l2.length : Int) > 30)))) = some r := h
  clear h
  have HC5 := Aside0.mk H
  clear H
  go_enter Try.func5, Try.ntmps5
  go_upto_region 1 with (fail)
  go_cut [29] (fun v29 wc => ∃ (kq : Nat) (x29_4 : Bool), v29 = .bool x29_4 ∧ Aside0 (toruslaw04_ColumnDenseMatches.j0 kq a0 l1 l2 a3 x29_4 = some r) ∧ Aside0 (kq ≤ k) ∧ Aside0 (Below w.heap.size w wc))
  case first =>
    have H := HC5.out
    clear HC5
    by_cases c6 : (l1.length : Int) > 60
    · rw [if_pos c6] at H
      have c6b0 : decide (60 < (l1.length : Int)) = true := decide_eq_true c6
      have c6b1 : decide (60 < l1.length) = true := decide_eq_true (by omega)
      clear c6
      (first | rw [c6b0] | (simp only [i64_w, i32_w]; rw [c6b0]) | skip)
      by_cases c7 : (l1.length : Int) ≤ 1024
      · rw [if_pos c7] at H
        have c7b0 : decide ((l1.length : Int) ≤ 1024) = true := decide_eq_true c7
        have c7b1 : decide (l1.length ≤ 1024) = true := decide_eq_true (by omega)
        clear c7
        have H' := Aside0.mk H
        clear H
        go_wp2
        go_meet
        case rel => exact ⟨_, (true), (by first | rfl | (simp; done) | (simp [*]; done)), H', ⟨by first | omega | exact Nat.le_refl _⟩, ⟨by repeat (first | (with_reducible first | exact HB.out | apply below_alloc | apply pw_below_drewN | apply below_drew1) | exact HB.out)⟩⟩
      · rw [if_neg c7] at H
        have c7b0 : decide ((l1.length : Int) ≤ 1024) = false := decide_eq_false c7
        have c7b1 : decide (l1.length ≤ 1024) = false := decide_eq_false (by omega)
        clear c7
        have H' := Aside0.mk H
        clear H
        go_wp2
        go_meet
        case rel => exact ⟨_, (decide ((l2.length : Int) > 30)), (by first | rfl | (simp; done) | (simp [*]; done)), H', ⟨by first | omega | exact Nat.le_refl _⟩, ⟨by repeat (first | (with_reducible first | exact HB.out | apply below_alloc | apply pw_below_drewN | apply below_drew1) | exact HB.out)⟩⟩
    · rw [if_neg c6] at H
      have c6b0 : decide (60 < (l1.length : Int)) = false := decide_eq_false c6
      have c6b1 : decide (60 < l1.length) = false := decide_eq_false (by omega)
      clear c6
      (first | rw [c6b0] | (simp only [i64_w, i32_w]; rw [c6b0]) | skip)
      have H' := Aside0.mk H
      clear H
      go_wp2
      go_meet
      case rel => exact ⟨_, (decide ((l2.length : Int) > 30)), (by first | rfl | (simp; done) | (simp [*]; done)), H', ⟨by first | omega | exact Nat.le_refl _⟩, ⟨by repeat (first | (with_reducible first | exact HB.out | apply below_alloc | apply pw_below_drewN | apply below_drew1) | exact HB.out)⟩⟩
  case rest =>
    clear HC5
    try clear c1
    try clear c2
    try clear p2
    try clear c5
    try clear c6
    try clear c6b0
    try clear c6b1
    try clear c7
    try clear c7b0
    try clear c7b1
    obtain ⟨kq, x29_4, rfl, HA, HJ4, HB⟩ := hcut
    cases kq with
    | zero => exact absurd HA.out (by simp [toruslaw04_ColumnDenseMatches.j0])
    | succ kj4 =>
      have H := HA.out
      clear HA
      simp only [toruslaw04_ColumnDenseMatches.j0] at H
      by_cases c8 : x29_4 = true
      · subst c8
        have H1 : ((toruslaw04_awake.f).bind fun t367 => (some t367)) = some r := by rw [if_pos rfl] at H; exact H
        clear H
        have H := H1
        clear H1
        replace H := Option.bind_eq_some_iff.mp H
        obtain ⟨t367, A90, H⟩ := H
        replace H : (some t367) = some r := H
        have A9 := Aside0.mk A90
        clear A90
        obtain rfl := Option.some.inj H
        go_wp2_with (first | ((with_reducible refine gate_callee (f := 19) rfl ?_); refine goesL_ (some 30) rfl rfl Try.func19 (by kernel_rfl) rfl #[] rfl (by (try simp only [List.map_toArray, List.map_cons, List.map_nil]); first | done | rfl | (simp only [List.length_drop, List.length_take]; rfl)) ?_; (with_reducible refine (toruslaw04_awake.calls  t367 _ A9.out).mono ?_); rintro e w10 ⟨rfl, hb⟩; refine ⟨_, rfl, ?_⟩; have n0_ := Aside0.mk (below_step (by repeat (first | (with_reducible first | exact HB.out | apply below_alloc | apply pw_below_drewN | apply below_drew1) | exact HB.out)) hb); clear HB; have HB := n0_; clear n0_; (try clear hb); (try clear hb2); (try clear hk); (try clear hi)))
        go_ret
        exact ⟨by first | rfl | (simp [errW_none, errW_some] <;> rfl) | (simp [*, errW_none, errW_some] <;> rfl), by repeat (first | (with_reducible first | exact HB.out | apply below_alloc | apply pw_below_drewN | apply below_drew1) | exact HB.out)⟩
      · replace c8 := Bool.eq_false_iff.mpr c8
        subst c8
        have H1 : ((column_Of.f kj4 a0 l1).bind fun bt368 => ((torusref04_Of.f kj4 a0 l1).bind fun bt372 => ((column_Dense.f kj4 a0 l2 a3).bind fun bt376 => ((torusref04_Dense.f kj4 a0 l2 a3).bind fun bt380 => ((torusref04_Same.f kj4 bt368.1 bt372.1).bind fun t384 => (if t384 = true then (if bt368.2 = bt372.2 then ((torusref01_Same.f kj4 bt376.1 bt380.1).bind fun t385 => (if t385 = true then (if bt376.2 = bt380.2 then ((toruslaw04_awake.f).bind fun t386 => (some t386)) else (some false)) else (some false))) else (some false)) else (some false))))))) = some r := by rw [if_neg (show ¬ (false = true) by decide)] at H; exact H
        clear H
        have H := H1
        clear H1
        replace H := Option.bind_eq_some_iff.mp H
        obtain ⟨⟨t368, t369⟩, A110, H⟩ := H
        replace H : ((torusref04_Of.f kj4 a0 l1).bind fun bt372 => ((column_Dense.f kj4 a0 l2 a3).bind fun bt376 => ((torusref04_Dense.f kj4 a0 l2 a3).bind fun bt380 => ((torusref04_Same.f kj4 t368 bt372.1).bind fun t384 => (if t384 = true then (if t369 = bt372.2 then ((torusref01_Same.f kj4 bt376.1 bt380.1).bind fun t385 => (if t385 = true then (if bt376.2 = bt380.2 then ((toruslaw04_awake.f).bind fun t386 => (some t386)) else (some false)) else (some false))) else (some false)) else (some false)))))) = some r := H
        have A11 := Aside0.mk A110
        clear A110
        replace H := Option.bind_eq_some_iff.mp H
        obtain ⟨⟨t372, t373⟩, A120, H⟩ := H
        replace H : ((column_Dense.f kj4 a0 l2 a3).bind fun bt376 => ((torusref04_Dense.f kj4 a0 l2 a3).bind fun bt380 => ((torusref04_Same.f kj4 t368 t372).bind fun t384 => (if t384 = true then (if t369 = t373 then ((torusref01_Same.f kj4 bt376.1 bt380.1).bind fun t385 => (if t385 = true then (if bt376.2 = bt380.2 then ((toruslaw04_awake.f).bind fun t386 => (some t386)) else (some false)) else (some false))) else (some false)) else (some false))))) = some r := H
        have A12 := Aside0.mk A120
        clear A120
        replace H := Option.bind_eq_some_iff.mp H
        obtain ⟨⟨t376, t377⟩, A130, H⟩ := H
        replace H : ((torusref04_Dense.f kj4 a0 l2 a3).bind fun bt380 => ((torusref04_Same.f kj4 t368 t372).bind fun t384 => (if t384 = true then (if t369 = t373 then ((torusref01_Same.f kj4 t376 bt380.1).bind fun t385 => (if t385 = true then (if t377 = bt380.2 then ((toruslaw04_awake.f).bind fun t386 => (some t386)) else (some false)) else (some false))) else (some false)) else (some false)))) = some r := H
        have A13 := Aside0.mk A130
        clear A130
        replace H := Option.bind_eq_some_iff.mp H
        obtain ⟨⟨t380, t381⟩, A140, H⟩ := H
        replace H : ((torusref04_Same.f kj4 t368 t372).bind fun t384 => (if t384 = true then (if t369 = t373 then ((torusref01_Same.f kj4 t376 t380).bind fun t385 => (if t385 = true then (if t377 = t381 then ((toruslaw04_awake.f).bind fun t386 => (some t386)) else (some false)) else (some false))) else (some false)) else (some false))) = some r := H
        have A14 := Aside0.mk A140
        clear A140
        replace H := Option.bind_eq_some_iff.mp H
        obtain ⟨t384, A150, H⟩ := H
        replace H : (if t384 = true then (if t369 = t373 then ((torusref01_Same.f kj4 t376 t380).bind fun t385 => (if t385 = true then (if t377 = t381 then ((toruslaw04_awake.f).bind fun t386 => (some t386)) else (some false)) else (some false))) else (some false)) else (some false)) = some r := H
        have A15 := Aside0.mk A150
        clear A150
        by_cases c16 : t384 = true
        · subst c16
          have H1 : (if t369 = t373 then ((torusref01_Same.f kj4 t376 t380).bind fun t385 => (if t385 = true then (if t377 = t381 then ((toruslaw04_awake.f).bind fun t386 => (some t386)) else (some false)) else (some false))) else (some false)) = some r := by rw [if_pos rfl] at H; exact H
          clear H
          have H := H1
          clear H1
          by_cases c17 : t369 = t373
          · rw [if_pos c17] at H
            have c17b0 : (t369 == t373) = true := beq_iff_eq.mpr c17
            have c17b1 : (t369 != t373) = false := bne_eq_false_iff_eq.mpr c17
            clear c17
            replace H := Option.bind_eq_some_iff.mp H
            obtain ⟨t385, A180, H⟩ := H
            replace H : (if t385 = true then (if t377 = t381 then ((toruslaw04_awake.f).bind fun t386 => (some t386)) else (some false)) else (some false)) = some r := H
            have A18 := Aside0.mk A180
            clear A180
            by_cases c19 : t385 = true
            · subst c19
              have H1 : (if t377 = t381 then ((toruslaw04_awake.f).bind fun t386 => (some t386)) else (some false)) = some r := by rw [if_pos rfl] at H; exact H
              clear H
              have H := H1
              clear H1
              by_cases c20 : t377 = t381
              · rw [if_pos c20] at H
                have c20b0 : (t377 == t381) = true := beq_iff_eq.mpr c20
                have c20b1 : (t377 != t381) = false := bne_eq_false_iff_eq.mpr c20
                clear c20
                replace H := Option.bind_eq_some_iff.mp H
                obtain ⟨t386, A210, H⟩ := H
                replace H : (some t386) = some r := H
                have A21 := Aside0.mk A210
                clear A210
                obtain rfl := Option.some.inj H
                go_wp2_with (first | ((with_reducible refine gate_callee (f := 32) rfl ?_); refine goesL_ (some 34) rfl rfl Try.func32 (by kernel_rfl) rfl #[.int .i64 a0, .slice A1 l1.length c1] rfl (by (try simp only [List.map_toArray, List.map_cons, List.map_nil]); first | done | rfl | (simp only [List.length_drop, List.length_take]; rfl)) ?_; (with_reducible refine (column_Of.calls kj4 a0 _ _ l1 t368 t369 _ ?side1 ?side2 A11.out).mono ?_); (case side1 => repeat (first | exact (Kd.C_below HR1.out HB.out) | (with_reducible refine Kd.C_alloc ?_ _) | (with_reducible refine Kd.C_drewN ?_ _) | (with_reducible refine Kd.C_drew ?_))); (case side2 => exact HC1.out); rintro e w22 ⟨v370, rfl, ho0, hb⟩; refine ⟨_, rfl, ?_⟩; have n0_ := Aside0.mk (Kd.R_lower ho0 (below_size (by repeat (first | (with_reducible first | exact HB.out | apply below_alloc | apply pw_below_drewN | apply below_drew1) | exact HB.out)))); have n1_ := Aside0.mk (below_step (by repeat (first | (with_reducible first | exact HB.out | apply below_alloc | apply pw_below_drewN | apply below_drew1) | exact HB.out)) hb); clear HB; have HO371 := n0_; have HB := n1_; clear n0_ n1_; (try clear hb); (try clear hb2); (try clear hk); (try clear hi); (try clear ho0)) | ((with_reducible refine gate_callee (f := 33) rfl ?_); refine goesL_ (some 40) rfl rfl Try.func33 (by kernel_rfl) rfl #[.int .i64 a0, .slice A1 l1.length c1] rfl (by (try simp only [List.map_toArray, List.map_cons, List.map_nil]); first | done | rfl | (simp only [List.length_drop, List.length_take]; rfl)) ?_; (with_reducible refine (torusref04_Of.calls kj4 a0 _ _ l1 t372 t373 _ ?side1 ?side2 A12.out).mono ?_); (case side1 => repeat (first | exact (Kd.C_below HR1.out HB.out) | (with_reducible refine Kd.C_alloc ?_ _) | (with_reducible refine Kd.C_drewN ?_ _) | (with_reducible refine Kd.C_drew ?_))); (case side2 => exact HC1.out); rintro e w23 ⟨v374, rfl, ho0, hb⟩; refine ⟨_, rfl, ?_⟩; have n0_ := Aside0.mk (Kd.R_elder' (by (with_reducible repeat (first | apply Kd.R_alloc | apply Kd.R_drewN | apply Kd.R_drew)); exact HO371.out) (Kd.R_base ho0) hb); have n1_ := Aside0.mk (Kd.R_lower (Kd.R_new' ho0 (Kd.R_lt (by (with_reducible repeat (first | apply Kd.R_alloc | apply Kd.R_drewN | apply Kd.R_drew)); exact HO371.out))) (below_size (by repeat (first | (with_reducible first | exact HB.out | apply below_alloc | apply pw_below_drewN | apply below_drew1) | exact HB.out)))); have n2_ := Aside0.mk (below_step (by repeat (first | (with_reducible first | exact HB.out | apply below_alloc | apply pw_below_drewN | apply below_drew1) | exact HB.out)) hb); clear HO371; clear HB; have HO371 := n0_; have HO375 := n1_; have HB := n2_; clear n0_ n1_ n2_; (try clear hb); (try clear hb2); (try clear hk); (try clear hi); (try clear ho0)) | ((with_reducible refine gate_callee (f := 34) rfl ?_); refine goesL_ (some 47) rfl rfl Try.func34 (by kernel_rfl) rfl #[.int .i64 a0, .slice A2 l2.length c2, .int .i64 a3] rfl (by (try simp only [List.map_toArray, List.map_cons, List.map_nil]); first | done | rfl | (simp only [List.length_drop, List.length_take]; rfl)) ?_; (with_reducible refine (column_Dense.calls kj4 a0 _ _ l2 a3 t376 t377 _ ?side1 ?side2 A13.out).mono ?_); (case side1 => repeat (first | exact (Kd.C_below HR2.out HB.out) | (with_reducible refine Kd.C_alloc ?_ _) | (with_reducible refine Kd.C_drewN ?_ _) | (with_reducible refine Kd.C_drew ?_))); (case side2 => exact HC2.out); rintro e w24 ⟨v378, rfl, ho0, hb⟩; refine ⟨_, rfl, ?_⟩; have n0_ := Aside0.mk (Kd.R_below (by (with_reducible repeat (first | apply Kd.R_alloc | apply Kd.R_drewN | apply Kd.R_drew)); exact HO371.out) hb); have n1_ := Aside0.mk (Kd.R_below (by (with_reducible repeat (first | apply Kd.R_alloc | apply Kd.R_drewN | apply Kd.R_drew)); exact HO375.out) hb); have n2_ := Aside0.mk (Kd.R_lower ho0 (below_size (by repeat (first | (with_reducible first | exact HB.out | apply below_alloc | apply pw_below_drewN | apply below_drew1) | exact HB.out)))); have n3_ := Aside0.mk (below_step (by repeat (first | (with_reducible first | exact HB.out | apply below_alloc | apply pw_below_drewN | apply below_drew1) | exact HB.out)) hb); clear HO371; clear HO375; clear HB; have HO371 := n0_; have HO375 := n1_; have HO379 := n2_; have HB := n3_; clear n0_ n1_ n2_ n3_; (try clear hb); (try clear hb2); (try clear hk); (try clear hi); (try clear ho0)) | ((with_reducible refine gate_callee (f := 35) rfl ?_); refine goesL_ (some 54) rfl rfl Try.func35 (by kernel_rfl) rfl #[.int .i64 a0, .slice A2 l2.length c2, .int .i64 a3] rfl (by (try simp only [List.map_toArray, List.map_cons, List.map_nil]); first | done | rfl | (simp only [List.length_drop, List.length_take]; rfl)) ?_; (with_reducible refine (torusref04_Dense.calls kj4 a0 _ _ l2 a3 t380 t381 _ ?side1 ?side2 A14.out).mono ?_); (case side1 => repeat (first | exact (Kd.C_below HR2.out HB.out) | (with_reducible refine Kd.C_alloc ?_ _) | (with_reducible refine Kd.C_drewN ?_ _) | (with_reducible refine Kd.C_drew ?_))); (case side2 => exact HC2.out); rintro e w25 ⟨v382, rfl, ho0, hb⟩; refine ⟨_, rfl, ?_⟩; have n0_ := Aside0.mk (Kd.R_below (by (with_reducible repeat (first | apply Kd.R_alloc | apply Kd.R_drewN | apply Kd.R_drew)); exact HO371.out) hb); have n1_ := Aside0.mk (Kd.R_below (by (with_reducible repeat (first | apply Kd.R_alloc | apply Kd.R_drewN | apply Kd.R_drew)); exact HO375.out) hb); have n2_ := Aside0.mk (Kd.R_elder' (by (with_reducible repeat (first | apply Kd.R_alloc | apply Kd.R_drewN | apply Kd.R_drew)); exact HO379.out) (Kd.R_base ho0) hb); have n3_ := Aside0.mk (Kd.R_lower (Kd.R_new' ho0 (Kd.R_lt (by (with_reducible repeat (first | apply Kd.R_alloc | apply Kd.R_drewN | apply Kd.R_drew)); exact HO379.out))) (below_size (by repeat (first | (with_reducible first | exact HB.out | apply below_alloc | apply pw_below_drewN | apply below_drew1) | exact HB.out)))); have n4_ := Aside0.mk (below_step (by repeat (first | (with_reducible first | exact HB.out | apply below_alloc | apply pw_below_drewN | apply below_drew1) | exact HB.out)) hb); clear HO371; clear HO375; clear HO379; clear HB; have HO371 := n0_; have HO375 := n1_; have HO379 := n2_; have HO383 := n3_; have HB := n4_; clear n0_ n1_ n2_ n3_ n4_; (try clear hb); (try clear hb2); (try clear hk); (try clear hi); (try clear ho0); obtain ⟨Ao26, co26, eo26⟩ := Kd.R_slice HO371.out; subst eo26; obtain ⟨Ao27, co27, eo27⟩ := Kd.R_slice HO375.out; subst eo27) | ((with_reducible refine gate_callee (f := 15) rfl ?_); refine goesL_ (some 59) rfl rfl Try.func15 (by kernel_rfl) rfl #[.slice Ao26 t368.length co26, .slice Ao27 t372.length co27] rfl (by (try simp only [List.map_toArray, List.map_cons, List.map_nil]); first | done | rfl | (simp only [List.length_drop, List.length_take]; rfl)) ?_; (with_reducible refine (torusref04_Same.calls kj4 _ _ t368 _ _ t372 true _ ?side1 ?side2 ?side3 ?side4 A15.out).mono ?_); (case side1 => repeat (first | exact (Kd.R_reads' HO371.out).2.2 | (with_reducible refine Kd.C_alloc ?_ _) | (with_reducible refine Kd.C_drewN ?_ _) | (with_reducible refine Kd.C_drew ?_))); (case side2 => exact (Kd.R_reads' HO371.out).2.1); (case side3 => repeat (first | exact (Kd.R_reads' HO375.out).2.2 | (with_reducible refine Kd.C_alloc ?_ _) | (with_reducible refine Kd.C_drewN ?_ _) | (with_reducible refine Kd.C_drew ?_))); (case side4 => exact (Kd.R_reads' HO375.out).2.1); rintro e w' ⟨rfl, ⟨nd, rfl⟩⟩; refine ⟨_, rfl, ?_⟩; obtain ⟨Ao28, co28, eo28⟩ := Kd.R_slice HO379.out; subst eo28; obtain ⟨Ao29, co29, eo29⟩ := Kd.R_slice HO383.out; subst eo29) | (go_at_call 36; (with_reducible refine (torusref01_Same.calls kj4 _ _ t376 _ _ t380 true _ ?side1 ?side2 ?side3 ?side4 A18.out).mono ?_); (case side1 => repeat (first | exact (Kd.R_reads' HO379.out).2.2 | (with_reducible refine Kd.C_alloc ?_ _) | (with_reducible refine Kd.C_drewN ?_ _) | (with_reducible refine Kd.C_drew ?_))); (case side2 => exact (Kd.R_reads' HO379.out).2.1); (case side3 => repeat (first | exact (Kd.R_reads' HO383.out).2.2 | (with_reducible refine Kd.C_alloc ?_ _) | (with_reducible refine Kd.C_drewN ?_ _) | (with_reducible refine Kd.C_drew ?_))); (case side4 => exact (Kd.R_reads' HO383.out).2.1); rintro e w' ⟨rfl, ⟨nd, rfl⟩⟩) | (go_at_call 19; (with_reducible refine (toruslaw04_awake.calls  t386 _ A21.out).mono ?_); rintro e w30 ⟨rfl, hb⟩; have n0_ := Aside0.mk (Kd.R_below (by (with_reducible repeat (first | apply Kd.R_alloc | apply Kd.R_drewN | apply Kd.R_drew)); exact HO371.out) hb); have n1_ := Aside0.mk (Kd.R_below (by (with_reducible repeat (first | apply Kd.R_alloc | apply Kd.R_drewN | apply Kd.R_drew)); exact HO375.out) hb); have n2_ := Aside0.mk (Kd.R_below (by (with_reducible repeat (first | apply Kd.R_alloc | apply Kd.R_drewN | apply Kd.R_drew)); exact HO379.out) hb); have n3_ := Aside0.mk (Kd.R_below (by (with_reducible repeat (first | apply Kd.R_alloc | apply Kd.R_drewN | apply Kd.R_drew)); exact HO383.out) hb); have n4_ := Aside0.mk (below_step (by repeat (first | (with_reducible first | exact HB.out | apply below_alloc | apply pw_below_drewN | apply below_drew1) | exact HB.out)) hb); clear HO371; clear HO375; clear HO379; clear HO383; clear HB; have HO371 := n0_; have HO375 := n1_; have HO379 := n2_; have HO383 := n3_; have HB := n4_; clear n0_ n1_ n2_ n3_ n4_; (try clear hb); (try clear hb2); (try clear hk); (try clear hi)))
                go_ret
                exact ⟨by first | rfl | (simp [errW_none, errW_some] <;> rfl) | (simp [*, errW_none, errW_some] <;> rfl), by repeat (first | (with_reducible first | exact HB.out | apply below_alloc | apply pw_below_drewN | apply below_drew1) | exact HB.out)⟩
              · rw [if_neg c20] at H
                exact absurd (Option.some.inj H) (by rw [hrt]; exact Bool.false_ne_true)
            · replace c19 := Bool.eq_false_iff.mpr c19
              subst c19
              have H1 : (some false) = some r := by rw [if_neg (show ¬ (false = true) by decide)] at H; exact H
              clear H
              have H := H1
              clear H1
              exact absurd (Option.some.inj H) (by rw [hrt]; exact Bool.false_ne_true)
          · rw [if_neg c17] at H
            exact absurd (Option.some.inj H) (by rw [hrt]; exact Bool.false_ne_true)
        · replace c16 := Bool.eq_false_iff.mpr c16
          subst c16
          have H1 : (some false) = some r := by rw [if_neg (show ¬ (false = true) by decide)] at H; exact H
          clear H
          have H := H1
          clear H1
          exact absurd (Option.some.inj H) (by rw [hrt]; exact Bool.false_ne_true)
end Go.Proofs.Ytojnnfhalpefmaa.M
