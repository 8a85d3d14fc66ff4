/- A part of the proof: texts of this seat joined (printed and by hand), without what is not used. -/
import Derived.Test.YtojnnfhalpefmaaBLi2
set_option linter.unusedVariables false
set_option linter.unusedSimpArgs false
set_option linter.unusedSectionVars false
section
namespace Go.Proofs.Ytojnnfhalpefmaa.M
open Go.RowKit Go.Proofs.YtojnnfhalpefmaaW.PrintWords Go.Proofs.YtojnnfhalpefmaaW.PrintLast Go.Proofs.YtojnnfhalpefmaaW.PrintMore
attribute [local go_sem] max2_int min2_int max_two min_two max_three min_three max_four min_four   -- for this text's walks alone
def modp_field_power.l0 : Nat → Int → Int → Int → Int → Option (Int)
  | 0, _, _, _, _ => none
  | k + 1, x0, x2, x7, x8 => if x2 > 0 then (if (Int.tmod x2 2) = 1 then (if x0 = 0 then (none) else (modp_field_power.l0 k x0 (wrap64 (Int.tdiv x2 2)) (Int.tmod (wrap64 (x7 * x8)) x0) (Int.tmod (wrap64 (x8 * x8)) x0))) else (if x0 = 0 then (none) else (modp_field_power.l0 k x0 (wrap64 (Int.tdiv x2 2)) x7 (Int.tmod (wrap64 (x8 * x8)) x0)))) else (some x7)
def modp_field_power.f (k : Nat) (a0 : Int) (a1 : Int) (a2 : Int) : Option (Int) := (modp_field_rest.f a0 a1).bind fun t148 => (modp_field_power.l0 k a0 a2 1 t148)
theorem modp_field_power.mono_l : ∀ k, (∀ y0 y1 y2 y3, LeO (modp_field_power.l0 k y0 y1 y2 y3) (modp_field_power.l0 (k + 1) y0 y1 y2 y3))
  | 0 => fun _ _ _ _ r h => by simp [modp_field_power.l0] at h
  | k + 1 => by
    have ih0 := modp_field_power.mono_l k
    · intro y0 y1 y2 y3
      unfold modp_field_power.l0
      repeat' first
      | (with_reducible exact ih0 _ _ _ _)
      | (with_reducible exact LeO.refl _)
      | (with_reducible exact LeO.none _)
      | (with_reducible refine LeO.ite ?_ ?_)
      | (with_reducible refine LeO.bind ?_ (fun _ => ?_))
      | exact ih0 _ _ _ _
      | exact LeO.none _
      | refine LeO.ite ?_ ?_
      | refine LeO.bind ?_ (fun _ => ?_)
theorem modp_field_power.mono : ∀ a0 a1 a2 k, LeO (modp_field_power.f k a0 a1 a2) (modp_field_power.f (k + 1) a0 a1 a2) := by
  intro a0 a1 a2 k
  have ih0 := modp_field_power.mono_l k
  unfold modp_field_power.f
  repeat' first
      | (with_reducible exact ih0 _ _ _ _)
      | (with_reducible exact LeO.refl _)
      | (with_reducible exact LeO.none _)
      | (with_reducible refine LeO.ite ?_ ?_)
      | (with_reducible refine LeO.bind ?_ (fun _ => ?_))
      | exact ih0 _ _ _ _
      | exact LeO.none _
      | refine LeO.ite ?_ ?_
      | refine LeO.bind ?_ (fun _ => ?_)
set_option maxHeartbeats 8000000 in
set_option maxRecDepth 100000 in
theorem modp_field_power.calls (k : Nat) (a0 : Int) (a1 : Int) (a2 : Int) (r : Int) (w : World) (h : modp_field_power.f k a0 a1 a2 = some r) :
    Calls Try.prog 102 #[.int .i64 a0, .int .i64 a1, .int .i64 a2] w fun e w' => e = .returned (.int .i64 r) ∧ Drawn0 w w' := by
  have H : ((modp_field_rest.f a0 a1).bind fun t148 => (modp_field_power.l0 k a0 a2 1 t148)) = some r := h
  clear h
  replace H := Option.bind_eq_some_iff.mp H
  obtain ⟨t148, A40, H⟩ := H
  replace H : (modp_field_power.l0 k a0 a2 1 t148) = some r := H
  have A4 := Aside0.mk A40
  clear A40
  have H' := Aside0.mk H
  clear H
  go_enter Try.func102, Try.ntmps102
  go_wp2_with (first | ((with_reducible refine gate_callee (f := 76) rfl ?_); refine goesL_ (some 11) rfl rfl Try.func76 (by kernel_rfl) rfl #[.int .i64 a0, .int .i64 a1] rfl (by (try simp only [List.map_toArray, List.map_cons, List.map_nil]); first | done | rfl | (simp only [List.length_drop, List.length_take]; rfl)) ?_; (with_reducible refine (modp_field_rest.calls a0 a1 t148 _ A4.out).mono ?_); rintro e w' ⟨rfl, ⟨nd, rfl⟩⟩; refine ⟨_, rfl, ?_⟩))
  go_loopg [2, 7, 8] k (fun kq v2 v7 v8 w' => ∃ (x2_1 : Int) (x7_1 : Int) (x8_1 : Int), v2 = .int .i64 x2_1 ∧ v7 = .int .i64 x7_1 ∧ v8 = .int .i64 x8_1 ∧ Aside0 (modp_field_power.l0 kq a0 x2_1 x7_1 x8_1 = some r) ∧ Aside0 (kq ≤ k) ∧ Drawn0 w w')
  case atStart => exact ⟨(a2), (1), (t148), (by first | rfl | (simp; done) | (simp [*]; done)), (by first | rfl | (simp; done) | (simp [*]; done)), (by first | rfl | (simp; done) | (simp [*]; done)), H', ⟨Nat.le_refl _⟩, by repeat (first | exact Drawn0.refl _ | apply Drawn0.step)⟩
  case round =>
    clear H'
    try clear c1
    try clear p2
    obtain ⟨x2_1, x7_1, x8_1, rfl, rfl, rfl, HA, HK1, ⟨m1, rfl⟩⟩ := hrel
    cases gk with
    | zero => exact absurd HA.out (by simp [modp_field_power.l0])
    | succ k1 =>
      have H := HA.out
      clear HA
      simp only [modp_field_power.l0] at H
      by_cases c5 : x2_1 > 0
      · rw [if_pos c5] at H
        have c5b0 : decide (0 < x2_1) = true := decide_eq_true c5
        clear c5
        by_cases c6 : (Int.tmod x2_1 2) = 1
        · rw [if_pos c6] at H
          have c6b0 : ((Int.tmod x2_1 2) == 1) = true := beq_iff_eq.mpr c6
          have c6b1 : ((Int.tmod x2_1 2) != 1) = false := bne_eq_false_iff_eq.mpr c6
          clear c6
          by_cases c7 : a0 = 0
          · rw [if_pos c7] at H
            exact absurd H (by simp)
          · rw [if_neg c7] at H
            have c7b0 : (a0 == 0) = false := beq_eq_false_iff_ne.mpr c7
            have c7b1 : (a0 != 0) = true := bne_iff_ne.mpr c7
            have H' := Aside0.mk H
            clear H
            go_wp2
            go_roundg k1
            case measure => have := HK1.out; omega
            case rel => exact ⟨(wrap64 (Int.tdiv x2_1 2)), (Int.tmod (wrap64 (x7_1 * x8_1)) a0), (Int.tmod (wrap64 (x8_1 * x8_1)) a0), (by first | rfl | (simp; done) | (simp [*]; done)), (by first | rfl | (simp; done) | (simp [*]; done)), (by first | rfl | (simp; done) | (simp [*]; done)), H', ⟨by have := HK1.out; omega⟩, by repeat (first | exact Drawn0.refl _ | apply Drawn0.step)⟩
        · rw [if_neg c6] at H
          have c6b0 : ((Int.tmod x2_1 2) == 1) = false := beq_eq_false_iff_ne.mpr c6
          have c6b1 : ((Int.tmod x2_1 2) != 1) = true := bne_iff_ne.mpr c6
          by_cases c8 : a0 = 0
          · rw [if_pos c8] at H
            exact absurd H (by simp)
          · rw [if_neg c8] at H
            have c8b0 : (a0 == 0) = false := beq_eq_false_iff_ne.mpr c8
            have c8b1 : (a0 != 0) = true := bne_iff_ne.mpr c8
            have H' := Aside0.mk H
            clear H
            go_wp2
            go_roundg k1
            case measure => have := HK1.out; omega
            case rel => exact ⟨(wrap64 (Int.tdiv x2_1 2)), (x7_1), (Int.tmod (wrap64 (x8_1 * x8_1)) a0), (by first | rfl | (simp; done) | (simp [*]; done)), (by first | rfl | (simp; done) | (simp [*]; done)), (by first | rfl | (simp; done) | (simp [*]; done)), H', ⟨by have := HK1.out; omega⟩, by repeat (first | exact Drawn0.refl _ | apply Drawn0.step)⟩
      · rw [if_neg c5] at H
        have c5b0 : decide (0 < x2_1) = false := decide_eq_false c5
        clear c5
        obtain rfl := Option.some.inj H
        go_wp2
        go_ret
        exact ⟨by first | rfl | (simp; done) | (simp [*]; done), by repeat (first | exact Drawn0.refl _ | apply Drawn0.step)⟩
def modp_field_inverse.f (k : Nat) (a0 : Int) (a1 : Int) : Option (Int) := (modp_field_power.f k a0 a1 (wrap64 (a0 - 2))).bind fun t149 => (some t149)
theorem modp_field_inverse.mono : ∀ a0 a1 k, LeO (modp_field_inverse.f k a0 a1) (modp_field_inverse.f (k + 1) a0 a1) := by
  intro a0 a1 k
  unfold modp_field_inverse.f
  repeat' first
      | (with_reducible exact modp_field_power.mono _ _ _ _)
      | (with_reducible exact LeO.refl _)
      | (with_reducible exact LeO.none _)
      | (with_reducible refine LeO.ite ?_ ?_)
      | (with_reducible refine LeO.bind ?_ (fun _ => ?_))
      | exact modp_field_power.mono _ _ _ _
      | exact LeO.none _
      | refine LeO.ite ?_ ?_
      | refine LeO.bind ?_ (fun _ => ?_)
set_option maxHeartbeats 8000000 in
set_option maxRecDepth 100000 in
theorem modp_field_inverse.calls (k : Nat) (a0 : Int) (a1 : Int) (r : Int) (w : World) (h : modp_field_inverse.f k a0 a1 = some r) :
    Calls Try.prog 90 #[.int .i64 a0, .int .i64 a1] w fun e w' => e = .returned (.int .i64 r) ∧ Drawn0 w w' := by
  have H : ((modp_field_power.f k a0 a1 (wrap64 (a0 - 2))).bind fun t149 => (some t149)) = some r := h
  clear h
  replace H := Option.bind_eq_some_iff.mp H
  obtain ⟨t149, A30, H⟩ := H
  replace H : (some t149) = some r := H
  have A3 := Aside0.mk A30
  clear A30
  obtain rfl := Option.some.inj H
  go_enter Try.func90, Try.ntmps90
  go_wp2_with (first | ((with_reducible refine gate_callee (f := 102) rfl ?_); refine goesL_ (some 9) rfl rfl Try.func102 (by kernel_rfl) rfl #[.int .i64 a0, .int .i64 a1, .int .i64 (wrap64 (a0 - 2))] rfl (by (try simp only [List.map_toArray, List.map_cons, List.map_nil]); first | done | rfl | (simp only [List.length_drop, List.length_take]; rfl)) ?_; (with_reducible refine (modp_field_power.calls k a0 a1 (wrap64 (a0 - 2)) t149 _ A3.out).mono ?_); rintro e w' ⟨rfl, ⟨nd, rfl⟩⟩; refine ⟨_, rfl, ?_⟩))
  go_ret
  exact ⟨by first | rfl | (simp; done) | (simp [*]; done), by repeat (first | exact Drawn0.refl _ | apply Drawn0.step)⟩
def modp_Inv.f (k : Nat) (a0 : Int) (a1 : Int) : Option (Int × Int) := (modp_of.f k a0).bind fun bt150 => (if bt150.2 = 0 then ((modp_field_rest.f bt150.1 a1).bind fun t152 => (if t152 = 0 then (some (0, 9)) else ((modp_field_inverse.f k bt150.1 a1).bind fun t153 => (some (t153, 0))))) else (some (0, bt150.2)))
theorem modp_Inv.mono : ∀ a0 a1 k, LeO (modp_Inv.f k a0 a1) (modp_Inv.f (k + 1) a0 a1) := by
  intro a0 a1 k
  unfold modp_Inv.f
  repeat' first
      | (with_reducible exact modp_field_inverse.mono _ _ _)
      | (with_reducible exact modp_of.mono _ _)
      | (with_reducible exact LeO.refl _)
      | (with_reducible exact LeO.none _)
      | (with_reducible refine LeO.ite ?_ ?_)
      | (with_reducible refine LeO.bind ?_ (fun _ => ?_))
      | exact modp_field_inverse.mono _ _ _
      | exact modp_of.mono _ _
      | exact LeO.none _
      | refine LeO.ite ?_ ?_
      | refine LeO.bind ?_ (fun _ => ?_)
set_option maxHeartbeats 8000000 in
set_option maxRecDepth 100000 in
theorem modp_Inv.calls (k : Nat) (a0 : Int) (a1 : Int) (r1 : Int) (r2 : Int) (w : World) (h : modp_Inv.f k a0 a1 = some (r1, r2)) :
    Calls Try.prog 82 #[.int .i64 a0, .int .i64 a1] w fun e w' => e = .returned (.tuple #[.int .i64 r1, .int .i64 r2]) ∧ Drawn0 w w' := by
  have H : ((modp_of.f k a0).bind fun bt150 => (if bt150.2 = 0 then ((modp_field_rest.f bt150.1 a1).bind fun t152 => (if t152 = 0 then (some (0, 9)) else ((modp_field_inverse.f k bt150.1 a1).bind fun t153 => (some (t153, 0))))) else (some (0, bt150.2)))) = some (r1, r2) := h
  clear h
  replace H := Option.bind_eq_some_iff.mp H
  obtain ⟨⟨t150, t151⟩, A30, H⟩ := H
  replace H : (if t151 = 0 then ((modp_field_rest.f t150 a1).bind fun t152 => (if t152 = 0 then (some (0, 9)) else ((modp_field_inverse.f k t150 a1).bind fun t153 => (some (t153, 0))))) else (some (0, t151))) = some (r1, r2) := H
  have A3 := Aside0.mk A30
  clear A30
  by_cases c4 : t151 = 0
  · rw [if_pos c4] at H
    have c4b0 : (t151 == 0) = true := beq_iff_eq.mpr c4
    have c4b1 : (t151 != 0) = false := bne_eq_false_iff_eq.mpr c4
    clear c4
    replace H := Option.bind_eq_some_iff.mp H
    obtain ⟨t152, A50, H⟩ := H
    replace H : (if t152 = 0 then (some (0, 9)) else ((modp_field_inverse.f k t150 a1).bind fun t153 => (some (t153, 0)))) = some (r1, r2) := H
    have A5 := Aside0.mk A50
    clear A50
    by_cases c6 : t152 = 0
    · rw [if_pos c6] at H
      have c6b0 : (t152 == 0) = true := beq_iff_eq.mpr c6
      have c6b1 : (t152 != 0) = false := bne_eq_false_iff_eq.mpr c6
      clear c6
      simp only [Option.some.injEq, Prod.mk.injEq] at H
      obtain ⟨rfl, rfl⟩ := H
      go_enter Try.func82, Try.ntmps82
      go_wp2_with (first | ((with_reducible refine gate_callee (f := 75) rfl ?_); refine goesL_ (some 10) rfl rfl Try.func75 (by kernel_rfl) rfl #[.int .i64 a0] rfl (by (try simp only [List.map_toArray, List.map_cons, List.map_nil]); first | done | rfl | (simp only [List.length_drop, List.length_take]; rfl)) ?_; (with_reducible refine (modp_of.calls k a0 t150 t151 _ A3.out).mono ?_); rintro e w' ⟨rfl, ⟨nd, rfl⟩⟩; refine ⟨_, rfl, ?_⟩) | ((with_reducible refine gate_callee (f := 76) rfl ?_); refine goesL_ (some 20) rfl rfl Try.func76 (by kernel_rfl) rfl #[.int .i64 t150, .int .i64 a1] rfl (by (try simp only [List.map_toArray, List.map_cons, List.map_nil]); first | done | rfl | (simp only [List.length_drop, List.length_take]; rfl)) ?_; (with_reducible refine (modp_field_rest.calls t150 a1 t152 _ A5.out).mono ?_); rintro e w' ⟨rfl, ⟨nd, rfl⟩⟩; refine ⟨_, rfl, ?_⟩))
      go_ret2
      exact ⟨by first | rfl | (simp; done) | (simp [*]; done), by repeat (first | exact Drawn0.refl _ | apply Drawn0.step)⟩
    · rw [if_neg c6] at H
      have c6b0 : (t152 == 0) = false := beq_eq_false_iff_ne.mpr c6
      have c6b1 : (t152 != 0) = true := bne_iff_ne.mpr c6
      replace H := Option.bind_eq_some_iff.mp H
      obtain ⟨t153, A70, H⟩ := H
      replace H : (some (t153, 0)) = some (r1, r2) := H
      have A7 := Aside0.mk A70
      clear A70
      simp only [Option.some.injEq, Prod.mk.injEq] at H
      obtain ⟨rfl, rfl⟩ := H
      go_enter Try.func82, Try.ntmps82
      go_wp2_with (first | ((with_reducible refine gate_callee (f := 75) rfl ?_); refine goesL_ (some 10) rfl rfl Try.func75 (by kernel_rfl) rfl #[.int .i64 a0] rfl (by (try simp only [List.map_toArray, List.map_cons, List.map_nil]); first | done | rfl | (simp only [List.length_drop, List.length_take]; rfl)) ?_; (with_reducible refine (modp_of.calls k a0 t150 t151 _ A3.out).mono ?_); rintro e w' ⟨rfl, ⟨nd, rfl⟩⟩; refine ⟨_, rfl, ?_⟩) | ((with_reducible refine gate_callee (f := 76) rfl ?_); refine goesL_ (some 20) rfl rfl Try.func76 (by kernel_rfl) rfl #[.int .i64 t150, .int .i64 a1] rfl (by (try simp only [List.map_toArray, List.map_cons, List.map_nil]); first | done | rfl | (simp only [List.length_drop, List.length_take]; rfl)) ?_; (with_reducible refine (modp_field_rest.calls t150 a1 t152 _ A5.out).mono ?_); rintro e w' ⟨rfl, ⟨nd, rfl⟩⟩; refine ⟨_, rfl, ?_⟩) | ((with_reducible refine gate_callee (f := 90) rfl ?_); refine goesL_ (some 24) rfl rfl Try.func90 (by kernel_rfl) rfl #[.int .i64 t150, .int .i64 a1] rfl (by (try simp only [List.map_toArray, List.map_cons, List.map_nil]); first | done | rfl | (simp only [List.length_drop, List.length_take]; rfl)) ?_; (with_reducible refine (modp_field_inverse.calls k t150 a1 t153 _ A7.out).mono ?_); rintro e w' ⟨rfl, ⟨nd, rfl⟩⟩; refine ⟨_, rfl, ?_⟩))
      go_ret2
      exact ⟨by first | rfl | (simp; done) | (simp [*]; done), by repeat (first | exact Drawn0.refl _ | apply Drawn0.step)⟩
  · rw [if_neg c4] at H
    have c4b0 : (t151 == 0) = false := beq_eq_false_iff_ne.mpr c4
    have c4b1 : (t151 != 0) = true := bne_iff_ne.mpr c4
    simp only [Option.some.injEq, Prod.mk.injEq] at H
    obtain ⟨rfl, rfl⟩ := H
    go_enter Try.func82, Try.ntmps82
    go_wp2_with (first | ((with_reducible refine gate_callee (f := 75) rfl ?_); refine goesL_ (some 10) rfl rfl Try.func75 (by kernel_rfl) rfl #[.int .i64 a0] rfl (by (try simp only [List.map_toArray, List.map_cons, List.map_nil]); first | done | rfl | (simp only [List.length_drop, List.length_take]; rfl)) ?_; (with_reducible refine (modp_of.calls k a0 t150 t151 _ A3.out).mono ?_); rintro e w' ⟨rfl, ⟨nd, rfl⟩⟩; refine ⟨_, rfl, ?_⟩))
    go_ret2
    exact ⟨by first | rfl | (simp; done) | (simp [*]; done), by repeat (first | exact Drawn0.refl _ | apply Drawn0.step)⟩
def modp_Mul.f (k : Nat) (a0 : Int) (a1 : Int) (a2 : Int) : Option (Int × Int) := (modp_of.f k a0).bind fun bt154 => (if bt154.2 = 0 then ((modp_field_rest.f bt154.1 a1).bind fun t156 => ((modp_field_rest.f bt154.1 a2).bind fun t157 => ((modp_field_rest.f bt154.1 (wrap64 (t156 * t157))).bind fun t158 => (some (t158, 0))))) else (some (0, bt154.2)))
theorem modp_Mul.mono : ∀ a0 a1 a2 k, LeO (modp_Mul.f k a0 a1 a2) (modp_Mul.f (k + 1) a0 a1 a2) := by
  intro a0 a1 a2 k
  unfold modp_Mul.f
  repeat' first
      | (with_reducible exact modp_of.mono _ _)
      | (with_reducible exact LeO.refl _)
      | (with_reducible exact LeO.none _)
      | (with_reducible refine LeO.ite ?_ ?_)
      | (with_reducible refine LeO.bind ?_ (fun _ => ?_))
      | exact modp_of.mono _ _
      | exact LeO.none _
      | refine LeO.ite ?_ ?_
      | refine LeO.bind ?_ (fun _ => ?_)
set_option maxHeartbeats 8000000 in
set_option maxRecDepth 100000 in
theorem modp_Mul.calls (k : Nat) (a0 : Int) (a1 : Int) (a2 : Int) (r1 : Int) (r2 : Int) (w : World) (h : modp_Mul.f k a0 a1 a2 = some (r1, r2)) :
    Calls Try.prog 91 #[.int .i64 a0, .int .i64 a1, .int .i64 a2] w fun e w' => e = .returned (.tuple #[.int .i64 r1, .int .i64 r2]) ∧ Drawn0 w w' := by
  have H : ((modp_of.f k a0).bind fun bt154 => (if bt154.2 = 0 then ((modp_field_rest.f bt154.1 a1).bind fun t156 => ((modp_field_rest.f bt154.1 a2).bind fun t157 => ((modp_field_rest.f bt154.1 (wrap64 (t156 * t157))).bind fun t158 => (some (t158, 0))))) else (some (0, bt154.2)))) = some (r1, r2) := h
  clear h
  replace H := Option.bind_eq_some_iff.mp H
  obtain ⟨⟨t154, t155⟩, A40, H⟩ := H
  replace H : (if t155 = 0 then ((modp_field_rest.f t154 a1).bind fun t156 => ((modp_field_rest.f t154 a2).bind fun t157 => ((modp_field_rest.f t154 (wrap64 (t156 * t157))).bind fun t158 => (some (t158, 0))))) else (some (0, t155))) = some (r1, r2) := H
  have A4 := Aside0.mk A40
  clear A40
  by_cases c5 : t155 = 0
  · rw [if_pos c5] at H
    have c5b0 : (t155 == 0) = true := beq_iff_eq.mpr c5
    have c5b1 : (t155 != 0) = false := bne_eq_false_iff_eq.mpr c5
    clear c5
    replace H := Option.bind_eq_some_iff.mp H
    obtain ⟨t156, A60, H⟩ := H
    replace H : ((modp_field_rest.f t154 a2).bind fun t157 => ((modp_field_rest.f t154 (wrap64 (t156 * t157))).bind fun t158 => (some (t158, 0)))) = some (r1, r2) := H
    have A6 := Aside0.mk A60
    clear A60
    replace H := Option.bind_eq_some_iff.mp H
    obtain ⟨t157, A70, H⟩ := H
    replace H : ((modp_field_rest.f t154 (wrap64 (t156 * t157))).bind fun t158 => (some (t158, 0))) = some (r1, r2) := H
    have A7 := Aside0.mk A70
    clear A70
    replace H := Option.bind_eq_some_iff.mp H
    obtain ⟨t158, A80, H⟩ := H
    replace H : (some (t158, 0)) = some (r1, r2) := H
    have A8 := Aside0.mk A80
    clear A80
    simp only [Option.some.injEq, Prod.mk.injEq] at H
    obtain ⟨rfl, rfl⟩ := H
    go_enter Try.func91, Try.ntmps91
    go_wp2_with (first | ((with_reducible refine gate_callee (f := 75) rfl ?_); refine goesL_ (some 12) rfl rfl Try.func75 (by kernel_rfl) rfl #[.int .i64 a0] rfl (by (try simp only [List.map_toArray, List.map_cons, List.map_nil]); first | done | rfl | (simp only [List.length_drop, List.length_take]; rfl)) ?_; (with_reducible refine (modp_of.calls k a0 t154 t155 _ A4.out).mono ?_); rintro e w' ⟨rfl, ⟨nd, rfl⟩⟩; refine ⟨_, rfl, ?_⟩) | ((with_reducible refine gate_callee (f := 76) rfl ?_); refine goesL_ (some 21) rfl rfl Try.func76 (by kernel_rfl) rfl #[.int .i64 t154, .int .i64 a1] rfl (by (try simp only [List.map_toArray, List.map_cons, List.map_nil]); first | done | rfl | (simp only [List.length_drop, List.length_take]; rfl)) ?_; (with_reducible refine (modp_field_rest.calls t154 a1 t156 _ A6.out).mono ?_); rintro e w' ⟨rfl, ⟨nd, rfl⟩⟩; refine ⟨_, rfl, ?_⟩) | ((with_reducible refine gate_callee (f := 76) rfl ?_); refine goesL_ (some 24) rfl rfl Try.func76 (by kernel_rfl) rfl #[.int .i64 t154, .int .i64 a2] rfl (by (try simp only [List.map_toArray, List.map_cons, List.map_nil]); first | done | rfl | (simp only [List.length_drop, List.length_take]; rfl)) ?_; (with_reducible refine (modp_field_rest.calls t154 a2 t157 _ A7.out).mono ?_); rintro e w' ⟨rfl, ⟨nd, rfl⟩⟩; refine ⟨_, rfl, ?_⟩) | ((with_reducible refine gate_callee (f := 76) rfl ?_); refine goesL_ (some 26) rfl rfl Try.func76 (by kernel_rfl) rfl #[.int .i64 t154, .int .i64 (wrap64 (t156 * t157))] rfl (by (try simp only [List.map_toArray, List.map_cons, List.map_nil]); first | done | rfl | (simp only [List.length_drop, List.length_take]; rfl)) ?_; (with_reducible refine (modp_field_rest.calls t154 (wrap64 (t156 * t157)) t158 _ A8.out).mono ?_); rintro e w' ⟨rfl, ⟨nd, rfl⟩⟩; refine ⟨_, rfl, ?_⟩))
    go_ret2
    exact ⟨by first | rfl | (simp; done) | (simp [*]; done), by repeat (first | exact Drawn0.refl _ | apply Drawn0.step)⟩
  · rw [if_neg c5] at H
    have c5b0 : (t155 == 0) = false := beq_eq_false_iff_ne.mpr c5
    have c5b1 : (t155 != 0) = true := bne_iff_ne.mpr c5
    simp only [Option.some.injEq, Prod.mk.injEq] at H
    obtain ⟨rfl, rfl⟩ := H
    go_enter Try.func91, Try.ntmps91
    go_wp2_with (first | ((with_reducible refine gate_callee (f := 75) rfl ?_); refine goesL_ (some 12) rfl rfl Try.func75 (by kernel_rfl) rfl #[.int .i64 a0] rfl (by (try simp only [List.map_toArray, List.map_cons, List.map_nil]); first | done | rfl | (simp only [List.length_drop, List.length_take]; rfl)) ?_; (with_reducible refine (modp_of.calls k a0 t154 t155 _ A4.out).mono ?_); rintro e w' ⟨rfl, ⟨nd, rfl⟩⟩; refine ⟨_, rfl, ?_⟩))
    go_ret2
    exact ⟨by first | rfl | (simp; done) | (simp [*]; done), by repeat (first | exact Drawn0.refl _ | apply Drawn0.step)⟩
def modp_Div.f (k : Nat) (a0 : Int) (a1 : Int) (a2 : Int) : Option (Int × Int) := (modp_Inv.f k a0 a2).bind fun bt159 => (if bt159.2 = 0 then ((modp_Mul.f k a0 a1 bt159.1).bind fun bt161 => (some (bt161.1, bt161.2))) else (some (0, bt159.2)))
theorem modp_Div.mono : ∀ a0 a1 a2 k, LeO (modp_Div.f k a0 a1 a2) (modp_Div.f (k + 1) a0 a1 a2) := by
  intro a0 a1 a2 k
  unfold modp_Div.f
  repeat' first
      | (with_reducible exact modp_Inv.mono _ _ _)
      | (with_reducible exact modp_Mul.mono _ _ _ _)
      | (with_reducible exact LeO.refl _)
      | (with_reducible exact LeO.none _)
      | (with_reducible refine LeO.ite ?_ ?_)
      | (with_reducible refine LeO.bind ?_ (fun _ => ?_))
      | exact modp_Inv.mono _ _ _
      | exact modp_Mul.mono _ _ _ _
      | exact LeO.none _
      | refine LeO.ite ?_ ?_
      | refine LeO.bind ?_ (fun _ => ?_)
set_option maxHeartbeats 8000000 in
set_option maxRecDepth 100000 in
theorem modp_Div.calls (k : Nat) (a0 : Int) (a1 : Int) (a2 : Int) (r1 : Int) (r2 : Int) (w : World) (h : modp_Div.f k a0 a1 a2 = some (r1, r2)) :
    Calls Try.prog 83 #[.int .i64 a0, .int .i64 a1, .int .i64 a2] w fun e w' => e = .returned (.tuple #[.int .i64 r1, .int .i64 r2]) ∧ Drawn0 w w' := by
  have H : ((modp_Inv.f k a0 a2).bind fun bt159 => (if bt159.2 = 0 then ((modp_Mul.f k a0 a1 bt159.1).bind fun bt161 => (some (bt161.1, bt161.2))) else (some (0, bt159.2)))) = some (r1, r2) := h
  clear h
  replace H := Option.bind_eq_some_iff.mp H
  obtain ⟨⟨t159, t160⟩, A40, H⟩ := H
  replace H : (if t160 = 0 then ((modp_Mul.f k a0 a1 t159).bind fun bt161 => (some (bt161.1, bt161.2))) else (some (0, t160))) = some (r1, r2) := H
  have A4 := Aside0.mk A40
  clear A40
  by_cases c5 : t160 = 0
  · rw [if_pos c5] at H
    have c5b0 : (t160 == 0) = true := beq_iff_eq.mpr c5
    have c5b1 : (t160 != 0) = false := bne_eq_false_iff_eq.mpr c5
    clear c5
    replace H := Option.bind_eq_some_iff.mp H
    obtain ⟨⟨t161, t162⟩, A60, H⟩ := H
    replace H : (some (t161, t162)) = some (r1, r2) := H
    have A6 := Aside0.mk A60
    clear A60
    simp only [Option.some.injEq, Prod.mk.injEq] at H
    obtain ⟨rfl, rfl⟩ := H
    go_enter Try.func83, Try.ntmps83
    go_wp2_with (first | ((with_reducible refine gate_callee (f := 82) rfl ?_); refine goesL_ (some 13) rfl rfl Try.func82 (by kernel_rfl) rfl #[.int .i64 a0, .int .i64 a2] rfl (by (try simp only [List.map_toArray, List.map_cons, List.map_nil]); first | done | rfl | (simp only [List.length_drop, List.length_take]; rfl)) ?_; (with_reducible refine (modp_Inv.calls k a0 a2 t159 t160 _ A4.out).mono ?_); rintro e w' ⟨rfl, ⟨nd, rfl⟩⟩; refine ⟨_, rfl, ?_⟩) | ((with_reducible refine gate_callee (f := 91) rfl ?_); refine goesL_ (some 22) rfl rfl Try.func91 (by kernel_rfl) rfl #[.int .i64 a0, .int .i64 a1, .int .i64 t159] rfl (by (try simp only [List.map_toArray, List.map_cons, List.map_nil]); first | done | rfl | (simp only [List.length_drop, List.length_take]; rfl)) ?_; (with_reducible refine (modp_Mul.calls k a0 a1 t159 t161 t162 _ A6.out).mono ?_); rintro e w' ⟨rfl, ⟨nd, rfl⟩⟩; refine ⟨_, rfl, ?_⟩))
    go_ret2
    exact ⟨by first | rfl | (simp; done) | (simp [*]; done), by repeat (first | exact Drawn0.refl _ | apply Drawn0.step)⟩
  · rw [if_neg c5] at H
    have c5b0 : (t160 == 0) = false := beq_eq_false_iff_ne.mpr c5
    have c5b1 : (t160 != 0) = true := bne_iff_ne.mpr c5
    simp only [Option.some.injEq, Prod.mk.injEq] at H
    obtain ⟨rfl, rfl⟩ := H
    go_enter Try.func83, Try.ntmps83
    go_wp2_with (first | ((with_reducible refine gate_callee (f := 82) rfl ?_); refine goesL_ (some 13) rfl rfl Try.func82 (by kernel_rfl) rfl #[.int .i64 a0, .int .i64 a2] rfl (by (try simp only [List.map_toArray, List.map_cons, List.map_nil]); first | done | rfl | (simp only [List.length_drop, List.length_take]; rfl)) ?_; (with_reducible refine (modp_Inv.calls k a0 a2 t159 t160 _ A4.out).mono ?_); rintro e w' ⟨rfl, ⟨nd, rfl⟩⟩; refine ⟨_, rfl, ?_⟩))
    go_ret2
    exact ⟨by first | rfl | (simp; done) | (simp [*]; done), by repeat (first | exact Drawn0.refl _ | apply Drawn0.step)⟩
def column_begin.f (k : Nat) (a0 : Int) (l1 : List (List (S45))) : Option (Int) := if (l1.length : Int) > 1024 then (some 3) else ((modp_Prime.f k a0).bind fun t165 => (if t165 = true then ((column_checkAll.f k a0 l1).bind fun t166 => (some t166)) else (some 8)))
theorem column_begin.mono : ∀ a0 a1 k, LeO (column_begin.f k a0 a1) (column_begin.f (k + 1) a0 a1) := by
  intro a0 a1 k
  unfold column_begin.f
  repeat' first
      | (with_reducible exact column_checkAll.mono _ _ _)
      | (with_reducible exact modp_Prime.mono _ _)
      | (with_reducible exact LeO.refl _)
      | (with_reducible exact LeO.none _)
      | (with_reducible refine LeO.ite ?_ ?_)
      | (with_reducible refine LeO.bind ?_ (fun _ => ?_))
      | exact column_checkAll.mono _ _ _
      | exact modp_Prime.mono _ _
      | exact LeO.none _
      | refine LeO.ite ?_ ?_
      | refine LeO.bind ?_ (fun _ => ?_)
set_option maxHeartbeats 8000000 in
set_option maxRecDepth 100000 in
theorem column_begin.calls (k : Nat) (a0 : Int) (A1 : Option Addr) (c1 : Nat) (l1 : List (List (S45))) (r : Int) (w : World) (hr1 : Kd.C (Kd.slice 45 k45) w A1 l1.length l1) (hc1 : l1.length ≤ c1) (h : column_begin.f k a0 l1 = some r) :
    Calls Try.prog 65 #[.int .i64 a0, .slice A1 l1.length c1] w fun e w' => e = .returned (.int .i64 r) ∧ Below w.heap.size w w' := by
  have HR1 := Aside0.mk hr1
  have HC1 := Aside0.mk hc1
  clear hr1 hc1
  have HB := Aside0.mk (Below.refl w.heap.size w)
  have H : (if (l1.length : Int) > 1024 then (some 3) else ((modp_Prime.f k a0).bind fun t165 => (if t165 = true then ((column_checkAll.f k a0 l1).bind fun t166 => (some t166)) else (some 8)))) = some r := h
  clear h
  by_cases c3 : (l1.length : Int) > 1024
  · rw [if_pos c3] at H
    have c3b0 : decide (1024 < (l1.length : Int)) = true := decide_eq_true c3
    have c3b1 : decide (1024 < l1.length) = true := decide_eq_true (by omega)
    clear c3
    obtain rfl := Option.some.inj H
    go_enter Try.func65, Try.ntmps65
    go_wp2
    go_ret
    exact ⟨by first | rfl | (simp [errW_none, errW_some] <;> rfl) | (simp [*, errW_none, errW_some] <;> rfl), by repeat (first | (with_reducible first | exact HB.out | apply below_alloc | apply pw_below_drewN | apply below_drew1) | exact HB.out)⟩
  · rw [if_neg c3] at H
    have c3b0 : decide (1024 < (l1.length : Int)) = false := decide_eq_false c3
    have c3b1 : decide (1024 < l1.length) = false := decide_eq_false (by omega)
    clear c3
    replace H := Option.bind_eq_some_iff.mp H
    obtain ⟨t165, A40, H⟩ := H
    replace H : (if t165 = true then ((column_checkAll.f k a0 l1).bind fun t166 => (some t166)) else (some 8)) = some r := H
    have A4 := Aside0.mk A40
    clear A40
    by_cases c5 : t165 = true
    · subst c5
      have H1 : ((column_checkAll.f k a0 l1).bind fun t166 => (some t166)) = some r := by rw [if_pos rfl] at H; exact H
      clear H
      have H := H1
      clear H1
      replace H := Option.bind_eq_some_iff.mp H
      obtain ⟨t166, A60, H⟩ := H
      replace H : (some t166) = some r := H
      have A6 := Aside0.mk A60
      clear A60
      obtain rfl := Option.some.inj H
      go_enter Try.func65, Try.ntmps65
      go_wp2_with (first | ((with_reducible refine gate_callee (f := 61) rfl ?_); refine goesL_ (some 11) rfl rfl Try.func61 (by kernel_rfl) rfl #[.int .i64 a0] rfl (by (try simp only [List.map_toArray, List.map_cons, List.map_nil]); first | done | rfl | (simp only [List.length_drop, List.length_take]; rfl)) ?_; (with_reducible refine (modp_Prime.calls k a0 true _ A4.out).mono ?_); rintro e w' ⟨rfl, ⟨nd, rfl⟩⟩; refine ⟨_, rfl, ?_⟩) | ((with_reducible refine gate_callee (f := 59) rfl ?_); refine goesL_ (some 15) rfl rfl Try.func59 (by kernel_rfl) rfl #[.int .i64 a0, .slice A1 l1.length c1] rfl (by (try simp only [List.map_toArray, List.map_cons, List.map_nil]); first | done | rfl | (simp only [List.length_drop, List.length_take]; rfl)) ?_; (with_reducible refine (column_checkAll.calls k a0 _ _ l1 t166 _ ?side1 ?side2 A6.out).mono ?_); (case side1 => repeat (first | exact HR1.out | (with_reducible refine Kd.C_alloc ?_ _) | (with_reducible refine Kd.C_drewN ?_ _) | (with_reducible refine Kd.C_drew ?_))); (case side2 => exact HC1.out); rintro e w7 ⟨rfl, hb⟩; refine ⟨_, rfl, ?_⟩; have n0_ := Aside0.mk (below_step (by repeat (first | (with_reducible first | exact HB.out | apply below_alloc | apply pw_below_drewN | apply below_drew1) | exact HB.out)) hb); clear HB; have HB := n0_; clear n0_; (try clear hb); (try clear hb2); (try clear hk); (try clear hi)))
      go_ret
      exact ⟨by first | rfl | (simp [errW_none, errW_some] <;> rfl) | (simp [*, errW_none, errW_some] <;> rfl), by repeat (first | (with_reducible first | exact HB.out | apply below_alloc | apply pw_below_drewN | apply below_drew1) | exact HB.out)⟩
    · replace c5 := Bool.eq_false_iff.mpr c5
      subst c5
      have H1 : (some 8) = some r := by rw [if_neg (show ¬ (false = true) by decide)] at H; exact H
      clear H
      have H := H1
      clear H1
      obtain rfl := Option.some.inj H
      go_enter Try.func65, Try.ntmps65
      go_wp2_with (first | ((with_reducible refine gate_callee (f := 61) rfl ?_); refine goesL_ (some 11) rfl rfl Try.func61 (by kernel_rfl) rfl #[.int .i64 a0] rfl (by (try simp only [List.map_toArray, List.map_cons, List.map_nil]); first | done | rfl | (simp only [List.length_drop, List.length_take]; rfl)) ?_; (with_reducible refine (modp_Prime.calls k a0 false _ A4.out).mono ?_); rintro e w' ⟨rfl, ⟨nd, rfl⟩⟩; refine ⟨_, rfl, ?_⟩))
      go_ret
      exact ⟨by first | rfl | (simp [errW_none, errW_some] <;> rfl) | (simp [*, errW_none, errW_some] <;> rfl), by repeat (first | (with_reducible first | exact HB.out | apply below_alloc | apply pw_below_drewN | apply below_drew1) | exact HB.out)⟩
def toruslaw04_is.f (k : Nat) (l0 : List (S45)) (a1 : Int) (l2 : List (S45)) : Option (Bool) := (torusref04_Same.f k l0 l2).bind fun t170 => (if t170 = true then (some (a1 == 0)) else (some false))
theorem toruslaw04_is.mono : ∀ a0 a1 a2 k, LeO (toruslaw04_is.f k a0 a1 a2) (toruslaw04_is.f (k + 1) a0 a1 a2) := by
  intro a0 a1 a2 k
  unfold toruslaw04_is.f
  repeat' first
      | (with_reducible exact torusref04_Same.mono _ _ _)
      | (with_reducible exact LeO.refl _)
      | (with_reducible exact LeO.none _)
      | (with_reducible refine LeO.ite ?_ ?_)
      | (with_reducible refine LeO.bind ?_ (fun _ => ?_))
      | exact torusref04_Same.mono _ _ _
      | exact LeO.none _
      | refine LeO.ite ?_ ?_
      | refine LeO.bind ?_ (fun _ => ?_)
set_option maxHeartbeats 8000000 in
set_option maxRecDepth 100000 in
theorem toruslaw04_is.calls (k : Nat) (A0 : Option Addr) (c0 : Nat) (l0 : List (S45)) (a1 : Int) (A2 : Option Addr) (c2 : Nat) (l2 : List (S45)) (r : Bool) (w : World) (hr0 : Kd.C k45 w A0 l0.length l0) (hc0 : l0.length ≤ c0) (hr2 : Kd.C k45 w A2 l2.length l2) (hc2 : l2.length ≤ c2) (h : toruslaw04_is.f k l0 a1 l2 = some r) :
    Calls Try.prog 50 #[.slice A0 l0.length c0, .int .i64 a1, .slice A2 l2.length c2] w fun e w' => e = .returned (.bool r) ∧ Drawn0 w w' := by
  have HR0 := Aside0.mk hr0
  have HC0 := Aside0.mk hc0
  clear hr0 hc0
  have HR2 := Aside0.mk hr2
  have HC2 := Aside0.mk hc2
  clear hr2 hc2
  have H : ((torusref04_Same.f k l0 l2).bind fun t170 => (if t170 = true then (some (a1 == 0)) else (some false))) = some r := h
  clear h
  replace H := Option.bind_eq_some_iff.mp H
  obtain ⟨t170, A40, H⟩ := H
  replace H : (if t170 = true then (some (a1 == 0)) else (some false)) = some r := H
  have A4 := Aside0.mk A40
  clear A40
  by_cases c5 : t170 = true
  · subst c5
    have H1 : (some (a1 == 0)) = some r := by rw [if_pos rfl] at H; exact H
    clear H
    have H := H1
    clear H1
    obtain rfl := Option.some.inj H
    go_enter Try.func50, Try.ntmps50
    go_wp2_with (first | ((with_reducible refine gate_callee (f := 15) rfl ?_); refine goesL_ (some 9) rfl rfl Try.func15 (by kernel_rfl) rfl #[.slice A0 l0.length c0, .slice A2 l2.length c2] rfl (by (try simp only [List.map_toArray, List.map_cons, List.map_nil]); first | done | rfl | (simp only [List.length_drop, List.length_take]; rfl)) ?_; (with_reducible refine (torusref04_Same.calls k _ _ l0 _ _ l2 true _ ?side1 ?side2 ?side3 ?side4 A4.out).mono ?_); (case side1 => repeat (first | exact HR0.out | (with_reducible refine Kd.C_alloc ?_ _) | (with_reducible refine Kd.C_drewN ?_ _) | (with_reducible refine Kd.C_drew ?_))); (case side2 => exact HC0.out); (case side3 => repeat (first | exact HR2.out | (with_reducible refine Kd.C_alloc ?_ _) | (with_reducible refine Kd.C_drewN ?_ _) | (with_reducible refine Kd.C_drew ?_))); (case side4 => exact HC2.out); rintro e w' ⟨rfl, ⟨nd, rfl⟩⟩; refine ⟨_, rfl, ?_⟩))
    go_ret
    exact ⟨by first | rfl | (simp; done) | (simp [*]; done), by repeat (first | exact Drawn0.refl _ | apply Drawn0.step)⟩
  · replace c5 := Bool.eq_false_iff.mpr c5
    subst c5
    have H1 : (some false) = some r := by rw [if_neg (show ¬ (false = true) by decide)] at H; exact H
    clear H
    have H := H1
    clear H1
    obtain rfl := Option.some.inj H
    go_enter Try.func50, Try.ntmps50
    go_wp2_with (first | ((with_reducible refine gate_callee (f := 15) rfl ?_); refine goesL_ (some 9) rfl rfl Try.func15 (by kernel_rfl) rfl #[.slice A0 l0.length c0, .slice A2 l2.length c2] rfl (by (try simp only [List.map_toArray, List.map_cons, List.map_nil]); first | done | rfl | (simp only [List.length_drop, List.length_take]; rfl)) ?_; (with_reducible refine (torusref04_Same.calls k _ _ l0 _ _ l2 false _ ?side1 ?side2 ?side3 ?side4 A4.out).mono ?_); (case side1 => repeat (first | exact HR0.out | (with_reducible refine Kd.C_alloc ?_ _) | (with_reducible refine Kd.C_drewN ?_ _) | (with_reducible refine Kd.C_drew ?_))); (case side2 => exact HC0.out); (case side3 => repeat (first | exact HR2.out | (with_reducible refine Kd.C_alloc ?_ _) | (with_reducible refine Kd.C_drewN ?_ _) | (with_reducible refine Kd.C_drew ?_))); (case side4 => exact HC2.out); rintro e w' ⟨rfl, ⟨nd, rfl⟩⟩; refine ⟨_, rfl, ?_⟩))
    go_ret
    exact ⟨by first | rfl | (simp; done) | (simp [*]; done), by repeat (first | exact Drawn0.refl _ | apply Drawn0.step)⟩
def toruslaw04_exA.f  : Option ((List (S45))) := some (([(⟨0, 2⟩ : S45), (⟨3, 1⟩ : S45)] : List (S45)))
set_option maxHeartbeats 8000000 in
set_option maxRecDepth 100000 in
theorem toruslaw04_exA.calls  (r : List (S45)) (w : World) (h : toruslaw04_exA.f  = some r) :
    Calls Try.prog 51 #[] w fun e w' => ∃ v0_ : Value, e = .returned (v0_) ∧ Kd.R k45 45 w' w.heap.size (fun _ => True) v0_ r ∧ Below w.heap.size w w' := by
  have hu45 := Try.underlying45
  have HB := Aside0.mk (Below.refl w.heap.size w)
  have H : (some (([(⟨0, 2⟩ : S45), (⟨3, 1⟩ : S45)] : List (S45)))) = some r := h
  clear h
  obtain ⟨y171, hy171⟩ : ∃ y_ : List (S45), y_ = (([(⟨0, 2⟩ : S45), (⟨3, 1⟩ : S45)] : List (S45))) := ⟨_, rfl⟩
  replace H : (some y171) = some r := by first | (rw [hy171]; with_reducible exact H) | (have H2_ := (Option.bind_some _ _).symm.trans H; rw [hy171]; with_reducible exact H2_) | (have H2_ := (Option.bind_some _ _).symm.trans H; with_reducible exact H2_) | with_reducible exact H | (rw [hy171]; exact H) | exact H
  have Ny171 := Aside0.mk hy171
  clear hy171
  obtain rfl := Option.some.inj H
  go_enter Try.func51, Try.ntmps51
  go_wp2_with (first | ((with_reducible refine gate_dst (N := 3) rfl ?_); refine Kd.R_lit k45 _ 45 ?hg (N := 3) ?hd (xs := ([(⟨0, 2⟩ : S45), (⟨3, 1⟩ : S45)] : List (S45))) (inner := [.int .i64 0, .int .i64 2, .int .i64 3, .int .i64 1]) (ok := fun _ => True) (okp := fun _ => True) ?hr ?hp (fun _ hk => hk) trivial (Below.refl _ _) (Nat.le_refl _) (by simp) ?_; (case hd => rfl); (case hg => rfl); (case hr => first | (go_simp; done) | (go_simp; rfl)); (case hp => exact (Reps.c2 (show Kd.M k45 _ _ _ (⟨0, 2⟩ : S45) [.int .i64 0, .int .i64 2] from (k45_mkM _ _ _ (⟨0, 2⟩ : S45) )) (Reps.c2 (show Kd.M k45 _ _ _ (⟨3, 1⟩ : S45) [.int .i64 3, .int .i64 1] from (k45_mkM _ _ _ (⟨3, 1⟩ : S45) )) (Reps.none _ _)))); intro v172 w1 ho2 hb hg_ hnew_; clear hg_ hnew_; (first | rw [← Ny171.out] at ho2 | (simp only [Int.reduceToNat] at ho2; rw [← Ny171.out] at ho2)); have n0_ := Aside0.mk (Kd.R_lower ho2 (below_size (by repeat (first | (with_reducible first | exact HB.out | apply below_alloc | apply pw_below_drewN | apply below_drew1) | exact HB.out)))); have n1_ := Aside0.mk (below_step (by repeat (first | (with_reducible first | exact HB.out | apply below_alloc | apply pw_below_drewN | apply below_drew1) | exact HB.out)) hb); clear HB; have HO173 := n0_; have HB := n1_; clear n0_ n1_; clear hb ho2))
  go_ret
  exact ⟨_, by first | rfl | (simp [errW_none, errW_some] <;> rfl) | (simp [*, errW_none, errW_some] <;> rfl), by (with_reducible repeat (first | apply Kd.R_alloc | apply Kd.R_drewN | apply Kd.R_drew)); exact HO173.out, by repeat (first | (with_reducible first | exact HB.out | apply below_alloc | apply pw_below_drewN | apply below_drew1) | exact HB.out)⟩
end Go.Proofs.Ytojnnfhalpefmaa.M
end

section
namespace Go.Proofs.Ytojnnfhalpefmaa.H
open Go.RowKit Go.Shelf Go.Proofs.YtojnnfhalpefmaaW.PrintWords Go.Proofs.YtojnnfhalpefmaaW.PrintLast Go.Proofs.YtojnnfhalpefmaaW.PrintMore Go.Proofs.Ytojnnfhalpefmaa.M
attribute [local go_sem] Oper.semAt_some
def merge : List S45 → List S45 → List (Int × Int × Int)
  | [], [] => []
  | x :: a, [] => (x.f0, x.f1, 0) :: merge a []
  | [], y :: b => (y.f0, 0, y.f1) :: merge [] b
  | x :: a, y :: b =>
    if x.f0 < y.f0 then (x.f0, x.f1, 0) :: merge a (y :: b)
    else if y.f0 < x.f0 then (y.f0, 0, y.f1) :: merge (x :: a) b
    else (x.f0, x.f1, y.f1) :: merge a b
termination_by a b => a.length + b.length
theorem merge_r {y : S45} {b : List S45} : merge [] (y :: b) = (y.f0, 0, y.f1) :: merge [] b := by rw [merge]
theorem merge_l {x : S45} {a : List S45} : merge (x :: a) [] = (x.f0, x.f1, 0) :: merge a [] := by rw [merge]
theorem merge_lt {x y : S45} {a b : List S45} (h : x.f0 < y.f0) : merge (x :: a) (y :: b) = (x.f0, x.f1, 0) :: merge a (y :: b) := by rw [merge, if_pos h]
theorem merge_gt {x y : S45} {a b : List S45} (h : ¬ x.f0 < y.f0) (h' : y.f0 < x.f0) : merge (x :: a) (y :: b) = (y.f0, 0, y.f1) :: merge (x :: a) b := by rw [merge, if_neg h, if_pos h']
theorem merge_eq {x y : S45} {a b : List S45} (h : ¬ x.f0 < y.f0) (h' : ¬ y.f0 < x.f0) : merge (x :: a) (y :: b) = (x.f0, x.f1, y.f1) :: merge a b := by rw [merge, if_neg h, if_neg h']
structure Else (bA bB : Nat) (W W' : World) : Prop where
  os : W'.os = W.os
  tape : W'.tape = W.tape
  output : W'.output = W.output
  size : W.heap.size ≤ W'.heap.size
  block : ∀ b, b < W.heap.size → b ≠ bA → b ≠ bB → W'.heap[b]? = W.heap[b]?
theorem Else.refl (bA bB : Nat) (W : World) : Else bA bB W W := ⟨rfl, rfl, rfl, Nat.le_refl _, fun _ _ _ _ => rfl⟩
theorem Else.trans {bA bB : Nat} {U V W : World} (h : Else bA bB U V) (k : Else bA bB V W) : Else bA bB U W :=
  ⟨k.os.trans h.os, k.tape.trans h.tape, k.output.trans h.output, Nat.le_trans h.size k.size, fun b hb h1 h2 => (k.block b (Nat.lt_of_lt_of_le hb h.size) h1 h2).trans (h.block b hb h1 h2)⟩
theorem Else.of_below {bA bB : Nat} {U V W : World} (h : Else bA bB U V) (k : Below U.heap.size V W) : Else bA bB U W :=
  ⟨k.os.trans h.os, k.tape.trans h.tape, k.output.trans h.output, Nat.le_trans h.size k.size, fun b hb h1 h2 => (k.block b hb).trans (h.block b hb h1 h2)⟩
theorem below_drewN_ {B : Nat} {w W : World} (h : Below B w W) (n : Nat) : Below B w (W.drewN n) := ⟨h.os, h.tape, h.output, h.size, h.block⟩
theorem C_head {w : World} {A : Option Addr} {x : S45} {xs : List S45} (h : k45.C w A (x :: xs).length (x :: xs)) : ∃ ad : Addr, A = some ad ∧ w.cell? ad = some (.int .i64 x.f0) ∧ w.cell? ⟨ad.block, ad.off + 1, none⟩ = some (.int .i64 x.f1) := by
  obtain ⟨ad, e, h1, h2⟩ := at_T45 h 0 (by omega) (by simp)
  refine ⟨ad, e, ?_, ?_⟩
  · simpa [rd_T45, Addr.add] using h1
  · simpa [rd_T45, Addr.add] using h2
theorem Else.drewN {bA bB : Nat} {U V : World} (h : Else bA bB U V) (m : Nat) : Else bA bB U (V.drewN m) := ⟨h.os, h.tape, h.output, h.size, h.block⟩
theorem Else.drew {bA bB : Nat} {U V : World} (h : Else bA bB U V) : Else bA bB U V.drew := ⟨h.os, h.tape, h.output, h.size, h.block⟩
theorem Else.setCell {bA bB : Nat} {U V : World} (h : Else bA bB U V) (p : Addr) (v : Value) (hp : p.block = bA ∨ p.block = bB ∨ U.heap.size ≤ p.block) : Else bA bB U (V.setCell p v) := by
  have k := (Below.refl 0 V).setCell (p := p) (Nat.zero_le _) v
  refine ⟨k.os.trans h.os, k.tape.trans h.tape, k.output.trans h.output, Nat.le_trans h.size k.size, fun b hb h1 h2 => ?_⟩
  have hne : b ≠ p.block := by rcases hp with e | e | e <;> omega
  exact (Below.heap_setCell V p v b hne).trans (h.block b hb h1 h2)
theorem cutS {w0 : World} {ad : Addr} {x : S45} {xs : List S45} {c : Nat} (h : k45.C w0 (some ad) (x :: xs).length (x :: xs)) (hc : (x :: xs).length ≤ c) :
    ∃ A' : Option Addr, (∀ W : World, (Instr.slice 22 (.slice (some ad) (xs.length + 1) c) (some (.int .i64 1)) none none).run Try.prog W = .ok (.slice A' xs.length (c - 1)) W) ∧ k45.C w0 A' xs.length xs ∧ xs.length ≤ c - 1 := by
  obtain ⟨i0, hi0, _, hsz0, _⟩ := info_parts info45
  have hl : (x :: xs).length = xs.length + 1 := rfl
  have h1 := cut_from (P := Try.prog) 22 45 .i64 Try.underlying22 hi0 2 hsz0 (some ad) (xs.length + 1) c 1 (by omega) (by omega)
  have h2 := Kd.C_drop (m := 1) h (by simp) hc
  refine ⟨_, h1, ?_, by omega⟩
  exact h2
set_option maxRecDepth 100000 in
set_option maxHeartbeats 4000000 in
theorem merged1 (n : Nat) (hn : 2 ≤ n) (l bA bB : Nat) (w0 : World) (a b : List S45) (Aa Ab : Option Addr) (ca cb : Nat)
    (hCa : k45.C w0 Aa a.length a) (hca : a.length ≤ ca) (hCb : k45.C w0 Ab b.length b) (hcb : b.length ≤ cb) (hAB : bA ≠ bB)
    (J : List (Int × Int × Int) → World → Prop) (hJ : ∀ pre W W', J pre W → Else bA bB W W' → J pre W')
    (hY : ∀ pre x W1, J pre W1 → (∃ v, Boxed W1 bA 22 v) → (∃ v, Boxed W1 bB 22 v) → pre.length < (merge a b).length → YieldAt Fence.wide (n - 1) Try.prog l #[.int .i64 x.1, .agg #[.int .i64 x.2.1, .int .i64 x.2.2]] W1 fun e W' =>
      e = .returned (.bool true) ∧ J (pre ++ [x]) W' ∧ Below w0.heap.size W1 W' ∧ W'.heap[bA]? = W1.heap[bA]? ∧ W'.heap[bB]? = W1.heap[bB]?)
    (W : World) (hB0 : Below w0.heap.size w0 W) (hbA : Boxed W bA 22 (.slice Aa a.length ca)) (hbB : Boxed W bB 22 (.slice Ab b.length cb)) (hA0 : w0.heap.size ≤ bA) (hB0' : w0.heap.size ≤ bB) (h0 : J [] W) :
    CallsIn Fence.wide n Try.prog 77 #[.func (.yield l) #[] #[], .pointer (some ⟨bA, 0, none⟩), .pointer (some ⟨bB, 0, none⟩)] W fun e W' => (∃ v, e = .returned v) ∧ J (merge a b) W' := by
  refine callsIn_of_wp Try.func77 rfl trivial ?_ rfl
  simp only [Try.ntmps77, List.size_toArray, List.length_cons, List.length_nil, Nat.reduceAdd, Nat.reduceSub, Array.replicate_succ, Array.replicate_zero, List.push_toArray, List.append_toArray, List.nil_append, List.cons_append]
  gi_wp2
  gi_loopg [] (a.length + b.length) (fun k wr => ∃ (pre : List (Int × Int × Int)) (ra rb : List S45) (Ba Bb : Option Addr) (da db : Nat), k = ra.length + rb.length ∧ merge a b = pre ++ merge ra rb ∧ J pre wr ∧
    Boxed wr bA 22 (.slice Ba ra.length da) ∧ Boxed wr bB 22 (.slice Bb rb.length db) ∧ k45.C w0 Ba ra.length ra ∧ ra.length ≤ da ∧ k45.C w0 Bb rb.length rb ∧ rb.length ≤ db ∧ Below w0.heap.size w0 wr)
  case atStart => exact ⟨[], a, b, Aa, Ab, ca, cb, rfl, rfl, h0, hbA, hbB, hCa, hca, hCb, hcb, hB0⟩
  case round =>
    obtain ⟨pre, ra, rb, Ba, Bb, da, db, hk, hm, hJs, hbA, hbB, hCa, hca, hCb, hcb, hB0⟩ := hrel
    have cA := hbA.cell
    have cB := hbB.cell
    have fA := hbA.frozen
    have fB := hbB.frozen
    cases ra with
    | nil =>
      cases rb with
      | nil =>
        gi_wp2
        go_end0
        refine ⟨⟨_, rfl⟩, ?_⟩
        rw [hm]
        simpa [merge] using hJs
      | cons y rb =>
        rw [merge_r] at hm
        obtain ⟨ad, rfl, _⟩ := C_head (Kd.C_below hCb hB0)
        obtain ⟨B', hcutB, hCB', hcB'⟩ := cutS hCb hcb

        gi_wp2
        have hlA := (Array.getElem?_eq_some_iff.1 hbA).1
        have hlB := (Array.getElem?_eq_some_iff.1 hbB).1
        obtain ⟨W1, hW1⟩ : ∃ W1, wr.alloc (.cells #[.int .i64 0, .int .i64 0] 78) = W1 := ⟨_, rfl⟩
        obtain ⟨g, hg⟩ : ∃ g, wr.heap.size = g := ⟨_, rfl⟩
        have bC : W1.heap[g]? = some (.cells #[.int .i64 0, .int .i64 0] 78 (0, 0)) := by rw [← hW1, ← hg]; exact World.alloc_heap_new _ _
        have bB1 : Below wr.heap.size wr W1 := by rw [← hW1]; exact (Below.refl _ wr).alloc (Nat.le_refl _) _
        have E1 : Else bA bB wr W1 := (Else.refl bA bB wr).of_below bB1
        have hbA1 : Boxed W1 bA 22 _ := (bB1.block bA hlA).trans hbA
        have hbB1 : Boxed W1 bB 22 _ := (bB1.block bB hlB).trans hbB
        have hB1 := hB0.trans (bB1.mono hB0.size)
        rw [hW1, hg]
        have cA := hbA1.cell
        have cB := hbB1.cell
        have fA := hbA1.frozen
        have fB := hbB1.frozen
        have cC0 := blk_cell bC 0
        have cC1 := blk_cell bC 1
        have fC0 := blk_frozen bC 0
        have fC1 := blk_frozen bC 1
        simp only [List.getElem?_toArray, List.getElem?_cons_zero, List.getElem?_cons_succ] at cC0 cC1

        obtain ⟨ad', e', y0, y1⟩ := C_head (Kd.C_below hCb hB1)
        obtain rfl := Option.some.inj e'
        have hzb : ((rb.length : Int) + 1 == 0) = false := by simp; omega
        gi_quiet (fail)
        gi_wp2
        gi_quiet (fail)
        gi_wp2
        gi_region
        gi_wp2
        generalize hW4 : ((W1.drewN _).setCell _ _).setCell _ _ = W4
        have E4 : Else bA bB wr W4 := by
          rw [← hW4]
          exact ((E1.drewN _).setCell _ _ (.inr (.inr (Nat.le_of_eq hg)))).setCell _ _ (.inr (.inl rfl))
        have hJ4 := hJ _ _ _ hJs E4
        have hA4 : Boxed W4 bA 22 (.slice Ba 0 da) := by
          rw [← hW4]
          exact blk_far (blk_far (blk_drewN hbA1 _) (by show bA ≠ g; omega) _) (by show bA ≠ bB; omega) _
        have hB4 : Boxed W4 bB 22 (.slice B' rb.length (db - 1)) := by
          rw [← hW4]
          exact blk_put (blk_far (blk_drewN hbB1 _) (by show bB ≠ g; omega) _) 0 _ rfl
        have hL4 : Below w0.heap.size w0 W4 := by
          rw [← hW4]
          exact ((below_drewN_ hB1 _).setCell (p := ⟨g, 1, none⟩) (by have := hB0.size; show _ ≤ g; omega) _).setCell (p := ⟨bB, 0, none⟩) hB0' _
        obtain ⟨fn, tmps, assign, body, hy, hR⟩ := hY pre (y.f0, 0, y.f1) W4 hJ4 ⟨_, hA4⟩ ⟨_, hB4⟩ (by rw [hm]; simp)
        dsimp only at hy
        rw [hy]
        gi_wp2
        refine ⟨fun _ => by omega, hR.mono ?_⟩
        rintro e W5 ⟨rfl, hJ5, hb5, hA5, hB5⟩
        gi_wp2
        gi_roundg (([] : List S45).length + rb.length)
        case measure => simp only [List.length_cons, List.length_nil] at hk ⊢; omega
        case rel => exact ⟨pre ++ [(y.f0, 0, y.f1)], ([] : List S45), rb, _, _, _, _, by simp, by rw [hm]; simp, hJ5, hA5.trans hA4, hB5.trans hB4, hCa, hca, hCB', hcB', hL4.trans hb5⟩
    | cons x ra =>
      cases rb with
      | nil =>
        rw [merge_l] at hm
        obtain ⟨ae, rfl, _⟩ := C_head (Kd.C_below hCa hB0)
        obtain ⟨A', hcutA, hCA', hcA'⟩ := cutS hCa hca

        gi_wp2
        have hlA := (Array.getElem?_eq_some_iff.1 hbA).1
        have hlB := (Array.getElem?_eq_some_iff.1 hbB).1
        obtain ⟨W1, hW1⟩ : ∃ W1, wr.alloc (.cells #[.int .i64 0, .int .i64 0] 78) = W1 := ⟨_, rfl⟩
        obtain ⟨g, hg⟩ : ∃ g, wr.heap.size = g := ⟨_, rfl⟩
        have bC : W1.heap[g]? = some (.cells #[.int .i64 0, .int .i64 0] 78 (0, 0)) := by rw [← hW1, ← hg]; exact World.alloc_heap_new _ _
        have bB1 : Below wr.heap.size wr W1 := by rw [← hW1]; exact (Below.refl _ wr).alloc (Nat.le_refl _) _
        have E1 : Else bA bB wr W1 := (Else.refl bA bB wr).of_below bB1
        have hbA1 : Boxed W1 bA 22 _ := (bB1.block bA hlA).trans hbA
        have hbB1 : Boxed W1 bB 22 _ := (bB1.block bB hlB).trans hbB
        have hB1 := hB0.trans (bB1.mono hB0.size)
        rw [hW1, hg]
        have cA := hbA1.cell
        have cB := hbB1.cell
        have fA := hbA1.frozen
        have fB := hbB1.frozen
        have cC0 := blk_cell bC 0
        have cC1 := blk_cell bC 1
        have fC0 := blk_frozen bC 0
        have fC1 := blk_frozen bC 1
        simp only [List.getElem?_toArray, List.getElem?_cons_zero, List.getElem?_cons_succ] at cC0 cC1

        obtain ⟨ae', e'', x0, x1⟩ := C_head (Kd.C_below hCa hB1)
        obtain rfl := Option.some.inj e''
        have hza : ((ra.length : Int) + 1 == 0) = false := by simp; omega
        gi_quiet (fail)
        gi_wp2
        gi_region
        gi_wp2
        generalize hW4 : ((W1.drewN _).setCell _ _).setCell _ _ = W4
        have E4 : Else bA bB wr W4 := by
          rw [← hW4]
          exact ((E1.drewN _).setCell _ _ (.inr (.inr (Nat.le_of_eq hg)))).setCell _ _ (.inl rfl)
        have hJ4 := hJ _ _ _ hJs E4
        have hA4 : Boxed W4 bA 22 (.slice A' ra.length (da - 1)) := by
          rw [← hW4]
          exact blk_put (blk_far (blk_drewN hbA1 _) (by show bA ≠ g; omega) _) 0 _ rfl
        have hB4 : Boxed W4 bB 22 (.slice Bb 0 db) := by
          rw [← hW4]
          exact blk_far (blk_far (blk_drewN hbB1 _) (by show bB ≠ g; omega) _) (by show bB ≠ bA; omega) _
        have hL4 : Below w0.heap.size w0 W4 := by
          rw [← hW4]
          exact ((below_drewN_ hB1 _).setCell (p := ⟨g, 0, none⟩) (by have := hB0.size; show _ ≤ g; omega) _).setCell (p := ⟨bA, 0, none⟩) hA0 _
        obtain ⟨fn, tmps, assign, body, hy, hR⟩ := hY pre (x.f0, x.f1, 0) W4 hJ4 ⟨_, hA4⟩ ⟨_, hB4⟩ (by rw [hm]; simp)
        dsimp only at hy
        rw [hy]
        gi_wp2
        refine ⟨fun _ => by omega, hR.mono ?_⟩
        rintro e W5 ⟨rfl, hJ5, hb5, hA5, hB5⟩
        gi_wp2
        gi_roundg (ra.length + ([] : List S45).length)
        case measure => simp only [List.length_cons, List.length_nil] at hk ⊢; omega
        case rel => exact ⟨pre ++ [(x.f0, x.f1, 0)], ra, ([] : List S45), _, _, _, _, by simp, by rw [hm]; simp, hJ5, hA5.trans hA4, hB5.trans hB4, hCA', hcA', hCb, hcb, hL4.trans hb5⟩
      | cons y rb =>
        obtain ⟨ae, rfl, _⟩ := C_head (Kd.C_below hCa hB0)
        obtain ⟨ad, rfl, _⟩ := C_head (Kd.C_below hCb hB0)
        obtain ⟨A', hcutA, hCA', hcA'⟩ := cutS hCa hca
        obtain ⟨B', hcutB, hCB', hcB'⟩ := cutS hCb hcb

        gi_wp2
        have hlA := (Array.getElem?_eq_some_iff.1 hbA).1
        have hlB := (Array.getElem?_eq_some_iff.1 hbB).1
        obtain ⟨W1, hW1⟩ : ∃ W1, wr.alloc (.cells #[.int .i64 0, .int .i64 0] 78) = W1 := ⟨_, rfl⟩
        obtain ⟨g, hg⟩ : ∃ g, wr.heap.size = g := ⟨_, rfl⟩
        have bC : W1.heap[g]? = some (.cells #[.int .i64 0, .int .i64 0] 78 (0, 0)) := by rw [← hW1, ← hg]; exact World.alloc_heap_new _ _
        have bB1 : Below wr.heap.size wr W1 := by rw [← hW1]; exact (Below.refl _ wr).alloc (Nat.le_refl _) _
        have E1 : Else bA bB wr W1 := (Else.refl bA bB wr).of_below bB1
        have hbA1 : Boxed W1 bA 22 _ := (bB1.block bA hlA).trans hbA
        have hbB1 : Boxed W1 bB 22 _ := (bB1.block bB hlB).trans hbB
        have hB1 := hB0.trans (bB1.mono hB0.size)
        rw [hW1, hg]
        have cA := hbA1.cell
        have cB := hbB1.cell
        have fA := hbA1.frozen
        have fB := hbB1.frozen
        have cC0 := blk_cell bC 0
        have cC1 := blk_cell bC 1
        have fC0 := blk_frozen bC 0
        have fC1 := blk_frozen bC 1
        simp only [List.getElem?_toArray, List.getElem?_cons_zero, List.getElem?_cons_succ] at cC0 cC1

        obtain ⟨ae', e'', x0, x1⟩ := C_head (Kd.C_below hCa hB1)
        obtain rfl := Option.some.inj e''
        have hza : ((ra.length : Int) + 1 == 0) = false := by simp; omega

        obtain ⟨ad', e', y0, y1⟩ := C_head (Kd.C_below hCb hB1)
        obtain rfl := Option.some.inj e'
        have hzb : ((rb.length : Int) + 1 == 0) = false := by simp; omega
        by_cases hlt : x.f0 < y.f0
        · have hltb : decide (x.f0 < y.f0) = true := decide_eq_true hlt
          rw [merge_lt hlt] at hm
          gi_quiet (fail)
          gi_wp2
          gi_region
          gi_wp2
          generalize hW4 : ((W1.drewN _).setCell _ _).setCell _ _ = W4
          have E4 : Else bA bB wr W4 := by
            rw [← hW4]
            exact ((E1.drewN _).setCell _ _ (.inr (.inr (Nat.le_of_eq hg)))).setCell _ _ (.inl rfl)
          have hJ4 := hJ _ _ _ hJs E4
          have hA4 : Boxed W4 bA 22 (.slice A' ra.length (da - 1)) := by
            rw [← hW4]
            exact blk_put (blk_far (blk_drewN hbA1 _) (by show bA ≠ g; omega) _) 0 _ rfl
          have hB4 : Boxed W4 bB 22 (.slice (some ad) (rb.length + 1) db) := by
            rw [← hW4]
            exact blk_far (blk_far (blk_drewN hbB1 _) (by show bB ≠ g; omega) _) (by show bB ≠ bA; omega) _
          have hL4 : Below w0.heap.size w0 W4 := by
            rw [← hW4]
            exact ((below_drewN_ hB1 _).setCell (p := ⟨g, 0, none⟩) (by have := hB0.size; show _ ≤ g; omega) _).setCell (p := ⟨bA, 0, none⟩) hA0 _
          obtain ⟨fn, tmps, assign, body, hy, hR⟩ := hY pre (x.f0, x.f1, 0) W4 hJ4 ⟨_, hA4⟩ ⟨_, hB4⟩ (by rw [hm]; simp)
          dsimp only at hy
          rw [hy]
          gi_wp2
          refine ⟨fun _ => by omega, hR.mono ?_⟩
          rintro e W5 ⟨rfl, hJ5, hb5, hA5, hB5⟩
          gi_wp2
          gi_roundg (ra.length + (y :: rb).length)
          case measure => simp only [List.length_cons, List.length_nil] at hk ⊢; omega
          case rel => exact ⟨pre ++ [(x.f0, x.f1, 0)], ra, (y :: rb), _, _, _, _, by simp, by rw [hm]; simp, hJ5, hA5.trans hA4, hB5.trans hB4, hCA', hcA', hCb, hcb, hL4.trans hb5⟩
        · have hltb : decide (x.f0 < y.f0) = false := decide_eq_false hlt
          by_cases hgt : y.f0 < x.f0
          · have hgtb : decide (y.f0 < x.f0) = true := decide_eq_true hgt
            rw [merge_gt hlt hgt] at hm
            gi_quiet (fail)
            gi_wp2
            gi_quiet (fail)
            gi_wp2
            gi_region
            gi_wp2
            generalize hW4 : ((W1.drewN _).setCell _ _).setCell _ _ = W4
            have E4 : Else bA bB wr W4 := by
              rw [← hW4]
              exact ((E1.drewN _).setCell _ _ (.inr (.inr (Nat.le_of_eq hg)))).setCell _ _ (.inr (.inl rfl))
            have hJ4 := hJ _ _ _ hJs E4
            have hA4 : Boxed W4 bA 22 (.slice (some ae) (ra.length + 1) da) := by
              rw [← hW4]
              exact blk_far (blk_far (blk_drewN hbA1 _) (by show bA ≠ g; omega) _) (by show bA ≠ bB; omega) _
            have hB4 : Boxed W4 bB 22 (.slice B' rb.length (db - 1)) := by
              rw [← hW4]
              exact blk_put (blk_far (blk_drewN hbB1 _) (by show bB ≠ g; omega) _) 0 _ rfl
            have hL4 : Below w0.heap.size w0 W4 := by
              rw [← hW4]
              exact ((below_drewN_ hB1 _).setCell (p := ⟨g, 1, none⟩) (by have := hB0.size; show _ ≤ g; omega) _).setCell (p := ⟨bB, 0, none⟩) hB0' _
            obtain ⟨fn, tmps, assign, body, hy, hR⟩ := hY pre (y.f0, 0, y.f1) W4 hJ4 ⟨_, hA4⟩ ⟨_, hB4⟩ (by rw [hm]; simp)
            dsimp only at hy
            rw [hy]
            gi_wp2
            refine ⟨fun _ => by omega, hR.mono ?_⟩
            rintro e W5 ⟨rfl, hJ5, hb5, hA5, hB5⟩
            gi_wp2
            gi_roundg ((x :: ra).length + rb.length)
            case measure => simp only [List.length_cons, List.length_nil] at hk ⊢; omega
            case rel => exact ⟨pre ++ [(y.f0, 0, y.f1)], (x :: ra), rb, _, _, _, _, by simp, by rw [hm]; simp, hJ5, hA5.trans hA4, hB5.trans hB4, hCa, hca, hCB', hcB', hL4.trans hb5⟩
          · have hgtb : decide (y.f0 < x.f0) = false := decide_eq_false hgt
            rw [merge_eq hlt hgt] at hm
            gi_quiet (fail)
            gi_wp2
            gi_quiet (fail)
            gi_wp2
            gi_region
            gi_wp2
            gi_region
            gi_wp2
            generalize hW4 : World.drew (((((W1.drewN _).setCell _ _).setCell _ _).setCell _ _).setCell _ _) = W4
            have E4 : Else bA bB wr W4 := by
              rw [← hW4]
              exact (((((E1.drewN _).setCell _ _ (.inr (.inr (Nat.le_of_eq hg)))).setCell _ _ (.inr (.inr (Nat.le_of_eq hg)))).setCell _ _ (.inl rfl)).setCell _ _ (.inr (.inl rfl))).drew
            have hJ4 := hJ _ _ _ hJs E4
            have hA4 : Boxed W4 bA 22 (.slice A' ra.length (da - 1)) := by
              rw [← hW4]
              exact blk_drew (blk_far (blk_put (blk_far (blk_far (blk_drewN hbA1 _) (by show bA ≠ g; omega) _) (by show bA ≠ g; omega) _) 0 _ rfl) (by show bA ≠ bB; omega) _)
            have hB4 : Boxed W4 bB 22 (.slice B' rb.length (db - 1)) := by
              rw [← hW4]
              exact blk_drew (blk_put (blk_far (blk_far (blk_far (blk_drewN hbB1 _) (by show bB ≠ g; omega) _) (by show bB ≠ g; omega) _) (by show bB ≠ bA; omega) _) 0 _ rfl)
            have hL4 : Below w0.heap.size w0 W4 := by
              rw [← hW4]
              exact (((((below_drewN_ hB1 _).setCell (p := ⟨g, 0, none⟩) (by have := hB0.size; show _ ≤ g; omega) _).setCell (p := ⟨g, 1, none⟩) (by have := hB0.size; show _ ≤ g; omega) _).setCell (p := ⟨bA, 0, none⟩) hA0 _).setCell (p := ⟨bB, 0, none⟩) hB0' _).drew
            obtain ⟨fn, tmps, assign, body, hy, hR⟩ := hY pre (x.f0, x.f1, y.f1) W4 hJ4 ⟨_, hA4⟩ ⟨_, hB4⟩ (by rw [hm]; simp)
            dsimp only at hy
            rw [hy]
            gi_wp2
            refine ⟨fun _ => by omega, hR.mono ?_⟩
            rintro e W5 ⟨rfl, hJ5, hb5, hA5, hB5⟩
            gi_wp2
            gi_roundg (ra.length + rb.length)
            case measure => simp only [List.length_cons, List.length_nil] at hk ⊢; omega
            case rel => exact ⟨pre ++ [(x.f0, x.f1, y.f1)], ra, rb, _, _, _, _, by simp, by rw [hm]; simp, hJ5, hA5.trans hA4, hB5.trans hB4, hCA', hcA', hCB', hcB', hL4.trans hb5⟩
end Go.Proofs.Ytojnnfhalpefmaa.H
end

section
namespace Go.Proofs.Ytojnnfhalpefmaa.H
open Go.RowKit Go.Shelf Go.Proofs.YtojnnfhalpefmaaW.PrintWords Go.Proofs.YtojnnfhalpefmaaW.PrintLast Go.Proofs.YtojnnfhalpefmaaW.PrintMore Go.Proofs.Ytojnnfhalpefmaa.M
attribute [local go_sem] Oper.semAt_some
def encT (x : Int × Int × Int) : Array Value := #[.int .i64 x.1, .agg #[.int .i64 x.2.1, .int .i64 x.2.2]]
theorem rangeMerged {g : Operand} {ps : Array Tmp} {assign body : Code} {Q : Exit → Act → World → Prop} {act : Act} {w : World} {n : Nat} (h3 : 3 ≤ n) {bA bB : Nat}
    (hg : act.eval g = .func (.func 77) #[] #[.pointer (some ⟨bA, 0, none⟩), .pointer (some ⟨bB, 0, none⟩)]) (hps : ps.size = 2)
    {w0 : World} {a b : List S45} {Aa Ab : Option Addr} {ca cb : Nat} (hCa : k45.C w0 Aa a.length a) (hca : a.length ≤ ca) (hCb : k45.C w0 Ab b.length b) (hcb : b.length ≤ cb) (hAB : bA ≠ bB)
    (hB0 : Below w0.heap.size w0 w) (hbA : Boxed w bA 22 (.slice Aa a.length ca)) (hbB : Boxed w bB 22 (.slice Ab b.length cb)) (hA0 : w0.heap.size ≤ bA) (hB0' : w0.heap.size ≤ bB)
    (I : List (Int × Int × Int) → World → Prop) (hI : OwnFrom w.heap.size I) (hE : ∀ pre W W', I pre W → Else bA bB W W' → I pre W') (h0 : I [] w) (a₁ : Int × Int × Int → Nat → Act)
    (hassign : ∀ (l : Nat) (x : Int × Int × Int) (W : World) (K : Act → World → Prop), K (a₁ x W.heap.size) (W.alloc (.cells #[.int .i64 x.2.1, .int .i64 x.2.2] 78)) →
      assign.wpIn (Fence.wide.inRound l) (n - 1 - 1) Try.prog (Exit.then K (fun _ _ _ => False)) { tmps := (ps.zip (encT x)).foldl (fun t (p, v) => t.setIfInBounds p v) act.tmps, defers := [] } W)
    (hbody : ∀ (l : Nat) (pre : List (Int × Int × Int)) (x : Int × Int × Int) (gc : Nat) (W : World), w.heap.size ≤ gc → I pre W → (∃ v, Boxed W bA 22 v) → (∃ v, Boxed W bB 22 v) → pre.length < (merge a b).length → W.heap[gc]? = some (.cells #[.int .i64 x.2.1, .int .i64 x.2.2] 78 (0, 0)) →
      body.wpIn (Fence.wide.inRound l) (n - 1 - 1) Try.prog (fun e _ W' => e = .normal ∧ KeepsOthers W W' ∧ Below w0.heap.size W W' ∧ W'.heap[bA]? = W.heap[bA]? ∧ W'.heap[bB]? = W.heap[bB]? ∧ I (pre ++ [x]) W') (a₁ x gc) W)
    (hdone : ∀ (D : Nat) (W : World), w.heap.size ≤ D → I (merge a b) W → W.heap[D]? = some (.deferred (some [])) → Q .normal { act with defers := { target := .collected D, args := #[] } :: act.defers } W) :
    (Code.rangeFunc g ps assign body).wpIn Fence.wide n Try.prog Q act w := by
  have hlA := (Array.getElem?_eq_some_iff.1 hbA).1
  have hlB := (Array.getElem?_eq_some_iff.1 hbB).1
  refine wpIn_rangeFunc ?_
  intro fn hfn
  show ∃ (l : Nat) (mark : List Deferred) (w₁ : World) (d : Deferred) (w₁' : World) (f : FuncId) (args : Array Value) (w₂ : World), (Instr.enterLoop fn act.tmps ps assign body none).run Try.prog w = .ok (l, mark) w₁ ∧ _
  obtain ⟨rec, hrec⟩ : ∃ rec : LoopState → Option Code → Loop, rec = fun st pe => { state := st, pending := pe, fn, tmps := act.tmps, params := ps, assign, body, defers := w.heap.size } := ⟨_, rfl⟩
  obtain ⟨W1, hW1⟩ : ∃ W1, (w.alloc (.deferred (some []))).alloc (.loop (rec .ready none)) = W1 := ⟨_, rfl⟩
  have hL1 : W1.heap[w.heap.size + 1]? = some (.loop (rec .ready none)) := by
    rw [← hW1]; have := World.alloc_heap_new (w.alloc (.deferred (some []))) (.loop (rec .ready none)); rwa [World.size_alloc] at this
  have hK1 : W1.heap[w.heap.size]? = some (.deferred (some [])) := by
    rw [← hW1]; exact (Below.heap_alloc _ _ _ (by simp)).trans (World.alloc_heap_new w _)
  have hI1 : I [] W1 := by rw [← hW1]; exact hI.alloc _ (hI.alloc _ h0)
  have hw1 : Below w.heap.size w W1 := by rw [← hW1]; exact ((Below.refl _ w).alloc (Nat.le_refl _) _).alloc (by simp) _
  have hb1 : Below w0.heap.size w0 W1 := hB0.trans (hw1.mono hB0.size)
  refine ⟨w.heap.size + 1, [{ target := .collected w.heap.size, args := #[] }], W1, { target := .fn (.func 77) #[.pointer (some ⟨bA, 0, none⟩), .pointer (some ⟨bB, 0, none⟩)], args := #[.func (.yield (w.heap.size + 1)) #[] #[]] }, W1, 77,
    #[.func (.yield (w.heap.size + 1)) #[] #[], .pointer (some ⟨bA, 0, none⟩), .pointer (some ⟨bB, 0, none⟩)], W1, ?_, ?_, ?_, ?_, fun _ => by omega, ?_⟩
  · rw [← hW1, hrec]; exact run_enterLoop_outer _ _ _ _ _
  · simp only [resolve, hg]
    simp [go_sem]
  · intro f' hf'; trivial
  · simp [invoke, go_sem]
  · refine (merged1 (n - 1) (by omega) (w.heap.size + 1) bA bB w0 a b Aa Ab ca cb hCa hca hCb hcb hAB
      (fun pre W => I pre W ∧ W.heap[w.heap.size + 1]? = some (.loop (rec .ready none)) ∧ W.heap[w.heap.size]? = some (.deferred (some [])))
      (fun pre W W' hs hEl => ⟨hE _ _ _ hs.1 hEl, (hEl.block _ (blk_lt hs.2.1) (by omega) (by omega)).trans hs.2.1, (hEl.block _ (blk_lt hs.2.2) (by omega) (by omega)).trans hs.2.2⟩)
      ?_ W1 hb1 ((hw1.block bA hlA).trans hbA) ((hw1.block bB hlB).trans hbB) hA0 hB0' ⟨hI1, hL1, hK1⟩).mono ?_
    · rintro pre x W ⟨hi, hl, hk⟩ ⟨va, hva⟩ ⟨vb, hvb⟩ hlen
      have hlt : w.heap.size + 1 < W.heap.size := (Array.getElem?_eq_some_iff.1 hl).1
      have hy := run_yield (P := Try.prog) (args := encT x) hl (by rw [hrec]; exact hps.symm)
      rw [hrec] at hy
      obtain ⟨W2, hW2⟩ : ∃ W2, W.alloc (.cells #[.int .i64 x.2.1, .int .i64 x.2.2] 78) = W2 := ⟨_, rfl⟩
      have hE2 : Below W.heap.size W W2 := by rw [← hW2]; exact (Below.refl _ W).alloc (Nat.le_refl _) _
      have hl2' : W2.heap[w.heap.size + 1]? = some (.loop (rec .ready none)) := (hE2.block _ hlt).trans hl
      have hk2' : W2.heap[w.heap.size]? = some (.deferred (some [])) := (hE2.block _ (by omega)).trans hk
      have hi2 : I pre W2 := by rw [← hW2]; exact hI.alloc _ hi
      have hc2 : W2.heap[W.heap.size]? = some (.cells #[.int .i64 x.2.1, .int .i64 x.2.2] 78 (0, 0)) := by rw [← hW2]; exact World.alloc_heap_new _ _
      refine ⟨fn, _, assign, body, hy, roundIn_of_wpIn hfn (hassign _ x W _ ?_)⟩
      rw [hW2]
      refine ⟨_, run_beginRound hl2' (by rw [hrec]), ?_⟩
      have hlt2 : w.heap.size + 1 < W2.heap.size := blk_lt hl2'
      obtain ⟨W3, hW3⟩ : ∃ W3, W2.putObj (w.heap.size + 1) (.loop { rec .ready none with state := .busy }) = W3 := ⟨_, rfl⟩
      have hl3 : W3.heap[w.heap.size + 1]? = some (.loop { rec .ready none with state := .busy }) := by rw [← hW3]; exact World.putObj_heap_same hlt2
      have hk3 : W3.heap[w.heap.size]? = some (.deferred (some [])) := by rw [← hW3]; exact (World.putObj_heap_other (by omega)).trans hk2'
      have hc3 : W3.heap[W.heap.size]? = some (.cells #[.int .i64 x.2.1, .int .i64 x.2.2] 78 (0, 0)) := by rw [← hW3]; exact (World.putObj_heap_other (by omega)).trans hc2
      have hi3 : I pre W3 := by rw [← hW3]; exact hI.putObj _ hi2 (by omega) hl2' rfl
      have hn0 : w0.heap.size ≤ w.heap.size := hB0.size
      have hL3 : Below w0.heap.size W W3 := by rw [← hW3]; exact (hE2.mono (by omega)).trans (belowK_b (w := w) hn0 W2 _ _ _ (by omega) hl2' rfl rfl)
      have hA3 : W3.heap[bA]? = W.heap[bA]? := by rw [← hW3]; exact (World.putObj_heap_other (by omega)).trans (hE2.block _ (by omega))
      have hB3 : W3.heap[bB]? = W.heap[bB]? := by rw [← hW3]; exact (World.putObj_heap_other (by omega)).trans (hE2.block _ (by omega))
      show Code.wpIn _ _ _ _ _ _ _
      rw [show W2.putObj (w.heap.size + 1) (.loop { rec .ready none with state := .busy }) = W3 from hW3] 
      refine wpIn_mono (hbody _ pre x W.heap.size _ (by omega) hi3 ⟨va, hA3.trans hva⟩ ⟨vb, hB3.trans hvb⟩ hlen hc3) ?_
      rintro e a3 W4 ⟨rfl, hk4, hL4, hA4, hB4, hi4⟩
      have hl4 := hk4.same _ _ hl3 rfl
      have hr := run_endRound (P := Try.prog) none hl4
      rw [hrec] at hr
      refine ⟨_, _, hr, rfl, ⟨hI.putObj _ hi4 (by omega) hl4 rfl, ?_, ?_⟩, ?_, ?_, ?_⟩
      · rw [hrec]; exact World.putObj_heap_same (blk_lt hl4)
      · exact (World.putObj_heap_other (by omega)).trans (hk4.same _ _ hk3 rfl)
      · exact (hL3.trans hL4).trans (belowK_b (w := w) hn0 W4 _ _ _ (by omega) hl4 rfl rfl)
      · exact (World.putObj_heap_other (by omega)).trans (hA4.trans hA3)
      · exact (World.putObj_heap_other (by omega)).trans (hB4.trans hB3)
    · rintro e W2 ⟨⟨v, rfl⟩, hi, hl, hk⟩
      exact ⟨none, _, by have := run_endLoop (P := Try.prog) hl (by rw [hrec]; simp); rw [hrec] at this; exact this, hdone _ _ (Nat.le_refl _) (hI.putObj _ hi (by omega) hl rfl) ((World.putObj_heap_other (by omega)).trans hk)⟩
end Go.Proofs.Ytojnnfhalpefmaa.H
end

section
namespace Go.Proofs.Ytojnnfhalpefmaa.H
open Go.RowKit Go.Shelf Go.Proofs.YtojnnfhalpefmaaW.PrintWords Go.Proofs.YtojnnfhalpefmaaW.PrintLast Go.Proofs.YtojnnfhalpefmaaW.PrintMore Go.Proofs.Ytojnnfhalpefmaa.M
attribute [local go_sem] Oper.semAt_some
def stepP (p k : Int) (x : Int × Int × Int) : Option S45 :=
  let v := Int.tmod (wrap64 (x.2.1 + wrap64 (k * x.2.2))) p
  if v = 0 then none else some ⟨x.1, v⟩
def plusL (p k : Int) (l : List (Int × Int × Int)) : List S45 := l.filterMap (stepP p k)
def flatT (l : List S45) : List Value := l.flatMap fun t => [.int .i64 t.f0, .int .i64 t.f1]
theorem plusL_hit {p k : Int} (pre : List (Int × Int × Int)) {x : Int × Int × Int} {v : Int} (hv : Int.tmod (wrap64 (x.2.1 + wrap64 (k * x.2.2))) p = v) (h : v ≠ 0) : plusL p k (pre ++ [x]) = plusL p k pre ++ [⟨x.1, v⟩] := by
  simp [plusL, stepP, hv, h]
theorem plusL_miss {p k : Int} (pre : List (Int × Int × Int)) {x : Int × Int × Int} (hv : Int.tmod (wrap64 (x.2.1 + wrap64 (k * x.2.2))) p = 0) : plusL p k (pre ++ [x]) = plusL p k pre := by
  simp [plusL, stepP, hv]
theorem flatT_snoc (l : List S45) (t : S45) : flatT (l ++ [t]) = flatT l ++ [.int .i64 t.f0, .int .i64 t.f1] := by simp [flatT]
theorem merge_len : ∀ (a b : List S45), (merge a b).length ≤ a.length + b.length := by
  intro a b
  fun_induction merge a b <;> simp only [List.length_cons, List.length_nil] at * <;> omega
theorem plusL_len (p k : Int) (l : List (Int × Int × Int)) : (plusL p k l).length ≤ l.length := List.length_filterMap_le _ _
theorem flatT_reps' (w : World) (base : Nat) (ok : Nat → Prop) : ∀ (l acc : List S45) (cs : List Value), Reps (k45.M w base ok) 2 acc cs → Reps (k45.M w base ok) 2 (acc ++ l) (cs ++ flatT l)
  | [], acc, cs, h => by simpa [flatT] using h
  | t :: l, acc, cs, h => by
    have := flatT_reps' w base ok l (acc ++ [t]) (cs ++ [.int .i64 t.f0, .int .i64 t.f1]) (h.snoc (k45_mkM w base ok t) rfl)
    simpa [flatT] using this
theorem flatT_reps (w : World) (base : Nat) (ok : Nat → Prop) (l : List S45) : Reps (k45.M w base ok) 2 l (flatT l) := by
  simpa using flatT_reps' w base ok l [] [] (Reps.none _ _)
theorem cell_two_new (W : World) (u v : Value) (t : TypeId) : ∀ (j : Nat) (x : Value), [u, v][j]? = some x → (W.alloc (.cells #[u, v] t)).cell? ((⟨W.heap.size, 0, none⟩ : Addr).add j) = some x := by
  have hb : (W.alloc (.cells #[u, v] t)).heap[W.heap.size]? = some (.cells #[u, v] t (0, 0)) := World.alloc_heap_new _ _
  intro j x hx
  match j with
  | 0 => rw [show (⟨W.heap.size, 0, none⟩ : Addr).add 0 = ⟨W.heap.size, 0, none⟩ from rfl, blk_cell hb 0]; simpa using hx
  | 1 => rw [show (⟨W.heap.size, 0, none⟩ : Addr).add 1 = ⟨W.heap.size, 1, none⟩ from rfl, blk_cell hb 1]; simpa using hx
  | j + 2 => simp at hx
theorem far_grown {W w1 : World} {tmp : Obj} {row : Option Nat} (hg : (W.alloc tmp).grownBy w1 row) {b B : Nat} {v' : Value} (hb : b < W.heap.size) (hne : ¬ row = some b) (hB : b ≠ B) : (w1.setCell ⟨B, 0, none⟩ v').heap[b]? = W.heap[b]? :=
  (Below.heap_setCell w1 _ v' b hB).trans ((hg.block b (by simp; omega) (fun e => hne e.symm)).trans (Below.heap_alloc W tmp b hb))
theorem merged_in (n : Nat) (A B : Option Addr) (la lb ca cb : Nat) (w : World) :
    CallsIn Fence.wide n Try.prog 60 #[.slice A la ca, .slice B lb cb] w fun e w' => e = .returned (.func (.func 77) #[] #[.pointer (some ⟨w.heap.size, 0, none⟩), .pointer (some ⟨w.heap.size + 1, 0, none⟩)]) ∧
      w' = (w.alloc (.cells #[.slice A la ca] 22)).alloc (.cells #[.slice B lb cb] 22) := by
  refine callsIn_of_wp Try.func60 rfl trivial ?_ rfl
  simp only [Try.ntmps60, List.size_toArray, List.length_cons, List.length_nil, Nat.reduceAdd, Nat.reduceSub, Array.replicate_succ, Array.replicate_zero, List.push_toArray, List.append_toArray, List.nil_append, List.cons_append]
  gi_wp2
  go_ret
  exact ⟨rfl, rfl⟩
set_option maxRecDepth 100000 in
set_option maxHeartbeats 4000000 in
theorem plus_calls (p k : Int) (a b : List S45) (A B : Option Addr) (ca cb : Nat) (w : World) (hCa : k45.C w A a.length a) (hca : a.length ≤ ca) (hCb : k45.C w B b.length b) (hcb : b.length ≤ cb) (hp : p ≠ 0) (hlen : a.length + b.length < 8796093022208) :
    CallsIn Fence.wide 6 Try.prog 57 #[.int .i64 p, .slice A a.length ca, .int .i64 k, .slice B b.length cb] w fun e W' => ∃ v, e = .returned v ∧ W'.ownsRow w.heap.size 45 2 v (plusL p k (merge a b)).length (flatT (plusL p k (merge a b))) ∧ Below w.heap.size w W' := by
  obtain ⟨i0, hi, hz0, hz1, hz2⟩ := info_parts info45
  refine callsIn_of_wp_marks Try.func57 rfl trivial ?_ rfl
  simp only [Try.ntmps57, List.size_toArray, List.length_cons, List.length_nil, Nat.reduceAdd, Nat.reduceSub, Array.replicate_succ, Array.replicate_zero, List.push_toArray, List.append_toArray, List.nil_append, List.cons_append]
  gi_wp2_with (refine ⟨trivial, ?_⟩; gi_at_call 60; refine (merged_in _ _ _ _ _ _ _ _).mono ?_; rintro e w' ⟨rfl, rfl⟩)
  obtain ⟨n0, hn0⟩ : ∃ n0, w.heap.size = n0 := ⟨_, rfl⟩
  obtain ⟨w5, hw5⟩ : ∃ w5, ((((w.alloc (.cells #[.int .i64 p] 3)).alloc (.cells #[.int .i64 k] 3)).alloc (.cells #[.slice none 0 0] 22)).alloc (.cells #[.slice A a.length ca] 22)).alloc (.cells #[.slice B b.length cb] 22) = w5 := ⟨_, rfl⟩
  have bP : Boxed w5 n0 3 (.int .i64 p) := by rw [← hw5, ← hn0]; exact ((((Boxed.new w 3 _).alloc _).alloc _).alloc _).alloc _
  have bK : Boxed w5 (n0 + 1) 3 (.int .i64 k) := by
    have h := Boxed.new (w.alloc (.cells #[.int .i64 p] 3)) 3 (.int .i64 k)
    rw [World.size_alloc, hn0] at h
    rw [← hw5]; exact ((h.alloc _).alloc _).alloc _
  have bO : Boxed w5 (n0 + 1 + 1) 22 (.slice none 0 0) := by
    have h := Boxed.new ((w.alloc (.cells #[.int .i64 p] 3)).alloc (.cells #[.int .i64 k] 3)) 22 (.slice none 0 0)
    rw [World.size_alloc, World.size_alloc, hn0] at h
    rw [← hw5]; exact (h.alloc _).alloc _
  have bA : Boxed w5 (n0 + 1 + 1 + 1) 22 (.slice A a.length ca) := by
    have h := Boxed.new (((w.alloc (.cells #[.int .i64 p] 3)).alloc (.cells #[.int .i64 k] 3)).alloc (.cells #[.slice none 0 0] 22)) 22 (.slice A a.length ca)
    rw [World.size_alloc, World.size_alloc, World.size_alloc, hn0] at h
    rw [← hw5]; exact h.alloc _
  have bB : Boxed w5 (n0 + 1 + 1 + 1 + 1) 22 (.slice B b.length cb) := by
    have h := Boxed.new ((((w.alloc (.cells #[.int .i64 p] 3)).alloc (.cells #[.int .i64 k] 3)).alloc (.cells #[.slice none 0 0] 22)).alloc (.cells #[.slice A a.length ca] 22)) 22 (.slice B b.length cb)
    rw [World.size_alloc, World.size_alloc, World.size_alloc, World.size_alloc, hn0] at h
    rw [← hw5]; exact h
  have hs5 : w5.heap.size = n0 + 5 := by rw [← hw5]; simp [hn0]
  have hB5 : Below w.heap.size w w5 := by
    rw [← hw5]
    exact ((((((Below.refl _ w).alloc (Nat.le_refl _) _).alloc (by simp) _).alloc (by simp; omega) _).alloc (by simp; omega) _).alloc (by simp; omega) _)
  simp only [hn0]
  rw [hw5]
  refine rangeMerged (by omega) (bA := n0 + 1 + 1 + 1) (bB := n0 + 1 + 1 + 1 + 1) rfl rfl hCa hca hCb hcb (by omega) hB5 bA bB (by omega) (by omega)
    (fun pre W => (∃ v, Boxed W (n0 + 1 + 1) 22 v ∧ W.ownsRow n0 45 2 v (plusL p k pre).length (flatT (plusL p k pre)) ∧ v.ownBlock ≠ some (n0 + 1 + 1 + 1) ∧ v.ownBlock ≠ some (n0 + 1 + 1 + 1 + 1)) ∧ Boxed W n0 3 (.int .i64 p) ∧ Boxed W (n0 + 1) 3 (.int .i64 k) ∧ Below w.heap.size w W)
    (OwnFrom.and (Own.from (holdsRow_own n0 (n0 + 1 + 1) 22 45 2 (fun pre => (plusL p k pre).length) (fun pre => flatT (plusL p k pre)) (fun pre v => v.ownBlock ≠ some (n0 + 1 + 1 + 1) ∧ v.ownBlock ≠ some (n0 + 1 + 1 + 1 + 1))) _)
      (OwnFrom.and (Own.from (boxed_own _ _ _) _) (OwnFrom.and (Own.from (boxed_own _ _ _) _) (ownFrom_below (Nat.le_refl _) hB5.size))))
    ?hE ?h0
    (fun x g => { tmps := #[.int .i64 p, .slice A a.length ca, .int .i64 k, .slice B b.length cb, .pointer (some ⟨n0, 0, none⟩), undef, .pointer (some ⟨n0 + 1, 0, none⟩), undef, .slice none 0 0, .pointer (some ⟨n0 + 1 + 1, 0, none⟩), .int .i64 x.1, .pointer (some ⟨g, 0, none⟩), undef,
      .slice A a.length ca, .slice B b.length cb, .func (.func 77) #[] #[.pointer (some ⟨n0 + 1 + 1 + 1, 0, none⟩), .pointer (some ⟨n0 + 1 + 1 + 1 + 1, 0, none⟩)], .int .i64 x.1, .agg #[.int .i64 x.2.1, .int .i64 x.2.2], undef, undef, undef, undef, undef, undef, undef, undef, undef, undef, undef, undef, undef, undef, undef, undef, undef, undef], defers := [] }) ?assign ?body ?done
  case hE =>
    rintro pre W W' ⟨⟨v, hv, hrow, hnA, hnB⟩, hP, hK, hB⟩ hEl
    refine ⟨⟨v, (hEl.block _ hv.lt (by omega) (by omega)).trans hv, own_move hrow (fun g hg => hEl.block g ?_ (by rintro rfl; exact hnA hg) (by rintro rfl; exact hnB hg)), hnA, hnB⟩, (hEl.block _ hP.lt (by omega) (by omega)).trans hP, (hEl.block _ hK.lt (by omega) (by omega)).trans hK, ?_⟩
    · obtain ⟨cs, hcs⟩ := own_typed hrow g hg
      exact blk_lt hcs
    · exact ⟨hEl.os.trans hB.os, hEl.tape.trans hB.tape, hEl.output.trans hB.output, Nat.le_trans hB.size hEl.size, fun i hi => (hEl.block i (Nat.lt_of_lt_of_le hi hB.size) (by omega) (by omega)).trans (hB.block i hi)⟩
  case h0 => exact ⟨⟨_, bO, World.ownsRow_nil _ _ _ _, by simp [Value.ownBlock], by simp [Value.ownBlock]⟩, bP, bK, hB5⟩
  case assign =>
    intro l x W K hK
    simp only [encT]
    gi_wp2
    exact hK
  case body =>
    rintro l pre x gc W hgc ⟨⟨v, hv, hrow, hnA, hnB⟩, hP, hK, hB⟩ ⟨va, hva⟩ ⟨vb, hvb⟩ hlt hgcc
    have hc := hv.cell
    have cP := hP.cell
    have cK := hK.cell
    have c0 := blk_cell hgcc 0
    have c1 := blk_cell hgcc 1
    simp only [List.getElem?_toArray, List.getElem?_cons_zero, List.getElem?_cons_succ] at c0 c1
    have hpl := plusL_len p k pre
    have hml := merge_len a b
    have hbs := hB.size
    obtain ⟨r, hr⟩ : ∃ r, Int.tmod (wrap64 (x.2.1 + wrap64 (k * x.2.2))) p = r := ⟨_, rfl⟩
    by_cases h0 : r = 0
    · have h0b : (r != 0) = false := by simp [h0]
      have H0 := Aside0.mk h0
      gi_wp2
      have hq : plusL p k (pre ++ [x]) = plusL p k pre := plusL_miss pre (hr.trans H0.out)
      refine ⟨KeepsOthers.refl _, Below.refl _ _, ⟨v, hv, by rw [hq]; exact hrow, hnA, hnB⟩, by rw [hn0] at hB; exact hB⟩
    · have h0b : (r != 0) = true := by simp [h0]
      have H0 := Aside0.mk h0
      gi_wp2_with (gi_at_builtin; refine wpListIn_append_own _ rfl _ _ 22 rfl n0 45 i0 (.agg #[.int .i64 0, .int .i64 0]) 2 16 Try.underlying22 hi hz0 hz1 hz2 rfl (by decide) _ _ _ rfl (hrow.alloc _) ⟨W.heap.size, 0, none⟩ 1 1 [.int .i64 x.1, .int .i64 r] rfl rfl (cell_two_new _ _ _ _) (by simp [Value.oneCell']) (by simp only [maxLen]; omega) (by omega) (by simp; omega) ?_; intro v' w1 hown' hgrow _; obtain ⟨g', cap', rfl⟩ := ownsRow_succ hown'; obtain ⟨hv1, hv2, hr2, hk2, hb2⟩ := hv.appended (by decide) hrow (by omega) (by omega) hown' hgrow; have hc1 := hv1.cell; have hf1 := hv1.frozen)
      have hq : plusL p k (pre ++ [x]) = plusL p k pre ++ [⟨x.1, r⟩] := plusL_hit pre hr H0.out
      have fA := far_grown hgrow (B := n0 + 1 + 1) (v' := .slice (some ⟨g', 0, none⟩) ((plusL p k pre).length + 1) cap') hva.lt hnA (by omega)
      have fB := far_grown hgrow (B := n0 + 1 + 1) (v' := .slice (some ⟨g', 0, none⟩) ((plusL p k pre).length + 1) cap') hvb.lt hnB (by omega)
      have fP := far_grown hgrow (B := n0 + 1 + 1) (v' := .slice (some ⟨g', 0, none⟩) ((plusL p k pre).length + 1) cap') hP.lt (fun e => hP.not_row (by decide) hrow e.symm) (by omega)
      have fK := far_grown hgrow (B := n0 + 1 + 1) (v' := .slice (some ⟨g', 0, none⟩) ((plusL p k pre).length + 1) cap') hK.lt (fun e => hK.not_row (by decide) hrow e.symm) (by omega)
      obtain ⟨cs, hcs⟩ := own_typed hr2 g' rfl
      have nA : g' ≠ n0 + 1 + 1 + 1 := blk_ne hcs (fA.trans hva) (by decide)
      have nB : g' ≠ n0 + 1 + 1 + 1 + 1 := blk_ne hcs (fB.trans hvb) (by decide)
      refine ⟨fA, fB, ⟨_, hv2, by rw [hq, flatT_snoc, List.length_append]; exact hr2, by simpa [Value.ownBlock] using nA, by simpa [Value.ownBlock] using nB⟩, fP.trans hP, fK.trans hK, ?_⟩
      rw [hn0] at hB
      exact hB.trans hb2
  case done =>
    rintro D W hD ⟨⟨v, hv, hrow, hnA, hnB⟩, hP, hK, hB⟩ hKD
    have hc := hv.cell
    gi_wp2
    refine ⟨by simp, .inl ⟨_, _, rfl, run_takeDeferred hKD, ?_⟩⟩
    refine ⟨_, results_tmp rfl _ _ _, v, rfl, ?_, hB.trans (belowK_b (w := w) (Nat.le_refl _) W D _ _ (by omega) hKD rfl rfl)⟩
    rw [hn0]
    exact ownsRow_putObj hrow _ hKD rfl
end Go.Proofs.Ytojnnfhalpefmaa.H
end

section
namespace Go.Proofs.Ytojnnfhalpefmaa.H
open Go.RowKit Go.Shelf Go.Proofs.YtojnnfhalpefmaaW.PrintWords Go.Proofs.YtojnnfhalpefmaaW.PrintLast Go.Proofs.YtojnnfhalpefmaaW.PrintMore Go.Proofs.Ytojnnfhalpefmaa.M
attribute [local go_sem] Oper.semAt_some
def dotStep (p s : Int) (x : Int × Int × Int) : Int := Int.tmod (wrap64 (s + wrap64 (x.2.1 * x.2.2))) p
def dotL (p : Int) (l : List (Int × Int × Int)) : Int := l.foldl (dotStep p) 0
theorem dotL_snoc (p : Int) (pre : List (Int × Int × Int)) (x : Int × Int × Int) : dotL p (pre ++ [x]) = dotStep p (dotL p pre) x := by simp [dotL]
def dotF (k : Nat) (p : Int) (a b : List S45) : Option (Int × Int) :=
  (column_checkAll.f k p [a, b]).bind fun e => if e = 0 then (if p = 0 then none else some (dotL p (merge a b), 0)) else some (0, e)
theorem two_lists {W : World} {A B : Option Addr} {a b : List S45} {ca cb : Nat} (hCa : k45.C W A a.length a) (hca : a.length ≤ ca) (hCb : k45.C W B b.length b) (hcb : b.length ≤ cb) :
    (Kd.slice 45 k45).C (W.alloc (.cells #[.slice A a.length ca, .slice B b.length cb] 22)) (some ⟨W.heap.size, 0, none⟩) [a, b].length [a, b] := by
  have hB : Below W.heap.size W (W.alloc (.cells #[.slice A a.length ca, .slice B b.length cb] 22)) := (Below.refl _ W).alloc (Nat.le_refl _) _
  refine ⟨rfl, by simp, fun _ => ⟨_, rfl, fun j p hj => ?_⟩⟩
  match j with
  | 0 =>
    obtain rfl : a = p := by simpa using hj
    refine ⟨_, rfl, ⟨A, ca, rfl, hca, Kd.C_below hCa hB⟩, fun i u hu => ?_⟩
    obtain ⟨rfl, rfl⟩ : i = 0 ∧ u = .slice A a.length ca := by
      match i with
      | 0 => simpa using hu.symm
      | i + 1 => simp at hu
    exact cell_two_new W _ _ 22 0 _ rfl
  | 1 =>
    obtain rfl : b = p := by simpa using hj
    refine ⟨_, rfl, ⟨B, cb, rfl, hcb, Kd.C_below hCb hB⟩, fun i u hu => ?_⟩
    obtain ⟨rfl, rfl⟩ : i = 0 ∧ u = .slice B b.length cb := by
      match i with
      | 0 => simpa using hu.symm
      | i + 1 => simp at hu
    exact cell_two_new W _ _ 22 1 _ rfl
  | j + 2 => simp at hj
set_option maxRecDepth 100000 in
set_option maxHeartbeats 4000000 in
theorem dot_calls (kk : Nat) (p : Int) (a b : List S45) (A B : Option Addr) (ca cb : Nat) (w : World) (hCa : k45.C w A a.length a) (hca : a.length ≤ ca) (hCb : k45.C w B b.length b) (hcb : b.length ≤ cb) (r1 r2 : Int) (h : dotF kk p a b = some (r1, r2)) :
    CallsIn Fence.wide 6 Try.prog 18 #[.int .i64 p, .slice A a.length ca, .slice B b.length cb] w fun e W' => e = .returned (.tuple #[.int .i64 r1, .int .i64 r2]) ∧ Below w.heap.size w W' := by
  obtain ⟨e0, he0, h⟩ := Option.bind_eq_some_iff.1 h
  refine callsIn_of_wp_marks Try.func18 rfl trivial ?_ rfl
  simp only [Try.ntmps18, List.size_toArray, List.length_cons, List.length_nil, Nat.reduceAdd, Nat.reduceSub, Array.replicate_succ, Array.replicate_zero, List.push_toArray, List.append_toArray, List.nil_append, List.cons_append]
  have hCa1 := Kd.C_below hCa ((Below.refl w.heap.size w).alloc (Nat.le_refl _) (.cells #[.int .i64 p] 3))
  have hCb1 := Kd.C_below hCb ((Below.refl w.heap.size w).alloc (Nat.le_refl _) (.cells #[.int .i64 p] 3))
  have hC2 := two_lists hCa1 hca hCb1 hcb
  rw [World.size_alloc] at hC2
  have hb2 : Below w.heap.size w ((w.alloc (.cells #[.int .i64 p] 3)).alloc (.cells #[.slice A a.length ca, .slice B b.length cb] 22)) := ((Below.refl _ w).alloc (Nat.le_refl _) _).alloc (by simp) _
  by_cases he : e0 = 0
  · rw [if_pos he] at h
    subst he
    by_cases hp : p = 0
    · rw [if_pos hp] at h; cases h
    · rw [if_neg hp] at h
      cases h
      gi_wp2_with (first | (refine ⟨trivial, ?_⟩; gi_at_call 59; refine (callsIn_wide.2 (column_checkAll.calls kk p _ 2 [a, b] 0 _ hC2 (by simp) he0)).mono ?_; rintro e w3 ⟨rfl, hb3⟩; have hB3 : Below w.heap.size w w3 := hb2.trans (hb3.mono hb2.size); have bP3 : Boxed w3 w.heap.size 3 (.int .i64 p) := (hb3.block _ (by simp; omega)).trans ((Boxed.new w 3 (.int .i64 p)).alloc _)) | (refine ⟨trivial, ?_⟩; gi_at_call 60; refine (merged_in _ _ _ _ _ _ _ _).mono ?_; rintro e w' ⟨rfl, rfl⟩))
      obtain ⟨n3, hn3⟩ : ∃ n3, w3.heap.size = n3 := ⟨_, rfl⟩
      have hle : w.heap.size < n3 := by rw [← hn3]; exact bP3.lt
      obtain ⟨w6, hw6⟩ : ∃ w6, ((w3.alloc (.cells #[.int .i64 0] 3)).alloc (.cells #[.slice A a.length ca] 22)).alloc (.cells #[.slice B b.length cb] 22) = w6 := ⟨_, rfl⟩
      have bP : Boxed w6 w.heap.size 3 (.int .i64 p) := by rw [← hw6]; exact ((bP3.alloc _).alloc _).alloc _
      have bS : Boxed w6 n3 3 (.int .i64 0) := by rw [← hw6, ← hn3]; exact ((Boxed.new w3 3 _).alloc _).alloc _
      have bA : Boxed w6 (n3 + 1) 22 (.slice A a.length ca) := by
        have h := Boxed.new (w3.alloc (.cells #[.int .i64 0] 3)) 22 (.slice A a.length ca)
        rw [World.size_alloc, hn3] at h
        rw [← hw6]; exact h.alloc _
      have bB : Boxed w6 (n3 + 1 + 1) 22 (.slice B b.length cb) := by
        have h := Boxed.new ((w3.alloc (.cells #[.int .i64 0] 3)).alloc (.cells #[.slice A a.length ca] 22)) 22 (.slice B b.length cb)
        rw [World.size_alloc, World.size_alloc, hn3] at h
        rw [← hw6]; exact h
      have hs6 : w6.heap.size = n3 + 3 := by rw [← hw6]; simp [hn3]
      have hB6 : Below w.heap.size w w6 := by
        rw [← hw6]
        exact ((hB3.alloc hB3.size _).alloc (by simp; omega) _).alloc (by simp; omega) _
      simp only [hn3]
      rw [hw6]
      refine rangeMerged (by omega) (bA := n3 + 1) (bB := n3 + 1 + 1) rfl rfl hCa hca hCb hcb (by omega) hB6 bA bB (by omega) (by omega)
        (fun pre W => Boxed W n3 3 (.int .i64 (dotL p pre)) ∧ Boxed W w.heap.size 3 (.int .i64 p) ∧ Below w.heap.size w W)
        (OwnFrom.and (Own.from (boxed_own _ _ _) _) (OwnFrom.and (Own.from (boxed_own _ _ _) _) (ownFrom_below (Nat.le_refl _) hB6.size)))
        ?hE ?h0
        (fun x g => { tmps := #[.int .i64 p, .slice A a.length ca, .slice B b.length cb, .pointer (some ⟨w.heap.size, 0, none⟩), undef, undef, .int .i64 0, .int .i64 0, .int .i64 0, .pointer (some ⟨n3, 0, none⟩), undef, .pointer (some ⟨g, 0, none⟩), .int .i64 p, .slice A a.length ca, .slice B b.length cb,
          .slice (some ⟨w.heap.size + 1, 0, none⟩) 2 2, .int .i64 0, .int .i64 0, .bool false, undef, .slice A a.length ca, .slice B b.length cb, .func (.func 77) #[] #[.pointer (some ⟨n3 + 1, 0, none⟩), .pointer (some ⟨n3 + 1 + 1, 0, none⟩)], .int .i64 x.1, .agg #[.int .i64 x.2.1, .int .i64 x.2.2], undef, undef, undef, undef, undef, undef, undef, undef, undef, undef], defers := [] }) ?assign ?body ?done
      case hE =>
        rintro pre W W' ⟨hS, hP, hB⟩ hEl
        exact ⟨(hEl.block _ hS.lt (by omega) (by omega)).trans hS, (hEl.block _ hP.lt (by omega) (by omega)).trans hP,
          ⟨hEl.os.trans hB.os, hEl.tape.trans hB.tape, hEl.output.trans hB.output, Nat.le_trans hB.size hEl.size, fun i hi => (hEl.block i (Nat.lt_of_lt_of_le hi hB.size) (by omega) (by omega)).trans (hB.block i hi)⟩⟩
      case h0 => exact ⟨bS, bP, hB6⟩
      case assign =>
        intro l x W K hK
        simp only [encT]
        gi_wp2
        exact hK
      case body =>
        rintro l pre x gc W hgc ⟨hS, hP, hB⟩ ⟨va, hva⟩ ⟨vb, hvb⟩ hlt hgcc
        have cS := hS.cell
        have fS := hS.frozen
        have cP := hP.cell
        have c0 := blk_cell hgcc 0
        have c1 := blk_cell hgcc 1
        simp only [List.getElem?_toArray, List.getElem?_cons_zero, List.getElem?_cons_succ] at c0 c1
        gi_wp2
        exact ⟨KeepsOthers.setCell _ _ _, (Below.refl _ W).setCell (p := ⟨n3, 0, none⟩) (by show _ ≤ n3; omega) _, Below.heap_setCell W _ _ _ (by show n3 + 1 ≠ n3; omega), Below.heap_setCell W _ _ _ (by show n3 + 1 + 1 ≠ n3; omega),
          by rw [dotL_snoc]; exact hS.set _, hP.other (by omega) _, hB.setCell (p := ⟨n3, 0, none⟩) (by show _ ≤ n3; omega) _⟩
      case done =>
        rintro D W hD ⟨hS, hP, hB⟩ hKD
        have cS := hS.cell
        gi_wp2
        refine ⟨by simp, .inl ⟨_, _, rfl, run_takeDeferred hKD, ?_⟩⟩
        refine ⟨_, results_tmp2 rfl _ _ _, ?_⟩
        exact ⟨rfl, hB.trans (belowK_b (w := w) (Nat.le_refl _) W D _ _ (by omega) hKD rfl rfl)⟩
  · rw [if_neg he] at h
    obtain ⟨rfl, rfl⟩ : 0 = r1 ∧ e0 = r2 := by simpa using h
    have he1 : (e0 != 0) = true := by simp [he]
    gi_wp2_with (refine ⟨trivial, ?_⟩; gi_at_call 59; refine (callsIn_wide.2 (column_checkAll.calls kk p _ 2 [a, b] e0 _ hC2 (by simp) he0)).mono ?_; rintro e w3 ⟨rfl, hb3⟩)
    refine ⟨_, results_tmp2 rfl _ _ _, ?_⟩
    exact ⟨rfl, hb2.trans (hb3.mono hb2.size)⟩
end Go.Proofs.Ytojnnfhalpefmaa.H
end

section
namespace Go.Proofs.Ytojnnfhalpefmaa.M
open Go.RowKit Go.Proofs.YtojnnfhalpefmaaW.PrintWords
def column_plus.f (a0 : Int) (l1 : List S45) (a2 : Int) (l3 : List S45) : Option (List S45) := if a0 = 0 then none else if l1.length + l3.length < 8796093022208 then some (H.plusL a0 a2 (H.merge l1 l3)) else none
theorem column_plus.calls (a0 : Int) (A1 : Option Addr) (c1 : Nat) (l1 : List (S45)) (a2 : Int) (A3 : Option Addr) (c3 : Nat) (l3 : List (S45)) (r : List (S45)) (w : World) (hr1 : Kd.C k45 w A1 l1.length l1) (hc1 : l1.length ≤ c1) (hr3 : Kd.C k45 w A3 l3.length l3) (hc3 : l3.length ≤ c3) (h : column_plus.f a0 l1 a2 l3 = some r) :
    Calls Try.prog 57 #[.int .i64 a0, .slice A1 l1.length c1, .int .i64 a2, .slice A3 l3.length c3] w fun e w' => ∃ v0_ : Value, e = .returned v0_ ∧ Kd.R k45 45 w' w.heap.size (fun _ => True) v0_ r ∧ Below w.heap.size w w' := by
  unfold column_plus.f at h
  by_cases hp : a0 = 0
  · rw [if_pos hp] at h; cases h
  · rw [if_neg hp] at h
    by_cases hl : l1.length + l3.length < 8796093022208
    · rw [if_pos hl] at h
      cases h
      refine (callsIn_wide (n := 6)).1 ((H.plus_calls a0 a2 l1 l3 A1 A3 c1 c3 w hr1 hc1 hr3 hc3 hp hl).mono ?_)
      rintro e W' ⟨v, rfl, hown, hB⟩
      exact ⟨v, rfl, ⟨fun _ _ => trivial, _, hown, H.flatT_reps _ _ _ _⟩, hB⟩
    · rw [if_neg hl] at h; cases h
def column_Dot.f (k : Nat) (a0 : Int) (l1 : List S45) (l2 : List S45) : Option (Int × Int) := H.dotF k a0 l1 l2
theorem column_Dot.mono : ∀ a0 a1 a2 k, LeO (column_Dot.f k a0 a1 a2) (column_Dot.f (k + 1) a0 a1 a2) := by
  intro a0 a1 a2 k
  unfold column_Dot.f H.dotF
  exact LeO.bind (column_checkAll.mono _ _ _) (fun _ => LeO.refl _)
theorem column_Dot.calls (k : Nat) (a0 : Int) (A1 : Option Addr) (c1 : Nat) (l1 : List (S45)) (A2 : Option Addr) (c2 : Nat) (l2 : List (S45)) (r1 : Int) (r2 : Int) (w : World) (hr1 : Kd.C k45 w A1 l1.length l1) (hc1 : l1.length ≤ c1) (hr2 : Kd.C k45 w A2 l2.length l2) (hc2 : l2.length ≤ c2) (h : column_Dot.f k a0 l1 l2 = some (r1, r2)) :
    Calls Try.prog 18 #[.int .i64 a0, .slice A1 l1.length c1, .slice A2 l2.length c2] w fun e w' => e = .returned (.tuple #[.int .i64 r1, .int .i64 r2]) ∧ Below w.heap.size w w' :=
  (callsIn_wide (n := 6)).1 (H.dot_calls k a0 l1 l2 A1 A2 c1 c2 w hr1 hc1 hr2 hc2 r1 r2 h)
end Go.Proofs.Ytojnnfhalpefmaa.M
end

section
namespace Go.Proofs.Ytojnnfhalpefmaa.H
open Go.RowKit Go.Proofs.YtojnnfhalpefmaaW.PrintWords Go.Proofs.YtojnnfhalpefmaaW.PrintLast Go.Proofs.YtojnnfhalpefmaaW.PrintMore Go.Proofs.Ytojnnfhalpefmaa.M
def bsL (l : List S45) (row : Int) (i j : Nat) : Nat :=
  if h : i < j then (if wrap64 ((rd_T45 l (((i + j) / 2 : Nat) : Int)).f0 - row) < 0 then bsL l row ((i + j) / 2 + 1) j else bsL l row i ((i + j) / 2)) else i
termination_by j - i
decreasing_by all_goals omega
theorem bsL_lt {l : List S45} {row : Int} {i j : Nat} (h : i < j) (hc : wrap64 ((rd_T45 l (((i + j) / 2 : Nat) : Int)).f0 - row) < 0) : bsL l row i j = bsL l row ((i + j) / 2 + 1) j := by
  rw [bsL, dif_pos h, if_pos hc]
theorem bsL_ge {l : List S45} {row : Int} {i j : Nat} (h : i < j) (hc : ¬ wrap64 ((rd_T45 l (((i + j) / 2 : Nat) : Int)).f0 - row) < 0) : bsL l row i j = bsL l row i ((i + j) / 2) := by
  rw [bsL, dif_pos h, if_neg hc]
theorem bsL_end {l : List S45} {row : Int} {i j : Nat} (h : ¬ i < j) : bsL l row i j = i := by rw [bsL, dif_neg h]
set_option maxHeartbeats 4000000 in
set_option maxRecDepth 100000 in
theorem cmp_calls (t : S45) (row : Int) (w : World) :
    Calls Try.prog 85 #[.agg #[.int .i64 t.f0, .int .i64 t.f1], .int .i64 row] w fun e w' => e = .returned (.int .i64 (wrap64 (t.f0 - row))) ∧ Below w.heap.size w w' := by
  go_enter Try.func85, Try.ntmps85
  go_wp2
  go_ret
  exact ⟨rfl, (Below.refl _ w).alloc (Nat.le_refl _) _⟩
set_option maxHeartbeats 4000000 in
set_option maxRecDepth 100000 in
theorem bs_calls (A : Option Addr) (c : Nat) (l : List S45) (row : Int) (w : World) (hC : k45.C w A l.length l) (hc : l.length ≤ c) (hl : l.length < 8796093022208) :
    Calls Try.prog 84 #[.slice A l.length c, .int .i64 row, .func (.func 85) #[] #[]] w fun e w' => ∃ f : Bool, e = .returned (.tuple #[.int .i64 (bsL l row 0 l.length), .bool f]) ∧ Below w.heap.size w w' := by
  go_enter Try.func84, Try.ntmps84
  go_wp2
  go_loopg [9, 10] l.length (fun k v9 v10 wr => ∃ i j : Nat, v9 = .int .i64 i ∧ v10 = .int .i64 j ∧ i ≤ j ∧ j ≤ l.length ∧ k = j - i ∧ Aside0 (bsL l row 0 l.length = bsL l row i j) ∧ Below w.heap.size w wr)
  case atStart => exact ⟨0, l.length, rfl, rfl, Nat.zero_le _, Nat.le_refl _, by omega, ⟨rfl⟩, Below.refl _ _⟩
  case round =>
    obtain ⟨i, j, rfl, rfl, hij, hj, hk, hb, hB⟩ := hrel
    by_cases hlt : i < j
    · have hltb : decide ((i : Int) < (j : Int)) = true := decide_eq_true (by omega)
      obtain ⟨ad, eA, h0, h1⟩ := at_T45 (Kd.C_below hC hB) (((i + j) / 2 : Nat) : Int) (by omega) (by omega)
      subst eA
      rw [Int.toNat_natCast] at h0 h1
      by_cases hcm : wrap64 ((rd_T45 l (((i + j) / 2 : Nat) : Int)).f0 - row) < 0
      · have hcb : decide (wrap64 ((rd_T45 l (((i + j) / 2 : Nat) : Int)).f0 - row) < 0) = true := decide_eq_true hcm
        have HN := Aside0.mk (bsL_lt hlt hcm)
        obtain ⟨t, ht⟩ : ∃ t, rd_T45 l (((i + j) / 2 : Nat) : Int) = t := ⟨_, rfl⟩
        rw [ht] at h0 h1 hcb hcm
        go_wp2_with (go_at_call 85; refine (cmp_calls t row _).mono ?_; rintro e w' ⟨rfl, hb'⟩)
        go_roundg (j - ((i + j) / 2 + 1))
        case measure => omega
        case rel => exact ⟨(i + j) / 2 + 1, j, by rw [show ((((i + j) / 2 + 1 : Nat) : Int)) = ((i : Int) + j) / 2 + 1 by omega], rfl, by omega, hj, rfl, ⟨hb.out.trans HN.out⟩, hB.trans (hb'.mono hB.size)⟩
      · have hcb : decide (wrap64 ((rd_T45 l (((i + j) / 2 : Nat) : Int)).f0 - row) < 0) = false := decide_eq_false hcm
        have HN := Aside0.mk (bsL_ge hlt hcm)
        obtain ⟨t, ht⟩ : ∃ t, rd_T45 l (((i + j) / 2 : Nat) : Int) = t := ⟨_, rfl⟩
        rw [ht] at h0 h1 hcb
        clear hcm
        go_wp2_with (go_at_call 85; refine (cmp_calls t row _).mono ?_; rintro e w' ⟨rfl, hb'⟩)
        go_roundg ((i + j) / 2 - i)
        case measure => omega
        case rel => exact ⟨i, (i + j) / 2, rfl, by rw [show ((((i + j) / 2 : Nat) : Int)) = ((i : Int) + j) / 2 by omega], by omega, by omega, rfl, ⟨hb.out.trans HN.out⟩, hB.trans (hb'.mono hB.size)⟩
    · have hltb : decide ((i : Int) < (j : Int)) = false := decide_eq_false (by omega)
      have HN := Aside0.mk (hb.out.trans (bsL_end hlt))
      by_cases hil : i < l.length
      · have hilb : decide ((i : Int) < (l.length : Int)) = true := decide_eq_true (by omega)
        obtain ⟨ad, eA, h0, h1⟩ := at_T45 (Kd.C_below hC hB) (i : Int) (by omega) (by omega)
        subst eA
        rw [Int.toNat_natCast] at h0 h1
        obtain ⟨t, ht⟩ : ∃ t, rd_T45 l (i : Int) = t := ⟨_, rfl⟩
        rw [ht] at h0 h1
        go_wp2_with (go_at_call 85; refine (cmp_calls t row _).mono ?_; rintro e w' ⟨rfl, hb'⟩)
        go_ret2
        exact ⟨_, by rw [HN.out]; rfl, hB.trans (hb'.mono hB.size)⟩
      · have hilb : decide ((i : Int) < (l.length : Int)) = false := decide_eq_false (by omega)
        go_wp2
        go_ret2
        exact ⟨_, by rw [HN.out]; rfl, hB⟩
end Go.Proofs.Ytojnnfhalpefmaa.H
end

section
namespace Go.Proofs.Ytojnnfhalpefmaa.H
open Go.Maps Go.RowKit Go.Proofs.YtojnnfhalpefmaaW.PrintWords
def IMap (w : World) (b n : Nat) (M : Int → Option Int) : Prop :=
  ∃ D : DataW Unit, w.ownsMap Try.prog 3 (plainElem Try.prog 3) b n D ∧ ∀ x : Int, (Lit.int .i64 x).wf = true → ∀ z, D.atKey (.int .i64 x) z = match M x with | some v => .lit (.int .i64 v) | none => z
theorem zeroI (w : World) : (zeroValue 3).run Try.prog w = .ok (.int .i64 0) w := by kernel_rfl
theorem keyed3 : Keyed Try.prog 3 := int_keyed Try.underlying3
theorem key3 {x : Int} (h : (Lit.int .i64 x).wf = true) : keyOf Try.prog 3 (.int .i64 x) = some (.int .i64 x) := keyOf_int_mk Try.underlying3 h
theorem IMap.made (w : World) : IMap (w.alloc (.map #[] 0)) w.heap.size 0 (fun _ => none) :=
  ⟨.map [], World.ownsMap_made _ _ _ _, fun x hx z => rfl⟩
theorem IMap.look {w : World} {b n : Nat} {M : Int → Option Int} (h : IMap w b n M) {x : Int} (hx : (Lit.int .i64 x).wf = true) :
    (Instr.lookup 85 (.map (some b)) (.int .i64 x) true).run Try.prog w = .ok (.tuple #[.int .i64 ((M x).getD 0), .bool (M x).isSome]) w := by
  obtain ⟨D, hD, hM⟩ := h
  obtain ⟨v, ps, hrun, hv⟩ := hD.look_ok keyed3 Try.underlying85 (zeroI w) (plainElem_int Try.underlying3 (by decide)) (key3 hx)
  rw [hM x hx] at hv
  rw [hrun]
  cases hm : M x with
  | none =>
    rw [hm] at hv
    obtain ⟨c, rfl, hc, _⟩ := plainElem_int_inv Try.underlying3 hv
    have hc' : c = 0 := by simpa using (congrArg Prod.fst hc).symm
    rw [has_false_of_atKey (D := D) (k := .int .i64 x) (fun z => by rw [hM x hx, hm])]
    simp [hc']
  | some y =>
    rw [hm] at hv
    obtain ⟨c, rfl, hc, _⟩ := plainElem_int_inv Try.underlying3 hv
    have hc' : c = y := by simpa using (congrArg Prod.fst hc).symm
    rw [has_true_of_atKey (D := D) (k := .int .i64 x) (y := .lit (.int .i64 y)) (fun z => by rw [hM x hx, hm])]
    simp [hc']
theorem IMap.store {w : World} {b n : Nat} {M : Int → Option Int} (h : IMap w b n M) (hn : n < maxLen) {x v : Int} (hx : (Lit.int .i64 x).wf = true) (hv : (Lit.int .i64 v).wf = true) :
    ∃ w', (Instr.mapUpdate 85 (.map (some b)) (.int .i64 x) (.int .i64 v)).run Try.prog w = .ok () w' ∧ IMap w' b (n + 1) (fun y => if y = x then some v else M y) ∧ w.grownBy w' (some b) := by
  obtain ⟨D, hD, hM⟩ := h
  obtain ⟨w', hr, h1, h2⟩ := hD.update keyed3 Try.underlying85 hn (key3 hx) (plainElem_int Try.underlying3 hv)
  refine ⟨w', hr, ⟨_, h1, fun y hy z => ?_⟩, h2⟩
  by_cases e : y = x
  · subst e
    rw [atKey_put_same hD.isMap (keyed3.key (key3 hx))]
    simp
  · have ne : (Lit.int .i64 y) ≠ .int .i64 x := fun e2 => by cases e2; exact e rfl
    rw [atKey_put_other ne, hM y hy]
    simp [e]
theorem IMap.kept {w w' : World} {b n : Nat} {M : Int → Option Int} {row : Option Nat} (h : IMap w b n M) (hg : w.grownBy w' row) (hne : some b ≠ row) : IMap w' b n M := by
  obtain ⟨D, h1, h2⟩ := h
  exact ⟨D, h1.kept hg hne, h2⟩
theorem IMap.same {w w' : World} {b n : Nat} {M : Int → Option Int} (h : IMap w b n M) (he : w'.heap[b]? = w.heap[b]?) : IMap w' b n M := by
  obtain ⟨D, ⟨es, clock, hb, h1⟩, h2⟩ := h
  exact ⟨D, ⟨es, clock, he.trans hb, h1⟩, h2⟩
theorem IMap.lt {w : World} {b n : Nat} {M : Int → Option Int} (h : IMap w b n M) : b < w.heap.size := by
  obtain ⟨D, ⟨es, clock, hb, h1⟩, h2⟩ := h
  exact (Array.getElem?_eq_some_iff.1 hb).1
end Go.Proofs.Ytojnnfhalpefmaa.H
end

section
namespace Go.Proofs.Ytojnnfhalpefmaa.H
open Go.RowKit Go.Proofs.YtojnnfhalpefmaaW.PrintWords Go.Proofs.YtojnnfhalpefmaaW.PrintLast Go.Proofs.YtojnnfhalpefmaaW.PrintMore Go.Proofs.Ytojnnfhalpefmaa.M
def rowOk (x : Int) : Prop := -9223372036854775808 ≤ x ∧ x ≤ 9223372036854775807
instance (x : Int) : Decidable (rowOk x) := inferInstanceAs (Decidable (_ ∧ _))
theorem rowOk.wf {x : Int} (h : rowOk x) : (Lit.int .i64 x).wf = true := by
  obtain ⟨h1, h2⟩ := h
  have e1 : IntKind.i64.min = -9223372036854775808 := by decide
  have e2 : IntKind.i64.max = 9223372036854775807 := by decide
  show (decide (IntKind.i64.min ≤ x) && decide (x ≤ IntKind.i64.max)) = true
  rw [e1, e2, decide_eq_true h1, decide_eq_true h2]
  rfl
def clearL (p : Int) (mp : Int → Option Int) (L U : List (List S45)) : Nat → List S45 → List S45 → Int → Option (List S45 × List S45)
  | 0, _, _, _ => none
  | k + 1, c, x, i =>
    if 0 ≤ i then
      (if i < (c.length : Int) ∧ c.length < 8796093022208 ∧ rowOk (rd_T45 c i).f0 then
        (match mp (rd_T45 c i).f0 with
        | some j =>
          if 0 ≤ j ∧ j < (L.length : Int) ∧ j < (U.length : Int) ∧ 0 < (rd_L2 L j).length then
            (modp_Div.f k p (rd_T45 c i).f1 (rd_T45 (rd_L2 L j) (((rd_L2 L j).length : Int) - 1)).f1).bind fun t =>
              (column_plus.f p c (wrap64 (p - t.1)) (rd_L2 L j)).bind fun c' =>
                (column_plus.f p x (wrap64 (p - t.1)) (rd_L2 U j)).bind fun x' =>
                  if c'.length < 8796093022208 then clearL p mp L U k c' x' (wrap64 ((bsL c' (rd_T45 c i).f0 0 c'.length : Int) - 1)) else none
          else none
        | none => clearL p mp L U k c x (wrap64 ((bsL c (rd_T45 c i).f0 0 c.length : Int) - 1)))
      else none)
    else some (c, x)
def PivR (W : World) (gv : Nat) (p : Int) (mp : Int → Option Int) (L U : List (List S45)) : Prop :=
  ∃ (gm n : Nat) (Al Au : Option Addr) (cl cu : Nat), W.heap[gv]? = some (.cells #[.int .i64 p, .map (some gm), .slice Al L.length cl, .slice Au U.length cu] 87 (0, 0)) ∧ IMap W gm n mp ∧
    (Kd.slice 45 k45).C W Al L.length L ∧ L.length ≤ cl ∧ (Kd.slice 45 k45).C W Au U.length U ∧ U.length ≤ cu
theorem PivR.below {W W' : World} {gv : Nat} {p : Int} {mp : Int → Option Int} {L U : List (List S45)} (h : PivR W gv p mp L U) (hb : Below W.heap.size W W') : PivR W' gv p mp L U := by
  obtain ⟨gm, n, Al, Au, cl, cu, h1, h2, h3, h4, h5, h6⟩ := h
  exact ⟨gm, n, Al, Au, cl, cu, blk_below h1 hb, h2.same (hb.block _ h2.lt), Kd.C_below h3 hb, h4, Kd.C_below h5 hb, h6⟩
set_option maxHeartbeats 8000000 in
set_option maxRecDepth 100000 in
theorem clear_calls (k : Nat) (gv : Nat) (p : Int) (mp : Int → Option Int) (L U : List (List S45)) (base : Nat) (vc vx : Value) (c x : List S45) (r : List S45 × List S45) (w : World) (hV : PivR w gv p mp L U) (hbase : base ≤ w.heap.size)
    (hc : Kd.R k45 45 w base (fun _ => True) vc c) (hx : Kd.R k45 45 w base (fun _ => True) vx x) (h : clearL p mp L U k c x (wrap64 ((c.length : Int) - 1)) = some r) :
    Calls Try.prog 71 #[.pointer (some ⟨gv, 0, none⟩), vc, vx] w fun e w' => ∃ v1 v2 : Value, e = .returned (.tuple #[v1, v2]) ∧ Kd.R k45 45 w' base (fun _ => True) v1 r.1 ∧ Kd.R k45 45 w' base (fun _ => True) v2 r.2 ∧ Below w.heap.size w w' := by
  obtain ⟨A0, c0, rfl⟩ := Kd.R_slice hc
  have H := Aside0.mk h
  clear h
  go_enter Try.func71, Try.ntmps71
  go_wp2
  go_loopg [1, 2, 8] k (fun kq v1 v2 v8 wr => ∃ (c x : List S45) (i : Int), v8 = .int .i64 i ∧ Aside0 (Kd.R k45 45 wr base (fun _ => True) v1 c) ∧ Aside0 (Kd.R k45 45 wr base (fun _ => True) v2 x) ∧ Aside0 (clearL p mp L U kq c x i = some r) ∧ Aside0 (Below w.heap.size w wr))
  case atStart => exact ⟨c, x, _, rfl, ⟨hc⟩, ⟨hx⟩, H, ⟨Below.refl _ _⟩⟩
  case round =>
    clear hc hx H
    obtain ⟨c, x, i, rfl, HC, HX, HA, HB⟩ := hrel
    cases gk with
    | zero => exact absurd HA.out (by simp [clearL])
    | succ k1 =>
      have H := HA.out
      clear HA
      unfold clearL at H
      by_cases h0 : 0 ≤ i
      · rw [if_pos h0] at H
        have h0b : decide (0 ≤ i) = true := decide_eq_true h0
        by_cases h1 : i < (c.length : Int) ∧ c.length < 8796093022208 ∧ rowOk (rd_T45 c i).f0
        · rw [if_pos h1] at H
          obtain ⟨h1, h2, h3⟩ := h1
          obtain ⟨gm, n, Al, Au, cl, cu, g1, g2, g3, g4, g5, g6⟩ := hV.below HB.out
          have q0 := blk_cell g1 0
          have q1 := blk_cell g1 1
          have q2 := blk_cell g1 2
          have q3 := blk_cell g1 3
          simp only [List.getElem?_toArray, List.getElem?_cons_zero, List.getElem?_cons_succ] at q0 q1 q2 q3
          obtain ⟨Ac, cc, rfl⟩ := Kd.R_slice HC.out
          obtain ⟨Ax, cx, rfl⟩ := Kd.R_slice HX.out
          have hrc := Kd.R_reads' HC.out
          obtain ⟨ad, eA, x0, x1⟩ := at_T45 hrc.2.2 i h0 h1
          subst eA
          obtain ⟨t, ht⟩ : ∃ t, rd_T45 c i = t := ⟨_, rfl⟩
          rw [ht] at H x0 x1 h3
          have hlk := g2.look h3.wf
          have h1b : decide (i < (c.length : Int)) = true := decide_eq_true h1
          cases hm : mp t.f0 with
          | none =>
            rw [hm] at H hlk
            have H' := Aside0.mk H
            clear H
            go_wp2_with (go_at_call 84; refine (bs_calls (some ad) cc c t.f0 _ hrc.2.2 hrc.2.1 h2).mono ?_; rintro e w' ⟨f, rfl, hb⟩)
            go_roundg k1
            case measure => omega
            case rel => exact ⟨c, x, _, rfl, ⟨Kd.R_below HC.out hb⟩, ⟨Kd.R_below HX.out hb⟩, H', ⟨HB.out.trans (hb.mono HB.out.size)⟩⟩
          | some j =>
            rw [hm] at H hlk
            by_cases hj : 0 ≤ j ∧ j < (L.length : Int) ∧ j < (U.length : Int) ∧ 0 < (rd_L2 L j).length
            · have H := (if_pos hj).symm.trans H
              obtain ⟨j0, j1, j2, j3⟩ := hj
              obtain ⟨al, Aj, cj, eL, yL, ljc, hCj⟩ := at_L2 g3 j j0 j1
              obtain ⟨au, Bj, bj, eU, yU, ujc, hUj⟩ := at_L2 g5 j j0 j2
              subst eL
              subst eU
              obtain ⟨low, hlow⟩ : ∃ low, rd_L2 L j = low := ⟨_, rfl⟩
              obtain ⟨uj, huj⟩ : ∃ uj, rd_L2 U j = uj := ⟨_, rfl⟩
              rw [hlow] at H yL ljc hCj j3
              rw [huj] at H yU ujc hUj
              obtain ⟨a1, e1, z0, z1⟩ := at_T45 hCj ((low.length : Int) - 1) (by omega) (by omega)
              subst e1
              obtain ⟨⟨d1, d2⟩, hD, H⟩ := Option.bind_eq_some_iff.1 H
              obtain ⟨c', hP1, H⟩ := Option.bind_eq_some_iff.1 H
              obtain ⟨x', hP2, H⟩ := Option.bind_eq_some_iff.1 H
              by_cases hcl : c'.length < 8796093022208
              · have H' := Aside0.mk ((if_pos hcl).symm.trans H)
                clear H
                obtain ⟨lw, hlw⟩ : ∃ lw, rd_T45 low ((low.length : Int) - 1) = lw := ⟨_, rfl⟩
                rw [hlw] at z0 z1 hD
                have hmx := Kd.C_max hCj
                rw [show ((low.length : Int) - 1).toNat = low.length - 1 by omega] at z0 z1
                have hw : wrap64 ((low.length : Int) - 1) = (low.length : Int) - 1 := by unfold wrap64; omega
                have hw' : IntKind.i64.wrap ((low.length : Int) - 1) = (low.length : Int) - 1 := by rw [i64_w]; exact hw
                have hj3 : (1 : Int) ≤ (low.length : Int) := by omega
                go_wp2
                go_quiet (first | (go_at_call 83; (with_reducible refine (modp_Div.calls k1 p t.f1 lw.f1 d1 d2 _ hD).mono ?_); rintro e w' ⟨rfl, ⟨nd, rfl⟩⟩; (try first | exact ⟨rfl, _, World.drewN_drewN _ _ _⟩ | exact ⟨rfl, _, Eq.trans (World.drewN_drewN _ _ _) (congrArg (World.drewN _) (Nat.add_assoc _ _ _))⟩)))
                go_wp2
                generalize hW2 : wr.drewN nq = W2
                have bw2 : Below wr.heap.size wr W2 := by rw [← hW2]; exact ⟨rfl, rfl, rfl, Nat.le_refl _, fun _ _ => rfl⟩
                have g1' := blk_below g1 bw2
                have q0' := blk_cell g1' 0
                have q3' := blk_cell g1' 3
                simp only [List.getElem?_toArray, List.getElem?_cons_zero, List.getElem?_cons_succ] at q0' q3'
                have HC2 := Aside0.mk (Kd.C_below hrc.2.2 bw2)
                have HL2 := Aside0.mk (Kd.C_below hCj bw2)
                rw [← i64_w] at hP1 hP2
                clear hlk q0 q1 q2 q3 x0 x1 yL yU z0 z1
                go_region_with (go_at_call 57; (with_reducible refine (column_plus.calls p (some ad) cc c (IntKind.i64.wrap (p - d1)) (some a1) cj low c' _ ?a1 ?a2 ?a3 ?a4 hP1).mono ?_); (case a1 => repeat (first | exact HC2.out | (with_reducible refine Kd.C_drewN ?_ _) | (with_reducible refine Kd.C_drew ?_))); (case a2 => exact hrc.2.1); (case a3 => repeat (first | exact HL2.out | (with_reducible refine Kd.C_drewN ?_ _) | (with_reducible refine Kd.C_drew ?_))); (case a4 => exact ljc); rintro e w3 ⟨v3, rfl, hR3, hb3⟩)
                all_goals
                  obtain ⟨A3, c3, rfl⟩ := Kd.R_slice hR3
                  have b3 : Below wr.heap.size wr w3 := (bw2.drew).trans (hb3.mono bw2.drew.size)
                  have g1'' := blk_below g1 b3
                  have q0 := blk_cell g1'' 0
                  have q3 := blk_cell g1'' 3
                  simp only [List.getElem?_toArray, List.getElem?_cons_zero, List.getElem?_cons_succ] at q0 q3
                  obtain ⟨au', Bj, bj, eU, yU, ujc, hUj⟩ := at_L2 (Kd.C_below g5 b3) j j0 j2
                  obtain rfl := Option.some.inj eU
                  rw [huj] at yU ujc hUj
                  have hrx := Kd.R_reads' (Kd.R_below HX.out b3)
                  clear q0' q3'
                  go_wp2
                  go_region_with (go_at_call 57; (with_reducible refine (column_plus.calls p Ax cx x (IntKind.i64.wrap (p - d1)) Bj bj uj x' _ ?a1 ?a2 ?a3 ?a4 hP2).mono ?_); (case a1 => repeat (first | exact hrx.2.2 | (with_reducible refine Kd.C_drewN ?_ _) | (with_reducible refine Kd.C_drew ?_))); (case a2 => exact hrx.2.1); (case a3 => repeat (first | exact hUj | (with_reducible refine Kd.C_drewN ?_ _) | (with_reducible refine Kd.C_drew ?_))); (case a4 => exact ujc); rintro e w5 ⟨v5, rfl, hR5, hb5⟩)
                  all_goals
                    have b5 : Below w3.heap.size w3 w5 := (below_drew1 (Below.refl _ w3)).trans hb5
                    have hR3' := Kd.R_below hR3 b5
                    have hr3 := Kd.R_reads' hR3'
                    go_wp2_with (go_at_call 84; refine (bs_calls A3 c3 c' t.f0 _ hr3.2.2 hr3.2.1 hcl).mono ?_; rintro e w6 ⟨f, rfl, hb6⟩)
                    go_roundg k1
                    case measure => omega
                    case rel =>
                      have bs : base ≤ W2.drew.heap.size := Nat.le_trans hbase (Nat.le_trans HB.out.size bw2.drew.size)
                      have b35 : Below wr.heap.size wr w5 := b3.trans (b5.mono b3.size)
                      exact ⟨c', x', _, rfl, ⟨Kd.R_lower (Kd.R_below hR3' hb6) bs⟩, ⟨Kd.R_lower (Kd.R_below hR5 hb6) (Nat.le_trans bs hb3.size)⟩, H', ⟨HB.out.trans ((b35.trans (hb6.mono b35.size)).mono HB.out.size)⟩⟩
              · rw [if_neg hcl] at H; cases H
            · exact absurd ((if_neg hj).symm.trans H) (by simp)
        · rw [if_neg h1] at H; cases H
      · rw [if_neg h0] at H
        have h0b : decide (0 ≤ i) = false := decide_eq_false h0
        cases H
        go_wp2
        go_ret2
        exact ⟨_, _, rfl, HC.out, HX.out, HB.out⟩
end Go.Proofs.Ytojnnfhalpefmaa.H
end

section
namespace Go.Proofs.Ytojnnfhalpefmaa.H
open Go.RowKit Go.Proofs.YtojnnfhalpefmaaW.PrintWords Go.Proofs.YtojnnfhalpefmaaW.PrintLast Go.Proofs.YtojnnfhalpefmaaW.PrintMore Go.Proofs.Ytojnnfhalpefmaa.M
def Safe (base : Nat) (W : World) (b : Nat) : Prop := b < base ∨ ∃ cs, W.heap[b]? = some (.cells cs 45 (0, 0))
structure Stay (base : Nat) (W W' : World) : Prop where
  below : Below base W W'
  same : ∀ b, Safe base W b → W'.heap[b]? = W.heap[b]?
theorem Stay.safe {base : Nat} {W W' : World} (h : Stay base W W') {b : Nat} (hb : Safe base W b) : Safe base W' b := by
  rcases hb with hb | ⟨cs, hb⟩
  · exact .inl hb
  · exact .inr ⟨cs, (h.same b (.inr ⟨cs, hb⟩)).trans hb⟩
theorem Stay.refl (base : Nat) (W : World) : Stay base W W := ⟨Below.refl _ _, fun _ _ => rfl⟩
theorem Stay.trans {base : Nat} {A B C : World} (h : Stay base A B) (k : Stay base B C) : Stay base A C :=
  ⟨h.below.trans k.below, fun b hb => (k.same b (h.safe hb)).trans (h.same b hb)⟩
theorem Stay.of_below {base : Nat} {W W' : World} (hb : base ≤ W.heap.size) (h : Below W.heap.size W W') : Stay base W W' :=
  ⟨h.mono hb, fun b hs => by
    rcases hs with hs | ⟨cs, hs⟩
    · exact h.block b (by omega)
    · exact h.block b (blk_lt hs)⟩
theorem add_blk (a : Addr) (k : Nat) : (a.add k).block = a.block := by
  unfold Addr.add
  by_cases h : k = 0 <;> simp [h]
theorem C_same {W W' : World} {A : Option Addr} {n : Nat} {xs : List S45} (h : k45.C W A n xs) (hb : ∀ ad, A = some ad → 0 < n → W'.heap[ad.block]? = W.heap[ad.block]?) : k45.C W' A n xs := by
  refine ⟨h.1, h.2.1, fun hp => ?_⟩
  obtain ⟨ad, e, hc⟩ := h.2.2 hp
  refine ⟨ad, e, fun j p hj => ?_⟩
  obtain ⟨c, h1, h2, h3⟩ := hc j p hj
  refine ⟨c, h1, ?_, fun i u hu => ?_⟩
  · obtain rfl := k45_open h2
    exact k45_mk W' p
  · have h4 := h3 i u hu
    have hbl : W'.heap[(ad.add (j * k45.sz + i)).block]? = W.heap[(ad.add (j * k45.sz + i)).block]? := by rw [add_blk]; exact hb ad e hp
    unfold World.cell? at h4 ⊢
    rw [hbl]
    exact h4
def RowV (o : Bool) (W : World) (base : Nat) (v : Value) (xs : List S45) : Prop :=
  ∃ (A : Option Addr) (c : Nat), v = .slice A xs.length c ∧ xs.length ≤ c ∧ k45.C W A xs.length xs ∧ (∀ ad, A = some ad → 0 < xs.length → Safe base W ad.block) ∧ (o = true → Kd.R k45 45 W base (fun _ => True) v xs)
theorem R45_stay {W W' : World} {base : Nat} {ok : Nat → Prop} {v : Value} {xs : List S45} (h : Kd.R k45 45 W base ok v xs) (hs : Stay base W W') : Kd.R k45 45 W' base ok v xs := by
  obtain ⟨h0, inner, ho, hr⟩ := h
  refine ⟨h0, inner, own_move ho (fun k hk => hs.same _ (.inr (own_typed ho k hk))), hr.imp_ (fun p c hM => ?_)⟩
  obtain rfl := k45_open (k45.K_of_M hM)
  exact k45_mkM W' base _ p
theorem RowV.stay {o : Bool} {W W' : World} {base : Nat} {v : Value} {xs : List S45} (h : RowV o W base v xs) (hs : Stay base W W') : RowV o W' base v xs := by
  obtain ⟨A, c, e, hl, hC, hS, hO⟩ := h
  exact ⟨A, c, e, hl, C_same hC (fun ad ea hp => hs.same _ (hS ad ea hp)), fun ad ea hp => hs.safe (hS ad ea hp), fun e => R45_stay (hO e) hs⟩
def colE (o : Bool) (W : World) (base : Nat) (xs : List S45) (cs : List Value) : Prop := ∃ v, cs = [v] ∧ RowV o W base v xs
theorem stay_grown {base : Nat} {W W' : World} {row : Option Nat} (hg : W.grownBy W' row) (hb : base ≤ W.heap.size) (hrow : ∀ g, row = some g → base ≤ g ∧ ∀ cs, W.heap[g]? ≠ some (.cells cs 45 (0, 0))) : Stay base W W' :=
  ⟨(Below.refl base W).grown hg hb (fun k e => (hrow k e).1), fun b hs => by
    refine hg.block b ?_ (fun e => ?_)
    · rcases hs with hs | ⟨cs, hs⟩
      · omega
      · exact blk_lt hs
    · obtain ⟨h1, h2⟩ := hrow b e.symm
      rcases hs with hs | ⟨cs, hs⟩
      · omega
      · exact h2 cs hs⟩
theorem stay_set {base : Nat} {W : World} {g : Nat} {t : TypeId} {cs : Array Value} (hg : W.heap[g]? = some (.cells cs t (0, 0))) (ht : t ≠ 45) (hb : base ≤ g) (i : Nat) (v : Value) : Stay base W (W.setCell ⟨g, i, none⟩ v) :=
  ⟨(Below.refl base W).setCell (p := ⟨g, i, none⟩) hb v, fun b hs => Below.heap_setCell W _ v b (by
    show b ≠ g
    rintro rfl
    rcases hs with hs | ⟨cs', hs⟩
    · omega
    · rw [hg] at hs; cases hs; exact ht rfl)⟩
theorem own_stay {o : Bool} {base : Nat} {W W' : World} {v : Value} {L : List (List S45)} (h : OwnRow (colE o W base) 22 1 W base v L) (hs : Stay base W W') (hv : ∀ g, v.ownBlock = some g → W'.heap[g]? = W.heap[g]?) : OwnRow (colE o W' base) 22 1 W' base v L := by
  obtain ⟨inner, ho, hr⟩ := h
  exact ⟨inner, own_move ho hv, hr.imp_ (fun p c ⟨v, e, hrow⟩ => ⟨v, e, hrow.stay hs⟩)⟩
theorem own_blk22 {α : Type} {base : Nat} {W : World} {v : Value} {R : α → List Value → Prop} {L : List α} (h : OwnRow R 22 1 W base v L) {g : Nat} (hg : v.ownBlock = some g) : (∃ cs, W.heap[g]? = some (.cells cs 22 (0, 0))) ∧ base ≤ g := by
  obtain ⟨inner, ho, hr⟩ := h
  refine ⟨own_typed ho g hg, ?_⟩
  rcases ho.2 with ⟨rfl, _⟩ | ⟨g', cap, cur, rfl, hb, _⟩
  · simp [Value.ownBlock] at hg
  · obtain rfl : g' = g := by simpa [Value.ownBlock] using hg
    exact hb
def lastR (c : List S45) : Int := (rd_T45 c ((c.length : Int) - 1)).f0
theorem RowV.of_R {o : Bool} {W : World} {base : Nat} {ok : Nat → Prop} {v : Value} {xs : List S45} (h : Kd.R k45 45 W base ok v xs) : RowV o W base v xs := by
  obtain ⟨A, c, rfl⟩ := Kd.R_slice h
  have hr := Kd.R_reads' h
  obtain ⟨inner, ho⟩ := Kd.R_own h
  refine ⟨A, c, rfl, hr.2.1, hr.2.2, fun ad e hp => ?_, fun _ => Kd.R_mono h (fun _ _ => trivial)⟩
  subst e
  exact .inr (own_typed ho ad.block (by simp [Value.ownBlock]))
end Go.Proofs.Ytojnnfhalpefmaa.H
end
