-- Written by a program of this session (a widened copy of the kit's printer) out of the translation.
import Derived.Test.YtojnnfhalpefmaaMx20
import Derived.Test.YtojnnfhalpefmaaEAw
import Derived.Test.YtojnnfhalpefmaaMx8
namespace Go.Proofs.Ytojnnfhalpefmaa.M
open Go.RowKit Go.Proofs.YtojnnfhalpefmaaW.PrintWords Go.Proofs.YtojnnfhalpefmaaW.PrintLast Go.Proofs.YtojnnfhalpefmaaW.PrintMore
attribute [local go_sem] max2_int min2_int max_two min_two max_three min_three max_four min_four   -- for this text's walks alone
set_option linter.unusedVariables false
set_option linter.unusedSimpArgs false

/-! ### toruslaw04_ColumnDense: function 10 -/
mutual
def toruslaw04_ColumnDense.j0 : Nat → List Int → Int → List (S45) → List Int → Bool → Option (Bool)
  | 0, _, _, _, _, _ => none
  | k + 1, x3, x9, x15, x17, x91 => if x91 = true then (some false) else (toruslaw04_ColumnDense.l0 k x3 x9 x15 x17 0)
def toruslaw04_ColumnDense.l0 : Nat → List Int → Int → List (S45) → List Int → Int → Option (Bool)
  | 0, _, _, _, _, _ => none
  | k + 1, x3, x9, x15, x17, x19 => if x19 < (x3.length : Int) then (if 0 ≤ x19 then (if x19 < (x17.length : Int) then ((torusref01_Mod.f k x9 (rd x3 x19)).bind fun t603 => (if (rd x17 x19) = t603 then ((column_Coef.f k x15 x19).bind fun t604 => (if t604 = (rd x17 x19) then (toruslaw04_ColumnDense.l0 k x3 x9 x15 x17 (wrap64 (x19 + 1))) else (some false))) else (some false))) else (none)) else (none)) else ((toruslaw04_awake.f).bind fun t600 => (some t600))
end
def toruslaw04_ColumnDense.f (k : Nat) (a0 : Int) (l1 : List (S45)) (a2 : Int) (l3 : List Int) : Option (Bool) := if (l3.length : Int) > 60 then ((toruslaw04_awake.f).bind fun t578 => (some t578)) else ((torusref01_Field.f k a0).bind fun t579 => ((torusref04_Fit.f k t579 l1 10).bind fun t580 => ((column_Dense.f k t579 t580 (wrap64 (10 + (wrap64 (Int.tmod a2 201))))).bind fun bt583 => ((column_Of.f k t579 bt583.1).bind fun bt587 => ((column_Of.f k t579 l3).bind fun bt591 => ((column_Dense.f k t579 bt591.1 (l3.length : Int)).bind fun bt595 => (if bt583.2 = 0 then (if (bt583.1.length : Int) = (wrap64 (10 + (wrap64 (Int.tmod a2 201)))) then ((toruslaw04_is.f k bt587.1 bt587.2 t580).bind fun t599 => (if t599 = true then (if bt591.2 = 0 then (if bt595.2 = 0 then (toruslaw04_ColumnDense.j0 k l3 t579 bt591.1 bt595.1 ((bt595.1.length : Int) != (l3.length : Int))) else (toruslaw04_ColumnDense.j0 k l3 t579 bt591.1 bt595.1 true)) else (toruslaw04_ColumnDense.j0 k l3 t579 bt591.1 bt595.1 true)) else (toruslaw04_ColumnDense.j0 k l3 t579 bt591.1 bt595.1 true))) else (toruslaw04_ColumnDense.j0 k l3 t579 bt591.1 bt595.1 true)) else (toruslaw04_ColumnDense.j0 k l3 t579 bt591.1 bt595.1 true))))))))
theorem toruslaw04_ColumnDense.mono_l : ∀ k, (∀ y0 y1 y2 y3 y4, LeO (toruslaw04_ColumnDense.j0 k y0 y1 y2 y3 y4) (toruslaw04_ColumnDense.j0 (k + 1) y0 y1 y2 y3 y4)) ∧ (∀ y0 y1 y2 y3 y4, LeO (toruslaw04_ColumnDense.l0 k y0 y1 y2 y3 y4) (toruslaw04_ColumnDense.l0 (k + 1) y0 y1 y2 y3 y4))
  | 0 => ⟨fun _ _ _ _ _ r h => by simp [toruslaw04_ColumnDense.j0] at h, fun _ _ _ _ _ r h => by simp [toruslaw04_ColumnDense.l0] at h⟩
  | k + 1 => by
    obtain ⟨ih0, ih1⟩ := toruslaw04_ColumnDense.mono_l k
    refine ⟨?_, ?_⟩
    · intro y0 y1 y2 y3 y4
      unfold toruslaw04_ColumnDense.j0
      repeat' first
      | (with_reducible exact ih0 _ _ _ _ _)
      | (with_reducible exact ih1 _ _ _ _ _)
      | (with_reducible exact column_Coef.mono _ _ _)
      | (with_reducible exact column_Dense.mono _ _ _ _)
      | (with_reducible exact column_Of.mono _ _ _)
      | (with_reducible exact toruslaw04_is.mono _ _ _ _)
      | (with_reducible exact torusref01_Field.mono _ _)
      | (with_reducible exact torusref01_Mod.mono _ _ _)
      | (with_reducible exact torusref04_Fit.mono _ _ _ _)
      | (with_reducible exact LeO.refl _)
      | (with_reducible exact LeO.none _)
      | (with_reducible refine LeO.ite ?_ ?_)
      | (with_reducible refine LeO.bind ?_ (fun _ => ?_))
      | exact ih0 _ _ _ _ _
      | exact ih1 _ _ _ _ _
      | exact column_Coef.mono _ _ _
      | exact column_Dense.mono _ _ _ _
      | exact column_Of.mono _ _ _
      | exact toruslaw04_is.mono _ _ _ _
      | exact torusref01_Field.mono _ _
      | exact torusref01_Mod.mono _ _ _
      | exact torusref04_Fit.mono _ _ _ _
      | exact LeO.none _
      | refine LeO.ite ?_ ?_
      | refine LeO.bind ?_ (fun _ => ?_)
    · intro y0 y1 y2 y3 y4
      unfold toruslaw04_ColumnDense.l0
      repeat' first
      | (with_reducible exact ih0 _ _ _ _ _)
      | (with_reducible exact ih1 _ _ _ _ _)
      | (with_reducible exact column_Coef.mono _ _ _)
      | (with_reducible exact column_Dense.mono _ _ _ _)
      | (with_reducible exact column_Of.mono _ _ _)
      | (with_reducible exact toruslaw04_is.mono _ _ _ _)
      | (with_reducible exact torusref01_Field.mono _ _)
      | (with_reducible exact torusref01_Mod.mono _ _ _)
      | (with_reducible exact torusref04_Fit.mono _ _ _ _)
      | (with_reducible exact LeO.refl _)
      | (with_reducible exact LeO.none _)
      | (with_reducible refine LeO.ite ?_ ?_)
      | (with_reducible refine LeO.bind ?_ (fun _ => ?_))
      | exact ih0 _ _ _ _ _
      | exact ih1 _ _ _ _ _
      | exact column_Coef.mono _ _ _
      | exact column_Dense.mono _ _ _ _
      | exact column_Of.mono _ _ _
      | exact toruslaw04_is.mono _ _ _ _
      | exact torusref01_Field.mono _ _
      | exact torusref01_Mod.mono _ _ _
      | exact torusref04_Fit.mono _ _ _ _
      | exact LeO.none _
      | refine LeO.ite ?_ ?_
      | refine LeO.bind ?_ (fun _ => ?_)
theorem toruslaw04_ColumnDense.mono : ∀ a0 a1 a2 a3 k, LeO (toruslaw04_ColumnDense.f k a0 a1 a2 a3) (toruslaw04_ColumnDense.f (k + 1) a0 a1 a2 a3) := by
  intro a0 a1 a2 a3 k
  obtain ⟨ih0, ih1⟩ := toruslaw04_ColumnDense.mono_l k
  unfold toruslaw04_ColumnDense.f
  repeat' first
      | (with_reducible exact ih0 _ _ _ _ _)
      | (with_reducible exact ih1 _ _ _ _ _)
      | (with_reducible exact column_Coef.mono _ _ _)
      | (with_reducible exact column_Dense.mono _ _ _ _)
      | (with_reducible exact column_Of.mono _ _ _)
      | (with_reducible exact toruslaw04_is.mono _ _ _ _)
      | (with_reducible exact torusref01_Field.mono _ _)
      | (with_reducible exact torusref01_Mod.mono _ _ _)
      | (with_reducible exact torusref04_Fit.mono _ _ _ _)
      | (with_reducible exact LeO.refl _)
      | (with_reducible exact LeO.none _)
      | (with_reducible refine LeO.ite ?_ ?_)
      | (with_reducible refine LeO.bind ?_ (fun _ => ?_))
      | exact ih0 _ _ _ _ _
      | exact ih1 _ _ _ _ _
      | exact column_Coef.mono _ _ _
      | exact column_Dense.mono _ _ _ _
      | exact column_Of.mono _ _ _
      | exact toruslaw04_is.mono _ _ _ _
      | exact torusref01_Field.mono _ _
      | exact torusref01_Mod.mono _ _ _
      | exact torusref04_Fit.mono _ _ _ _
      | exact LeO.none _
      | refine LeO.ite ?_ ?_
      | refine LeO.bind ?_ (fun _ => ?_)
def toruslaw04_ColumnDense.T14 : Bool × List (List Nat × List Nat) := (true, [([], []), ([], []), ([0, 1], [0, 1]), ([2], [2]), ([], []), ([], []), ([], []), ([5, 6], [5, 6]), ([7], [7]), ([4, 8], [4, 8]), ([3, 9], [3, 9]), ([10, 9], [10]), ([11], [11]), ([11], [11]), ([12, 13, 11, 11], [11, 12, 13]), ([11], [11]), ([11], [11]), ([15, 16, 11], [11, 15, 16]), ([17, 11], [11, 17]), ([14, 18, 11], [11, 14, 18]), ([11, 19], [11, 19])])
def toruslaw04_ColumnDense.B14 : List Nat := [0, 0, 3, 7, 0, 0, 0, 96, 224, 496, 1023, 2047, 4095, 4095, 16383, 4095, 4095, 102399, 233471, 524287, 1048575]
theorem toruslaw04_ColumnDense.tab14 : rtab .any (opsOf Try.f10 14) = toruslaw04_ColumnDense.T14 := by kernel_rfl
theorem toruslaw04_ColumnDense.bits14 : waitsOk toruslaw04_ColumnDense.T14.2 toruslaw04_ColumnDense.B14 = true := by kernel_rfl
theorem toruslaw04_ColumnDense.j0_dead (k : Nat) (x0 : _) (x1 : _) (x2 : _) (x3 : _) : ¬ toruslaw04_ColumnDense.j0 k x0 x1 x2 x3 true = some true := by
  cases k <;> simp [toruslaw04_ColumnDense.j0]
set_option maxHeartbeats 8000000 in
set_option maxRecDepth 100000 in
theorem toruslaw04_ColumnDense.calls (k : Nat) (a0 : Int) (A1 : Option Addr) (c1 : Nat) (l1 : List (S45)) (a2 : Int) (A3 : Option Addr) (c3 : Nat) (l3 : List Int) (r : Bool) (w : World) (hr1 : Kd.C k45 w A1 l1.length l1) (hc1 : l1.length ≤ c1) (hr3 : Kd.C (Kd.int .i64) w A3 l3.length l3) (hc3 : l3.length ≤ c3) (h : toruslaw04_ColumnDense.f k a0 l1 a2 l3 = some r) (hrt : r = true) :
    Calls Try.prog 10 #[.int .i64 a0, .slice A1 l1.length c1, .int .u8 a2, .slice A3 l3.length c3] w fun e w' => e = .returned (.bool r) ∧ Below w.heap.size w w' := by
  have HR1 := Aside0.mk hr1
  have HC1 := Aside0.mk hc1
  clear hr1 hc1
  have HR3 := Aside0.mk hr3
  have HC3 := Aside0.mk hc3
  clear hr3 hc3
  have HB := Aside0.mk (Below.refl w.heap.size w)
  have H : (if (l3.length : Int) > 60 then ((toruslaw04_awake.f).bind fun t578 => (some t578)) else ((torusref01_Field.f k a0).bind fun t579 => ((torusref04_Fit.f k t579 l1 10).bind fun t580 => ((column_Dense.f k t579 t580 (wrap64 (10 + (wrap64 (Int.tmod a2 201))))).bind fun bt583 => ((column_Of.f k t579 bt583.1).bind fun bt587 => ((column_Of.f k t579 l3).bind fun bt591 => ((column_Dense.f k t579 bt591.1 (l3.length : Int)).bind fun bt595 => (if bt583.2 = 0 then (if (bt583.1.length : Int) = (wrap64 (10 + (wrap64 (Int.tmod a2 201)))) then ((toruslaw04_is.f k bt587.1 bt587.2 t580).bind fun t599 => (if t599 = true then (if bt591.2 = 0 then (if bt595.2 = 0 then (toruslaw04_ColumnDense.j0 k l3 t579 bt591.1 bt595.1 ((bt595.1.length : Int) != (l3.length : Int))) else (toruslaw04_ColumnDense.j0 k l3 t579 bt591.1 bt595.1 true)) else (toruslaw04_ColumnDense.j0 k l3 t579 bt591.1 bt595.1 true)) else (toruslaw04_ColumnDense.j0 k l3 t579 bt591.1 bt595.1 true))) else (toruslaw04_ColumnDense.j0 k l3 t579 bt591.1 bt595.1 true)) else (toruslaw04_ColumnDense.j0 k l3 t579 bt591.1 bt595.1 true))))))))) = some r := h
  clear h
  by_cases c5 : (l3.length : Int) > 60
  · rw [if_pos c5] at H
    have c5b0 : decide (60 < (l3.length : Int)) = true := decide_eq_true c5
    have c5b1 : decide (60 < l3.length) = true := decide_eq_true (by omega)
    clear c5
    replace H := Option.bind_eq_some_iff.mp H
    obtain ⟨t578, A60, H⟩ := H
    replace H : (some t578) = some r := H
    have A6 := Aside0.mk A60
    clear A60
    obtain rfl := Option.some.inj H
    go_enter Try.func10, Try.ntmps10
    go_wp2_with (first | ((with_reducible refine gate_callee (f := 19) rfl ?_); refine goesL_ (some 23) rfl rfl Try.func19 (by kernel_rfl) rfl #[] rfl (by (try simp only [List.map_toArray, List.map_cons, List.map_nil]); first | done | rfl | (simp only [List.length_drop, List.length_take]; rfl)) ?_; (with_reducible refine (toruslaw04_awake.calls  t578 _ A6.out).mono ?_); rintro e w7 ⟨rfl, hb⟩; refine ⟨_, rfl, ?_⟩; have n0_ := Aside0.mk (below_step (by repeat (first | (with_reducible first | exact HB.out | apply below_alloc | apply pw_below_drewN | apply below_drew1) | exact HB.out)) hb); clear HB; have HB := n0_; clear n0_; (try clear hb); (try clear hb2); (try clear hk); (try clear hi)))
    go_ret
    exact ⟨by first | rfl | (simp [errW_none, errW_some] <;> rfl) | (simp [*, errW_none, errW_some] <;> rfl), by repeat (first | (with_reducible first | exact HB.out | apply below_alloc | apply pw_below_drewN | apply below_drew1) | exact HB.out)⟩
  · rw [if_neg c5] at H
    have c5b0 : decide (60 < (l3.length : Int)) = false := decide_eq_false c5
    have c5b1 : decide (60 < l3.length) = false := decide_eq_false (by omega)
    clear c5
    replace H := Option.bind_eq_some_iff.mp H
    obtain ⟨t579, A80, H⟩ := H
    replace H : ((torusref04_Fit.f k t579 l1 10).bind fun t580 => ((column_Dense.f k t579 t580 (wrap64 (10 + (wrap64 (Int.tmod a2 201))))).bind fun bt583 => ((column_Of.f k t579 bt583.1).bind fun bt587 => ((column_Of.f k t579 l3).bind fun bt591 => ((column_Dense.f k t579 bt591.1 (l3.length : Int)).bind fun bt595 => (if bt583.2 = 0 then (if (bt583.1.length : Int) = (wrap64 (10 + (wrap64 (Int.tmod a2 201)))) then ((toruslaw04_is.f k bt587.1 bt587.2 t580).bind fun t599 => (if t599 = true then (if bt591.2 = 0 then (if bt595.2 = 0 then (toruslaw04_ColumnDense.j0 k l3 t579 bt591.1 bt595.1 ((bt595.1.length : Int) != (l3.length : Int))) else (toruslaw04_ColumnDense.j0 k l3 t579 bt591.1 bt595.1 true)) else (toruslaw04_ColumnDense.j0 k l3 t579 bt591.1 bt595.1 true)) else (toruslaw04_ColumnDense.j0 k l3 t579 bt591.1 bt595.1 true))) else (toruslaw04_ColumnDense.j0 k l3 t579 bt591.1 bt595.1 true)) else (toruslaw04_ColumnDense.j0 k l3 t579 bt591.1 bt595.1 true))))))) = some r := H
    have A8 := Aside0.mk A80
    clear A80
    replace H := Option.bind_eq_some_iff.mp H
    obtain ⟨t580, A90, H⟩ := H
    replace H : ((column_Dense.f k t579 t580 (wrap64 (10 + (wrap64 (Int.tmod a2 201))))).bind fun bt583 => ((column_Of.f k t579 bt583.1).bind fun bt587 => ((column_Of.f k t579 l3).bind fun bt591 => ((column_Dense.f k t579 bt591.1 (l3.length : Int)).bind fun bt595 => (if bt583.2 = 0 then (if (bt583.1.length : Int) = (wrap64 (10 + (wrap64 (Int.tmod a2 201)))) then ((toruslaw04_is.f k bt587.1 bt587.2 t580).bind fun t599 => (if t599 = true then (if bt591.2 = 0 then (if bt595.2 = 0 then (toruslaw04_ColumnDense.j0 k l3 t579 bt591.1 bt595.1 ((bt595.1.length : Int) != (l3.length : Int))) else (toruslaw04_ColumnDense.j0 k l3 t579 bt591.1 bt595.1 true)) else (toruslaw04_ColumnDense.j0 k l3 t579 bt591.1 bt595.1 true)) else (toruslaw04_ColumnDense.j0 k l3 t579 bt591.1 bt595.1 true))) else (toruslaw04_ColumnDense.j0 k l3 t579 bt591.1 bt595.1 true)) else (toruslaw04_ColumnDense.j0 k l3 t579 bt591.1 bt595.1 true)))))) = some r := H
    have A9 := Aside0.mk A90
    clear A90
    replace H := Option.bind_eq_some_iff.mp H
    obtain ⟨⟨t583, t584⟩, A100, H⟩ := H
    replace H : ((column_Of.f k t579 t583).bind fun bt587 => ((column_Of.f k t579 l3).bind fun bt591 => ((column_Dense.f k t579 bt591.1 (l3.length : Int)).bind fun bt595 => (if t584 = 0 then (if (t583.length : Int) = (wrap64 (10 + (wrap64 (Int.tmod a2 201)))) then ((toruslaw04_is.f k bt587.1 bt587.2 t580).bind fun t599 => (if t599 = true then (if bt591.2 = 0 then (if bt595.2 = 0 then (toruslaw04_ColumnDense.j0 k l3 t579 bt591.1 bt595.1 ((bt595.1.length : Int) != (l3.length : Int))) else (toruslaw04_ColumnDense.j0 k l3 t579 bt591.1 bt595.1 true)) else (toruslaw04_ColumnDense.j0 k l3 t579 bt591.1 bt595.1 true)) else (toruslaw04_ColumnDense.j0 k l3 t579 bt591.1 bt595.1 true))) else (toruslaw04_ColumnDense.j0 k l3 t579 bt591.1 bt595.1 true)) else (toruslaw04_ColumnDense.j0 k l3 t579 bt591.1 bt595.1 true))))) = some r := H
    have A10 := Aside0.mk A100
    clear A100
    replace H := Option.bind_eq_some_iff.mp H
    obtain ⟨⟨t587, t588⟩, A110, H⟩ := H
    replace H : ((column_Of.f k t579 l3).bind fun bt591 => ((column_Dense.f k t579 bt591.1 (l3.length : Int)).bind fun bt595 => (if t584 = 0 then (if (t583.length : Int) = (wrap64 (10 + (wrap64 (Int.tmod a2 201)))) then ((toruslaw04_is.f k t587 t588 t580).bind fun t599 => (if t599 = true then (if bt591.2 = 0 then (if bt595.2 = 0 then (toruslaw04_ColumnDense.j0 k l3 t579 bt591.1 bt595.1 ((bt595.1.length : Int) != (l3.length : Int))) else (toruslaw04_ColumnDense.j0 k l3 t579 bt591.1 bt595.1 true)) else (toruslaw04_ColumnDense.j0 k l3 t579 bt591.1 bt595.1 true)) else (toruslaw04_ColumnDense.j0 k l3 t579 bt591.1 bt595.1 true))) else (toruslaw04_ColumnDense.j0 k l3 t579 bt591.1 bt595.1 true)) else (toruslaw04_ColumnDense.j0 k l3 t579 bt591.1 bt595.1 true)))) = some r := H
    have A11 := Aside0.mk A110
    clear A110
    replace H := Option.bind_eq_some_iff.mp H
    obtain ⟨⟨t591, t592⟩, A120, H⟩ := H
    replace H : ((column_Dense.f k t579 t591 (l3.length : Int)).bind fun bt595 => (if t584 = 0 then (if (t583.length : Int) = (wrap64 (10 + (wrap64 (Int.tmod a2 201)))) then ((toruslaw04_is.f k t587 t588 t580).bind fun t599 => (if t599 = true then (if t592 = 0 then (if bt595.2 = 0 then (toruslaw04_ColumnDense.j0 k l3 t579 t591 bt595.1 ((bt595.1.length : Int) != (l3.length : Int))) else (toruslaw04_ColumnDense.j0 k l3 t579 t591 bt595.1 true)) else (toruslaw04_ColumnDense.j0 k l3 t579 t591 bt595.1 true)) else (toruslaw04_ColumnDense.j0 k l3 t579 t591 bt595.1 true))) else (toruslaw04_ColumnDense.j0 k l3 t579 t591 bt595.1 true)) else (toruslaw04_ColumnDense.j0 k l3 t579 t591 bt595.1 true))) = some r := H
    have A12 := Aside0.mk A120
    clear A120
    replace H := Option.bind_eq_some_iff.mp H
    obtain ⟨⟨t595, t596⟩, A130, H⟩ := H
    replace H : (if t584 = 0 then (if (t583.length : Int) = (wrap64 (10 + (wrap64 (Int.tmod a2 201)))) then ((toruslaw04_is.f k t587 t588 t580).bind fun t599 => (if t599 = true then (if t592 = 0 then (if t596 = 0 then (toruslaw04_ColumnDense.j0 k l3 t579 t591 t595 ((t595.length : Int) != (l3.length : Int))) else (toruslaw04_ColumnDense.j0 k l3 t579 t591 t595 true)) else (toruslaw04_ColumnDense.j0 k l3 t579 t591 t595 true)) else (toruslaw04_ColumnDense.j0 k l3 t579 t591 t595 true))) else (toruslaw04_ColumnDense.j0 k l3 t579 t591 t595 true)) else (toruslaw04_ColumnDense.j0 k l3 t579 t591 t595 true)) = some r := H
    have A13 := Aside0.mk A130
    clear A130
    have HC14 := Aside0.mk H
    clear H
    go_enter Try.func10, Try.ntmps10
    go_upto_region 9 with (first | ((with_reducible refine gate_callee (f := 12) rfl ?_); refine goesL_ (some 25) rfl rfl Try.func12 (by kernel_rfl) rfl #[.int .i64 a0] rfl (by (try simp only [List.map_toArray, List.map_cons, List.map_nil]); first | done | rfl | (simp only [List.length_drop, List.length_take]; rfl)) ?_; (with_reducible refine (torusref01_Field.calls k a0 t579 _ A8.out).mono ?_); rintro e w15 ⟨rfl, hb⟩; refine ⟨_, rfl, ?_⟩; have n0_ := Aside0.mk (below_step (by repeat (first | (with_reducible first | exact HB.out | apply below_alloc | apply pw_below_drewN | apply below_drew1) | exact HB.out)) hb); clear HB; have HB := n0_; clear n0_; (try clear hb); (try clear hb2); (try clear hk); (try clear hi)) | ((with_reducible refine gate_callee (f := 13) rfl ?_); refine goesL_ (some 28) rfl rfl Try.func13 (by kernel_rfl) rfl #[.int .i64 t579, .slice A1 l1.length c1, .int .i64 10] rfl (by (try simp only [List.map_toArray, List.map_cons, List.map_nil]); first | done | rfl | (simp only [List.length_drop, List.length_take]; rfl)) ?_; (with_reducible refine (torusref04_Fit.calls k t579 _ _ l1 10 t580 _ ?side1 ?side2 A9.out).mono ?_); (case side1 => repeat (first | exact (Kd.C_below HR1.out HB.out) | (with_reducible refine Kd.C_alloc ?_ _) | (with_reducible refine Kd.C_drewN ?_ _) | (with_reducible refine Kd.C_drew ?_))); (case side2 => exact HC1.out); rintro e w16 ⟨v581, rfl, ho0, hb⟩; refine ⟨_, rfl, ?_⟩; have n0_ := Aside0.mk (Kd.R_lower ho0 (below_size (by repeat (first | (with_reducible first | exact HB.out | apply below_alloc | apply pw_below_drewN | apply below_drew1) | exact HB.out)))); have n1_ := Aside0.mk (below_step (by repeat (first | (with_reducible first | exact HB.out | apply below_alloc | apply pw_below_drewN | apply below_drew1) | exact HB.out)) hb); clear HB; have HO582 := n0_; have HB := n1_; clear n0_ n1_; (try clear hb); (try clear hb2); (try clear hk); (try clear hi); (try clear ho0); obtain ⟨Ao17, co17, eo17⟩ := Kd.R_slice HO582.out; subst eo17) | ((with_reducible refine gate_callee (f := 34) rfl ?_); refine goesL_ (some 36) rfl rfl Try.func34 (by kernel_rfl) rfl #[.int .i64 t579, .slice Ao17 t580.length co17, .int .i64 (wrap64 (10 + (wrap64 (Int.tmod a2 201))))] rfl (by (try simp only [List.map_toArray, List.map_cons, List.map_nil]); first | done | rfl | (simp only [List.length_drop, List.length_take]; rfl)) ?_; (with_reducible refine (column_Dense.calls k t579 _ _ t580 (wrap64 (10 + (wrap64 (Int.tmod a2 201)))) t583 t584 _ ?side1 ?side2 A10.out).mono ?_); (case side1 => repeat (first | exact (Kd.R_reads' HO582.out).2.2 | (with_reducible refine Kd.C_alloc ?_ _) | (with_reducible refine Kd.C_drewN ?_ _) | (with_reducible refine Kd.C_drew ?_))); (case side2 => exact (Kd.R_reads' HO582.out).2.1); rintro e w18 ⟨v585, rfl, ho0, hb⟩; refine ⟨_, rfl, ?_⟩; have n0_ := Aside0.mk (Kd.R_below (by (with_reducible repeat (first | apply Kd.R_alloc | apply Kd.R_drewN | apply Kd.R_drew)); exact HO582.out) hb); have n1_ := Aside0.mk (Kd.R_lower ho0 (below_size (by repeat (first | (with_reducible first | exact HB.out | apply below_alloc | apply pw_below_drewN | apply below_drew1) | exact HB.out)))); have n2_ := Aside0.mk (below_step (by repeat (first | (with_reducible first | exact HB.out | apply below_alloc | apply pw_below_drewN | apply below_drew1) | exact HB.out)) hb); clear HO582; clear HB; have HO582 := n0_; have HO586 := n1_; have HB := n2_; clear n0_ n1_ n2_; (try clear hb); (try clear hb2); (try clear hk); (try clear hi); (try clear ho0); obtain ⟨Ao19, co19, eo19⟩ := Kd.R_slice HO586.out; subst eo19) | ((with_reducible refine gate_callee (f := 32) rfl ?_); refine goesL_ (some 42) rfl rfl Try.func32 (by kernel_rfl) rfl #[.int .i64 t579, .slice Ao19 t583.length co19] rfl (by (try simp only [List.map_toArray, List.map_cons, List.map_nil]); first | done | rfl | (simp only [List.length_drop, List.length_take]; rfl)) ?_; (with_reducible refine (column_Of.calls k t579 _ _ t583 t587 t588 _ ?side1 ?side2 A11.out).mono ?_); (case side1 => repeat (first | exact (Kd.R_reads' HO586.out).2.2 | (with_reducible refine Kd.C_alloc ?_ _) | (with_reducible refine Kd.C_drewN ?_ _) | (with_reducible refine Kd.C_drew ?_))); (case side2 => exact (Kd.R_reads' HO586.out).2.1); rintro e w20 ⟨v589, rfl, ho0, hb⟩; refine ⟨_, rfl, ?_⟩; have n0_ := Aside0.mk (Kd.R_elder' (by (with_reducible repeat (first | apply Kd.R_alloc | apply Kd.R_drewN | apply Kd.R_drew)); exact HO582.out) (Kd.R_base ho0) hb); have n1_ := Aside0.mk (Kd.R_below (by (with_reducible repeat (first | apply Kd.R_alloc | apply Kd.R_drewN | apply Kd.R_drew)); exact HO586.out) hb); have n2_ := Aside0.mk (Kd.R_lower (Kd.R_new' ho0 (Kd.R_lt (by (with_reducible repeat (first | apply Kd.R_alloc | apply Kd.R_drewN | apply Kd.R_drew)); exact HO582.out))) (below_size (by repeat (first | (with_reducible first | exact HB.out | apply below_alloc | apply pw_below_drewN | apply below_drew1) | exact HB.out)))); have n3_ := Aside0.mk (below_step (by repeat (first | (with_reducible first | exact HB.out | apply below_alloc | apply pw_below_drewN | apply below_drew1) | exact HB.out)) hb); clear HO582; clear HO586; clear HB; have HO582 := n0_; have HO586 := n1_; have HO590 := n2_; have HB := n3_; clear n0_ n1_ n2_ n3_; (try clear hb); (try clear hb2); (try clear hk); (try clear hi); (try clear ho0)) | ((with_reducible refine gate_callee (f := 32) rfl ?_); refine goesL_ (some 48) rfl rfl Try.func32 (by kernel_rfl) rfl #[.int .i64 t579, .slice A3 l3.length c3] rfl (by (try simp only [List.map_toArray, List.map_cons, List.map_nil]); first | done | rfl | (simp only [List.length_drop, List.length_take]; rfl)) ?_; (with_reducible refine (column_Of.calls k t579 _ _ l3 t591 t592 _ ?side1 ?side2 A12.out).mono ?_); (case side1 => repeat (first | exact (Kd.C_below HR3.out HB.out) | (with_reducible refine Kd.C_alloc ?_ _) | (with_reducible refine Kd.C_drewN ?_ _) | (with_reducible refine Kd.C_drew ?_))); (case side2 => exact HC3.out); rintro e w21 ⟨v593, rfl, ho0, hb⟩; refine ⟨_, rfl, ?_⟩; have n0_ := Aside0.mk (Kd.R_elder' (by (with_reducible repeat (first | apply Kd.R_alloc | apply Kd.R_drewN | apply Kd.R_drew)); exact HO582.out) (Kd.R_base ho0) hb); have n1_ := Aside0.mk (Kd.R_below (by (with_reducible repeat (first | apply Kd.R_alloc | apply Kd.R_drewN | apply Kd.R_drew)); exact HO586.out) hb); have n2_ := Aside0.mk (Kd.R_elder' (by (with_reducible repeat (first | apply Kd.R_alloc | apply Kd.R_drewN | apply Kd.R_drew)); exact HO590.out) (Kd.R_base ho0) hb); have n3_ := Aside0.mk (Kd.R_lower (Kd.R_new' (Kd.R_new' ho0 (Kd.R_lt (by (with_reducible repeat (first | apply Kd.R_alloc | apply Kd.R_drewN | apply Kd.R_drew)); exact HO582.out))) (Kd.R_lt (by (with_reducible repeat (first | apply Kd.R_alloc | apply Kd.R_drewN | apply Kd.R_drew)); exact HO590.out))) (below_size (by repeat (first | (with_reducible first | exact HB.out | apply below_alloc | apply pw_below_drewN | apply below_drew1) | exact HB.out)))); have n4_ := Aside0.mk (below_step (by repeat (first | (with_reducible first | exact HB.out | apply below_alloc | apply pw_below_drewN | apply below_drew1) | exact HB.out)) hb); clear HO582; clear HO586; clear HO590; clear HB; have HO582 := n0_; have HO586 := n1_; have HO590 := n2_; have HO594 := n3_; have HB := n4_; clear n0_ n1_ n2_ n3_ n4_; (try clear hb); (try clear hb2); (try clear hk); (try clear hi); (try clear ho0); obtain ⟨Ao22, co22, eo22⟩ := Kd.R_slice HO594.out; subst eo22) | ((with_reducible refine gate_callee (f := 34) rfl ?_); refine goesL_ (some 56) rfl rfl Try.func34 (by kernel_rfl) rfl #[.int .i64 t579, .slice Ao22 t591.length co22, .int .i64 (l3.length : Int)] rfl (by (try simp only [List.map_toArray, List.map_cons, List.map_nil]); first | done | rfl | (simp only [List.length_drop, List.length_take]; rfl)) ?_; (with_reducible refine (column_Dense.calls k t579 _ _ t591 (l3.length : Int) t595 t596 _ ?side1 ?side2 A13.out).mono ?_); (case side1 => repeat (first | exact (Kd.R_reads' HO594.out).2.2 | (with_reducible refine Kd.C_alloc ?_ _) | (with_reducible refine Kd.C_drewN ?_ _) | (with_reducible refine Kd.C_drew ?_))); (case side2 => exact (Kd.R_reads' HO594.out).2.1); rintro e w23 ⟨v597, rfl, ho0, hb⟩; refine ⟨_, rfl, ?_⟩; have n0_ := Aside0.mk (Kd.R_below (by (with_reducible repeat (first | apply Kd.R_alloc | apply Kd.R_drewN | apply Kd.R_drew)); exact HO582.out) hb); have n1_ := Aside0.mk (Kd.R_elder' (by (with_reducible repeat (first | apply Kd.R_alloc | apply Kd.R_drewN | apply Kd.R_drew)); exact HO586.out) (Kd.R_base ho0) hb); have n2_ := Aside0.mk (Kd.R_below (by (with_reducible repeat (first | apply Kd.R_alloc | apply Kd.R_drewN | apply Kd.R_drew)); exact HO590.out) hb); have n3_ := Aside0.mk (Kd.R_below (by (with_reducible repeat (first | apply Kd.R_alloc | apply Kd.R_drewN | apply Kd.R_drew)); exact HO594.out) hb); have n4_ := Aside0.mk (Kd.R_lower (Kd.R_new' ho0 (Kd.R_lt (by (with_reducible repeat (first | apply Kd.R_alloc | apply Kd.R_drewN | apply Kd.R_drew)); exact HO586.out))) (below_size (by repeat (first | (with_reducible first | exact HB.out | apply below_alloc | apply pw_below_drewN | apply below_drew1) | exact HB.out)))); have n5_ := Aside0.mk (below_step (by repeat (first | (with_reducible first | exact HB.out | apply below_alloc | apply pw_below_drewN | apply below_drew1) | exact HB.out)) hb); clear HO582; clear HO586; clear HO590; clear HO594; clear HB; have HO582 := n0_; have HO586 := n1_; have HO590 := n2_; have HO594 := n3_; have HO598 := n4_; have HB := n5_; clear n0_ n1_ n2_ n3_ n4_ n5_; (try clear hb); (try clear hb2); (try clear hk); (try clear hi); (try clear ho0)))
    (try simp only [Act.put, List.setIfInBounds_toArray, List.set_cons_zero, List.set_cons_succ])
    go_cut [91] (fun v91 wc => ∃ (kq : Nat) (x91_13 : Bool), v91 = .bool x91_13 ∧ Aside0 (toruslaw04_ColumnDense.j0 kq l3 t579 t591 t595 x91_13 = some r) ∧ Aside0 (kq ≤ k) ∧ Aside0 (Kd.R k45 45 wc w.heap.size (fun _ => True) (.slice Ao22 t591.length co22) t591) ∧ Aside0 (Kd.R (Kd.int .i64) 3 wc w.heap.size (fun _ => True) v597 t595) ∧ Aside0 (Below w.heap.size w wc))
    case first =>
      have H := HC14.out
      clear HC14
      by_cases c24 : t584 = 0
      · rw [if_pos c24] at H
        have c24b0 : (t584 == 0) = true := beq_iff_eq.mpr c24
        have c24b1 : (t584 != 0) = false := bne_eq_false_iff_eq.mpr c24
        clear c24
        (first | rw [c24b0] | (simp only [i64_w, i32_w]; rw [c24b0]) | skip)
        by_cases c25 : (t583.length : Int) = (wrap64 (10 + (wrap64 (Int.tmod a2 201))))
        · rw [if_pos c25] at H
          have c25b0 : ((t583.length : Int) == (wrap64 (10 + (wrap64 (Int.tmod a2 201))))) = true := beq_iff_eq.mpr c25
          have c25b1 : ((t583.length : Int) != (wrap64 (10 + (wrap64 (Int.tmod a2 201))))) = false := bne_eq_false_iff_eq.mpr c25
          clear c25
          replace H := Option.bind_eq_some_iff.mp H
          obtain ⟨t599, A260, H⟩ := H
          replace H : (if t599 = true then (if t592 = 0 then (if t596 = 0 then (toruslaw04_ColumnDense.j0 k l3 t579 t591 t595 ((t595.length : Int) != (l3.length : Int))) else (toruslaw04_ColumnDense.j0 k l3 t579 t591 t595 true)) else (toruslaw04_ColumnDense.j0 k l3 t579 t591 t595 true)) else (toruslaw04_ColumnDense.j0 k l3 t579 t591 t595 true)) = some r := H
          have A26 := Aside0.mk A260
          clear A260
          by_cases c27 : t599 = true
          · subst c27
            have H1 : (if t592 = 0 then (if t596 = 0 then (toruslaw04_ColumnDense.j0 k l3 t579 t591 t595 ((t595.length : Int) != (l3.length : Int))) else (toruslaw04_ColumnDense.j0 k l3 t579 t591 t595 true)) else (toruslaw04_ColumnDense.j0 k l3 t579 t591 t595 true)) = some r := by rw [if_pos rfl] at H; exact H
            clear H
            have H := H1
            clear H1
            by_cases c28 : t592 = 0
            · rw [if_pos c28] at H
              have c28b0 : (t592 == 0) = true := beq_iff_eq.mpr c28
              have c28b1 : (t592 != 0) = false := bne_eq_false_iff_eq.mpr c28
              clear c28
              by_cases c29 : t596 = 0
              · rw [if_pos c29] at H
                have c29b0 : (t596 == 0) = true := beq_iff_eq.mpr c29
                have c29b1 : (t596 != 0) = false := bne_eq_false_iff_eq.mpr c29
                clear c29
                have H' := Aside0.mk H
                clear H
                obtain ⟨Ao30, co30, eo30⟩ := Kd.R_slice HO590.out
                subst eo30
                go_wp2_with (first | (go_at_call 50; (with_reducible refine (toruslaw04_is.calls k _ _ t587 t588 _ _ t580 true _ ?side1 ?side2 ?side3 ?side4 A26.out).mono ?_); (case side1 => repeat (first | exact (Kd.R_reads' HO590.out).2.2 | (with_reducible refine Kd.C_alloc ?_ _) | (with_reducible refine Kd.C_drewN ?_ _) | (with_reducible refine Kd.C_drew ?_))); (case side2 => exact (Kd.R_reads' HO590.out).2.1); (case side3 => repeat (first | exact (Kd.R_reads' HO582.out).2.2 | (with_reducible refine Kd.C_alloc ?_ _) | (with_reducible refine Kd.C_drewN ?_ _) | (with_reducible refine Kd.C_drew ?_))); (case side4 => exact (Kd.R_reads' HO582.out).2.1); rintro e w' ⟨rfl, ⟨nd, rfl⟩⟩; obtain ⟨Ao31, co31, eo31⟩ := Kd.R_slice HO598.out; subst eo31))
                go_meet
                case rel => exact ⟨_, (((t595.length : Int) != (l3.length : Int))), (by first | rfl | (simp; done) | (simp [*]; done)), H', ⟨by first | omega | exact Nat.le_refl _⟩, ⟨by (with_reducible repeat (first | apply Kd.R_alloc | apply Kd.R_drewN | apply Kd.R_drew)); exact Kd.R_mono HO594.out (fun _ hk => trivial)⟩, ⟨by (with_reducible repeat (first | apply Kd.R_alloc | apply Kd.R_drewN | apply Kd.R_drew)); exact Kd.R_mono HO598.out (fun _ hk => trivial)⟩, ⟨by repeat (first | (with_reducible first | exact HB.out | apply below_alloc | apply pw_below_drewN | apply below_drew1) | exact HB.out)⟩⟩
              · rw [if_neg c29] at H
                exact absurd H (by rw [hrt]; exact toruslaw04_ColumnDense.j0_dead _ _ _ _ _)
            · rw [if_neg c28] at H
              exact absurd H (by rw [hrt]; exact toruslaw04_ColumnDense.j0_dead _ _ _ _ _)
          · replace c27 := Bool.eq_false_iff.mpr c27
            subst c27
            have H1 : (toruslaw04_ColumnDense.j0 k l3 t579 t591 t595 true) = some r := by rw [if_neg (show ¬ (false = true) by decide)] at H; exact H
            clear H
            have H := H1
            clear H1
            exact absurd H (by rw [hrt]; exact toruslaw04_ColumnDense.j0_dead _ _ _ _ _)
        · rw [if_neg c25] at H
          exact absurd H (by rw [hrt]; exact toruslaw04_ColumnDense.j0_dead _ _ _ _ _)
      · rw [if_neg c24] at H
        exact absurd H (by rw [hrt]; exact toruslaw04_ColumnDense.j0_dead _ _ _ _ _)
    case rest =>
      clear HC14
      try clear c1
      try clear c2
      try clear p2
      try clear c3
      try clear c5
      try clear c5b0
      try clear c5b1
      try clear p6
      try clear c10
      try clear c12
      try clear c13
      try clear c19
      try clear c24
      try clear c24b0
      try clear c24b1
      try clear c25
      try clear c25b0
      try clear c25b1
      try clear c27
      try clear c28
      try clear c28b0
      try clear c28b1
      try clear c29
      try clear c29b0
      try clear c29b1
      try clear c32
      try clear c34
      obtain ⟨kq, x91_13, rfl, HA, HJ13, HO_15, HO_17, HB⟩ := hcut
      cases kq with
      | zero => exact absurd HA.out (by simp [toruslaw04_ColumnDense.j0])
      | succ kj13 =>
        have H := HA.out
        clear HA
        simp only [toruslaw04_ColumnDense.j0] at H
        by_cases c35 : x91_13 = true
        · subst c35
          have H1 : (some false) = some r := by rw [if_pos rfl] at H; exact H
          clear H
          have H := H1
          clear H1
          exact absurd (Option.some.inj H) (by rw [hrt]; exact Bool.false_ne_true)
        · replace c35 := Bool.eq_false_iff.mpr c35
          subst c35
          have H1 : (toruslaw04_ColumnDense.l0 kj13 l3 t579 t591 t595 0) = some r := by rw [if_neg (show ¬ (false = true) by decide)] at H; exact H
          clear H
          have H := H1
          clear H1
          have H' := Aside0.mk H
          clear H
          go_wp2
          go_loopg [19] kj13 (fun kq v19 w' => ∃ (x19_2 : Int), v19 = .int .i64 x19_2 ∧ Aside0 (toruslaw04_ColumnDense.l0 kq l3 t579 t591 t595 x19_2 = some r) ∧ Aside0 (kq ≤ kj13) ∧ Aside0 (Kd.R k45 45 w' w.heap.size (fun _ => True) (.slice Ao22 t591.length co22) t591) ∧ Aside0 (Kd.R (Kd.int .i64) 3 w' w.heap.size (fun _ => True) v597 t595) ∧ Aside0 (Below w.heap.size w w'))
          case atStart => exact ⟨(0), (by first | rfl | (simp; done) | (simp [*]; done)), H', ⟨Nat.le_refl _⟩, ⟨by (with_reducible repeat (first | apply Kd.R_alloc | apply Kd.R_drewN | apply Kd.R_drew)); exact HO_15.out⟩, ⟨by (with_reducible repeat (first | apply Kd.R_alloc | apply Kd.R_drewN | apply Kd.R_drew)); exact HO_17.out⟩, ⟨by repeat (first | (with_reducible first | exact HB.out | apply below_alloc | apply pw_below_drewN | apply below_drew1) | exact HB.out)⟩⟩
          case round =>
            clear H'
            try clear c1
            try clear c2
            try clear p2
            try clear c3
            try clear c5
            try clear c5b0
            try clear c5b1
            try clear p6
            try clear c10
            try clear c12
            try clear c13
            try clear c19
            try clear c24
            try clear c24b0
            try clear c24b1
            try clear c25
            try clear c25b0
            try clear c25b1
            try clear c27
            try clear c28
            try clear c28b0
            try clear c28b1
            try clear c29
            try clear c29b0
            try clear c29b1
            try clear c32
            try clear c34
            try clear c35
            try clear p2
            try clear p6
            obtain ⟨x19_2, rfl, HA, HK2, HO_15, HO_17, HB⟩ := hrel
            cases gk with
            | zero => exact absurd HA.out (by simp [toruslaw04_ColumnDense.l0])
            | succ k2 =>
              have H := HA.out
              clear HA
              simp only [toruslaw04_ColumnDense.l0] at H
              by_cases c36 : x19_2 < (l3.length : Int)
              · rw [if_pos c36] at H
                have c36b0 : decide (x19_2 < (l3.length : Int)) = true := decide_eq_true c36
                clear c36
                by_cases c37 : 0 ≤ x19_2
                · rw [if_pos c37] at H
                  have c37b0 : decide (0 ≤ x19_2) = true := decide_eq_true c37
                  clear c37
                  by_cases c38 : x19_2 < (t595.length : Int)
                  · rw [if_pos c38] at H
                    have c38b0 : decide (x19_2 < (t595.length : Int)) = true := decide_eq_true c38
                    clear c38
                    replace H := Option.bind_eq_some_iff.mp H
                    obtain ⟨t603, A390, H⟩ := H
                    replace H : (if (rd t595 x19_2) = t603 then ((column_Coef.f k2 t591 x19_2).bind fun t604 => (if t604 = (rd t595 x19_2) then (toruslaw04_ColumnDense.l0 k2 l3 t579 t591 t595 (wrap64 (x19_2 + 1))) else (some false))) else (some false)) = some r := H
                    have A39 := Aside0.mk A390
                    clear A390
                    by_cases c40 : (rd t595 x19_2) = t603
                    · rw [if_pos c40] at H
                      have c40b0 : ((rd t595 x19_2) == t603) = true := beq_iff_eq.mpr c40
                      have c40b1 : ((rd t595 x19_2) != t603) = false := bne_eq_false_iff_eq.mpr c40
                      clear c40
                      replace H := Option.bind_eq_some_iff.mp H
                      obtain ⟨t604, A410, H⟩ := H
                      replace H : (if t604 = (rd t595 x19_2) then (toruslaw04_ColumnDense.l0 k2 l3 t579 t591 t595 (wrap64 (x19_2 + 1))) else (some false)) = some r := H
                      have A41 := Aside0.mk A410
                      clear A410
                      by_cases c42 : t604 = (rd t595 x19_2)
                      · rw [if_pos c42] at H
                        have c42b0 : (t604 == (rd t595 x19_2)) = true := beq_iff_eq.mpr c42
                        have c42b1 : (t604 != (rd t595 x19_2)) = false := bne_eq_false_iff_eq.mpr c42
                        clear c42
                        have H' := Aside0.mk H
                        clear H
                        try go_wp2
                        have n0_ := Aside0.mk (Kd.R_drew HO_15.out)
                        have n1_ := Aside0.mk (Kd.R_drew HO_17.out)
                        have n2_ := Aside0.mk (below_drew1 HB.out)
                        clear HO_15
                        clear HO_17
                        clear HB
                        have HO_15 := n0_
                        have HO_17 := n1_
                        have HB := n2_
                        clear n0_ n1_ n2_
                        obtain ⟨Ao44, co44, eo44⟩ := Kd.R_slice HO_17.out
                        (first | subst eo44 | (injection eo44 with f1_ f2_ f3_; have f4_ := f1_.symm; have f5_ := f3_.symm; clear f1_ f2_ f3_; subst f4_; subst f5_))
                        have p601 : 0 ≤ (x19_2 : Int) := of_decide_eq_true (by first | (with_reducible assumption) | assumption)
                        have q601 : x19_2 < (t595.length : Int) := of_decide_eq_true (by first | (with_reducible assumption) | assumption)
                        obtain ⟨ad601, e601, hx601_0⟩ := Kd.at_int (Kd.R_reads' HO_17.out).2.2 x19_2 p601 q601
                        cases e601
                        replace p601 := eq_true p601
                        replace q601 := eq_true q601
                        have p602 : 0 ≤ (x19_2 : Int) := of_decide_eq_true (by first | (with_reducible assumption) | assumption)
                        have q602 : x19_2 < (l3.length : Int) := of_decide_eq_true (by first | (with_reducible assumption) | assumption)
                        obtain ⟨ad602, e602, hx602_0⟩ := Kd.at_int HR3.out x19_2 p602 q602
                        have hw602_0 := hx602_0
                        cases e602
                        replace hx602_0 := (HB.out.cell (World.block_lt_of_cell? w _ hx602_0)).trans hx602_0
                        replace p602 := eq_true p602
                        replace q602 := eq_true q602
                        have p605 : 0 ≤ (x19_2 : Int) := of_decide_eq_true (by first | (with_reducible assumption) | assumption)
                        have q605 : x19_2 < (t595.length : Int) := of_decide_eq_true (by first | (with_reducible assumption) | assumption)
                        obtain ⟨ad605, e605, hx605_0⟩ := Kd.at_int (Kd.R_reads' HO_17.out).2.2 x19_2 p605 q605
                        obtain rfl : ad601 = ad605 := (by injection e605)
                        replace p605 := eq_true p605
                        replace q605 := eq_true q605
                        refine start_ (n := 21) (S := fun w' => w'.cell? (ad601.add (x19_2).toNat) = some (.int .i64 (rd t595 x19_2)) ∧ w'.cell? (ad602.add (x19_2).toNat) = some (.int .i64 (rd l3 x19_2)) ∧ w'.cell? (ad601.add (x19_2).toNat) = some (.int .i64 (rd t595 x19_2))) (ds := []) #[false, false, false, false, false, false, false, false, false, false, false, false, false, false, false, false, false, false, false, false, false] (by kernel_rfl) rfl rfl ⟨hx601_0, ((HB.out.cell (World.block_lt_of_cell? w _ hw602_0)).trans hw602_0), hx605_0⟩ (fun hHeld => ?_); refine with_tabW toruslaw04_ColumnDense.tab14 toruslaw04_ColumnDense.bits14 (fun HT_ HW_ => ?_)
                        generalize wr.drew = w43 at HO_15 HO_17 HB hx601_0 hx602_0 hx605_0 hHeld ⊢
                        refine pure_ (i := 0) (N := some 98) (v := ?_) (a' := ?_) #[true, false, false, false, false, false, false, false, false, false, false, false, false, false, false, false, false, false, false, false, false] rfl rfl (any_of HT_.out (by kernel_rfl)) (fun _ _ _ h => h) (Or.inl ⟨by rfl, ?_⟩) ?_ ?_
                        rotate_left
                        · intro w'
                          go_simp
                          with_reducible rfl
                        rotate_left
                        · simp only [Act.put, List.setIfInBounds_toArray, List.set_cons_zero, List.set_cons_succ, i64_w, i32_w]
                          rfl
                        refine pure_ (i := 1) (N := some 99) (v := ?_) (a' := ?_) #[true, true, false, false, false, false, false, false, false, false, false, false, false, false, false, false, false, false, false, false, false] rfl rfl (any_of HT_.out (by kernel_rfl)) (fun _ _ _ h => h) (Or.inl ⟨by rfl, ?_⟩) ?_ ?_
                        rotate_left
                        · intro w'
                          go_simp
                          with_reducible rfl
                        rotate_left
                        · simp only [Act.put, List.setIfInBounds_toArray, List.set_cons_zero, List.set_cons_succ, i64_w, i32_w]
                          rfl
                        refine pure_ (i := 2) (N := some 100) (v := ?_) (a' := ?_) #[true, true, true, false, false, false, false, false, false, false, false, false, false, false, false, false, false, false, false, false, false] rfl rfl (any_of HT_.out (by kernel_rfl)) (fun _ _ _ h => h) (Or.inl ⟨by rfl, ?_⟩) ?_ ?_
                        rotate_left
                        · intro w'
                          go_simp
                          with_reducible rfl
                        rotate_left
                        · simp only [Act.put, List.setIfInBounds_toArray, List.set_cons_zero, List.set_cons_succ, i64_w, i32_w]
                          rfl
                        refine pure_ (i := 4) (N := some 102) (v := ?_) (a' := ?_) #[true, true, true, false, true, false, false, false, false, false, false, false, false, false, false, false, false, false, false, false, false] rfl rfl (any_of HT_.out (by kernel_rfl)) (fun _ _ _ h => h) (Or.inl ⟨by rfl, ?_⟩) ?_ ?_
                        rotate_left
                        · intro w'
                          go_simp
                          with_reducible rfl
                        rotate_left
                        · simp only [Act.put, List.setIfInBounds_toArray, List.set_cons_zero, List.set_cons_succ, i64_w, i32_w]
                          rfl
                        refine pure_ (i := 5) (N := some 103) (v := ?_) (a' := ?_) #[true, true, true, false, true, true, false, false, false, false, false, false, false, false, false, false, false, false, false, false, false] rfl rfl (any_of HT_.out (by kernel_rfl)) (fun _ _ _ h => h) (Or.inl ⟨by rfl, ?_⟩) ?_ ?_
                        rotate_left
                        · intro w'
                          go_simp
                          with_reducible rfl
                        rotate_left
                        · simp only [Act.put, List.setIfInBounds_toArray, List.set_cons_zero, List.set_cons_succ, i64_w, i32_w]
                          rfl
                        refine pure_ (i := 6) (N := some 104) (v := ?_) (a' := ?_) #[true, true, true, false, true, true, true, false, false, false, false, false, false, false, false, false, false, false, false, false, false] rfl rfl (any_of HT_.out (by kernel_rfl)) (fun _ _ _ h => h) (Or.inl ⟨by rfl, ?_⟩) ?_ ?_
                        rotate_left
                        · intro w'
                          go_simp
                          with_reducible rfl
                        rotate_left
                        · simp only [Act.put, List.setIfInBounds_toArray, List.set_cons_zero, List.set_cons_succ, i64_w, i32_w]
                          rfl
                        refine pure_ (i := 7) (N := some 105) (v := ?_) (a' := ?_) #[true, true, true, false, true, true, true, true, false, false, false, false, false, false, false, false, false, false, false, false, false] rfl rfl (any_of HT_.out (by kernel_rfl)) (fun _ _ _ h => h) (Or.inl ⟨by rfl, ?_⟩) ?_ ?_
                        rotate_left
                        · intro w'
                          go_simp
                          with_reducible rfl
                        rotate_left
                        · simp only [Act.put, List.setIfInBounds_toArray, List.set_cons_zero, List.set_cons_succ, i64_w, i32_w]
                          rfl
                        refine take_ (i := 3) (N := some 101) (v := ?_) (a' := ?_) #[true, true, true, true, true, true, true, true, false, false, false, false, false, false, false, false, false, false, false, false, false] rfl rfl (take_ofW HT_.out HW_.out (by kernel_rfl)) (fun _ _ _ h => h) (Or.inl ⟨by rfl, ?_⟩) hHeld ?_ ?_
                        rotate_left
                        · rintro w' ⟨s0, s1, s2⟩
                          go_simp
                          with_reducible rfl
                        rotate_left
                        · simp only [Act.put, List.setIfInBounds_toArray, List.set_cons_zero, List.set_cons_succ, i64_w, i32_w]
                          rfl
                        refine take_ (i := 8) (N := some 106) (v := ?_) (a' := ?_) #[true, true, true, true, true, true, true, true, true, false, false, false, false, false, false, false, false, false, false, false, false] rfl rfl (take_ofW HT_.out HW_.out (by kernel_rfl)) (fun _ _ _ h => h) (Or.inl ⟨by rfl, ?_⟩) hHeld ?_ ?_
                        rotate_left
                        · rintro w' ⟨s0, s1, s2⟩
                          go_simp
                          with_reducible rfl
                        rotate_left
                        · simp only [Act.put, List.setIfInBounds_toArray, List.set_cons_zero, List.set_cons_succ, i64_w, i32_w]
                          rfl
                        refine one_ (i := 9) (N := some 107) #[true, true, true, true, true, true, true, true, true, true, false, false, false, false, false, false, false, false, false, false, false] rfl rfl (one_of HT_.out (by kernel_rfl)) (by decide) (fun K hK => ?_)
                        refine goes_ Try.func14 (by kernel_rfl) rfl #[.int .i64 t579, .int .i64 (rd l3 x19_2)] (by rfl) rfl rfl (by (try simp only [List.map_toArray, List.map_cons, List.map_nil]); first | done | rfl | (simp only [List.length_drop, List.length_take]; rfl)) ?_
                        with_reducible refine (torusref01_Mod.calls k2 t579 (rd l3 x19_2) t603 _ A39.out).mono ?_
                        rintro e w' ⟨rfl, ⟨nd, rfl⟩⟩
                        refine ⟨_, rfl, ?_⟩
                        refine hK.out _ _ ⟨hHeld.1, ((HB.out.cell (World.block_lt_of_cell? w _ hw602_0)).trans hw602_0), hHeld.2.2⟩ (fun hHeld => ?_)
                        clear hK K
                        refine norm_ (a' := ?_) ?_ ?_
                        rotate_left
                        · show Act.put _ (some 107) _ = _
                          simp only [Act.put, List.setIfInBounds_toArray, List.set_cons_zero, List.set_cons_succ, i64_w, i32_w]
                          rfl
                        refine pure_ (i := 10) (N := some 108) (v := ?_) (a' := ?_) #[true, true, true, true, true, true, true, true, true, true, true, false, false, false, false, false, false, false, false, false, false] rfl rfl (any_of HT_.out (by kernel_rfl)) (fun _ _ _ h => h) (Or.inl ⟨by rfl, ?_⟩) ?_ ?_
                        rotate_left
                        · intro w'
                          go_simp
                          with_reducible rfl
                        rotate_left
                        · simp only [Act.put, List.setIfInBounds_toArray, List.set_cons_zero, List.set_cons_succ, i64_w, i32_w]
                          rfl
                        refine pure_ (i := 11) (N := some 109) (v := ?_) (a' := ?_) #[true, true, true, true, true, true, true, true, true, true, true, true, false, false, false, false, false, false, false, false, false] rfl rfl (any_of HT_.out (by kernel_rfl)) (fun _ _ _ h => h) (Or.inl ⟨by rfl, ?_⟩) ?_ ?_
                        rotate_left
                        · intro w'
                          go_simp
                          with_reducible rfl
                        rotate_left
                        · simp only [Act.put, List.setIfInBounds_toArray, List.set_cons_zero, List.set_cons_succ, i64_w, i32_w]
                          rfl
                        refine pure_ (i := 12) (N := some 110) (v := ?_) (a' := ?_) #[true, true, true, true, true, true, true, true, true, true, true, true, true, false, false, false, false, false, false, false, false] rfl rfl (any_of HT_.out (by kernel_rfl)) (fun _ _ _ h => h) (Or.inl ⟨by rfl, ?_⟩) ?_ ?_
                        rotate_left
                        · intro w'
                          go_simp
                          with_reducible rfl
                        rotate_left
                        · simp only [Act.put, List.setIfInBounds_toArray, List.set_cons_zero, List.set_cons_succ, i64_w, i32_w]
                          rfl
                        refine pure_ (i := 13) (N := some 111) (v := ?_) (a' := ?_) #[true, true, true, true, true, true, true, true, true, true, true, true, true, true, false, false, false, false, false, false, false] rfl rfl (any_of HT_.out (by kernel_rfl)) (fun _ _ _ h => h) (Or.inl ⟨by rfl, ?_⟩) ?_ ?_
                        rotate_left
                        · intro w'
                          go_simp
                          with_reducible rfl
                        rotate_left
                        · simp only [Act.put, List.setIfInBounds_toArray, List.set_cons_zero, List.set_cons_succ, i64_w, i32_w]
                          rfl
                        refine pure_ (i := 15) (N := some 113) (v := ?_) (a' := ?_) #[true, true, true, true, true, true, true, true, true, true, true, true, true, true, false, true, false, false, false, false, false] rfl rfl (any_of HT_.out (by kernel_rfl)) (fun _ _ _ h => h) (Or.inl ⟨by rfl, ?_⟩) ?_ ?_
                        rotate_left
                        · intro w'
                          go_simp
                          with_reducible rfl
                        rotate_left
                        · simp only [Act.put, List.setIfInBounds_toArray, List.set_cons_zero, List.set_cons_succ, i64_w, i32_w]
                          rfl
                        refine pure_ (i := 16) (N := some 114) (v := ?_) (a' := ?_) #[true, true, true, true, true, true, true, true, true, true, true, true, true, true, false, true, true, false, false, false, false] rfl rfl (any_of HT_.out (by kernel_rfl)) (fun _ _ _ h => h) (Or.inl ⟨by rfl, ?_⟩) ?_ ?_
                        rotate_left
                        · intro w'
                          go_simp
                          with_reducible rfl
                        rotate_left
                        · simp only [Act.put, List.setIfInBounds_toArray, List.set_cons_zero, List.set_cons_succ, i64_w, i32_w]
                          rfl
                        refine pure_ (i := 17) (N := some 115) (v := ?_) (a' := ?_) #[true, true, true, true, true, true, true, true, true, true, true, true, true, true, false, true, true, true, false, false, false] rfl rfl (any_of HT_.out (by kernel_rfl)) (fun _ _ _ h => h) (Or.inl ⟨by rfl, ?_⟩) ?_ ?_
                        rotate_left
                        · intro w'
                          go_simp
                          with_reducible rfl
                        rotate_left
                        · simp only [Act.put, List.setIfInBounds_toArray, List.set_cons_zero, List.set_cons_succ, i64_w, i32_w]
                          rfl
                        refine take_ (i := 18) (N := some 116) (v := ?_) (a' := ?_) #[true, true, true, true, true, true, true, true, true, true, true, true, true, true, false, true, true, true, true, false, false] rfl rfl (take_ofW HT_.out HW_.out (by kernel_rfl)) (fun _ _ _ h => h) (Or.inl ⟨by rfl, ?_⟩) hHeld ?_ ?_
                        rotate_left
                        · rintro w' ⟨s0, s1, s2⟩
                          go_simp
                          with_reducible rfl
                        rotate_left
                        · simp only [Act.put, List.setIfInBounds_toArray, List.set_cons_zero, List.set_cons_succ, i64_w, i32_w]
                          rfl
                        refine one_ (i := 14) (N := some 112) #[true, true, true, true, true, true, true, true, true, true, true, true, true, true, true, true, true, true, true, false, false] rfl rfl (one_of HT_.out (by kernel_rfl)) (by decide) (fun K hK => ?_)
                        refine goes_ Try.func26 (by kernel_rfl) rfl #[.slice Ao22 t591.length co22, .int .i64 x19_2] (by rfl) rfl rfl (by (try simp only [List.map_toArray, List.map_cons, List.map_nil]); first | done | rfl | (simp only [List.length_drop, List.length_take]; rfl)) ?_
                        with_reducible refine (column_Coef.calls k2 _ _ t591 x19_2 t604 _ ?side1 ?side2 A41.out).mono ?_
                        (case side1 => repeat (first | exact (Kd.R_reads' HO_15.out).2.2 | (with_reducible refine Kd.C_alloc ?_ _) | (with_reducible refine Kd.C_drewN ?_ _) | (with_reducible refine Kd.C_drew ?_)))
                        (case side2 => exact (Kd.R_reads' HO_15.out).2.1)
                        rintro e w45 ⟨rfl, hb⟩
                        have HS0_ := (hb.cell (World.block_lt_of_cell? _ _ (hHeld.1))).trans (hHeld.1)
                        have HS2_ := (hb.cell (World.block_lt_of_cell? _ _ (hHeld.2.2))).trans (hHeld.2.2)
                        refine ⟨_, rfl, ?_⟩
                        have n0_ := Aside0.mk (Kd.R_below (by (with_reducible repeat (first | apply Kd.R_alloc | apply Kd.R_drewN | apply Kd.R_drew)); exact HO_15.out) hb)
                        have n1_ := Aside0.mk (Kd.R_below (by (with_reducible repeat (first | apply Kd.R_alloc | apply Kd.R_drewN | apply Kd.R_drew)); exact HO_17.out) hb)
                        have n2_ := Aside0.mk (below_step (by repeat (first | (with_reducible first | exact HB.out | apply below_alloc | apply pw_below_drewN | apply below_drew1) | exact HB.out)) hb)
                        clear HO_15
                        clear HO_17
                        clear HB
                        have HO_15 := n0_
                        have HO_17 := n1_
                        have HB := n2_
                        clear n0_ n1_ n2_
                        (try clear hb)
                        (try clear hb2)
                        (try clear hk)
                        (try clear hi)
                        refine hK.out _ _ ⟨HS0_, ((HB.out.cell (World.block_lt_of_cell? w _ hw602_0)).trans hw602_0), HS2_⟩ (fun hHeld => ?_)
                        clear hK K
                        refine norm_ (a' := ?_) ?_ ?_
                        rotate_left
                        · show Act.put _ (some 112) _ = _
                          simp only [Act.put, List.setIfInBounds_toArray, List.set_cons_zero, List.set_cons_succ, i64_w, i32_w]
                          rfl
                        refine pure_ (i := 19) (N := some 117) (v := ?_) (a' := ?_) #[true, true, true, true, true, true, true, true, true, true, true, true, true, true, true, true, true, true, true, true, false] rfl rfl (any_of HT_.out (by kernel_rfl)) (fun _ _ _ h => h) (Or.inl ⟨by rfl, ?_⟩) ?_ ?_
                        rotate_left
                        · intro w'
                          go_simp
                          with_reducible rfl
                        rotate_left
                        · simp only [Act.put, List.setIfInBounds_toArray, List.set_cons_zero, List.set_cons_succ, i64_w, i32_w]
                          rfl
                        refine pure_ (i := 20) (N := some 118) (v := ?_) (a' := ?_) #[true, true, true, true, true, true, true, true, true, true, true, true, true, true, true, true, true, true, true, true, true] rfl rfl (any_of HT_.out (by kernel_rfl)) (fun _ _ _ h => h) (Or.inl ⟨by rfl, ?_⟩) ?_ ?_
                        rotate_left
                        · intro w'
                          go_simp
                          with_reducible rfl
                        rotate_left
                        · simp only [Act.put, List.setIfInBounds_toArray, List.set_cons_zero, List.set_cons_succ, i64_w, i32_w]
                          rfl
                        refine done_ (done_of HT_.out (by kernel_rfl)) ?_
                        try go_wp2
                        go_roundg k2
                        case measure => have := HJ13.out; have := HK2.out; omega
                        case rel => exact ⟨(wrap64 (x19_2 + 1)), (by first | rfl | (simp; done) | (simp [*]; done)), H', ⟨by have := HJ13.out; have := HK2.out; omega⟩, ⟨by (with_reducible repeat (first | apply Kd.R_alloc | apply Kd.R_drewN | apply Kd.R_drew)); exact HO_15.out⟩, ⟨by (with_reducible repeat (first | apply Kd.R_alloc | apply Kd.R_drewN | apply Kd.R_drew)); exact HO_17.out⟩, ⟨by repeat (first | (with_reducible first | exact HB.out | apply below_alloc | apply pw_below_drewN | apply below_drew1) | exact HB.out)⟩⟩
                      · rw [if_neg c42] at H
                        exact absurd (Option.some.inj H) (by rw [hrt]; exact Bool.false_ne_true)
                    · rw [if_neg c40] at H
                      exact absurd (Option.some.inj H) (by rw [hrt]; exact Bool.false_ne_true)
                  · rw [if_neg c38] at H
                    exact absurd H (by simp)
                · rw [if_neg c37] at H
                  exact absurd H (by simp)
              · rw [if_neg c36] at H
                have c36b0 : decide (x19_2 < (l3.length : Int)) = false := decide_eq_false c36
                clear c36
                replace H := Option.bind_eq_some_iff.mp H
                obtain ⟨t600, A510, H⟩ := H
                replace H : (some t600) = some r := H
                have A51 := Aside0.mk A510
                clear A510
                obtain rfl := Option.some.inj H
                go_wp2_with (first | ((with_reducible refine gate_callee (f := 19) rfl ?_); refine goesL_ (some 119) rfl rfl Try.func19 (by kernel_rfl) rfl #[] rfl (by (try simp only [List.map_toArray, List.map_cons, List.map_nil]); first | done | rfl | (simp only [List.length_drop, List.length_take]; rfl)) ?_; (with_reducible refine (toruslaw04_awake.calls  t600 _ A51.out).mono ?_); rintro e w52 ⟨rfl, hb⟩; refine ⟨_, rfl, ?_⟩; have n0_ := Aside0.mk (Kd.R_below (by (with_reducible repeat (first | apply Kd.R_alloc | apply Kd.R_drewN | apply Kd.R_drew)); exact HO_15.out) hb); have n1_ := Aside0.mk (Kd.R_below (by (with_reducible repeat (first | apply Kd.R_alloc | apply Kd.R_drewN | apply Kd.R_drew)); exact HO_17.out) hb); have n2_ := Aside0.mk (below_step (by repeat (first | (with_reducible first | exact HB.out | apply below_alloc | apply pw_below_drewN | apply below_drew1) | exact HB.out)) hb); clear HO_15; clear HO_17; clear HB; have HO_15 := n0_; have HO_17 := n1_; have HB := n2_; clear n0_ n1_ n2_; (try clear hb); (try clear hb2); (try clear hk); (try clear hi)))
                go_ret
                exact ⟨by first | rfl | (simp [errW_none, errW_some] <;> rfl) | (simp [*, errW_none, errW_some] <;> rfl), by repeat (first | (with_reducible first | exact HB.out | apply below_alloc | apply pw_below_drewN | apply below_drew1) | exact HB.out)⟩
end Go.Proofs.Ytojnnfhalpefmaa.M
