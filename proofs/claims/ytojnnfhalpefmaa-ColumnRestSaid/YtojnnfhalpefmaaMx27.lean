-- Written by a program of this session (a widened copy of the kit's printer) out of the translation.
import Derived.Test.YtojnnfhalpefmaaWJc
import Derived.Test.YtojnnfhalpefmaaMx20
import Derived.Test.YtojnnfhalpefmaaEAw
import Derived.Test.YtojnnfhalpefmaaECols
import Derived.Test.YtojnnfhalpefmaaMx2
import Derived.Test.YtojnnfhalpefmaaMx3
import Derived.Test.YtojnnfhalpefmaaMx5
import Derived.Test.YtojnnfhalpefmaaMx6
import Derived.Test.YtojnnfhalpefmaaMx7
import Derived.Test.YtojnnfhalpefmaaMx8
import Derived.Test.YtojnnfhalpefmaaMx9
namespace Go.Proofs.Ytojnnfhalpefmaa.M
open Go.RowKit Go.Proofs.YtojnnfhalpefmaaW.PrintWords Go.Proofs.YtojnnfhalpefmaaW.PrintLast Go.Proofs.YtojnnfhalpefmaaW.PrintMore
attribute [local go_sem] max2_int min2_int max_two min_two max_three min_three max_four min_four   -- for this text's walks alone
set_option linter.unusedVariables false
set_option linter.unusedSimpArgs false

/-! ### toruslaw04_ColumnRest: function 9 -/
mutual
def toruslaw04_ColumnRest.l0 : Nat → List (S45) → Int → List (List (S45)) → List Int → List (List (S45)) → Int → Int → Option (Bool)
  | 0, _, _, _, _, _, _, _ => none
  | k + 1, x2, x7, x8, x9, x33, x34, x35 => if x35 < x34 then (if 0 ≤ x35 then (if x35 < (x33.length : Int) then ((torusref04_Low.f (rd_L2 x33 x35)).bind fun bt664 => (toruslaw04_ColumnRest.l1 k x2 x7 x8 x9 (rd_L2 x33 x35) bt664.1 bt664.2 x33 x34 x35 x9 (x9.length : Int) 0)) else (none)) else (none)) else ((torusref04_Fit.f k x7 x2 10).bind fun t673 => ((column_Rest.f k x7 x8 t673).bind fun bt676 => ((column_Combine.f k x7 x8 bt676.2.1).bind fun bt683 => ((column_Rest.f k x7 x8 bt676.1).bind fun bt687 => ((torusref04_CopyList.f k x8).bind fun t694 => (if t694.length < 5864062014805 then ((column_Rank.f k x7 (t694 ++ [t673])).bind fun bt700 => (if bt676.2.2 = 0 then (if bt683.2 = 0 then (if bt687.2.2 = 0 then (if bt700.2 = 0 then ((toruslaw04_plus.f k x7 bt676.1 1 bt683.1).bind fun t702 => ((torusref04_Same.f k t702 t673).bind fun t705 => (if t705 = true then ((torusref04_Same.f k bt687.1 bt676.1).bind fun t706 => (if t706 = true then (if (bt687.2.1.length : Int) > 0 then (toruslaw04_ColumnRest.j2 k x9 bt676.1 true) else (toruslaw04_ColumnRest.j2 k x9 bt676.1 (((bt676.1.length : Int) == 0) != (bt700.1 == (x8.length : Int))))) else (toruslaw04_ColumnRest.j2 k x9 bt676.1 true))) else (toruslaw04_ColumnRest.j2 k x9 bt676.1 true)))) else (toruslaw04_ColumnRest.j2 k x9 bt676.1 true)) else (toruslaw04_ColumnRest.j2 k x9 bt676.1 true)) else (toruslaw04_ColumnRest.j2 k x9 bt676.1 true)) else (toruslaw04_ColumnRest.j2 k x9 bt676.1 true))) else (none)))))))
def toruslaw04_ColumnRest.l1 : Nat → List (S45) → Int → List (List (S45)) → List Int → List (S45) → Int → Bool → List (List (S45)) → Int → Int → List Int → Int → Int → Option (Bool)
  | 0, _, _, _, _, _, _, _, _, _, _, _, _, _ => none
  | k + 1, x2, x7, x8, x9, x11, x12, x13, x33, x34, x35, x44, x45, x46 => if x46 < x45 then (if 0 ≤ x46 then (if x46 < (x44.length : Int) then (if x13 = true then (toruslaw04_ColumnRest.l1 k x2 x7 x8 x9 x11 x12 ((rd x44 x46) != x12) x33 x34 x35 x44 x45 (wrap64 (x46 + 1))) else (toruslaw04_ColumnRest.l1 k x2 x7 x8 x9 x11 x12 false x33 x34 x35 x44 x45 (wrap64 (x46 + 1)))) else (none)) else (none)) else (if x13 = true then (if x8.length < 5864062014805 then (if x9.length < 17592186044416 then (toruslaw04_ColumnRest.l0 k x2 x7 (x8 ++ [x11]) (x9 ++ [x12]) x33 x34 (wrap64 (x35 + 1))) else (none)) else (none)) else (toruslaw04_ColumnRest.l0 k x2 x7 x8 x9 x33 x34 (wrap64 (x35 + 1))))
def toruslaw04_ColumnRest.j2 : Nat → List Int → List (S45) → Bool → Option (Bool)
  | 0, _, _, _ => none
  | k + 1, x9, x17, x146 => if x146 = true then (some false) else (toruslaw04_ColumnRest.l2 k x17 x9 (x9.length : Int) 0)
def toruslaw04_ColumnRest.l2 : Nat → List (S45) → List Int → Int → Int → Option (Bool)
  | 0, _, _, _, _ => none
  | k + 1, x17, x147, x148, x149 => if x149 < x148 then (if 0 ≤ x149 then (if x149 < (x147.length : Int) then ((column_Coef.f k x17 (rd x147 x149)).bind fun t708 => (if t708 = 0 then (toruslaw04_ColumnRest.l2 k x17 x147 x148 (wrap64 (x149 + 1))) else (some false))) else (none)) else (none)) else ((toruslaw04_awake.f).bind fun t709 => (some t709))
end
def toruslaw04_ColumnRest.f (k : Nat) (a0 : Int) (l1 : List (List (S45))) (l2 : List (S45)) : Option (Bool) := (torusref01_Field.f k a0).bind fun t659 => ((torusref04_FitList.f k t659 l1 10 8).bind fun t660 => (toruslaw04_ColumnRest.l0 k l2 t659 ([] : List (List (S45))) ([] : List Int) t660 (t660.length : Int) 0))
theorem toruslaw04_ColumnRest.mono_l : ∀ k, (∀ y0 y1 y2 y3 y4 y5 y6, LeO (toruslaw04_ColumnRest.l0 k y0 y1 y2 y3 y4 y5 y6) (toruslaw04_ColumnRest.l0 (k + 1) y0 y1 y2 y3 y4 y5 y6)) ∧ (∀ y0 y1 y2 y3 y4 y5 y6 y7 y8 y9 y10 y11 y12, LeO (toruslaw04_ColumnRest.l1 k y0 y1 y2 y3 y4 y5 y6 y7 y8 y9 y10 y11 y12) (toruslaw04_ColumnRest.l1 (k + 1) y0 y1 y2 y3 y4 y5 y6 y7 y8 y9 y10 y11 y12)) ∧ (∀ y0 y1 y2, LeO (toruslaw04_ColumnRest.j2 k y0 y1 y2) (toruslaw04_ColumnRest.j2 (k + 1) y0 y1 y2)) ∧ (∀ y0 y1 y2 y3, LeO (toruslaw04_ColumnRest.l2 k y0 y1 y2 y3) (toruslaw04_ColumnRest.l2 (k + 1) y0 y1 y2 y3))
  | 0 => ⟨fun _ _ _ _ _ _ _ r h => by simp [toruslaw04_ColumnRest.l0] at h, fun _ _ _ _ _ _ _ _ _ _ _ _ _ r h => by simp [toruslaw04_ColumnRest.l1] at h, fun _ _ _ r h => by simp [toruslaw04_ColumnRest.j2] at h, fun _ _ _ _ r h => by simp [toruslaw04_ColumnRest.l2] at h⟩
  | k + 1 => by
    obtain ⟨ih0, ih1, ih2, ih3⟩ := toruslaw04_ColumnRest.mono_l k
    refine ⟨?_, ?_, ?_, ?_⟩
    · intro y0 y1 y2 y3 y4 y5 y6
      unfold toruslaw04_ColumnRest.l0
      repeat' first
      | (with_reducible exact ih0 _ _ _ _ _ _ _)
      | (with_reducible exact ih1 _ _ _ _ _ _ _ _ _ _ _ _ _)
      | (with_reducible exact ih2 _ _ _)
      | (with_reducible exact ih3 _ _ _ _)
      | (with_reducible exact column_Coef.mono _ _ _)
      | (with_reducible exact column_Combine.mono _ _ _ _)
      | (with_reducible exact column_Rank.mono _ _ _)
      | (with_reducible exact column_Rest.mono _ _ _ _)
      | (with_reducible exact toruslaw04_plus.mono _ _ _ _ _)
      | (with_reducible exact torusref01_Field.mono _ _)
      | (with_reducible exact torusref04_CopyList.mono _ _)
      | (with_reducible exact torusref04_Fit.mono _ _ _ _)
      | (with_reducible exact torusref04_FitList.mono _ _ _ _ _)
      | (with_reducible exact torusref04_Same.mono _ _ _)
      | (with_reducible exact LeO.refl _)
      | (with_reducible exact LeO.none _)
      | (with_reducible refine LeO.ite ?_ ?_)
      | (with_reducible refine LeO.bind ?_ (fun _ => ?_))
      | exact ih0 _ _ _ _ _ _ _
      | exact ih1 _ _ _ _ _ _ _ _ _ _ _ _ _
      | exact ih2 _ _ _
      | exact ih3 _ _ _ _
      | exact column_Coef.mono _ _ _
      | exact column_Combine.mono _ _ _ _
      | exact column_Rank.mono _ _ _
      | exact column_Rest.mono _ _ _ _
      | exact toruslaw04_plus.mono _ _ _ _ _
      | exact torusref01_Field.mono _ _
      | exact torusref04_CopyList.mono _ _
      | exact torusref04_Fit.mono _ _ _ _
      | exact torusref04_FitList.mono _ _ _ _ _
      | exact torusref04_Same.mono _ _ _
      | exact LeO.none _
      | refine LeO.ite ?_ ?_
      | refine LeO.bind ?_ (fun _ => ?_)
    · intro y0 y1 y2 y3 y4 y5 y6 y7 y8 y9 y10 y11 y12
      unfold toruslaw04_ColumnRest.l1
      repeat' first
      | (with_reducible exact ih0 _ _ _ _ _ _ _)
      | (with_reducible exact ih1 _ _ _ _ _ _ _ _ _ _ _ _ _)
      | (with_reducible exact ih2 _ _ _)
      | (with_reducible exact ih3 _ _ _ _)
      | (with_reducible exact column_Coef.mono _ _ _)
      | (with_reducible exact column_Combine.mono _ _ _ _)
      | (with_reducible exact column_Rank.mono _ _ _)
      | (with_reducible exact column_Rest.mono _ _ _ _)
      | (with_reducible exact toruslaw04_plus.mono _ _ _ _ _)
      | (with_reducible exact torusref01_Field.mono _ _)
      | (with_reducible exact torusref04_CopyList.mono _ _)
      | (with_reducible exact torusref04_Fit.mono _ _ _ _)
      | (with_reducible exact torusref04_FitList.mono _ _ _ _ _)
      | (with_reducible exact torusref04_Same.mono _ _ _)
      | (with_reducible exact LeO.refl _)
      | (with_reducible exact LeO.none _)
      | (with_reducible refine LeO.ite ?_ ?_)
      | (with_reducible refine LeO.bind ?_ (fun _ => ?_))
      | exact ih0 _ _ _ _ _ _ _
      | exact ih1 _ _ _ _ _ _ _ _ _ _ _ _ _
      | exact ih2 _ _ _
      | exact ih3 _ _ _ _
      | exact column_Coef.mono _ _ _
      | exact column_Combine.mono _ _ _ _
      | exact column_Rank.mono _ _ _
      | exact column_Rest.mono _ _ _ _
      | exact toruslaw04_plus.mono _ _ _ _ _
      | exact torusref01_Field.mono _ _
      | exact torusref04_CopyList.mono _ _
      | exact torusref04_Fit.mono _ _ _ _
      | exact torusref04_FitList.mono _ _ _ _ _
      | exact torusref04_Same.mono _ _ _
      | exact LeO.none _
      | refine LeO.ite ?_ ?_
      | refine LeO.bind ?_ (fun _ => ?_)
    · intro y0 y1 y2
      unfold toruslaw04_ColumnRest.j2
      repeat' first
      | (with_reducible exact ih0 _ _ _ _ _ _ _)
      | (with_reducible exact ih1 _ _ _ _ _ _ _ _ _ _ _ _ _)
      | (with_reducible exact ih2 _ _ _)
      | (with_reducible exact ih3 _ _ _ _)
      | (with_reducible exact column_Coef.mono _ _ _)
      | (with_reducible exact column_Combine.mono _ _ _ _)
      | (with_reducible exact column_Rank.mono _ _ _)
      | (with_reducible exact column_Rest.mono _ _ _ _)
      | (with_reducible exact toruslaw04_plus.mono _ _ _ _ _)
      | (with_reducible exact torusref01_Field.mono _ _)
      | (with_reducible exact torusref04_CopyList.mono _ _)
      | (with_reducible exact torusref04_Fit.mono _ _ _ _)
      | (with_reducible exact torusref04_FitList.mono _ _ _ _ _)
      | (with_reducible exact torusref04_Same.mono _ _ _)
      | (with_reducible exact LeO.refl _)
      | (with_reducible exact LeO.none _)
      | (with_reducible refine LeO.ite ?_ ?_)
      | (with_reducible refine LeO.bind ?_ (fun _ => ?_))
      | exact ih0 _ _ _ _ _ _ _
      | exact ih1 _ _ _ _ _ _ _ _ _ _ _ _ _
      | exact ih2 _ _ _
      | exact ih3 _ _ _ _
      | exact column_Coef.mono _ _ _
      | exact column_Combine.mono _ _ _ _
      | exact column_Rank.mono _ _ _
      | exact column_Rest.mono _ _ _ _
      | exact toruslaw04_plus.mono _ _ _ _ _
      | exact torusref01_Field.mono _ _
      | exact torusref04_CopyList.mono _ _
      | exact torusref04_Fit.mono _ _ _ _
      | exact torusref04_FitList.mono _ _ _ _ _
      | exact torusref04_Same.mono _ _ _
      | exact LeO.none _
      | refine LeO.ite ?_ ?_
      | refine LeO.bind ?_ (fun _ => ?_)
    · intro y0 y1 y2 y3
      unfold toruslaw04_ColumnRest.l2
      repeat' first
      | (with_reducible exact ih0 _ _ _ _ _ _ _)
      | (with_reducible exact ih1 _ _ _ _ _ _ _ _ _ _ _ _ _)
      | (with_reducible exact ih2 _ _ _)
      | (with_reducible exact ih3 _ _ _ _)
      | (with_reducible exact column_Coef.mono _ _ _)
      | (with_reducible exact column_Combine.mono _ _ _ _)
      | (with_reducible exact column_Rank.mono _ _ _)
      | (with_reducible exact column_Rest.mono _ _ _ _)
      | (with_reducible exact toruslaw04_plus.mono _ _ _ _ _)
      | (with_reducible exact torusref01_Field.mono _ _)
      | (with_reducible exact torusref04_CopyList.mono _ _)
      | (with_reducible exact torusref04_Fit.mono _ _ _ _)
      | (with_reducible exact torusref04_FitList.mono _ _ _ _ _)
      | (with_reducible exact torusref04_Same.mono _ _ _)
      | (with_reducible exact LeO.refl _)
      | (with_reducible exact LeO.none _)
      | (with_reducible refine LeO.ite ?_ ?_)
      | (with_reducible refine LeO.bind ?_ (fun _ => ?_))
      | exact ih0 _ _ _ _ _ _ _
      | exact ih1 _ _ _ _ _ _ _ _ _ _ _ _ _
      | exact ih2 _ _ _
      | exact ih3 _ _ _ _
      | exact column_Coef.mono _ _ _
      | exact column_Combine.mono _ _ _ _
      | exact column_Rank.mono _ _ _
      | exact column_Rest.mono _ _ _ _
      | exact toruslaw04_plus.mono _ _ _ _ _
      | exact torusref01_Field.mono _ _
      | exact torusref04_CopyList.mono _ _
      | exact torusref04_Fit.mono _ _ _ _
      | exact torusref04_FitList.mono _ _ _ _ _
      | exact torusref04_Same.mono _ _ _
      | exact LeO.none _
      | refine LeO.ite ?_ ?_
      | refine LeO.bind ?_ (fun _ => ?_)
theorem toruslaw04_ColumnRest.mono : ∀ a0 a1 a2 k, LeO (toruslaw04_ColumnRest.f k a0 a1 a2) (toruslaw04_ColumnRest.f (k + 1) a0 a1 a2) := by
  intro a0 a1 a2 k
  obtain ⟨ih0, ih1, ih2, ih3⟩ := toruslaw04_ColumnRest.mono_l k
  unfold toruslaw04_ColumnRest.f
  repeat' first
      | (with_reducible exact ih0 _ _ _ _ _ _ _)
      | (with_reducible exact ih1 _ _ _ _ _ _ _ _ _ _ _ _ _)
      | (with_reducible exact ih2 _ _ _)
      | (with_reducible exact ih3 _ _ _ _)
      | (with_reducible exact column_Coef.mono _ _ _)
      | (with_reducible exact column_Combine.mono _ _ _ _)
      | (with_reducible exact column_Rank.mono _ _ _)
      | (with_reducible exact column_Rest.mono _ _ _ _)
      | (with_reducible exact toruslaw04_plus.mono _ _ _ _ _)
      | (with_reducible exact torusref01_Field.mono _ _)
      | (with_reducible exact torusref04_CopyList.mono _ _)
      | (with_reducible exact torusref04_Fit.mono _ _ _ _)
      | (with_reducible exact torusref04_FitList.mono _ _ _ _ _)
      | (with_reducible exact torusref04_Same.mono _ _ _)
      | (with_reducible exact LeO.refl _)
      | (with_reducible exact LeO.none _)
      | (with_reducible refine LeO.ite ?_ ?_)
      | (with_reducible refine LeO.bind ?_ (fun _ => ?_))
      | exact ih0 _ _ _ _ _ _ _
      | exact ih1 _ _ _ _ _ _ _ _ _ _ _ _ _
      | exact ih2 _ _ _
      | exact ih3 _ _ _ _
      | exact column_Coef.mono _ _ _
      | exact column_Combine.mono _ _ _ _
      | exact column_Rank.mono _ _ _
      | exact column_Rest.mono _ _ _ _
      | exact toruslaw04_plus.mono _ _ _ _ _
      | exact torusref01_Field.mono _ _
      | exact torusref04_CopyList.mono _ _
      | exact torusref04_Fit.mono _ _ _ _
      | exact torusref04_FitList.mono _ _ _ _ _
      | exact torusref04_Same.mono _ _ _
      | exact LeO.none _
      | refine LeO.ite ?_ ?_
      | refine LeO.bind ?_ (fun _ => ?_)
theorem toruslaw04_ColumnRest.j2_dead (k : Nat) (x0 : _) (x1 : _) : ¬ toruslaw04_ColumnRest.j2 k x0 x1 true = some true := by
  cases k <;> simp [toruslaw04_ColumnRest.j2]
set_option maxHeartbeats 8000000 in
set_option maxRecDepth 100000 in
theorem toruslaw04_ColumnRest.calls (k : Nat) (a0 : Int) (A1 : Option Addr) (c1 : Nat) (l1 : List (List (S45))) (A2 : Option Addr) (c2 : Nat) (l2 : List (S45)) (r : Bool) (w : World) (hr1 : Kd.C (Kd.slice 45 k45) w A1 l1.length l1) (hc1 : l1.length ≤ c1) (hr2 : Kd.C k45 w A2 l2.length l2) (hc2 : l2.length ≤ c2) (h : toruslaw04_ColumnRest.f k a0 l1 l2 = some r) (hrt : r = true) :
    Calls Try.prog 9 #[.int .i64 a0, .slice A1 l1.length c1, .slice A2 l2.length c2] w fun e w' => e = .returned (.bool r) ∧ Below w.heap.size w w' := by
  have HR1 := Aside0.mk hr1
  have HC1 := Aside0.mk hc1
  clear hr1 hc1
  have HR2 := Aside0.mk hr2
  have HC2 := Aside0.mk hc2
  clear hr2 hc2
  have HB := Aside0.mk (Below.refl w.heap.size w)
  have H : ((torusref01_Field.f k a0).bind fun t659 => ((torusref04_FitList.f k t659 l1 10 8).bind fun t660 => (toruslaw04_ColumnRest.l0 k l2 t659 ([] : List (List (S45))) ([] : List Int) t660 (t660.length : Int) 0))) = some r := h
  clear h
  replace H := Option.bind_eq_some_iff.mp H
  obtain ⟨t659, A40, H⟩ := H
  replace H : ((torusref04_FitList.f k t659 l1 10 8).bind fun t660 => (toruslaw04_ColumnRest.l0 k l2 t659 ([] : List (List (S45))) ([] : List Int) t660 (t660.length : Int) 0)) = some r := H
  have A4 := Aside0.mk A40
  clear A40
  replace H := Option.bind_eq_some_iff.mp H
  obtain ⟨t660, A50, H⟩ := H
  replace H : (toruslaw04_ColumnRest.l0 k l2 t659 ([] : List (List (S45))) ([] : List Int) t660 (t660.length : Int) 0) = some r := H
  have A5 := Aside0.mk A50
  clear A50
  have H' := Aside0.mk H
  clear H
  go_enter Try.func9, Try.ntmps9
  go_wp2_with (first | ((with_reducible refine gate_callee (f := 12) rfl ?_); refine goesL_ (some 30) rfl rfl Try.func12 (by kernel_rfl) rfl #[.int .i64 a0] rfl (by (try simp only [List.map_toArray, List.map_cons, List.map_nil]); first | done | rfl | (simp only [List.length_drop, List.length_take]; rfl)) ?_; (with_reducible refine (torusref01_Field.calls k a0 t659 _ A4.out).mono ?_); rintro e w6 ⟨rfl, hb⟩; refine ⟨_, rfl, ?_⟩; have n0_ := Aside0.mk (below_step (by repeat (first | (with_reducible first | exact HB.out | apply below_alloc | apply pw_below_drewN | apply below_drew1) | exact HB.out)) hb); clear HB; have HB := n0_; clear n0_; (try clear hb); (try clear hb2); (try clear hk); (try clear hi)) | ((with_reducible refine gate_callee (f := 37) rfl ?_); refine goesL_ (some 33) rfl rfl Try.func37 (by kernel_rfl) rfl #[.int .i64 t659, .slice A1 l1.length c1, .int .i64 10, .int .i64 8] rfl (by (try simp only [List.map_toArray, List.map_cons, List.map_nil]); first | done | rfl | (simp only [List.length_drop, List.length_take]; rfl)) ?_; (with_reducible refine (torusref04_FitList.calls k t659 _ _ l1 10 8 t660 _ ?side1 ?side2 A5.out).mono ?_); (case side1 => repeat (first | exact (Kd.C_below HR1.out HB.out) | (with_reducible refine Kd.C_alloc ?_ _) | (with_reducible refine Kd.C_drewN ?_ _) | (with_reducible refine Kd.C_drew ?_))); (case side2 => exact HC1.out); rintro e w7 ⟨v661, rfl, ho0, hb⟩; refine ⟨_, rfl, ?_⟩; have n0_ := Aside0.mk (Kd.N_lower (Kd.N_mono (ok' := fun k_ => True) (Kd.S_N (Kd.S_bound ho0)) (fun k_ hk_ => trivial)) (below_size (by repeat (first | (with_reducible first | exact HB.out | apply below_alloc | apply pw_below_drewN | apply below_drew1) | exact HB.out)))); have n1_ := Aside0.mk (below_step (by repeat (first | (with_reducible first | exact HB.out | apply below_alloc | apply pw_below_drewN | apply below_drew1) | exact HB.out)) hb); clear HB; have HO662 := n0_; have HB := n1_; clear n0_ n1_; (try clear hb); (try clear hb2); (try clear hk); (try clear hi); (try clear ho0); obtain ⟨Ao8, co8, eo8⟩ := Kd.N_slice HO662.out; subst eo8))
  go_loopg [8, 9, 35] k (fun kq v8 v9 v35 w' => ∃ (x8_1 : List (List (S45))) (x9_1 : List Int) (x35_1 : Int), v35 = .int .i64 x35_1 ∧ Aside0 (toruslaw04_ColumnRest.l0 kq l2 t659 x8_1 x9_1 t660 (t660.length : Int) x35_1 = some r) ∧ Aside0 (kq ≤ k) ∧ Aside0 (Kd.N (Kd.slice 45 k45) 22 w' w.heap.size (fun k_ => some k_ ≠ (v9 : Value).ownBlock ∧ some k_ ≠ ((.slice Ao8 t660.length co8) : Value).ownBlock) v8 x8_1) ∧ Aside0 (Kd.R (Kd.int .i64) 3 w' w.heap.size (fun _ => True) v9 x9_1) ∧ Aside0 (Kd.N (Kd.slice 45 k45) 22 w' w.heap.size (fun k_ => some k_ ≠ (v8 : Value).ownBlock ∧ some k_ ≠ (v9 : Value).ownBlock) (.slice Ao8 t660.length co8) t660) ∧ Aside0 (Below w.heap.size w w'))
  case atStart => exact ⟨(([] : List (List (S45)))), (([] : List Int)), (0), (by first | rfl | (simp; done) | (simp [*]; done)), H', ⟨Nat.le_refl _⟩, ⟨by first | exact Kd.S_nil _ _ _ _ _ | exact Kd.N_nil _ _ _ _ _ | exact Kd.V_nil _ _ _ _ _ | exact Kd.Q_nil _ _ _ _ _ | exact Kd.R_nil _ _ _ _ _⟩, ⟨by first | exact Kd.R_nil _ _ _ _ _ | exact Kd.N_nil _ _ _ _ _ | exact Kd.V_nil _ _ _ _ _ | exact Kd.Q_nil _ _ _ _ _ | exact Kd.S_nil _ _ _ _ _⟩, ⟨by (with_reducible repeat (first | apply Kd.N_alloc | apply Kd.N_drewN | apply Kd.N_drew)); exact Kd.N_mono HO662.out (fun _ hk => ⟨(by simp [Value.ownBlock]), (by simp [Value.ownBlock])⟩)⟩, ⟨by repeat (first | (with_reducible first | exact HB.out | apply below_alloc | apply pw_below_drewN | apply below_drew1) | exact HB.out)⟩⟩
  case round =>
    clear H'
    try clear c1
    try clear c2
    try clear p2
    try clear c3
    obtain ⟨x8_1, x9_1, x35_1, rfl, HA, HK1, HO_8, HO_9, HO_33, HB⟩ := hrel
    cases gk with
    | zero => exact absurd HA.out (by simp [toruslaw04_ColumnRest.l0])
    | succ k1 =>
      have H := HA.out
      clear HA
      simp only [toruslaw04_ColumnRest.l0] at H
      by_cases c9 : x35_1 < (t660.length : Int)
      · rw [if_pos c9] at H
        have c9b0 : decide (x35_1 < (t660.length : Int)) = true := decide_eq_true c9
        clear c9
        by_cases c10 : 0 ≤ x35_1
        · rw [if_pos c10] at H
          have c10b0 : decide (0 ≤ x35_1) = true := decide_eq_true c10
          clear c10
          by_cases c11 : x35_1 < (t660.length : Int)
          · rw [if_pos c11] at H
            have c11b0 : decide (x35_1 < (t660.length : Int)) = true := decide_eq_true c11
            clear c11
            replace H := Option.bind_eq_some_iff.mp H
            obtain ⟨⟨t664, t665⟩, A120, H⟩ := H
            replace H : (toruslaw04_ColumnRest.l1 k1 l2 t659 x8_1 x9_1 (rd_L2 t660 x35_1) t664 t665 t660 (t660.length : Int) x35_1 x9_1 (x9_1.length : Int) 0) = some r := H
            have A12 := Aside0.mk A120
            clear A120
            have H' := Aside0.mk H
            clear H
            have p663 : 0 ≤ (x35_1 : Int) := of_decide_eq_true (by first | (with_reducible assumption) | assumption)
            have q663 : x35_1 < (t660.length : Int) := of_decide_eq_true (by first | (with_reducible assumption) | assumption)
            obtain ⟨ad663, A663_0, c663_0, e663, hx663_0, hl663_0, hi663_0⟩ := at_L2 (Kd.N_reads' HO_33.out).2.2 x35_1 p663 q663
            cases e663
            obtain ⟨ce663, hce663, hMe663, hcc663⟩ := Kd.N_get HO_33.out [] x35_1 p663 (by first | exact q663 | exact of_decide_eq_true (by first | (with_reducible assumption) | assumption) | (have e_ := (Kd.N_reads' HO_33.out).1; omega))
            obtain ⟨ua663_0, uc663_0, rfl, ul663_0, ge663_0⟩ := Kd.FK_slice_open hMe663
            have hv663_0 := hcc663 0 _ rfl
            rw [Nat.add_zero, show ((Kd.slice 45 k45)).sz = 1 from rfl, Nat.mul_one] at hv663_0
            replace hv663_0 := Option.some.inj (hv663_0.symm.trans hx663_0)
            injection hv663_0 with hva_ hvn_ hvc_
            rw [hva_] at ge663_0
            rw [hvc_] at ul663_0
            have HL663_0 := Aside0.mk (show Kd.V k45 45 _ w.heap.size _ _ (rd_L2 t660 x35_1) from Kd.V_mk ul663_0 ge663_0)
            clear hva_ hvn_ hvc_ ge663_0 ul663_0
            clear hcc663 hce663
            have HR663_0 := Aside0.mk hi663_0
            have HC663_0 := Aside0.mk hl663_0
            clear hi663_0 hl663_0
            replace p663 := eq_true p663
            replace q663 := eq_true q663
            go_wp2_with (first | ((with_reducible refine gate_callee (f := 23) rfl ?_); refine goesL_ (some 41) rfl rfl Try.func23 (by kernel_rfl) rfl #[.slice A663_0 (rd_L2 t660 x35_1).length c663_0] rfl (by (try simp only [List.map_toArray, List.map_cons, List.map_nil]); first | done | rfl | (simp only [List.length_drop, List.length_take]; rfl)) ?_; (with_reducible refine (torusref04_Low.calls _ _ (rd_L2 t660 x35_1) t664 t665 _ ?side1 ?side2 A12.out).mono ?_); (case side1 => repeat (first | exact (by repeat (first | (with_reducible exact HR663_0.out) | (with_reducible refine Kd.C_alloc ?_ _) | (with_reducible refine Kd.C_drewN ?_ _) | (with_reducible refine Kd.C_drew ?_) | exact HR663_0.out)) | (with_reducible refine Kd.C_alloc ?_ _) | (with_reducible refine Kd.C_drewN ?_ _) | (with_reducible refine Kd.C_drew ?_))); (case side2 => exact HC663_0.out); rintro e w' ⟨rfl, ⟨nd, rfl⟩⟩; refine ⟨_, rfl, ?_⟩; obtain ⟨Ao13, co13, eo13⟩ := Kd.R_slice HO_9.out; subst eo13))
            go_loopg [13, 46] k1 (fun kq v13 v46 w' => ∃ (x13_2 : Bool) (x46_2 : Int), v13 = .bool x13_2 ∧ v46 = .int .i64 x46_2 ∧ Aside0 (toruslaw04_ColumnRest.l1 kq l2 t659 x8_1 x9_1 (rd_L2 t660 x35_1) t664 x13_2 t660 (t660.length : Int) x35_1 x9_1 (x9_1.length : Int) x46_2 = some r) ∧ Aside0 (kq ≤ k1) ∧ Aside0 (Kd.N (Kd.slice 45 k45) 22 w' w.heap.size (fun k_ => some k_ ≠ ((.slice Ao13 x9_1.length co13) : Value).ownBlock ∧ some k_ ≠ ((.slice (some ad663) t660.length co8) : Value).ownBlock ∧ some k_ ≠ ((.slice Ao13 x9_1.length co13) : Value).ownBlock) u8 x8_1) ∧ Aside0 (Kd.R (Kd.int .i64) 3 w' w.heap.size (fun _ => True) (.slice Ao13 x9_1.length co13) x9_1) ∧ Aside0 (Kd.V k45 45 w' w.heap.size (fun k_ => some k_ ≠ (u8 : Value).ownBlock ∧ some k_ ≠ ((.slice Ao13 x9_1.length co13) : Value).ownBlock ∧ some k_ ≠ ((.slice (some ad663) t660.length co8) : Value).ownBlock ∧ some k_ ≠ ((.slice Ao13 x9_1.length co13) : Value).ownBlock) (.slice A663_0 (rd_L2 t660 x35_1).length c663_0) (rd_L2 t660 x35_1)) ∧ Aside0 (Kd.N (Kd.slice 45 k45) 22 w' w.heap.size (fun k_ => some k_ ≠ (u8 : Value).ownBlock ∧ some k_ ≠ ((.slice Ao13 x9_1.length co13) : Value).ownBlock ∧ some k_ ≠ ((.slice Ao13 x9_1.length co13) : Value).ownBlock) (.slice (some ad663) t660.length co8) t660) ∧ Aside0 (Kd.R (Kd.int .i64) 3 w' w.heap.size (fun _ => True) (.slice Ao13 x9_1.length co13) x9_1) ∧ Aside0 (Kd.C k45 w' A663_0 (rd_L2 t660 x35_1).length (rd_L2 t660 x35_1)) ∧ Aside0 (Below w.heap.size w w'))
            case atStart => exact ⟨(t665), (0), (by first | rfl | (simp; done) | (simp [*]; done)), (by first | rfl | (simp; done) | (simp [*]; done)), H', ⟨Nat.le_refl _⟩, ⟨by (with_reducible repeat (first | apply Kd.N_alloc | apply Kd.N_drewN | apply Kd.N_drew)); exact Kd.N_mono HO_8.out (fun _ hk => ⟨hk.1, ⟨hk.2, hk.1⟩⟩)⟩, ⟨by (with_reducible repeat (first | apply Kd.R_alloc | apply Kd.R_drewN | apply Kd.R_drew)); exact HO_9.out⟩, ⟨by (with_reducible repeat (first | apply Kd.V_alloc | apply Kd.V_drewN | apply Kd.V_drew)); exact Kd.V_mono HL663_0.out (fun _ hk => ⟨hk.1.1, ⟨hk.1.2, ⟨hk.2, hk.1.2⟩⟩⟩)⟩, ⟨by (with_reducible repeat (first | apply Kd.N_alloc | apply Kd.N_drewN | apply Kd.N_drew)); exact Kd.N_mono HO_33.out (fun _ hk => ⟨hk.1, ⟨hk.2, hk.2⟩⟩)⟩, ⟨by (with_reducible repeat (first | apply Kd.R_alloc | apply Kd.R_drewN | apply Kd.R_drew)); exact HO_9.out⟩, ⟨by repeat (first | (with_reducible exact HR663_0.out) | (with_reducible refine Kd.C_alloc ?_ _) | (with_reducible refine Kd.C_drewN ?_ _) | (with_reducible refine Kd.C_drew ?_) | exact HR663_0.out)⟩, ⟨by repeat (first | (with_reducible first | exact HB.out | apply below_alloc | apply pw_below_drewN | apply below_drew1) | exact HB.out)⟩⟩
            case round =>
              clear H'
              try clear c1
              try clear c2
              try clear p2
              try clear c3
              try clear c6
              try clear p6
              try clear q6
              try clear hx6
              try clear c9
              try clear c9b0
              try clear c10
              try clear c10b0
              try clear c11
              try clear c11b0
              try clear c12
              try clear hx663_0
              try clear p2
              try clear p663
              try clear q663
              obtain ⟨x13_2, x46_2, rfl, rfl, HA, HK2, HO_8, HO_9, HO_11, HO_33, HO_44, HR663_0, HB⟩ := hrel
              cases gk with
              | zero => exact absurd HA.out (by simp [toruslaw04_ColumnRest.l1])
              | succ k2 =>
                have H := HA.out
                clear HA
                simp only [toruslaw04_ColumnRest.l1] at H
                by_cases c14 : x46_2 < (x9_1.length : Int)
                · rw [if_pos c14] at H
                  have c14b0 : decide (x46_2 < (x9_1.length : Int)) = true := decide_eq_true c14
                  clear c14
                  by_cases c15 : 0 ≤ x46_2
                  · rw [if_pos c15] at H
                    have c15b0 : decide (0 ≤ x46_2) = true := decide_eq_true c15
                    clear c15
                    by_cases c16 : x46_2 < (x9_1.length : Int)
                    · rw [if_pos c16] at H
                      have c16b0 : decide (x46_2 < (x9_1.length : Int)) = true := decide_eq_true c16
                      clear c16
                      by_cases c17 : x13_2 = true
                      · subst c17
                        have H1 : (toruslaw04_ColumnRest.l1 k2 l2 t659 x8_1 x9_1 (rd_L2 t660 x35_1) t664 ((rd x9_1 x46_2) != t664) t660 (t660.length : Int) x35_1 x9_1 (x9_1.length : Int) (wrap64 (x46_2 + 1))) = some r := by rw [if_pos rfl] at H; exact H
                        clear H
                        have H := H1
                        clear H1
                        have H' := Aside0.mk H
                        clear H
                        have p666 : 0 ≤ (x46_2 : Int) := of_decide_eq_true (by first | (with_reducible assumption) | assumption)
                        have q666 : x46_2 < (x9_1.length : Int) := of_decide_eq_true (by first | (with_reducible assumption) | assumption)
                        obtain ⟨ad666, e666, hx666_0⟩ := Kd.at_int (Kd.R_reads' HO_44.out).2.2 x46_2 p666 q666
                        cases e666
                        replace p666 := eq_true p666
                        replace q666 := eq_true q666
                        go_wp2
                        go_roundg k2
                        case measure => have := HK1.out; have := HK2.out; omega
                        case rel => exact ⟨(((rd x9_1 x46_2) != t664)), (wrap64 (x46_2 + 1)), (by first | rfl | (simp; done) | (simp [*]; done)), (by first | rfl | (simp; done) | (simp [*]; done)), H', ⟨by have := HK1.out; have := HK2.out; omega⟩, ⟨by (with_reducible repeat (first | apply Kd.N_alloc | apply Kd.N_drewN | apply Kd.N_drew)); exact HO_8.out⟩, ⟨by (with_reducible repeat (first | apply Kd.R_alloc | apply Kd.R_drewN | apply Kd.R_drew)); exact HO_9.out⟩, ⟨by (with_reducible repeat (first | apply Kd.V_alloc | apply Kd.V_drewN | apply Kd.V_drew)); exact HO_11.out⟩, ⟨by (with_reducible repeat (first | apply Kd.N_alloc | apply Kd.N_drewN | apply Kd.N_drew)); exact HO_33.out⟩, ⟨by (with_reducible repeat (first | apply Kd.R_alloc | apply Kd.R_drewN | apply Kd.R_drew)); exact HO_44.out⟩, ⟨by repeat (first | (with_reducible exact HR663_0.out) | (with_reducible refine Kd.C_alloc ?_ _) | (with_reducible refine Kd.C_drewN ?_ _) | (with_reducible refine Kd.C_drew ?_) | exact HR663_0.out)⟩, ⟨by repeat (first | (with_reducible first | exact HB.out | apply below_alloc | apply pw_below_drewN | apply below_drew1) | exact HB.out)⟩⟩
                      · replace c17 := Bool.eq_false_iff.mpr c17
                        subst c17
                        have H1 : (toruslaw04_ColumnRest.l1 k2 l2 t659 x8_1 x9_1 (rd_L2 t660 x35_1) t664 false t660 (t660.length : Int) x35_1 x9_1 (x9_1.length : Int) (wrap64 (x46_2 + 1))) = some r := by rw [if_neg (show ¬ (false = true) by decide)] at H; exact H
                        clear H
                        have H := H1
                        clear H1
                        have H' := Aside0.mk H
                        clear H
                        have p666 : 0 ≤ (x46_2 : Int) := of_decide_eq_true (by first | (with_reducible assumption) | assumption)
                        have q666 : x46_2 < (x9_1.length : Int) := of_decide_eq_true (by first | (with_reducible assumption) | assumption)
                        obtain ⟨ad666, e666, hx666_0⟩ := Kd.at_int (Kd.R_reads' HO_44.out).2.2 x46_2 p666 q666
                        cases e666
                        replace p666 := eq_true p666
                        replace q666 := eq_true q666
                        go_wp2
                        go_roundg k2
                        case measure => have := HK1.out; have := HK2.out; omega
                        case rel => exact ⟨(false), (wrap64 (x46_2 + 1)), (by first | rfl | (simp; done) | (simp [*]; done)), (by first | rfl | (simp; done) | (simp [*]; done)), H', ⟨by have := HK1.out; have := HK2.out; omega⟩, ⟨by (with_reducible repeat (first | apply Kd.N_alloc | apply Kd.N_drewN | apply Kd.N_drew)); exact HO_8.out⟩, ⟨by (with_reducible repeat (first | apply Kd.R_alloc | apply Kd.R_drewN | apply Kd.R_drew)); exact HO_9.out⟩, ⟨by (with_reducible repeat (first | apply Kd.V_alloc | apply Kd.V_drewN | apply Kd.V_drew)); exact HO_11.out⟩, ⟨by (with_reducible repeat (first | apply Kd.N_alloc | apply Kd.N_drewN | apply Kd.N_drew)); exact HO_33.out⟩, ⟨by (with_reducible repeat (first | apply Kd.R_alloc | apply Kd.R_drewN | apply Kd.R_drew)); exact HO_44.out⟩, ⟨by repeat (first | (with_reducible exact HR663_0.out) | (with_reducible refine Kd.C_alloc ?_ _) | (with_reducible refine Kd.C_drewN ?_ _) | (with_reducible refine Kd.C_drew ?_) | exact HR663_0.out)⟩, ⟨by repeat (first | (with_reducible first | exact HB.out | apply below_alloc | apply pw_below_drewN | apply below_drew1) | exact HB.out)⟩⟩
                    · rw [if_neg c16] at H
                      exact absurd H (by simp)
                  · rw [if_neg c15] at H
                    exact absurd H (by simp)
                · rw [if_neg c14] at H
                  have c14b0 : decide (x46_2 < (x9_1.length : Int)) = false := decide_eq_false c14
                  clear c14
                  by_cases c18 : x13_2 = true
                  · subst c18
                    have H1 : (if x8_1.length < 5864062014805 then (if x9_1.length < 17592186044416 then (toruslaw04_ColumnRest.l0 k2 l2 t659 (x8_1 ++ [(rd_L2 t660 x35_1)]) (x9_1 ++ [t664]) t660 (t660.length : Int) (wrap64 (x35_1 + 1))) else (none)) else (none)) = some r := by rw [if_pos rfl] at H; exact H
                    clear H
                    have H := H1
                    clear H1
                    by_cases c19 : x8_1.length < 5864062014805
                    · rw [if_pos c19] at H
                      have LMc19 := Aside0.mk c19
                      clear c19
                      obtain ⟨y667, hy667⟩ : ∃ y_ : List (List (S45)), y_ = (x8_1 ++ [(rd_L2 t660 x35_1)]) := ⟨_, rfl⟩
                      replace H : (if x9_1.length < 17592186044416 then (toruslaw04_ColumnRest.l0 k2 l2 t659 y667 (x9_1 ++ [t664]) t660 (t660.length : Int) (wrap64 (x35_1 + 1))) else (none)) = some r := by first | (rw [hy667]; with_reducible exact H) | (have H2_ := (Option.bind_some _ _).symm.trans H; rw [hy667]; with_reducible exact H2_) | (have H2_ := (Option.bind_some _ _).symm.trans H; with_reducible exact H2_) | with_reducible exact H | (rw [hy667]; exact H) | exact H
                      have Ny667 := Aside0.mk hy667
                      clear hy667
                      by_cases c20 : x9_1.length < 17592186044416
                      · rw [if_pos c20] at H
                        have LMc20 := Aside0.mk c20
                        clear c20
                        obtain ⟨y670, hy670⟩ : ∃ y_ : List Int, y_ = (x9_1 ++ [t664]) := ⟨_, rfl⟩
                        replace H : (toruslaw04_ColumnRest.l0 k2 l2 t659 y667 y670 t660 (t660.length : Int) (wrap64 (x35_1 + 1))) = some r := by first | (rw [hy670]; with_reducible exact H) | (have H2_ := (Option.bind_some _ _).symm.trans H; rw [hy670]; with_reducible exact H2_) | (have H2_ := (Option.bind_some _ _).symm.trans H; with_reducible exact H2_) | with_reducible exact H | (rw [hy670]; exact H) | exact H
                        have Ny670 := Aside0.mk hy670
                        clear hy670
                        have H' := Aside0.mk H
                        clear H
                        go_wp2_with (first | ((with_reducible refine gate_builtin (b := .append) (xs := #[.tmp 58, .tmp 60]) rfl ?_); (try (refine gate_guard (by rfl) ?_; dsimp only)); at_builtin; refine Kd.N_append (Kd.slice 45 k45) (w0 := w) w.heap.size rfl (.tmp 58) (.tmp 60) 37 22 (.slice none 0 0) 24 rfl Try.underlying37 info22 rfl (by decide) (by omega) u8 x8_1 (rd_L2 t660 x35_1) [.slice A663_0 (rd_L2 t660 x35_1).length c663_0] (fun k_ => some k_ ≠ (.slice Ao13 x9_1.length co13 : Value).ownBlock ∧ some k_ ≠ (.slice (some ad663) t660.length co8 : Value).ownBlock ∧ some k_ ≠ (.slice Ao13 x9_1.length co13 : Value).ownBlock) (fun k_ => ((fun k_ => some k_ ≠ (.slice Ao13 x9_1.length co13 : Value).ownBlock ∧ some k_ ≠ (.slice (some ad663) t660.length co8 : Value).ownBlock ∧ some k_ ≠ (.slice Ao13 x9_1.length co13 : Value).ownBlock)) k_ ∧ some k_ ≠ (u8 : Value).ownBlock) rfl rfl ?aP (fun _ hk => hk) ?aF ?aO ?aB ?aS ?aL ?_; (case aP => exact (Kd.FK_slice_mk (Kd.V_reads' (Kd.V_mono (ok' := (fun k_ => ((fun k_ => some k_ ≠ (.slice Ao13 x9_1.length co13 : Value).ownBlock ∧ some k_ ≠ (.slice (some ad663) t660.length co8 : Value).ownBlock ∧ some k_ ≠ (.slice Ao13 x9_1.length co13 : Value).ownBlock)) k_ ∧ some k_ ≠ (u8 : Value).ownBlock)) (HO_11.out) (fun k_ hk => ⟨⟨hk.2.1, ⟨hk.2.2.1, hk.2.2.2⟩⟩, hk.1⟩))).2.1 (Kd.V_F (Kd.V_mono (ok' := (fun k_ => ((fun k_ => some k_ ≠ (.slice Ao13 x9_1.length co13 : Value).ownBlock ∧ some k_ ≠ (.slice (some ad663) t660.length co8 : Value).ownBlock ∧ some k_ ≠ (.slice Ao13 x9_1.length co13 : Value).ownBlock)) k_ ∧ some k_ ≠ (u8 : Value).ownBlock)) (HO_11.out) (fun k_ hk => ⟨⟨hk.2.1, ⟨hk.2.2.1, hk.2.2.2⟩⟩, hk.1⟩))))); (case aB => exact (by repeat (first | (with_reducible first | exact HB.out | apply below_alloc | apply pw_below_drewN | apply below_drew1) | exact HB.out))); (case aF => exact (fun k_ hk => ⟨Kd.fresh' (Kd.R_lt (by (with_reducible repeat (first | apply Kd.R_alloc | apply Kd.R_drewN | apply Kd.R_drew)); exact HO_9.out)) k_ hk, Kd.fresh' (Kd.N_lt (by (with_reducible repeat (first | apply Kd.N_alloc | apply Kd.N_drewN | apply Kd.N_drew)); exact HO_33.out)) k_ hk, Kd.fresh' (Kd.R_lt (by (with_reducible repeat (first | apply Kd.R_alloc | apply Kd.R_drewN | apply Kd.R_drew)); exact HO_44.out)) k_ hk⟩)); (case aO => exact (by (with_reducible repeat (first | apply Kd.N_alloc | apply Kd.N_drewN | apply Kd.N_drew)); exact HO_8.out)); (case aS => exact (below_size (by repeat (first | (with_reducible first | exact HB.out | apply below_alloc | apply pw_below_drewN | apply below_drew1) | exact HB.out)))); (case aL => have := LMc19.out; omega); intro v668 w21 ho hb hg hat; rw [← Ny667.out] at ho; have n0_ := Aside0.mk (Kd.R_over' (by (with_reducible repeat (first | apply Kd.R_alloc | apply Kd.R_drewN | apply Kd.R_drew)); exact HO_9.out) (Kd.N_typed (by (with_reducible repeat (first | apply Kd.N_alloc | apply Kd.N_drewN | apply Kd.N_drew)); exact HO_8.out)) (by decide) hg); have n1_ := Aside0.mk (Kd.V_afterv (ok := (fun k_ => some k_ ≠ (.slice Ao13 x9_1.length co13 : Value).ownBlock ∧ some k_ ≠ (.slice (some ad663) t660.length co8 : Value).ownBlock ∧ some k_ ≠ (.slice Ao13 x9_1.length co13 : Value).ownBlock)) (by (with_reducible repeat (first | apply Kd.V_alloc | apply Kd.V_drewN | apply Kd.V_drew)); exact Kd.V_mono HO_11.out (fun _ hk => ⟨⟨hk.2.1, ⟨hk.2.2.1, hk.2.2.2⟩⟩, hk.1⟩)) hg hat); have n2_ := Aside0.mk (Kd.N_afterv (ok := (fun k_ => some k_ ≠ (.slice Ao13 x9_1.length co13 : Value).ownBlock ∧ some k_ ≠ (.slice Ao13 x9_1.length co13 : Value).ownBlock)) (by (with_reducible repeat (first | apply Kd.N_alloc | apply Kd.N_drewN | apply Kd.N_drew)); exact Kd.N_mono HO_33.out (fun _ hk => ⟨⟨hk.2.1, hk.2.2⟩, hk.1⟩)) hg hat); have n3_ := Aside0.mk (Kd.R_over' (by (with_reducible repeat (first | apply Kd.R_alloc | apply Kd.R_drewN | apply Kd.R_drew)); exact HO_44.out) (Kd.N_typed (by (with_reducible repeat (first | apply Kd.N_alloc | apply Kd.N_drewN | apply Kd.N_drew)); exact HO_8.out)) (by decide) hg); have n4_ := Aside0.mk (hb); have n5_ := Aside0.mk (ho); clear HO_9; clear HO_11; clear HO_33; clear HO_44; clear HB; clear HO_8; have HO_9 := n0_; have HO_11 := n1_; have HO_33 := n2_; have HO_44 := n3_; have HB := n4_; have HO669 := n5_; clear n0_ n1_ n2_ n3_ n4_ n5_; clear ho hb hg hat) | ((with_reducible refine gate_builtin (b := .append) (xs := #[.tmp 62, .tmp 64]) rfl ?_); (try (refine gate_guard (by rfl) ?_; dsimp only)); at_builtin; refine Kd.R_append (Kd.int .i64) (w0 := w) w.heap.size rfl (.tmp 62) (.tmp 64) 47 3 (.int .i64 0) 8 rfl Try.underlying47 info3 rfl (by decide) (by omega) (.slice Ao13 x9_1.length co13) x9_1 t664 [.int .i64 t664] (fun _ => True) (fun _ => False) rfl rfl ?aP (fun _ hk => hk.elim) ?aF ?aO ?aB ?aS ?aL ?_; (case aP => exact rfl); (case aB => exact (by repeat (first | (with_reducible first | exact HB.out | apply below_alloc | apply pw_below_drewN | apply below_drew1) | exact HB.out))); (case aF => exact (fun _ _ => trivial)); (case aO => exact (by (with_reducible repeat (first | apply Kd.R_alloc | apply Kd.R_drewN | apply Kd.R_drew)); exact HO_9.out)); (case aS => exact (below_size (by repeat (first | (with_reducible first | exact HB.out | apply below_alloc | apply pw_below_drewN | apply below_drew1) | exact HB.out)))); (case aL => have := LMc20.out; omega); intro v671 w22 ho hb hg hat; rw [← Ny670.out] at ho; have n0_ := Aside0.mk (Kd.V_afterv (ok := (fun k_ => some k_ ≠ (.slice (some ad663) t660.length co8 : Value).ownBlock ∧ some k_ ≠ (v668 : Value).ownBlock)) (by (with_reducible repeat (first | apply Kd.V_alloc | apply Kd.V_drewN | apply Kd.V_drew)); exact Kd.V_mono HO_11.out (fun _ hk => ⟨⟨hk.1.2.1, hk.2⟩, hk.1.1⟩)) hg hat); have n1_ := Aside0.mk (Kd.N_afterv (ok := (fun k_ => some k_ ≠ (v668 : Value).ownBlock)) (by (with_reducible repeat (first | apply Kd.N_alloc | apply Kd.N_drewN | apply Kd.N_drew)); exact Kd.N_mono HO_33.out (fun _ hk => ⟨hk.2, hk.1.1⟩)) hg hat); have n2_ := Aside0.mk (Kd.N_afterv (ok := (fun k_ => some k_ ≠ (.slice (some ad663) t660.length co8 : Value).ownBlock)) (by (with_reducible repeat (first | apply Kd.N_alloc | apply Kd.N_drewN | apply Kd.N_drew)); exact Kd.N_mono HO669.out (fun _ hk => ⟨hk.2.1, hk.1⟩)) hg hat); have n3_ := Aside0.mk (hb); have n4_ := Aside0.mk (ho); clear HO_11; clear HO_33; clear HO669; clear HB; clear HO_9; have HO_11 := n0_; have HO_33 := n1_; have HO669 := n2_; have HB := n3_; have HO672 := n4_; clear n0_ n1_ n2_ n3_ n4_; clear ho hb hg hat))
                        go_roundg k2
                        case measure => have := HK1.out; have := HK2.out; omega
                        case rel => exact ⟨(y667), (y670), (wrap64 (x35_1 + 1)), (by first | rfl | (simp; done) | (simp [*]; done)), H', ⟨by have := HK1.out; have := HK2.out; omega⟩, ⟨by (with_reducible repeat (first | apply Kd.N_alloc | apply Kd.N_drewN | apply Kd.N_drew)); exact Kd.N_mono HO669.out (fun _ hk => ⟨hk.2, hk.1⟩)⟩, ⟨by (with_reducible repeat (first | apply Kd.R_alloc | apply Kd.R_drewN | apply Kd.R_drew)); exact HO672.out⟩, ⟨by (with_reducible repeat (first | apply Kd.N_alloc | apply Kd.N_drewN | apply Kd.N_drew)); exact HO_33.out⟩, ⟨by repeat (first | (with_reducible first | exact HB.out | apply below_alloc | apply pw_below_drewN | apply below_drew1) | exact HB.out)⟩⟩
                      · rw [if_neg c20] at H
                        exact absurd H (by simp)
                    · rw [if_neg c19] at H
                      exact absurd H (by simp)
                  · replace c18 := Bool.eq_false_iff.mpr c18
                    subst c18
                    have H1 : (toruslaw04_ColumnRest.l0 k2 l2 t659 x8_1 x9_1 t660 (t660.length : Int) (wrap64 (x35_1 + 1))) = some r := by rw [if_neg (show ¬ (false = true) by decide)] at H; exact H
                    clear H
                    have H := H1
                    clear H1
                    have H' := Aside0.mk H
                    clear H
                    go_wp2
                    go_roundg k2
                    case measure => have := HK1.out; have := HK2.out; omega
                    case rel => exact ⟨(x8_1), (x9_1), (wrap64 (x35_1 + 1)), (by first | rfl | (simp; done) | (simp [*]; done)), H', ⟨by have := HK1.out; have := HK2.out; omega⟩, ⟨by (with_reducible repeat (first | apply Kd.N_alloc | apply Kd.N_drewN | apply Kd.N_drew)); exact Kd.N_mono HO_8.out (fun _ hk => ⟨hk.1, hk.2.1⟩)⟩, ⟨by (with_reducible repeat (first | apply Kd.R_alloc | apply Kd.R_drewN | apply Kd.R_drew)); exact HO_9.out⟩, ⟨by (with_reducible repeat (first | apply Kd.N_alloc | apply Kd.N_drewN | apply Kd.N_drew)); exact Kd.N_mono HO_33.out (fun _ hk => ⟨hk.1, hk.2.1⟩)⟩, ⟨by repeat (first | (with_reducible first | exact HB.out | apply below_alloc | apply pw_below_drewN | apply below_drew1) | exact HB.out)⟩⟩
          · rw [if_neg c11] at H
            exact absurd H (by simp)
        · rw [if_neg c10] at H
          exact absurd H (by simp)
      · rw [if_neg c9] at H
        have c9b0 : decide (x35_1 < (t660.length : Int)) = false := decide_eq_false c9
        clear c9
        replace H := Option.bind_eq_some_iff.mp H
        obtain ⟨t673, A230, H⟩ := H
        replace H : ((column_Rest.f k1 t659 x8_1 t673).bind fun bt676 => ((column_Combine.f k1 t659 x8_1 bt676.2.1).bind fun bt683 => ((column_Rest.f k1 t659 x8_1 bt676.1).bind fun bt687 => ((torusref04_CopyList.f k1 x8_1).bind fun t694 => (if t694.length < 5864062014805 then ((column_Rank.f k1 t659 (t694 ++ [t673])).bind fun bt700 => (if bt676.2.2 = 0 then (if bt683.2 = 0 then (if bt687.2.2 = 0 then (if bt700.2 = 0 then ((toruslaw04_plus.f k1 t659 bt676.1 1 bt683.1).bind fun t702 => ((torusref04_Same.f k1 t702 t673).bind fun t705 => (if t705 = true then ((torusref04_Same.f k1 bt687.1 bt676.1).bind fun t706 => (if t706 = true then (if (bt687.2.1.length : Int) > 0 then (toruslaw04_ColumnRest.j2 k1 x9_1 bt676.1 true) else (toruslaw04_ColumnRest.j2 k1 x9_1 bt676.1 (((bt676.1.length : Int) == 0) != (bt700.1 == (x8_1.length : Int))))) else (toruslaw04_ColumnRest.j2 k1 x9_1 bt676.1 true))) else (toruslaw04_ColumnRest.j2 k1 x9_1 bt676.1 true)))) else (toruslaw04_ColumnRest.j2 k1 x9_1 bt676.1 true)) else (toruslaw04_ColumnRest.j2 k1 x9_1 bt676.1 true)) else (toruslaw04_ColumnRest.j2 k1 x9_1 bt676.1 true)) else (toruslaw04_ColumnRest.j2 k1 x9_1 bt676.1 true))) else (none)))))) = some r := H
        have A23 := Aside0.mk A230
        clear A230
        replace H := Option.bind_eq_some_iff.mp H
        obtain ⟨⟨t676, t677, t678⟩, A240, H⟩ := H
        replace H : ((column_Combine.f k1 t659 x8_1 t677).bind fun bt683 => ((column_Rest.f k1 t659 x8_1 t676).bind fun bt687 => ((torusref04_CopyList.f k1 x8_1).bind fun t694 => (if t694.length < 5864062014805 then ((column_Rank.f k1 t659 (t694 ++ [t673])).bind fun bt700 => (if t678 = 0 then (if bt683.2 = 0 then (if bt687.2.2 = 0 then (if bt700.2 = 0 then ((toruslaw04_plus.f k1 t659 t676 1 bt683.1).bind fun t702 => ((torusref04_Same.f k1 t702 t673).bind fun t705 => (if t705 = true then ((torusref04_Same.f k1 bt687.1 t676).bind fun t706 => (if t706 = true then (if (bt687.2.1.length : Int) > 0 then (toruslaw04_ColumnRest.j2 k1 x9_1 t676 true) else (toruslaw04_ColumnRest.j2 k1 x9_1 t676 (((t676.length : Int) == 0) != (bt700.1 == (x8_1.length : Int))))) else (toruslaw04_ColumnRest.j2 k1 x9_1 t676 true))) else (toruslaw04_ColumnRest.j2 k1 x9_1 t676 true)))) else (toruslaw04_ColumnRest.j2 k1 x9_1 t676 true)) else (toruslaw04_ColumnRest.j2 k1 x9_1 t676 true)) else (toruslaw04_ColumnRest.j2 k1 x9_1 t676 true)) else (toruslaw04_ColumnRest.j2 k1 x9_1 t676 true))) else (none))))) = some r := H
        have A24 := Aside0.mk A240
        clear A240
        replace H := Option.bind_eq_some_iff.mp H
        obtain ⟨⟨t683, t684⟩, A250, H⟩ := H
        replace H : ((column_Rest.f k1 t659 x8_1 t676).bind fun bt687 => ((torusref04_CopyList.f k1 x8_1).bind fun t694 => (if t694.length < 5864062014805 then ((column_Rank.f k1 t659 (t694 ++ [t673])).bind fun bt700 => (if t678 = 0 then (if t684 = 0 then (if bt687.2.2 = 0 then (if bt700.2 = 0 then ((toruslaw04_plus.f k1 t659 t676 1 t683).bind fun t702 => ((torusref04_Same.f k1 t702 t673).bind fun t705 => (if t705 = true then ((torusref04_Same.f k1 bt687.1 t676).bind fun t706 => (if t706 = true then (if (bt687.2.1.length : Int) > 0 then (toruslaw04_ColumnRest.j2 k1 x9_1 t676 true) else (toruslaw04_ColumnRest.j2 k1 x9_1 t676 (((t676.length : Int) == 0) != (bt700.1 == (x8_1.length : Int))))) else (toruslaw04_ColumnRest.j2 k1 x9_1 t676 true))) else (toruslaw04_ColumnRest.j2 k1 x9_1 t676 true)))) else (toruslaw04_ColumnRest.j2 k1 x9_1 t676 true)) else (toruslaw04_ColumnRest.j2 k1 x9_1 t676 true)) else (toruslaw04_ColumnRest.j2 k1 x9_1 t676 true)) else (toruslaw04_ColumnRest.j2 k1 x9_1 t676 true))) else (none)))) = some r := H
        have A25 := Aside0.mk A250
        clear A250
        replace H := Option.bind_eq_some_iff.mp H
        obtain ⟨⟨t687, t688, t689⟩, A260, H⟩ := H
        replace H : ((torusref04_CopyList.f k1 x8_1).bind fun t694 => (if t694.length < 5864062014805 then ((column_Rank.f k1 t659 (t694 ++ [t673])).bind fun bt700 => (if t678 = 0 then (if t684 = 0 then (if t689 = 0 then (if bt700.2 = 0 then ((toruslaw04_plus.f k1 t659 t676 1 t683).bind fun t702 => ((torusref04_Same.f k1 t702 t673).bind fun t705 => (if t705 = true then ((torusref04_Same.f k1 t687 t676).bind fun t706 => (if t706 = true then (if (t688.length : Int) > 0 then (toruslaw04_ColumnRest.j2 k1 x9_1 t676 true) else (toruslaw04_ColumnRest.j2 k1 x9_1 t676 (((t676.length : Int) == 0) != (bt700.1 == (x8_1.length : Int))))) else (toruslaw04_ColumnRest.j2 k1 x9_1 t676 true))) else (toruslaw04_ColumnRest.j2 k1 x9_1 t676 true)))) else (toruslaw04_ColumnRest.j2 k1 x9_1 t676 true)) else (toruslaw04_ColumnRest.j2 k1 x9_1 t676 true)) else (toruslaw04_ColumnRest.j2 k1 x9_1 t676 true)) else (toruslaw04_ColumnRest.j2 k1 x9_1 t676 true))) else (none))) = some r := H
        have A26 := Aside0.mk A260
        clear A260
        replace H := Option.bind_eq_some_iff.mp H
        obtain ⟨t694, A270, H⟩ := H
        replace H : (if t694.length < 5864062014805 then ((column_Rank.f k1 t659 (t694 ++ [t673])).bind fun bt700 => (if t678 = 0 then (if t684 = 0 then (if t689 = 0 then (if bt700.2 = 0 then ((toruslaw04_plus.f k1 t659 t676 1 t683).bind fun t702 => ((torusref04_Same.f k1 t702 t673).bind fun t705 => (if t705 = true then ((torusref04_Same.f k1 t687 t676).bind fun t706 => (if t706 = true then (if (t688.length : Int) > 0 then (toruslaw04_ColumnRest.j2 k1 x9_1 t676 true) else (toruslaw04_ColumnRest.j2 k1 x9_1 t676 (((t676.length : Int) == 0) != (bt700.1 == (x8_1.length : Int))))) else (toruslaw04_ColumnRest.j2 k1 x9_1 t676 true))) else (toruslaw04_ColumnRest.j2 k1 x9_1 t676 true)))) else (toruslaw04_ColumnRest.j2 k1 x9_1 t676 true)) else (toruslaw04_ColumnRest.j2 k1 x9_1 t676 true)) else (toruslaw04_ColumnRest.j2 k1 x9_1 t676 true)) else (toruslaw04_ColumnRest.j2 k1 x9_1 t676 true))) else (none)) = some r := H
        have A27 := Aside0.mk A270
        clear A270
        by_cases c28 : t694.length < 5864062014805
        · rw [if_pos c28] at H
          have LMc28 := Aside0.mk c28
          clear c28
          obtain ⟨y697, hy697⟩ : ∃ y_ : List (List (S45)), y_ = (t694 ++ [t673]) := ⟨_, rfl⟩
          replace H : ((column_Rank.f k1 t659 y697).bind fun bt700 => (if t678 = 0 then (if t684 = 0 then (if t689 = 0 then (if bt700.2 = 0 then ((toruslaw04_plus.f k1 t659 t676 1 t683).bind fun t702 => ((torusref04_Same.f k1 t702 t673).bind fun t705 => (if t705 = true then ((torusref04_Same.f k1 t687 t676).bind fun t706 => (if t706 = true then (if (t688.length : Int) > 0 then (toruslaw04_ColumnRest.j2 k1 x9_1 t676 true) else (toruslaw04_ColumnRest.j2 k1 x9_1 t676 (((t676.length : Int) == 0) != (bt700.1 == (x8_1.length : Int))))) else (toruslaw04_ColumnRest.j2 k1 x9_1 t676 true))) else (toruslaw04_ColumnRest.j2 k1 x9_1 t676 true)))) else (toruslaw04_ColumnRest.j2 k1 x9_1 t676 true)) else (toruslaw04_ColumnRest.j2 k1 x9_1 t676 true)) else (toruslaw04_ColumnRest.j2 k1 x9_1 t676 true)) else (toruslaw04_ColumnRest.j2 k1 x9_1 t676 true))) = some r := by first | (rw [hy697]; with_reducible exact H) | (have H2_ := (Option.bind_some _ _).symm.trans H; rw [hy697]; with_reducible exact H2_) | (have H2_ := (Option.bind_some _ _).symm.trans H; with_reducible exact H2_) | with_reducible exact H | (rw [hy697]; exact H) | exact H
          have Ny697 := Aside0.mk hy697
          clear hy697
          replace H := Option.bind_eq_some_iff.mp H
          obtain ⟨⟨t700, t701⟩, A290, H⟩ := H
          replace H : (if t678 = 0 then (if t684 = 0 then (if t689 = 0 then (if t701 = 0 then ((toruslaw04_plus.f k1 t659 t676 1 t683).bind fun t702 => ((torusref04_Same.f k1 t702 t673).bind fun t705 => (if t705 = true then ((torusref04_Same.f k1 t687 t676).bind fun t706 => (if t706 = true then (if (t688.length : Int) > 0 then (toruslaw04_ColumnRest.j2 k1 x9_1 t676 true) else (toruslaw04_ColumnRest.j2 k1 x9_1 t676 (((t676.length : Int) == 0) != (t700 == (x8_1.length : Int))))) else (toruslaw04_ColumnRest.j2 k1 x9_1 t676 true))) else (toruslaw04_ColumnRest.j2 k1 x9_1 t676 true)))) else (toruslaw04_ColumnRest.j2 k1 x9_1 t676 true)) else (toruslaw04_ColumnRest.j2 k1 x9_1 t676 true)) else (toruslaw04_ColumnRest.j2 k1 x9_1 t676 true)) else (toruslaw04_ColumnRest.j2 k1 x9_1 t676 true)) = some r := H
          have A29 := Aside0.mk A290
          clear A290
          have HC30 := Aside0.mk H
          clear H
          go_upto_region 21 with (first | ((with_reducible refine gate_callee (f := 13) rfl ?_); refine goesL_ (some 69) rfl rfl Try.func13 (by kernel_rfl) rfl #[.int .i64 t659, .slice A2 l2.length c2, .int .i64 10] rfl (by (try simp only [List.map_toArray, List.map_cons, List.map_nil]); first | done | rfl | (simp only [List.length_drop, List.length_take]; rfl)) ?_; (with_reducible refine (torusref04_Fit.calls k1 t659 _ _ l2 10 t673 _ ?side1 ?side2 A23.out).mono ?_); (case side1 => repeat (first | exact (Kd.C_below HR2.out HB.out) | (with_reducible refine Kd.C_alloc ?_ _) | (with_reducible refine Kd.C_drewN ?_ _) | (with_reducible refine Kd.C_drew ?_))); (case side2 => exact HC2.out); rintro e w31 ⟨v674, rfl, ho0, hb⟩; refine ⟨_, rfl, ?_⟩; have n0_ := Aside0.mk (Kd.N_elder' (by (with_reducible repeat (first | apply Kd.N_alloc | apply Kd.N_drewN | apply Kd.N_drew)); exact HO_8.out) (Kd.R_base ho0) hb); have n1_ := Aside0.mk (Kd.R_below (by (with_reducible repeat (first | apply Kd.R_alloc | apply Kd.R_drewN | apply Kd.R_drew)); exact HO_9.out) hb); have n2_ := Aside0.mk (Kd.N_elder' (by (with_reducible repeat (first | apply Kd.N_alloc | apply Kd.N_drewN | apply Kd.N_drew)); exact HO_33.out) (Kd.R_base ho0) hb); have n3_ := Aside0.mk (Kd.R_lower ho0 (below_size (by repeat (first | (with_reducible first | exact HB.out | apply below_alloc | apply pw_below_drewN | apply below_drew1) | exact HB.out)))); have n4_ := Aside0.mk (below_step (by repeat (first | (with_reducible first | exact HB.out | apply below_alloc | apply pw_below_drewN | apply below_drew1) | exact HB.out)) hb); clear HO_8; clear HO_9; clear HO_33; clear HB; have HO_8 := n0_; have HO_9 := n1_; have HO_33 := n2_; have HO675 := n3_; have HB := n4_; clear n0_ n1_ n2_ n3_ n4_; (try clear hb); (try clear hb2); (try clear hk); (try clear hi); (try clear ho0); obtain ⟨Ao32, co32, eo32⟩ := Kd.N_slice HO_8.out; subst eo32; obtain ⟨Ao33, co33, eo33⟩ := Kd.R_slice HO675.out; subst eo33) | ((with_reducible refine gate_callee (f := 45) rfl ?_); refine goesL_ (some 74) rfl rfl Try.func45 (by kernel_rfl) rfl #[.int .i64 t659, .slice Ao32 x8_1.length co32, .slice Ao33 t673.length co33] rfl (by (try simp only [List.map_toArray, List.map_cons, List.map_nil]); first | done | rfl | (simp only [List.length_drop, List.length_take]; rfl)) ?_; (with_reducible refine (column_Rest.calls k1 t659 _ _ x8_1 _ _ t673 t676 t677 t678 _ ?side1 ?side2 ?side3 ?side4 A24.out).mono ?_); (case side1 => repeat (first | exact (Kd.N_reads' HO_8.out).2.2 | (with_reducible refine Kd.C_alloc ?_ _) | (with_reducible refine Kd.C_drewN ?_ _) | (with_reducible refine Kd.C_drew ?_))); (case side2 => exact (Kd.N_reads' HO_8.out).2.1); (case side3 => repeat (first | exact (Kd.R_reads' HO675.out).2.2 | (with_reducible refine Kd.C_alloc ?_ _) | (with_reducible refine Kd.C_drewN ?_ _) | (with_reducible refine Kd.C_drew ?_))); (case side4 => exact (Kd.R_reads' HO675.out).2.1); rintro e w34 ⟨v679, v681, rfl, ho0, ho1, hb⟩; refine ⟨_, rfl, ?_⟩; have n0_ := Aside0.mk (Kd.N_mono (Kd.N_told (Kd.N_told (Kd.N_old (by (with_reducible repeat (first | apply Kd.N_alloc | apply Kd.N_drewN | apply Kd.N_drew)); exact HO_8.out) hb) (Kd.R_base ho0)) (Kd.R_base ho1)) (fun _ h_ => h_.1)); have n1_ := Aside0.mk (Kd.R_below (by (with_reducible repeat (first | apply Kd.R_alloc | apply Kd.R_drewN | apply Kd.R_drew)); exact HO_9.out) hb); have n2_ := Aside0.mk (Kd.N_mono (Kd.N_told (Kd.N_told (Kd.N_old (by (with_reducible repeat (first | apply Kd.N_alloc | apply Kd.N_drewN | apply Kd.N_drew)); exact HO_33.out) hb) (Kd.R_base ho0)) (Kd.R_base ho1)) (fun _ h_ => h_.1)); have n3_ := Aside0.mk (Kd.R_mono (Kd.R_told (Kd.R_told (Kd.R_old (by (with_reducible repeat (first | apply Kd.R_alloc | apply Kd.R_drewN | apply Kd.R_drew)); exact HO675.out) hb) (Kd.R_base ho0)) (Kd.R_base ho1)) (fun _ h_ => h_.1)); have n4_ := Aside0.mk (Kd.R_lower (Kd.R_new' ho0 (Kd.R_lt (by (with_reducible repeat (first | apply Kd.R_alloc | apply Kd.R_drewN | apply Kd.R_drew)); exact HO675.out))) (below_size (by repeat (first | (with_reducible first | exact HB.out | apply below_alloc | apply pw_below_drewN | apply below_drew1) | exact HB.out)))); have n5_ := Aside0.mk (Kd.R_lower (Kd.R_new' ho1 (Kd.R_lt (by (with_reducible repeat (first | apply Kd.R_alloc | apply Kd.R_drewN | apply Kd.R_drew)); exact HO675.out))) (below_size (by repeat (first | (with_reducible first | exact HB.out | apply below_alloc | apply pw_below_drewN | apply below_drew1) | exact HB.out)))); have n6_ := Aside0.mk (below_step (by repeat (first | (with_reducible first | exact HB.out | apply below_alloc | apply pw_below_drewN | apply below_drew1) | exact HB.out)) hb); clear HO_8; clear HO_9; clear HO_33; clear HO675; clear HB; have HO_8 := n0_; have HO_9 := n1_; have HO_33 := n2_; have HO675 := n3_; have HO680 := n4_; have HO682 := n5_; have HB := n6_; clear n0_ n1_ n2_ n3_ n4_ n5_ n6_; (try clear hb); (try clear hb2); (try clear hk); (try clear hi); (try clear ho0); (try clear ho1); obtain ⟨Ao35, co35, eo35⟩ := Kd.R_slice HO682.out; subst eo35) | ((with_reducible refine gate_callee (f := 43) rfl ?_); refine goesL_ (some 82) rfl rfl Try.func43 (by kernel_rfl) rfl #[.int .i64 t659, .slice Ao32 x8_1.length co32, .slice Ao35 t677.length co35] rfl (by (try simp only [List.map_toArray, List.map_cons, List.map_nil]); first | done | rfl | (simp only [List.length_drop, List.length_take]; rfl)) ?_; (with_reducible refine (column_Combine.calls k1 t659 _ _ x8_1 _ _ t677 t683 t684 _ ?side1 ?side2 ?side3 ?side4 A25.out).mono ?_); (case side1 => repeat (first | exact (Kd.N_reads' HO_8.out).2.2 | (with_reducible refine Kd.C_alloc ?_ _) | (with_reducible refine Kd.C_drewN ?_ _) | (with_reducible refine Kd.C_drew ?_))); (case side2 => exact (Kd.N_reads' HO_8.out).2.1); (case side3 => repeat (first | exact (Kd.R_reads' HO682.out).2.2 | (with_reducible refine Kd.C_alloc ?_ _) | (with_reducible refine Kd.C_drewN ?_ _) | (with_reducible refine Kd.C_drew ?_))); (case side4 => exact (Kd.R_reads' HO682.out).2.1); rintro e w36 ⟨v685, rfl, ho0, hb⟩; refine ⟨_, rfl, ?_⟩; have n0_ := Aside0.mk (Kd.N_elder' (by (with_reducible repeat (first | apply Kd.N_alloc | apply Kd.N_drewN | apply Kd.N_drew)); exact HO_8.out) (Kd.R_base ho0) hb); have n1_ := Aside0.mk (Kd.R_below (by (with_reducible repeat (first | apply Kd.R_alloc | apply Kd.R_drewN | apply Kd.R_drew)); exact HO_9.out) hb); have n2_ := Aside0.mk (Kd.N_elder' (by (with_reducible repeat (first | apply Kd.N_alloc | apply Kd.N_drewN | apply Kd.N_drew)); exact HO_33.out) (Kd.R_base ho0) hb); have n3_ := Aside0.mk (Kd.R_elder' (by (with_reducible repeat (first | apply Kd.R_alloc | apply Kd.R_drewN | apply Kd.R_drew)); exact HO675.out) (Kd.R_base ho0) hb); have n4_ := Aside0.mk (Kd.R_elder' (by (with_reducible repeat (first | apply Kd.R_alloc | apply Kd.R_drewN | apply Kd.R_drew)); exact HO680.out) (Kd.R_base ho0) hb); have n5_ := Aside0.mk (Kd.R_elder' (by (with_reducible repeat (first | apply Kd.R_alloc | apply Kd.R_drewN | apply Kd.R_drew)); exact HO682.out) (Kd.R_base ho0) hb); have n6_ := Aside0.mk (Kd.R_lower (Kd.R_new' (Kd.R_new' (Kd.R_new' ho0 (Kd.R_lt (by (with_reducible repeat (first | apply Kd.R_alloc | apply Kd.R_drewN | apply Kd.R_drew)); exact HO675.out))) (Kd.R_lt (by (with_reducible repeat (first | apply Kd.R_alloc | apply Kd.R_drewN | apply Kd.R_drew)); exact HO680.out))) (Kd.R_lt (by (with_reducible repeat (first | apply Kd.R_alloc | apply Kd.R_drewN | apply Kd.R_drew)); exact HO682.out))) (below_size (by repeat (first | (with_reducible first | exact HB.out | apply below_alloc | apply pw_below_drewN | apply below_drew1) | exact HB.out)))); have n7_ := Aside0.mk (below_step (by repeat (first | (with_reducible first | exact HB.out | apply below_alloc | apply pw_below_drewN | apply below_drew1) | exact HB.out)) hb); clear HO_8; clear HO_9; clear HO_33; clear HO675; clear HO680; clear HO682; clear HB; have HO_8 := n0_; have HO_9 := n1_; have HO_33 := n2_; have HO675 := n3_; have HO680 := n4_; have HO682 := n5_; have HO686 := n6_; have HB := n7_; clear n0_ n1_ n2_ n3_ n4_ n5_ n6_ n7_; (try clear hb); (try clear hb2); (try clear hk); (try clear hi); (try clear ho0); obtain ⟨Ao37, co37, eo37⟩ := Kd.R_slice HO680.out; subst eo37) | ((with_reducible refine gate_callee (f := 45) rfl ?_); refine goesL_ (some 89) rfl rfl Try.func45 (by kernel_rfl) rfl #[.int .i64 t659, .slice Ao32 x8_1.length co32, .slice Ao37 t676.length co37] rfl (by (try simp only [List.map_toArray, List.map_cons, List.map_nil]); first | done | rfl | (simp only [List.length_drop, List.length_take]; rfl)) ?_; (with_reducible refine (column_Rest.calls k1 t659 _ _ x8_1 _ _ t676 t687 t688 t689 _ ?side1 ?side2 ?side3 ?side4 A26.out).mono ?_); (case side1 => repeat (first | exact (Kd.N_reads' HO_8.out).2.2 | (with_reducible refine Kd.C_alloc ?_ _) | (with_reducible refine Kd.C_drewN ?_ _) | (with_reducible refine Kd.C_drew ?_))); (case side2 => exact (Kd.N_reads' HO_8.out).2.1); (case side3 => repeat (first | exact (Kd.R_reads' HO680.out).2.2 | (with_reducible refine Kd.C_alloc ?_ _) | (with_reducible refine Kd.C_drewN ?_ _) | (with_reducible refine Kd.C_drew ?_))); (case side4 => exact (Kd.R_reads' HO680.out).2.1); rintro e w38 ⟨v690, v692, rfl, ho0, ho1, hb⟩; refine ⟨_, rfl, ?_⟩; have n0_ := Aside0.mk (Kd.N_mono (Kd.N_told (Kd.N_told (Kd.N_old (by (with_reducible repeat (first | apply Kd.N_alloc | apply Kd.N_drewN | apply Kd.N_drew)); exact HO_8.out) hb) (Kd.R_base ho0)) (Kd.R_base ho1)) (fun _ h_ => h_.1)); have n1_ := Aside0.mk (Kd.R_below (by (with_reducible repeat (first | apply Kd.R_alloc | apply Kd.R_drewN | apply Kd.R_drew)); exact HO_9.out) hb); have n2_ := Aside0.mk (Kd.N_mono (Kd.N_told (Kd.N_told (Kd.N_old (by (with_reducible repeat (first | apply Kd.N_alloc | apply Kd.N_drewN | apply Kd.N_drew)); exact HO_33.out) hb) (Kd.R_base ho0)) (Kd.R_base ho1)) (fun _ h_ => h_.1)); have n3_ := Aside0.mk (Kd.R_mono (Kd.R_told (Kd.R_told (Kd.R_old (by (with_reducible repeat (first | apply Kd.R_alloc | apply Kd.R_drewN | apply Kd.R_drew)); exact HO675.out) hb) (Kd.R_base ho0)) (Kd.R_base ho1)) (fun _ h_ => h_.1)); have n4_ := Aside0.mk (Kd.R_mono (Kd.R_told (Kd.R_told (Kd.R_old (by (with_reducible repeat (first | apply Kd.R_alloc | apply Kd.R_drewN | apply Kd.R_drew)); exact HO680.out) hb) (Kd.R_base ho0)) (Kd.R_base ho1)) (fun _ h_ => h_.1)); have n5_ := Aside0.mk (Kd.R_mono (Kd.R_told (Kd.R_told (Kd.R_old (by (with_reducible repeat (first | apply Kd.R_alloc | apply Kd.R_drewN | apply Kd.R_drew)); exact HO682.out) hb) (Kd.R_base ho0)) (Kd.R_base ho1)) (fun _ h_ => h_.1)); have n6_ := Aside0.mk (Kd.R_mono (Kd.R_told (Kd.R_told (Kd.R_old (by (with_reducible repeat (first | apply Kd.R_alloc | apply Kd.R_drewN | apply Kd.R_drew)); exact HO686.out) hb) (Kd.R_base ho0)) (Kd.R_base ho1)) (fun _ h_ => h_.1)); have n7_ := Aside0.mk (Kd.R_lower (Kd.R_new' (Kd.R_new' (Kd.R_new' (Kd.R_new' ho0 (Kd.R_lt (by (with_reducible repeat (first | apply Kd.R_alloc | apply Kd.R_drewN | apply Kd.R_drew)); exact HO675.out))) (Kd.R_lt (by (with_reducible repeat (first | apply Kd.R_alloc | apply Kd.R_drewN | apply Kd.R_drew)); exact HO680.out))) (Kd.R_lt (by (with_reducible repeat (first | apply Kd.R_alloc | apply Kd.R_drewN | apply Kd.R_drew)); exact HO682.out))) (Kd.R_lt (by (with_reducible repeat (first | apply Kd.R_alloc | apply Kd.R_drewN | apply Kd.R_drew)); exact HO686.out))) (below_size (by repeat (first | (with_reducible first | exact HB.out | apply below_alloc | apply pw_below_drewN | apply below_drew1) | exact HB.out)))); have n8_ := Aside0.mk (Kd.R_lower (Kd.R_new' (Kd.R_new' (Kd.R_new' (Kd.R_new' ho1 (Kd.R_lt (by (with_reducible repeat (first | apply Kd.R_alloc | apply Kd.R_drewN | apply Kd.R_drew)); exact HO675.out))) (Kd.R_lt (by (with_reducible repeat (first | apply Kd.R_alloc | apply Kd.R_drewN | apply Kd.R_drew)); exact HO680.out))) (Kd.R_lt (by (with_reducible repeat (first | apply Kd.R_alloc | apply Kd.R_drewN | apply Kd.R_drew)); exact HO682.out))) (Kd.R_lt (by (with_reducible repeat (first | apply Kd.R_alloc | apply Kd.R_drewN | apply Kd.R_drew)); exact HO686.out))) (below_size (by repeat (first | (with_reducible first | exact HB.out | apply below_alloc | apply pw_below_drewN | apply below_drew1) | exact HB.out)))); have n9_ := Aside0.mk (below_step (by repeat (first | (with_reducible first | exact HB.out | apply below_alloc | apply pw_below_drewN | apply below_drew1) | exact HB.out)) hb); clear HO_8; clear HO_9; clear HO_33; clear HO675; clear HO680; clear HO682; clear HO686; clear HB; have HO_8 := n0_; have HO_9 := n1_; have HO_33 := n2_; have HO675 := n3_; have HO680 := n4_; have HO682 := n5_; have HO686 := n6_; have HO691 := n7_; have HO693 := n8_; have HB := n9_; clear n0_ n1_ n2_ n3_ n4_ n5_ n6_ n7_ n8_ n9_; (try clear hb); (try clear hb2); (try clear hk); (try clear hi); (try clear ho0); (try clear ho1)) | ((with_reducible refine gate_callee (f := 41) rfl ?_); refine goesL_ (some 96) rfl rfl Try.func41 (by kernel_rfl) rfl #[.slice Ao32 x8_1.length co32] rfl (by (try simp only [List.map_toArray, List.map_cons, List.map_nil]); first | done | rfl | (simp only [List.length_drop, List.length_take]; rfl)) ?_; (with_reducible refine (torusref04_CopyList.calls k1 _ _ x8_1 t694 _ ?side1 ?side2 A27.out).mono ?_); (case side1 => repeat (first | exact (Kd.N_reads' HO_8.out).2.2 | (with_reducible refine Kd.C_alloc ?_ _) | (with_reducible refine Kd.C_drewN ?_ _) | (with_reducible refine Kd.C_drew ?_))); (case side2 => exact (Kd.N_reads' HO_8.out).2.1); rintro e w39 ⟨v695, rfl, ho0, hb⟩; refine ⟨_, rfl, ?_⟩; have n0_ := Aside0.mk (Kd.N_elder' (by (with_reducible repeat (first | apply Kd.N_alloc | apply Kd.N_drewN | apply Kd.N_drew)); exact HO_8.out) (by first | exact Kd.S_base ho0 | exact Kd.R_base ho0 | exact Kd.N_base ho0) hb); have n1_ := Aside0.mk (Kd.R_below (by (with_reducible repeat (first | apply Kd.R_alloc | apply Kd.R_drewN | apply Kd.R_drew)); exact HO_9.out) hb); have n2_ := Aside0.mk (Kd.N_elder' (by (with_reducible repeat (first | apply Kd.N_alloc | apply Kd.N_drewN | apply Kd.N_drew)); exact HO_33.out) (by first | exact Kd.S_base ho0 | exact Kd.R_base ho0 | exact Kd.N_base ho0) hb); have n3_ := Aside0.mk (Kd.R_below (by (with_reducible repeat (first | apply Kd.R_alloc | apply Kd.R_drewN | apply Kd.R_drew)); exact HO675.out) hb); have n4_ := Aside0.mk (Kd.R_below (by (with_reducible repeat (first | apply Kd.R_alloc | apply Kd.R_drewN | apply Kd.R_drew)); exact HO680.out) hb); have n5_ := Aside0.mk (Kd.R_below (by (with_reducible repeat (first | apply Kd.R_alloc | apply Kd.R_drewN | apply Kd.R_drew)); exact HO682.out) hb); have n6_ := Aside0.mk (Kd.R_below (by (with_reducible repeat (first | apply Kd.R_alloc | apply Kd.R_drewN | apply Kd.R_drew)); exact HO686.out) hb); have n7_ := Aside0.mk (Kd.R_below (by (with_reducible repeat (first | apply Kd.R_alloc | apply Kd.R_drewN | apply Kd.R_drew)); exact HO691.out) hb); have n8_ := Aside0.mk (Kd.R_below (by (with_reducible repeat (first | apply Kd.R_alloc | apply Kd.R_drewN | apply Kd.R_drew)); exact HO693.out) hb); have n9_ := Aside0.mk (Kd.N_lower (Kd.N_mono (ok' := fun k_ => some k_ ≠ (.slice Ao32 x8_1.length co32 : Value).ownBlock ∧ some k_ ≠ (u9 : Value).ownBlock ∧ some k_ ≠ (.slice Ao8 t660.length co8 : Value).ownBlock ∧ some k_ ≠ (.slice Ao33 t673.length co33 : Value).ownBlock ∧ some k_ ≠ (.slice Ao37 t676.length co37 : Value).ownBlock ∧ some k_ ≠ (.slice Ao35 t677.length co35 : Value).ownBlock ∧ some k_ ≠ (v685 : Value).ownBlock ∧ some k_ ≠ (v690 : Value).ownBlock ∧ some k_ ≠ (v692 : Value).ownBlock) (Kd.S_N (Kd.S_bound ho0)) (fun k_ hk_ => ⟨(Kd.fresh' (Kd.N_lt (by (with_reducible repeat (first | apply Kd.N_alloc | apply Kd.N_drewN | apply Kd.N_drew)); exact HO_8.out)) k_ hk_.2.1), (Kd.fresh' (Kd.R_lt (by (with_reducible repeat (first | apply Kd.R_alloc | apply Kd.R_drewN | apply Kd.R_drew)); exact HO_9.out)) k_ hk_.2.1), (Kd.fresh' (Kd.N_lt (by (with_reducible repeat (first | apply Kd.N_alloc | apply Kd.N_drewN | apply Kd.N_drew)); exact HO_33.out)) k_ hk_.2.1), (Kd.fresh' (Kd.R_lt (by (with_reducible repeat (first | apply Kd.R_alloc | apply Kd.R_drewN | apply Kd.R_drew)); exact HO675.out)) k_ hk_.2.1), (Kd.fresh' (Kd.R_lt (by (with_reducible repeat (first | apply Kd.R_alloc | apply Kd.R_drewN | apply Kd.R_drew)); exact HO680.out)) k_ hk_.2.1), (Kd.fresh' (Kd.R_lt (by (with_reducible repeat (first | apply Kd.R_alloc | apply Kd.R_drewN | apply Kd.R_drew)); exact HO682.out)) k_ hk_.2.1), (Kd.fresh' (Kd.R_lt (by (with_reducible repeat (first | apply Kd.R_alloc | apply Kd.R_drewN | apply Kd.R_drew)); exact HO686.out)) k_ hk_.2.1), (Kd.fresh' (Kd.R_lt (by (with_reducible repeat (first | apply Kd.R_alloc | apply Kd.R_drewN | apply Kd.R_drew)); exact HO691.out)) k_ hk_.2.1), (Kd.fresh' (Kd.R_lt (by (with_reducible repeat (first | apply Kd.R_alloc | apply Kd.R_drewN | apply Kd.R_drew)); exact HO693.out)) k_ hk_.2.1)⟩)) (below_size (by repeat (first | (with_reducible first | exact HB.out | apply below_alloc | apply pw_below_drewN | apply below_drew1) | exact HB.out)))); have n10_ := Aside0.mk (below_step (by repeat (first | (with_reducible first | exact HB.out | apply below_alloc | apply pw_below_drewN | apply below_drew1) | exact HB.out)) hb); clear HO_8; clear HO_9; clear HO_33; clear HO675; clear HO680; clear HO682; clear HO686; clear HO691; clear HO693; clear HB; have HO_8 := n0_; have HO_9 := n1_; have HO_33 := n2_; have HO675 := n3_; have HO680 := n4_; have HO682 := n5_; have HO686 := n6_; have HO691 := n7_; have HO693 := n8_; have HO696 := n9_; have HB := n10_; clear n0_ n1_ n2_ n3_ n4_ n5_ n6_ n7_ n8_ n9_ n10_; (try clear hb); (try clear hb2); (try clear hk); (try clear hi); (try clear ho0)) | ((with_reducible refine gate_builtin (b := .append) (xs := #[.tmp 96, .tmp 98]) rfl ?_); (try (refine gate_guard (by rfl) ?_; dsimp only)); at_builtin; refine Kd.N_append (Kd.slice 45 k45) (w0 := w) w.heap.size rfl (.tmp 96) (.tmp 98) 37 22 (.slice none 0 0) 24 rfl Try.underlying37 info22 rfl (by decide) (by omega) v695 t694 t673 [.slice Ao33 t673.length co33] (fun k_ => some k_ ≠ (.slice Ao32 x8_1.length co32 : Value).ownBlock ∧ some k_ ≠ (u9 : Value).ownBlock ∧ some k_ ≠ (.slice Ao8 t660.length co8 : Value).ownBlock ∧ some k_ ≠ (.slice Ao37 t676.length co37 : Value).ownBlock ∧ some k_ ≠ (.slice Ao35 t677.length co35 : Value).ownBlock ∧ some k_ ≠ (v685 : Value).ownBlock ∧ some k_ ≠ (v690 : Value).ownBlock ∧ some k_ ≠ (v692 : Value).ownBlock) (fun k_ => ((fun k_ => some k_ ≠ (.slice Ao32 x8_1.length co32 : Value).ownBlock ∧ some k_ ≠ (u9 : Value).ownBlock ∧ some k_ ≠ (.slice Ao8 t660.length co8 : Value).ownBlock ∧ some k_ ≠ (.slice Ao37 t676.length co37 : Value).ownBlock ∧ some k_ ≠ (.slice Ao35 t677.length co35 : Value).ownBlock ∧ some k_ ≠ (v685 : Value).ownBlock ∧ some k_ ≠ (v690 : Value).ownBlock ∧ some k_ ≠ (v692 : Value).ownBlock)) k_ ∧ some k_ ≠ (v695 : Value).ownBlock) rfl rfl ?aP (fun _ hk => hk) ?aF ?aO ?aB ?aS ?aL ?_; (case aP => exact (Kd.FK_slice_mk (Kd.R_reads' (Kd.R_mono (ok' := (fun k_ => ((fun k_ => some k_ ≠ (.slice Ao32 x8_1.length co32 : Value).ownBlock ∧ some k_ ≠ (u9 : Value).ownBlock ∧ some k_ ≠ (.slice Ao8 t660.length co8 : Value).ownBlock ∧ some k_ ≠ (.slice Ao37 t676.length co37 : Value).ownBlock ∧ some k_ ≠ (.slice Ao35 t677.length co35 : Value).ownBlock ∧ some k_ ≠ (v685 : Value).ownBlock ∧ some k_ ≠ (v690 : Value).ownBlock ∧ some k_ ≠ (v692 : Value).ownBlock)) k_ ∧ some k_ ≠ (v695 : Value).ownBlock)) (Kd.R_apart' (Kd.R_apart' (Kd.R_apart' (Kd.R_apart' (HO675.out) (Kd.N_typed HO_8.out) (by decide)) (Kd.R_typed HO_9.out) (by decide)) (Kd.N_typed HO_33.out) (by decide)) (Kd.N_typed HO696.out) (by decide)) (fun k_ hk => ⟨⟨hk.1.1.1.2, ⟨hk.1.1.2, ⟨hk.1.2, ⟨hk.1.1.1.1.1.1.1.1.2, ⟨hk.1.1.1.1.1.1.1.2, ⟨hk.1.1.1.1.1.1.2, ⟨hk.1.1.1.1.1.2, hk.1.1.1.1.2⟩⟩⟩⟩⟩⟩⟩, hk.2⟩))).2.1 (Kd.R_F (Kd.R_mono (ok' := (fun k_ => ((fun k_ => some k_ ≠ (.slice Ao32 x8_1.length co32 : Value).ownBlock ∧ some k_ ≠ (u9 : Value).ownBlock ∧ some k_ ≠ (.slice Ao8 t660.length co8 : Value).ownBlock ∧ some k_ ≠ (.slice Ao37 t676.length co37 : Value).ownBlock ∧ some k_ ≠ (.slice Ao35 t677.length co35 : Value).ownBlock ∧ some k_ ≠ (v685 : Value).ownBlock ∧ some k_ ≠ (v690 : Value).ownBlock ∧ some k_ ≠ (v692 : Value).ownBlock)) k_ ∧ some k_ ≠ (v695 : Value).ownBlock)) (Kd.R_apart' (Kd.R_apart' (Kd.R_apart' (Kd.R_apart' (HO675.out) (Kd.N_typed HO_8.out) (by decide)) (Kd.R_typed HO_9.out) (by decide)) (Kd.N_typed HO_33.out) (by decide)) (Kd.N_typed HO696.out) (by decide)) (fun k_ hk => ⟨⟨hk.1.1.1.2, ⟨hk.1.1.2, ⟨hk.1.2, ⟨hk.1.1.1.1.1.1.1.1.2, ⟨hk.1.1.1.1.1.1.1.2, ⟨hk.1.1.1.1.1.1.2, ⟨hk.1.1.1.1.1.2, hk.1.1.1.1.2⟩⟩⟩⟩⟩⟩⟩, hk.2⟩))))); (case aB => exact (by repeat (first | (with_reducible first | exact HB.out | apply below_alloc | apply pw_below_drewN | apply below_drew1) | exact HB.out))); (case aF => exact (fun k_ hk => ⟨Kd.fresh' (Kd.N_lt (by (with_reducible repeat (first | apply Kd.N_alloc | apply Kd.N_drewN | apply Kd.N_drew)); exact HO_8.out)) k_ hk, Kd.fresh' (Kd.R_lt (by (with_reducible repeat (first | apply Kd.R_alloc | apply Kd.R_drewN | apply Kd.R_drew)); exact HO_9.out)) k_ hk, Kd.fresh' (Kd.N_lt (by (with_reducible repeat (first | apply Kd.N_alloc | apply Kd.N_drewN | apply Kd.N_drew)); exact HO_33.out)) k_ hk, Kd.fresh' (Kd.R_lt (by (with_reducible repeat (first | apply Kd.R_alloc | apply Kd.R_drewN | apply Kd.R_drew)); exact HO680.out)) k_ hk, Kd.fresh' (Kd.R_lt (by (with_reducible repeat (first | apply Kd.R_alloc | apply Kd.R_drewN | apply Kd.R_drew)); exact HO682.out)) k_ hk, Kd.fresh' (Kd.R_lt (by (with_reducible repeat (first | apply Kd.R_alloc | apply Kd.R_drewN | apply Kd.R_drew)); exact HO686.out)) k_ hk, Kd.fresh' (Kd.R_lt (by (with_reducible repeat (first | apply Kd.R_alloc | apply Kd.R_drewN | apply Kd.R_drew)); exact HO691.out)) k_ hk, Kd.fresh' (Kd.R_lt (by (with_reducible repeat (first | apply Kd.R_alloc | apply Kd.R_drewN | apply Kd.R_drew)); exact HO693.out)) k_ hk⟩)); (case aO => exact (by (with_reducible repeat (first | apply Kd.N_alloc | apply Kd.N_drewN | apply Kd.N_drew)); exact Kd.N_mono HO696.out (fun _ hk => ⟨hk.1, ⟨hk.2.1, ⟨hk.2.2.1, ⟨hk.2.2.2.2.1, ⟨hk.2.2.2.2.2.1, ⟨hk.2.2.2.2.2.2.1, ⟨hk.2.2.2.2.2.2.2.1, hk.2.2.2.2.2.2.2.2⟩⟩⟩⟩⟩⟩⟩))); (case aS => exact (below_size (by repeat (first | (with_reducible first | exact HB.out | apply below_alloc | apply pw_below_drewN | apply below_drew1) | exact HB.out)))); (case aL => have := LMc28.out; omega); intro v698 w40 ho hb hg hat; rw [← Ny697.out] at ho; have n0_ := Aside0.mk (Kd.N_afterv (ok := (fun k_ => some k_ ≠ (u9 : Value).ownBlock ∧ some k_ ≠ (.slice Ao8 t660.length co8 : Value).ownBlock ∧ some k_ ≠ (.slice Ao33 t673.length co33 : Value).ownBlock ∧ some k_ ≠ (.slice Ao37 t676.length co37 : Value).ownBlock ∧ some k_ ≠ (.slice Ao35 t677.length co35 : Value).ownBlock ∧ some k_ ≠ (v685 : Value).ownBlock ∧ some k_ ≠ (v690 : Value).ownBlock ∧ some k_ ≠ (v692 : Value).ownBlock)) (by (with_reducible repeat (first | apply Kd.N_alloc | apply Kd.N_drewN | apply Kd.N_drew)); exact Kd.N_mono HO_8.out (fun _ hk => ⟨⟨hk.1.1.1.1.1.1.1.1, ⟨hk.1.1.1.1.1.1.1.2, ⟨hk.1.1.1.1.1.1.2, ⟨hk.1.1.1.1.1.2, ⟨hk.1.1.1.1.2, ⟨hk.1.1.1.2, ⟨hk.1.1.2, hk.1.2⟩⟩⟩⟩⟩⟩⟩, hk.2⟩)) hg hat); have n1_ := Aside0.mk (Kd.R_over' (by (with_reducible repeat (first | apply Kd.R_alloc | apply Kd.R_drewN | apply Kd.R_drew)); exact HO_9.out) (Kd.N_typed (by (with_reducible repeat (first | apply Kd.N_alloc | apply Kd.N_drewN | apply Kd.N_drew)); exact HO696.out)) (by decide) hg); have n2_ := Aside0.mk (Kd.N_afterv (ok := (fun k_ => some k_ ≠ (.slice Ao32 x8_1.length co32 : Value).ownBlock ∧ some k_ ≠ (u9 : Value).ownBlock ∧ some k_ ≠ (.slice Ao33 t673.length co33 : Value).ownBlock ∧ some k_ ≠ (.slice Ao37 t676.length co37 : Value).ownBlock ∧ some k_ ≠ (.slice Ao35 t677.length co35 : Value).ownBlock ∧ some k_ ≠ (v685 : Value).ownBlock ∧ some k_ ≠ (v690 : Value).ownBlock ∧ some k_ ≠ (v692 : Value).ownBlock)) (by (with_reducible repeat (first | apply Kd.N_alloc | apply Kd.N_drewN | apply Kd.N_drew)); exact Kd.N_mono HO_33.out (fun _ hk => ⟨⟨hk.1.1.1.1.1.1.1.1, ⟨hk.1.1.1.1.1.1.1.2, ⟨hk.1.1.1.1.1.1.2, ⟨hk.1.1.1.1.1.2, ⟨hk.1.1.1.1.2, ⟨hk.1.1.1.2, ⟨hk.1.1.2, hk.1.2⟩⟩⟩⟩⟩⟩⟩, hk.2⟩)) hg hat); have m675 := Aside0.mk (Kd.R_over' (by (with_reducible repeat (first | apply Kd.R_alloc | apply Kd.R_drewN | apply Kd.R_drew)); exact HO675.out) (Kd.N_typed (by (with_reducible repeat (first | apply Kd.N_alloc | apply Kd.N_drewN | apply Kd.N_drew)); exact HO696.out)) (by decide) hg); have n3_ := Aside0.mk (Kd.R_over' (by (with_reducible repeat (first | apply Kd.R_alloc | apply Kd.R_drewN | apply Kd.R_drew)); exact HO680.out) (Kd.N_typed (by (with_reducible repeat (first | apply Kd.N_alloc | apply Kd.N_drewN | apply Kd.N_drew)); exact HO696.out)) (by decide) hg); have n4_ := Aside0.mk (Kd.R_over' (by (with_reducible repeat (first | apply Kd.R_alloc | apply Kd.R_drewN | apply Kd.R_drew)); exact HO682.out) (Kd.N_typed (by (with_reducible repeat (first | apply Kd.N_alloc | apply Kd.N_drewN | apply Kd.N_drew)); exact HO696.out)) (by decide) hg); have n5_ := Aside0.mk (Kd.R_over' (by (with_reducible repeat (first | apply Kd.R_alloc | apply Kd.R_drewN | apply Kd.R_drew)); exact HO686.out) (Kd.N_typed (by (with_reducible repeat (first | apply Kd.N_alloc | apply Kd.N_drewN | apply Kd.N_drew)); exact HO696.out)) (by decide) hg); have n6_ := Aside0.mk (Kd.R_over' (by (with_reducible repeat (first | apply Kd.R_alloc | apply Kd.R_drewN | apply Kd.R_drew)); exact HO691.out) (Kd.N_typed (by (with_reducible repeat (first | apply Kd.N_alloc | apply Kd.N_drewN | apply Kd.N_drew)); exact HO696.out)) (by decide) hg); have n7_ := Aside0.mk (Kd.R_over' (by (with_reducible repeat (first | apply Kd.R_alloc | apply Kd.R_drewN | apply Kd.R_drew)); exact HO693.out) (Kd.N_typed (by (with_reducible repeat (first | apply Kd.N_alloc | apply Kd.N_drewN | apply Kd.N_drew)); exact HO696.out)) (by decide) hg); have n8_ := Aside0.mk (hb); have n9_ := Aside0.mk (ho); clear HO_8; clear HO_9; clear HO_33; clear HO680; clear HO682; clear HO686; clear HO691; clear HO693; clear HB; clear HO696; clear HO675; have HO675 := m675; clear m675; have HO_8 := n0_; have HO_9 := n1_; have HO_33 := n2_; have HO680 := n3_; have HO682 := n4_; have HO686 := n5_; have HO691 := n6_; have HO693 := n7_; have HB := n8_; have HO699 := n9_; clear n0_ n1_ n2_ n3_ n4_ n5_ n6_ n7_ n8_ n9_; clear ho hb hg hat; obtain ⟨Ao41, co41, eo41⟩ := Kd.N_slice HO699.out; subst eo41) | ((with_reducible refine gate_callee (f := 39) rfl ?_); refine goesL_ (some 100) rfl rfl Try.func39 (by kernel_rfl) rfl #[.int .i64 t659, .slice Ao41 y697.length co41] rfl (by (try simp only [List.map_toArray, List.map_cons, List.map_nil]); first | done | rfl | (simp only [List.length_drop, List.length_take]; rfl)) ?_; (with_reducible refine (column_Rank.calls k1 t659 _ _ y697 t700 t701 _ ?side1 ?side2 A29.out).mono ?_); (case side1 => repeat (first | exact (Kd.N_reads' HO699.out).2.2 | (with_reducible refine Kd.C_alloc ?_ _) | (with_reducible refine Kd.C_drewN ?_ _) | (with_reducible refine Kd.C_drew ?_))); (case side2 => exact (Kd.N_reads' HO699.out).2.1); rintro e w42 ⟨rfl, hb⟩; refine ⟨_, rfl, ?_⟩; have n0_ := Aside0.mk (Kd.N_below (by (with_reducible repeat (first | apply Kd.N_alloc | apply Kd.N_drewN | apply Kd.N_drew)); exact HO_8.out) hb); have n1_ := Aside0.mk (Kd.R_below (by (with_reducible repeat (first | apply Kd.R_alloc | apply Kd.R_drewN | apply Kd.R_drew)); exact HO_9.out) hb); have n2_ := Aside0.mk (Kd.N_below (by (with_reducible repeat (first | apply Kd.N_alloc | apply Kd.N_drewN | apply Kd.N_drew)); exact HO_33.out) hb); have m675 := Aside0.mk (Kd.R_below (by (with_reducible repeat (first | apply Kd.R_alloc | apply Kd.R_drewN | apply Kd.R_drew)); exact HO675.out) hb); clear HO675; have HO675 := m675; clear m675; have n3_ := Aside0.mk (Kd.R_below (by (with_reducible repeat (first | apply Kd.R_alloc | apply Kd.R_drewN | apply Kd.R_drew)); exact HO680.out) hb); have n4_ := Aside0.mk (Kd.R_below (by (with_reducible repeat (first | apply Kd.R_alloc | apply Kd.R_drewN | apply Kd.R_drew)); exact HO682.out) hb); have n5_ := Aside0.mk (Kd.R_below (by (with_reducible repeat (first | apply Kd.R_alloc | apply Kd.R_drewN | apply Kd.R_drew)); exact HO686.out) hb); have n6_ := Aside0.mk (Kd.R_below (by (with_reducible repeat (first | apply Kd.R_alloc | apply Kd.R_drewN | apply Kd.R_drew)); exact HO691.out) hb); have n7_ := Aside0.mk (Kd.R_below (by (with_reducible repeat (first | apply Kd.R_alloc | apply Kd.R_drewN | apply Kd.R_drew)); exact HO693.out) hb); have n8_ := Aside0.mk (Kd.N_below (by (with_reducible repeat (first | apply Kd.N_alloc | apply Kd.N_drewN | apply Kd.N_drew)); exact HO699.out) hb); have n9_ := Aside0.mk (below_step (by repeat (first | (with_reducible first | exact HB.out | apply below_alloc | apply pw_below_drewN | apply below_drew1) | exact HB.out)) hb); clear HO_8; clear HO_9; clear HO_33; clear HO680; clear HO682; clear HO686; clear HO691; clear HO693; clear HO699; clear HB; have HO_8 := n0_; have HO_9 := n1_; have HO_33 := n2_; have HO680 := n3_; have HO682 := n4_; have HO686 := n5_; have HO691 := n6_; have HO693 := n7_; have HO699 := n8_; have HB := n9_; clear n0_ n1_ n2_ n3_ n4_ n5_ n6_ n7_ n8_ n9_; (try clear hb); (try clear hb2); (try clear hk); (try clear hi)))
          (try simp only [Act.put, List.setIfInBounds_toArray, List.set_cons_zero, List.set_cons_succ])
          go_cut [146] (fun v146 wc => ∃ (kq : Nat) (x146_29 : Bool), v146 = .bool x146_29 ∧ Aside0 (toruslaw04_ColumnRest.j2 kq x9_1 t676 x146_29 = some r) ∧ Aside0 (kq ≤ k1) ∧ Aside0 (Kd.R (Kd.int .i64) 3 wc w.heap.size (fun _ => True) u9 x9_1) ∧ Aside0 (Kd.R k45 45 wc w.heap.size (fun _ => True) (.slice Ao37 t676.length co37) t676) ∧ Aside0 (Below w.heap.size w wc))
          case first =>
            have H := HC30.out
            clear HC30
            by_cases c43 : t678 = 0
            · rw [if_pos c43] at H
              have c43b0 : (t678 == 0) = true := beq_iff_eq.mpr c43
              have c43b1 : (t678 != 0) = false := bne_eq_false_iff_eq.mpr c43
              clear c43
              (first | rw [c43b0] | (simp only [i64_w, i32_w]; rw [c43b0]) | skip)
              by_cases c44 : t684 = 0
              · rw [if_pos c44] at H
                have c44b0 : (t684 == 0) = true := beq_iff_eq.mpr c44
                have c44b1 : (t684 != 0) = false := bne_eq_false_iff_eq.mpr c44
                clear c44
                by_cases c45 : t689 = 0
                · rw [if_pos c45] at H
                  have c45b0 : (t689 == 0) = true := beq_iff_eq.mpr c45
                  have c45b1 : (t689 != 0) = false := bne_eq_false_iff_eq.mpr c45
                  clear c45
                  by_cases c46 : t701 = 0
                  · rw [if_pos c46] at H
                    have c46b0 : (t701 == 0) = true := beq_iff_eq.mpr c46
                    have c46b1 : (t701 != 0) = false := bne_eq_false_iff_eq.mpr c46
                    clear c46
                    replace H := Option.bind_eq_some_iff.mp H
                    obtain ⟨t702, A470, H⟩ := H
                    replace H : ((torusref04_Same.f k1 t702 t673).bind fun t705 => (if t705 = true then ((torusref04_Same.f k1 t687 t676).bind fun t706 => (if t706 = true then (if (t688.length : Int) > 0 then (toruslaw04_ColumnRest.j2 k1 x9_1 t676 true) else (toruslaw04_ColumnRest.j2 k1 x9_1 t676 (((t676.length : Int) == 0) != (t700 == (x8_1.length : Int))))) else (toruslaw04_ColumnRest.j2 k1 x9_1 t676 true))) else (toruslaw04_ColumnRest.j2 k1 x9_1 t676 true))) = some r := H
                    have A47 := Aside0.mk A470
                    clear A470
                    replace H := Option.bind_eq_some_iff.mp H
                    obtain ⟨t705, A480, H⟩ := H
                    replace H : (if t705 = true then ((torusref04_Same.f k1 t687 t676).bind fun t706 => (if t706 = true then (if (t688.length : Int) > 0 then (toruslaw04_ColumnRest.j2 k1 x9_1 t676 true) else (toruslaw04_ColumnRest.j2 k1 x9_1 t676 (((t676.length : Int) == 0) != (t700 == (x8_1.length : Int))))) else (toruslaw04_ColumnRest.j2 k1 x9_1 t676 true))) else (toruslaw04_ColumnRest.j2 k1 x9_1 t676 true)) = some r := H
                    have A48 := Aside0.mk A480
                    clear A480
                    by_cases c49 : t705 = true
                    · subst c49
                      have H1 : ((torusref04_Same.f k1 t687 t676).bind fun t706 => (if t706 = true then (if (t688.length : Int) > 0 then (toruslaw04_ColumnRest.j2 k1 x9_1 t676 true) else (toruslaw04_ColumnRest.j2 k1 x9_1 t676 (((t676.length : Int) == 0) != (t700 == (x8_1.length : Int))))) else (toruslaw04_ColumnRest.j2 k1 x9_1 t676 true))) = some r := by rw [if_pos rfl] at H; exact H
                      clear H
                      have H := H1
                      clear H1
                      replace H := Option.bind_eq_some_iff.mp H
                      obtain ⟨t706, A500, H⟩ := H
                      replace H : (if t706 = true then (if (t688.length : Int) > 0 then (toruslaw04_ColumnRest.j2 k1 x9_1 t676 true) else (toruslaw04_ColumnRest.j2 k1 x9_1 t676 (((t676.length : Int) == 0) != (t700 == (x8_1.length : Int))))) else (toruslaw04_ColumnRest.j2 k1 x9_1 t676 true)) = some r := H
                      have A50 := Aside0.mk A500
                      clear A500
                      by_cases c51 : t706 = true
                      · subst c51
                        have H1 : (if (t688.length : Int) > 0 then (toruslaw04_ColumnRest.j2 k1 x9_1 t676 true) else (toruslaw04_ColumnRest.j2 k1 x9_1 t676 (((t676.length : Int) == 0) != (t700 == (x8_1.length : Int))))) = some r := by rw [if_pos rfl] at H; exact H
                        clear H
                        have H := H1
                        clear H1
                        by_cases c52 : (t688.length : Int) > 0
                        · rw [if_pos c52] at H
                          exact absurd H (by rw [hrt]; exact toruslaw04_ColumnRest.j2_dead _ _ _)
                        · rw [if_neg c52] at H
                          have c52b0 : decide (0 < (t688.length : Int)) = false := decide_eq_false c52
                          have c52b1 : decide (0 < t688.length) = false := decide_eq_false (by omega)
                          clear c52
                          have H' := Aside0.mk H
                          clear H
                          obtain ⟨Ao58, co58, eo58⟩ := Kd.R_slice HO686.out
                          subst eo58
                          go_wp2_with (first | (go_at_call 16; (with_reducible refine (toruslaw04_plus.calls k1 t659 _ _ t676 1 _ _ t683 t702 _ ?side1 ?side2 ?side3 ?side4 A47.out).mono ?_); (case side1 => repeat (first | exact (Kd.R_reads' HO680.out).2.2 | (with_reducible refine Kd.C_alloc ?_ _) | (with_reducible refine Kd.C_drewN ?_ _) | (with_reducible refine Kd.C_drew ?_))); (case side2 => exact (Kd.R_reads' HO680.out).2.1); (case side3 => repeat (first | exact (Kd.R_reads' HO686.out).2.2 | (with_reducible refine Kd.C_alloc ?_ _) | (with_reducible refine Kd.C_drewN ?_ _) | (with_reducible refine Kd.C_drew ?_))); (case side4 => exact (Kd.R_reads' HO686.out).2.1); rintro e w59 ⟨v703, rfl, ho0, hb⟩; have n0_ := Aside0.mk (Kd.N_elder' (by (with_reducible repeat (first | apply Kd.N_alloc | apply Kd.N_drewN | apply Kd.N_drew)); exact HO_8.out) (Kd.R_base ho0) hb); have n1_ := Aside0.mk (Kd.R_below (by (with_reducible repeat (first | apply Kd.R_alloc | apply Kd.R_drewN | apply Kd.R_drew)); exact HO_9.out) hb); have n2_ := Aside0.mk (Kd.N_elder' (by (with_reducible repeat (first | apply Kd.N_alloc | apply Kd.N_drewN | apply Kd.N_drew)); exact HO_33.out) (Kd.R_base ho0) hb); have m675 := Aside0.mk (Kd.R_elder' (by (with_reducible repeat (first | apply Kd.R_alloc | apply Kd.R_drewN | apply Kd.R_drew)); exact HO675.out) (Kd.R_base ho0) hb); clear HO675; have HO675 := m675; clear m675; have n3_ := Aside0.mk (Kd.R_elder' (by (with_reducible repeat (first | apply Kd.R_alloc | apply Kd.R_drewN | apply Kd.R_drew)); exact HO680.out) (Kd.R_base ho0) hb); have n4_ := Aside0.mk (Kd.R_elder' (by (with_reducible repeat (first | apply Kd.R_alloc | apply Kd.R_drewN | apply Kd.R_drew)); exact HO682.out) (Kd.R_base ho0) hb); have n5_ := Aside0.mk (Kd.R_elder' (by (with_reducible repeat (first | apply Kd.R_alloc | apply Kd.R_drewN | apply Kd.R_drew)); exact HO686.out) (Kd.R_base ho0) hb); have n6_ := Aside0.mk (Kd.R_elder' (by (with_reducible repeat (first | apply Kd.R_alloc | apply Kd.R_drewN | apply Kd.R_drew)); exact HO691.out) (Kd.R_base ho0) hb); have n7_ := Aside0.mk (Kd.R_elder' (by (with_reducible repeat (first | apply Kd.R_alloc | apply Kd.R_drewN | apply Kd.R_drew)); exact HO693.out) (Kd.R_base ho0) hb); have n8_ := Aside0.mk (Kd.N_elder' (by (with_reducible repeat (first | apply Kd.N_alloc | apply Kd.N_drewN | apply Kd.N_drew)); exact HO699.out) (Kd.R_base ho0) hb); have n9_ := Aside0.mk (Kd.R_lower (Kd.R_new' (Kd.R_new' (Kd.R_new' (Kd.R_new' (Kd.R_new' ho0 (Kd.R_lt (by (with_reducible repeat (first | apply Kd.R_alloc | apply Kd.R_drewN | apply Kd.R_drew)); exact HO680.out))) (Kd.R_lt (by (with_reducible repeat (first | apply Kd.R_alloc | apply Kd.R_drewN | apply Kd.R_drew)); exact HO682.out))) (Kd.R_lt (by (with_reducible repeat (first | apply Kd.R_alloc | apply Kd.R_drewN | apply Kd.R_drew)); exact HO686.out))) (Kd.R_lt (by (with_reducible repeat (first | apply Kd.R_alloc | apply Kd.R_drewN | apply Kd.R_drew)); exact HO691.out))) (Kd.R_lt (by (with_reducible repeat (first | apply Kd.R_alloc | apply Kd.R_drewN | apply Kd.R_drew)); exact HO693.out))) (below_size (by repeat (first | (with_reducible first | exact HB.out | apply below_alloc | apply pw_below_drewN | apply below_drew1) | exact HB.out)))); have n10_ := Aside0.mk (below_step (by repeat (first | (with_reducible first | exact HB.out | apply below_alloc | apply pw_below_drewN | apply below_drew1) | exact HB.out)) hb); clear HO_8; clear HO_9; clear HO_33; clear HO680; clear HO682; clear HO686; clear HO691; clear HO693; clear HO699; clear HB; have HO_8 := n0_; have HO_9 := n1_; have HO_33 := n2_; have HO680 := n3_; have HO682 := n4_; have HO686 := n5_; have HO691 := n6_; have HO693 := n7_; have HO699 := n8_; have HO704 := n9_; have HB := n10_; clear n0_ n1_ n2_ n3_ n4_ n5_ n6_ n7_ n8_ n9_ n10_; (try clear hb); (try clear hb2); (try clear hk); (try clear hi); (try clear ho0); obtain ⟨Ao60, co60, eo60⟩ := Kd.R_slice HO704.out; subst eo60) | (go_at_call 15; (with_reducible refine (torusref04_Same.calls k1 _ _ t702 _ _ t673 true _ ?side1 ?side2 ?side3 ?side4 A48.out).mono ?_); (case side1 => repeat (first | exact (Kd.R_reads' HO704.out).2.2 | (with_reducible refine Kd.C_alloc ?_ _) | (with_reducible refine Kd.C_drewN ?_ _) | (with_reducible refine Kd.C_drew ?_))); (case side2 => exact (Kd.R_reads' HO704.out).2.1); (case side3 => repeat (first | exact (Kd.R_reads' HO675.out).2.2 | (with_reducible refine Kd.C_alloc ?_ _) | (with_reducible refine Kd.C_drewN ?_ _) | (with_reducible refine Kd.C_drew ?_))); (case side4 => exact (Kd.R_reads' HO675.out).2.1); rintro e w' ⟨rfl, ⟨nd, rfl⟩⟩; obtain ⟨Ao61, co61, eo61⟩ := Kd.R_slice HO691.out; subst eo61) | (go_at_call 15; (with_reducible refine (torusref04_Same.calls k1 _ _ t687 _ _ t676 true _ ?side1 ?side2 ?side3 ?side4 A50.out).mono ?_); (case side1 => repeat (first | exact (Kd.R_reads' HO691.out).2.2 | (with_reducible refine Kd.C_alloc ?_ _) | (with_reducible refine Kd.C_drewN ?_ _) | (with_reducible refine Kd.C_drew ?_))); (case side2 => exact (Kd.R_reads' HO691.out).2.1); (case side3 => repeat (first | exact (Kd.R_reads' HO680.out).2.2 | (with_reducible refine Kd.C_alloc ?_ _) | (with_reducible refine Kd.C_drewN ?_ _) | (with_reducible refine Kd.C_drew ?_))); (case side4 => exact (Kd.R_reads' HO680.out).2.1); rintro e w' ⟨rfl, ⟨nd, rfl⟩⟩; obtain ⟨Ao62, co62, eo62⟩ := Kd.R_slice HO693.out; subst eo62))
                          go_meet
                          case rel => exact ⟨_, ((((t676.length : Int) == 0) != (t700 == (x8_1.length : Int)))), (by first | rfl | (simp; done) | (simp [*]; done)), H', ⟨by have := HK1.out; first | omega | exact Nat.le_refl _⟩, ⟨by (with_reducible repeat (first | apply Kd.R_alloc | apply Kd.R_drewN | apply Kd.R_drew)); exact HO_9.out⟩, ⟨by (with_reducible repeat (first | apply Kd.R_alloc | apply Kd.R_drewN | apply Kd.R_drew)); exact Kd.R_mono HO680.out (fun _ hk => trivial)⟩, ⟨by repeat (first | (with_reducible first | exact HB.out | apply below_alloc | apply pw_below_drewN | apply below_drew1) | exact HB.out)⟩⟩
                      · replace c51 := Bool.eq_false_iff.mpr c51
                        subst c51
                        have H1 : (toruslaw04_ColumnRest.j2 k1 x9_1 t676 true) = some r := by rw [if_neg (show ¬ (false = true) by decide)] at H; exact H
                        clear H
                        have H := H1
                        clear H1
                        exact absurd H (by rw [hrt]; exact toruslaw04_ColumnRest.j2_dead _ _ _)
                    · replace c49 := Bool.eq_false_iff.mpr c49
                      subst c49
                      have H1 : (toruslaw04_ColumnRest.j2 k1 x9_1 t676 true) = some r := by rw [if_neg (show ¬ (false = true) by decide)] at H; exact H
                      clear H
                      have H := H1
                      clear H1
                      exact absurd H (by rw [hrt]; exact toruslaw04_ColumnRest.j2_dead _ _ _)
                  · rw [if_neg c46] at H
                    exact absurd H (by rw [hrt]; exact toruslaw04_ColumnRest.j2_dead _ _ _)
                · rw [if_neg c45] at H
                  exact absurd H (by rw [hrt]; exact toruslaw04_ColumnRest.j2_dead _ _ _)
              · rw [if_neg c44] at H
                exact absurd H (by rw [hrt]; exact toruslaw04_ColumnRest.j2_dead _ _ _)
            · rw [if_neg c43] at H
              exact absurd H (by rw [hrt]; exact toruslaw04_ColumnRest.j2_dead _ _ _)
          case rest =>
            clear HC30
            try clear c1
            try clear c2
            try clear p2
            try clear c3
            try clear c4
            try clear c5
            try clear c6
            try clear p6
            try clear q6
            try clear hx6
            try clear c9
            try clear c9b0
            try clear c10
            try clear c10b0
            try clear c11
            try clear c11b0
            try clear c12
            try clear c13
            try clear c14
            try clear c14b0
            try clear c15
            try clear c15b0
            try clear c16
            try clear c16b0
            try clear c17
            try clear c18
            try clear c19
            try clear c20
            try clear c23
            try clear c28
            try clear c37
            try clear c39
            try clear c41
            try clear c43
            try clear c43b0
            try clear c43b1
            try clear c44
            try clear c44b0
            try clear c44b1
            try clear c45
            try clear c45b0
            try clear c45b1
            try clear c46
            try clear c46b0
            try clear c46b1
            try clear c49
            try clear c51
            try clear c52
            try clear c52b0
            try clear c52b1
            try clear p64
            try clear c66
            try clear p66
            try clear q66
            try clear hx66
            try clear hx663_0
            try clear hx666_0
            try clear p2
            try clear p6
            try clear p663
            try clear p666
            try clear q6
            try clear q663
            try clear q666
            obtain ⟨kq, x146_29, rfl, HA, HJ29, HO_9, HO_17, HB⟩ := hcut
            cases kq with
            | zero => exact absurd HA.out (by simp [toruslaw04_ColumnRest.j2])
            | succ kj29 =>
              have H := HA.out
              clear HA
              simp only [toruslaw04_ColumnRest.j2] at H
              by_cases c70 : x146_29 = true
              · subst c70
                have H1 : (some false) = some r := by rw [if_pos rfl] at H; exact H
                clear H
                have H := H1
                clear H1
                exact absurd (Option.some.inj H) (by rw [hrt]; exact Bool.false_ne_true)
              · replace c70 := Bool.eq_false_iff.mpr c70
                subst c70
                have H1 : (toruslaw04_ColumnRest.l2 kj29 t676 x9_1 (x9_1.length : Int) 0) = some r := by rw [if_neg (show ¬ (false = true) by decide)] at H; exact H
                clear H
                have H := H1
                clear H1
                have H' := Aside0.mk H
                clear H
                obtain ⟨Ao71, co71, eo71⟩ := Kd.R_slice HO_9.out
                subst eo71
                go_wp2
                go_loopg [149] kj29 (fun kq v149 w' => ∃ (x149_3 : Int), v149 = .int .i64 x149_3 ∧ Aside0 (toruslaw04_ColumnRest.l2 kq t676 x9_1 (x9_1.length : Int) x149_3 = some r) ∧ Aside0 (kq ≤ kj29) ∧ Aside0 (Kd.R k45 45 w' w.heap.size (fun _ => True) (.slice Ao37 t676.length co37) t676) ∧ Aside0 (Kd.R (Kd.int .i64) 3 w' w.heap.size (fun _ => True) (.slice Ao71 x9_1.length co71) x9_1) ∧ Aside0 (Below w.heap.size w w'))
                case atStart => exact ⟨(0), (by first | rfl | (simp; done) | (simp [*]; done)), H', ⟨Nat.le_refl _⟩, ⟨by (with_reducible repeat (first | apply Kd.R_alloc | apply Kd.R_drewN | apply Kd.R_drew)); exact HO_17.out⟩, ⟨by (with_reducible repeat (first | apply Kd.R_alloc | apply Kd.R_drewN | apply Kd.R_drew)); exact HO_9.out⟩, ⟨by repeat (first | (with_reducible first | exact HB.out | apply below_alloc | apply pw_below_drewN | apply below_drew1) | exact HB.out)⟩⟩
                case round =>
                  clear H'
                  try clear c1
                  try clear c2
                  try clear p2
                  try clear c3
                  try clear c4
                  try clear c5
                  try clear c6
                  try clear p6
                  try clear q6
                  try clear hx6
                  try clear c7
                  try clear c9
                  try clear c9b0
                  try clear c10
                  try clear c10b0
                  try clear c11
                  try clear c11b0
                  try clear c12
                  try clear c13
                  try clear c14
                  try clear c14b0
                  try clear c15
                  try clear c15b0
                  try clear c16
                  try clear c16b0
                  try clear c17
                  try clear c18
                  try clear c19
                  try clear c20
                  try clear c23
                  try clear c28
                  try clear c37
                  try clear c39
                  try clear c41
                  try clear c43
                  try clear c43b0
                  try clear c43b1
                  try clear c44
                  try clear c44b0
                  try clear c44b1
                  try clear c45
                  try clear c45b0
                  try clear c45b1
                  try clear c46
                  try clear c46b0
                  try clear c46b1
                  try clear c49
                  try clear c51
                  try clear c52
                  try clear c52b0
                  try clear c52b1
                  try clear p64
                  try clear c66
                  try clear p66
                  try clear q66
                  try clear hx66
                  try clear c70
                  try clear hx663_0
                  try clear hx666_0
                  try clear p2
                  try clear p6
                  try clear p64
                  try clear p66
                  try clear p663
                  try clear p666
                  try clear q6
                  try clear q66
                  try clear q663
                  try clear q666
                  obtain ⟨x149_3, rfl, HA, HK3, HO_17, HO_147, HB⟩ := hrel
                  cases gk with
                  | zero => exact absurd HA.out (by simp [toruslaw04_ColumnRest.l2])
                  | succ k3 =>
                    have H := HA.out
                    clear HA
                    simp only [toruslaw04_ColumnRest.l2] at H
                    by_cases c72 : x149_3 < (x9_1.length : Int)
                    · rw [if_pos c72] at H
                      have c72b0 : decide (x149_3 < (x9_1.length : Int)) = true := decide_eq_true c72
                      clear c72
                      by_cases c73 : 0 ≤ x149_3
                      · rw [if_pos c73] at H
                        have c73b0 : decide (0 ≤ x149_3) = true := decide_eq_true c73
                        clear c73
                        by_cases c74 : x149_3 < (x9_1.length : Int)
                        · rw [if_pos c74] at H
                          have c74b0 : decide (x149_3 < (x9_1.length : Int)) = true := decide_eq_true c74
                          clear c74
                          replace H := Option.bind_eq_some_iff.mp H
                          obtain ⟨t708, A750, H⟩ := H
                          replace H : (if t708 = 0 then (toruslaw04_ColumnRest.l2 k3 t676 x9_1 (x9_1.length : Int) (wrap64 (x149_3 + 1))) else (some false)) = some r := H
                          have A75 := Aside0.mk A750
                          clear A750
                          by_cases c76 : t708 = 0
                          · rw [if_pos c76] at H
                            have c76b0 : (t708 == 0) = true := beq_iff_eq.mpr c76
                            have c76b1 : (t708 != 0) = false := bne_eq_false_iff_eq.mpr c76
                            clear c76
                            have H' := Aside0.mk H
                            clear H
                            have p707 : 0 ≤ (x149_3 : Int) := of_decide_eq_true (by first | (with_reducible assumption) | assumption)
                            have q707 : x149_3 < (x9_1.length : Int) := of_decide_eq_true (by first | (with_reducible assumption) | assumption)
                            obtain ⟨ad707, e707, hx707_0⟩ := Kd.at_int (Kd.R_reads' HO_147.out).2.2 x149_3 p707 q707
                            cases e707
                            replace p707 := eq_true p707
                            replace q707 := eq_true q707
                            go_wp2_with (first | ((with_reducible refine gate_callee (f := 26) rfl ?_); refine goesL_ (some 155) rfl rfl Try.func26 (by kernel_rfl) rfl #[.slice Ao37 t676.length co37, .int .i64 (rd x9_1 x149_3)] rfl (by (try simp only [List.map_toArray, List.map_cons, List.map_nil]); first | done | rfl | (simp only [List.length_drop, List.length_take]; rfl)) ?_; (with_reducible refine (column_Coef.calls k3 _ _ t676 (rd x9_1 x149_3) t708 _ ?side1 ?side2 A75.out).mono ?_); (case side1 => repeat (first | exact (Kd.R_reads' HO_17.out).2.2 | (with_reducible refine Kd.C_alloc ?_ _) | (with_reducible refine Kd.C_drewN ?_ _) | (with_reducible refine Kd.C_drew ?_))); (case side2 => exact (Kd.R_reads' HO_17.out).2.1); rintro e w77 ⟨rfl, hb⟩; refine ⟨_, rfl, ?_⟩; have n0_ := Aside0.mk (Kd.R_below (by (with_reducible repeat (first | apply Kd.R_alloc | apply Kd.R_drewN | apply Kd.R_drew)); exact HO_17.out) hb); have n1_ := Aside0.mk (Kd.R_below (by (with_reducible repeat (first | apply Kd.R_alloc | apply Kd.R_drewN | apply Kd.R_drew)); exact HO_147.out) hb); have n2_ := Aside0.mk (below_step (by repeat (first | (with_reducible first | exact HB.out | apply below_alloc | apply pw_below_drewN | apply below_drew1) | exact HB.out)) hb); clear HO_17; clear HO_147; clear HB; have HO_17 := n0_; have HO_147 := n1_; have HB := n2_; clear n0_ n1_ n2_; (try clear hb); (try clear hb2); (try clear hk); (try clear hi)))
                            go_roundg k3
                            case measure => have := HK1.out; have := HJ29.out; have := HK3.out; omega
                            case rel => exact ⟨(wrap64 (x149_3 + 1)), (by first | rfl | (simp; done) | (simp [*]; done)), H', ⟨by have := HK1.out; have := HJ29.out; have := HK3.out; omega⟩, ⟨by (with_reducible repeat (first | apply Kd.R_alloc | apply Kd.R_drewN | apply Kd.R_drew)); exact HO_17.out⟩, ⟨by (with_reducible repeat (first | apply Kd.R_alloc | apply Kd.R_drewN | apply Kd.R_drew)); exact HO_147.out⟩, ⟨by repeat (first | (with_reducible first | exact HB.out | apply below_alloc | apply pw_below_drewN | apply below_drew1) | exact HB.out)⟩⟩
                          · rw [if_neg c76] at H
                            exact absurd (Option.some.inj H) (by rw [hrt]; exact Bool.false_ne_true)
                        · rw [if_neg c74] at H
                          exact absurd H (by simp)
                      · rw [if_neg c73] at H
                        exact absurd H (by simp)
                    · rw [if_neg c72] at H
                      have c72b0 : decide (x149_3 < (x9_1.length : Int)) = false := decide_eq_false c72
                      clear c72
                      replace H := Option.bind_eq_some_iff.mp H
                      obtain ⟨t709, A790, H⟩ := H
                      replace H : (some t709) = some r := H
                      have A79 := Aside0.mk A790
                      clear A790
                      obtain rfl := Option.some.inj H
                      go_wp2_with (first | ((with_reducible refine gate_callee (f := 19) rfl ?_); refine goesL_ (some 158) rfl rfl Try.func19 (by kernel_rfl) rfl #[] rfl (by (try simp only [List.map_toArray, List.map_cons, List.map_nil]); first | done | rfl | (simp only [List.length_drop, List.length_take]; rfl)) ?_; (with_reducible refine (toruslaw04_awake.calls  t709 _ A79.out).mono ?_); rintro e w80 ⟨rfl, hb⟩; refine ⟨_, rfl, ?_⟩; have n0_ := Aside0.mk (Kd.R_below (by (with_reducible repeat (first | apply Kd.R_alloc | apply Kd.R_drewN | apply Kd.R_drew)); exact HO_17.out) hb); have n1_ := Aside0.mk (Kd.R_below (by (with_reducible repeat (first | apply Kd.R_alloc | apply Kd.R_drewN | apply Kd.R_drew)); exact HO_147.out) hb); have n2_ := Aside0.mk (below_step (by repeat (first | (with_reducible first | exact HB.out | apply below_alloc | apply pw_below_drewN | apply below_drew1) | exact HB.out)) hb); clear HO_17; clear HO_147; clear HB; have HO_17 := n0_; have HO_147 := n1_; have HB := n2_; clear n0_ n1_ n2_; (try clear hb); (try clear hb2); (try clear hk); (try clear hi)))
                      go_ret
                      exact ⟨by first | rfl | (simp [errW_none, errW_some] <;> rfl) | (simp [*, errW_none, errW_some] <;> rfl), by repeat (first | (with_reducible first | exact HB.out | apply below_alloc | apply pw_below_drewN | apply below_drew1) | exact HB.out)⟩
        · rw [if_neg c28] at H
          exact absurd H (by simp)
end Go.Proofs.Ytojnnfhalpefmaa.M
