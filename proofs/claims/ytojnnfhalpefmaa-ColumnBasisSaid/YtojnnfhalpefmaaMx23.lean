-- Written by a program of this session (a widened copy of the kit's printer) out of the translation.
import Derived.Test.YtojnnfhalpefmaaMx20
import Derived.Test.YtojnnfhalpefmaaEAw
import Derived.Test.YtojnnfhalpefmaaMx9
namespace Go.Proofs.Ytojnnfhalpefmaa.M
open Go.RowKit Go.Proofs.YtojnnfhalpefmaaW.PrintWords Go.Proofs.YtojnnfhalpefmaaW.PrintLast Go.Proofs.YtojnnfhalpefmaaW.PrintMore
attribute [local go_sem] max2_int min2_int max_two min_two max_three min_three max_four min_four   -- for this text's walks alone
set_option linter.unusedVariables false
set_option linter.unusedSimpArgs false

/-! ### toruslaw04_ColumnBasis: function 6 -/
mutual
def toruslaw04_ColumnBasis.j0 : Nat → List Int → Int → List (List (S45)) → List (List (S45)) → Int → Bool → Option (Bool)
  | 0, _, _, _, _, _, _ => none
  | k + 1, x2, x7, x8, x9, x11, x70 => if x70 = true then (some false) else (toruslaw04_ColumnBasis.l0 k x2 x7 x8 x9 x11 (-1) x9 (x9.length : Int) 0)
def toruslaw04_ColumnBasis.l0 : Nat → List Int → Int → List (List (S45)) → List (List (S45)) → Int → Int → List (List (S45)) → Int → Int → Option (Bool)
  | 0, _, _, _, _, _, _, _, _, _ => none
  | k + 1, x2, x7, x8, x9, x11, x13, x71, x72, x73 => if x73 < x72 then (if 0 ≤ x73 then (if x73 < (x71.length : Int) then ((column_Low.f (rd_L2 x71 x73)).bind fun bt424 => (if bt424.2 = true then (if bt424.1 ≤ x13 then (toruslaw04_ColumnBasis.j2 k x2 x7 x8 x9 x11 x73 bt424.1 x71 x72 x73 true) else ((column_Coef.f k (rd_L2 x71 x73) bt424.1).bind fun t426 => (toruslaw04_ColumnBasis.j2 k x2 x7 x8 x9 x11 x73 bt424.1 x71 x72 x73 (t426 != 1)))) else (toruslaw04_ColumnBasis.j2 k x2 x7 x8 x9 x11 x73 bt424.1 x71 x72 x73 true))) else (none)) else (none)) else (toruslaw04_ColumnBasis.l2 k x2 x7 x8 x9 x11 ([] : List (List (S45))) (wrap64 ((x8.length : Int) - 1)))
def toruslaw04_ColumnBasis.j2 : Nat → List Int → Int → List (List (S45)) → List (List (S45)) → Int → Int → Int → List (List (S45)) → Int → Int → Bool → Option (Bool)
  | 0, _, _, _, _, _, _, _, _, _, _, _ => none
  | k + 1, x2, x7, x8, x9, x11, x14, x16, x71, x72, x73, x95 => if x95 = true then (some false) else (toruslaw04_ColumnBasis.l1 k x2 x7 x8 x9 x11 x16 x14 x16 0 x71 x72 x73)
def toruslaw04_ColumnBasis.l1 : Nat → List Int → Int → List (List (S45)) → List (List (S45)) → Int → Int → Int → Int → Int → List (List (S45)) → Int → Int → Option (Bool)
  | 0, _, _, _, _, _, _, _, _, _, _, _, _ => none
  | k + 1, x2, x7, x8, x9, x11, x13, x14, x16, x18, x71, x72, x73 => if x18 < (x9.length : Int) then (if x18 = x14 then (toruslaw04_ColumnBasis.l1 k x2 x7 x8 x9 x11 x13 x14 x16 (wrap64 (x18 + 1)) x71 x72 x73) else (if 0 ≤ x18 then ((column_Coef.f k (rd_L2 x9 x18) x16).bind fun t428 => (if t428 = 0 then (toruslaw04_ColumnBasis.l1 k x2 x7 x8 x9 x11 x13 x14 x16 (wrap64 (x18 + 1)) x71 x72 x73) else (some false))) else (none))) else (toruslaw04_ColumnBasis.l0 k x2 x7 x8 x9 x11 x13 x71 x72 (wrap64 (x73 + 1)))
def toruslaw04_ColumnBasis.l2 : Nat → List Int → Int → List (List (S45)) → List (List (S45)) → Int → List (List (S45)) → Int → Option (Bool)
  | 0, _, _, _, _, _, _, _ => none
  | k + 1, x2, x7, x8, x9, x11, x19, x20 => if x20 ≥ 0 then (if x20 < (x2.length : Int) then (if 0 ≤ x20 then ((torusref01_Mod.f k x7 (rd x2 x20)).bind fun t430 => (toruslaw04_ColumnBasis.j5 k x2 x7 x8 x9 x11 x19 x20 1 (t430 != 0))) else (none)) else (toruslaw04_ColumnBasis.j5 k x2 x7 x8 x9 x11 x19 x20 1 false)) else ((column_Basis.f k x7 x19).bind fun bt448 => ((torusref04_CopyList.f k x9).bind fun t452 => (if t452.length + x8.length < 5864062014805 then ((column_Rank.f k x7 (t452 ++ x8)).bind fun bt458 => (if bt448.2 = 0 then ((torusref04_SameList.f k bt448.1 x9).bind fun t460 => (if t460 = true then (if bt458.2 = 0 then (if bt458.1 = x11 then ((toruslaw04_awake.f).bind fun t461 => (some t461)) else (some false)) else (some false)) else (some false))) else (some false))) else (none))))
def toruslaw04_ColumnBasis.j5 : Nat → List Int → Int → List (List (S45)) → List (List (S45)) → Int → List (List (S45)) → Int → Int → Bool → Option (Bool)
  | 0, _, _, _, _, _, _, _, _, _ => none
  | k + 1, x2, x7, x8, x9, x11, x19, x20, x21, x135 => if x135 = true then (if 0 ≤ x20 then (if x20 < (x2.length : Int) then (toruslaw04_ColumnBasis.j6 k x2 x7 x8 x9 x11 x19 x20 (rd x2 x20)) else (none)) else (none)) else (toruslaw04_ColumnBasis.j6 k x2 x7 x8 x9 x11 x19 x20 x21)
def toruslaw04_ColumnBasis.j6 : Nat → List Int → Int → List (List (S45)) → List (List (S45)) → Int → List (List (S45)) → Int → Int → Option (Bool)
  | 0, _, _, _, _, _, _, _, _ => none
  | k + 1, x2, x7, x8, x9, x11, x19, x20, x21 => if 0 ≤ x20 then (if x20 < (x8.length : Int) then ((column_Scale.f k x7 (rd_L2 x8 x20) x21).bind fun bt433 => (if bt433.2 = 0 then (if 0 ≤ (wrap64 ((wrap64 ((x8.length : Int) - 1)) - x20)) then (if (wrap64 ((wrap64 ((x8.length : Int) - 1)) - x20)) < (x8.length : Int) then ((toruslaw04_plus.f k x7 (rd_L2 x8 x20) 1 (rd_L2 x8 (wrap64 ((wrap64 ((x8.length : Int) - 1)) - x20)))).bind fun t439 => ((some (([bt433.1, t439] : List (List (S45))) : List (List (S45)))).bind fun y442 => (if x19.length + y442.length < 5864062014805 then (toruslaw04_ColumnBasis.l2 k x2 x7 x8 x9 x11 (x19 ++ y442) (wrap64 (x20 - 1))) else (none)))) else (none)) else (none)) else (some false))) else (none)) else (none)
end
def toruslaw04_ColumnBasis.f (k : Nat) (a0 : Int) (l1 : List (List (S45))) (l2 : List Int) : Option (Bool) := (torusref01_Field.f k a0).bind fun t412 => ((torusref04_FitList.f k t412 l1 10 8).bind fun t413 => ((column_Basis.f k t412 t413).bind fun bt416 => ((column_Rank.f k t412 t413).bind fun bt420 => (if bt416.2 = 0 then (if bt420.2 = 0 then (if bt420.1 = (bt416.1.length : Int) then (if (bt416.1.length : Int) > (t413.length : Int) then (toruslaw04_ColumnBasis.j0 k l2 t412 t413 bt416.1 bt420.1 true) else ((toruslaw04_spans.f k t412 bt416.1 t413).bind fun t422 => (toruslaw04_ColumnBasis.j0 k l2 t412 t413 bt416.1 bt420.1 (!t422)))) else (toruslaw04_ColumnBasis.j0 k l2 t412 t413 bt416.1 bt420.1 true)) else (toruslaw04_ColumnBasis.j0 k l2 t412 t413 bt416.1 bt420.1 true)) else (toruslaw04_ColumnBasis.j0 k l2 t412 t413 bt416.1 bt420.1 true)))))
theorem toruslaw04_ColumnBasis.mono_l : ∀ k, (∀ y0 y1 y2 y3 y4 y5, LeO (toruslaw04_ColumnBasis.j0 k y0 y1 y2 y3 y4 y5) (toruslaw04_ColumnBasis.j0 (k + 1) y0 y1 y2 y3 y4 y5)) ∧ (∀ y0 y1 y2 y3 y4 y5 y6 y7 y8, LeO (toruslaw04_ColumnBasis.l0 k y0 y1 y2 y3 y4 y5 y6 y7 y8) (toruslaw04_ColumnBasis.l0 (k + 1) y0 y1 y2 y3 y4 y5 y6 y7 y8)) ∧ (∀ y0 y1 y2 y3 y4 y5 y6 y7 y8 y9 y10, LeO (toruslaw04_ColumnBasis.j2 k y0 y1 y2 y3 y4 y5 y6 y7 y8 y9 y10) (toruslaw04_ColumnBasis.j2 (k + 1) y0 y1 y2 y3 y4 y5 y6 y7 y8 y9 y10)) ∧ (∀ y0 y1 y2 y3 y4 y5 y6 y7 y8 y9 y10 y11, LeO (toruslaw04_ColumnBasis.l1 k y0 y1 y2 y3 y4 y5 y6 y7 y8 y9 y10 y11) (toruslaw04_ColumnBasis.l1 (k + 1) y0 y1 y2 y3 y4 y5 y6 y7 y8 y9 y10 y11)) ∧ (∀ y0 y1 y2 y3 y4 y5 y6, LeO (toruslaw04_ColumnBasis.l2 k y0 y1 y2 y3 y4 y5 y6) (toruslaw04_ColumnBasis.l2 (k + 1) y0 y1 y2 y3 y4 y5 y6)) ∧ (∀ y0 y1 y2 y3 y4 y5 y6 y7 y8, LeO (toruslaw04_ColumnBasis.j5 k y0 y1 y2 y3 y4 y5 y6 y7 y8) (toruslaw04_ColumnBasis.j5 (k + 1) y0 y1 y2 y3 y4 y5 y6 y7 y8)) ∧ (∀ y0 y1 y2 y3 y4 y5 y6 y7, LeO (toruslaw04_ColumnBasis.j6 k y0 y1 y2 y3 y4 y5 y6 y7) (toruslaw04_ColumnBasis.j6 (k + 1) y0 y1 y2 y3 y4 y5 y6 y7))
  | 0 => ⟨fun _ _ _ _ _ _ r h => by simp [toruslaw04_ColumnBasis.j0] at h, fun _ _ _ _ _ _ _ _ _ r h => by simp [toruslaw04_ColumnBasis.l0] at h, fun _ _ _ _ _ _ _ _ _ _ _ r h => by simp [toruslaw04_ColumnBasis.j2] at h, fun _ _ _ _ _ _ _ _ _ _ _ _ r h => by simp [toruslaw04_ColumnBasis.l1] at h, fun _ _ _ _ _ _ _ r h => by simp [toruslaw04_ColumnBasis.l2] at h, fun _ _ _ _ _ _ _ _ _ r h => by simp [toruslaw04_ColumnBasis.j5] at h, fun _ _ _ _ _ _ _ _ r h => by simp [toruslaw04_ColumnBasis.j6] at h⟩
  | k + 1 => by
    obtain ⟨ih0, ih1, ih2, ih3, ih4, ih5, ih6⟩ := toruslaw04_ColumnBasis.mono_l k
    refine ⟨?_, ?_, ?_, ?_, ?_, ?_, ?_⟩
    · intro y0 y1 y2 y3 y4 y5
      unfold toruslaw04_ColumnBasis.j0
      repeat' first
      | (with_reducible exact ih0 _ _ _ _ _ _)
      | (with_reducible exact ih1 _ _ _ _ _ _ _ _ _)
      | (with_reducible exact ih2 _ _ _ _ _ _ _ _ _ _ _)
      | (with_reducible exact ih3 _ _ _ _ _ _ _ _ _ _ _ _)
      | (with_reducible exact ih4 _ _ _ _ _ _ _)
      | (with_reducible exact ih5 _ _ _ _ _ _ _ _ _)
      | (with_reducible exact ih6 _ _ _ _ _ _ _ _)
      | (with_reducible exact column_Basis.mono _ _ _)
      | (with_reducible exact column_Coef.mono _ _ _)
      | (with_reducible exact column_Rank.mono _ _ _)
      | (with_reducible exact column_Scale.mono _ _ _ _)
      | (with_reducible exact toruslaw04_plus.mono _ _ _ _ _)
      | (with_reducible exact toruslaw04_spans.mono _ _ _ _)
      | (with_reducible exact torusref01_Field.mono _ _)
      | (with_reducible exact torusref01_Mod.mono _ _ _)
      | (with_reducible exact torusref04_CopyList.mono _ _)
      | (with_reducible exact torusref04_FitList.mono _ _ _ _ _)
      | (with_reducible exact torusref04_SameList.mono _ _ _)
      | (with_reducible exact LeO.refl _)
      | (with_reducible exact LeO.none _)
      | (with_reducible refine LeO.ite ?_ ?_)
      | (with_reducible refine LeO.bind ?_ (fun _ => ?_))
      | exact ih0 _ _ _ _ _ _
      | exact ih1 _ _ _ _ _ _ _ _ _
      | exact ih2 _ _ _ _ _ _ _ _ _ _ _
      | exact ih3 _ _ _ _ _ _ _ _ _ _ _ _
      | exact ih4 _ _ _ _ _ _ _
      | exact ih5 _ _ _ _ _ _ _ _ _
      | exact ih6 _ _ _ _ _ _ _ _
      | exact column_Basis.mono _ _ _
      | exact column_Coef.mono _ _ _
      | exact column_Rank.mono _ _ _
      | exact column_Scale.mono _ _ _ _
      | exact toruslaw04_plus.mono _ _ _ _ _
      | exact toruslaw04_spans.mono _ _ _ _
      | exact torusref01_Field.mono _ _
      | exact torusref01_Mod.mono _ _ _
      | exact torusref04_CopyList.mono _ _
      | exact torusref04_FitList.mono _ _ _ _ _
      | exact torusref04_SameList.mono _ _ _
      | exact LeO.none _
      | refine LeO.ite ?_ ?_
      | refine LeO.bind ?_ (fun _ => ?_)
    · intro y0 y1 y2 y3 y4 y5 y6 y7 y8
      unfold toruslaw04_ColumnBasis.l0
      repeat' first
      | (with_reducible exact ih0 _ _ _ _ _ _)
      | (with_reducible exact ih1 _ _ _ _ _ _ _ _ _)
      | (with_reducible exact ih2 _ _ _ _ _ _ _ _ _ _ _)
      | (with_reducible exact ih3 _ _ _ _ _ _ _ _ _ _ _ _)
      | (with_reducible exact ih4 _ _ _ _ _ _ _)
      | (with_reducible exact ih5 _ _ _ _ _ _ _ _ _)
      | (with_reducible exact ih6 _ _ _ _ _ _ _ _)
      | (with_reducible exact column_Basis.mono _ _ _)
      | (with_reducible exact column_Coef.mono _ _ _)
      | (with_reducible exact column_Rank.mono _ _ _)
      | (with_reducible exact column_Scale.mono _ _ _ _)
      | (with_reducible exact toruslaw04_plus.mono _ _ _ _ _)
      | (with_reducible exact toruslaw04_spans.mono _ _ _ _)
      | (with_reducible exact torusref01_Field.mono _ _)
      | (with_reducible exact torusref01_Mod.mono _ _ _)
      | (with_reducible exact torusref04_CopyList.mono _ _)
      | (with_reducible exact torusref04_FitList.mono _ _ _ _ _)
      | (with_reducible exact torusref04_SameList.mono _ _ _)
      | (with_reducible exact LeO.refl _)
      | (with_reducible exact LeO.none _)
      | (with_reducible refine LeO.ite ?_ ?_)
      | (with_reducible refine LeO.bind ?_ (fun _ => ?_))
      | exact ih0 _ _ _ _ _ _
      | exact ih1 _ _ _ _ _ _ _ _ _
      | exact ih2 _ _ _ _ _ _ _ _ _ _ _
      | exact ih3 _ _ _ _ _ _ _ _ _ _ _ _
      | exact ih4 _ _ _ _ _ _ _
      | exact ih5 _ _ _ _ _ _ _ _ _
      | exact ih6 _ _ _ _ _ _ _ _
      | exact column_Basis.mono _ _ _
      | exact column_Coef.mono _ _ _
      | exact column_Rank.mono _ _ _
      | exact column_Scale.mono _ _ _ _
      | exact toruslaw04_plus.mono _ _ _ _ _
      | exact toruslaw04_spans.mono _ _ _ _
      | exact torusref01_Field.mono _ _
      | exact torusref01_Mod.mono _ _ _
      | exact torusref04_CopyList.mono _ _
      | exact torusref04_FitList.mono _ _ _ _ _
      | exact torusref04_SameList.mono _ _ _
      | exact LeO.none _
      | refine LeO.ite ?_ ?_
      | refine LeO.bind ?_ (fun _ => ?_)
    · intro y0 y1 y2 y3 y4 y5 y6 y7 y8 y9 y10
      unfold toruslaw04_ColumnBasis.j2
      repeat' first
      | (with_reducible exact ih0 _ _ _ _ _ _)
      | (with_reducible exact ih1 _ _ _ _ _ _ _ _ _)
      | (with_reducible exact ih2 _ _ _ _ _ _ _ _ _ _ _)
      | (with_reducible exact ih3 _ _ _ _ _ _ _ _ _ _ _ _)
      | (with_reducible exact ih4 _ _ _ _ _ _ _)
      | (with_reducible exact ih5 _ _ _ _ _ _ _ _ _)
      | (with_reducible exact ih6 _ _ _ _ _ _ _ _)
      | (with_reducible exact column_Basis.mono _ _ _)
      | (with_reducible exact column_Coef.mono _ _ _)
      | (with_reducible exact column_Rank.mono _ _ _)
      | (with_reducible exact column_Scale.mono _ _ _ _)
      | (with_reducible exact toruslaw04_plus.mono _ _ _ _ _)
      | (with_reducible exact toruslaw04_spans.mono _ _ _ _)
      | (with_reducible exact torusref01_Field.mono _ _)
      | (with_reducible exact torusref01_Mod.mono _ _ _)
      | (with_reducible exact torusref04_CopyList.mono _ _)
      | (with_reducible exact torusref04_FitList.mono _ _ _ _ _)
      | (with_reducible exact torusref04_SameList.mono _ _ _)
      | (with_reducible exact LeO.refl _)
      | (with_reducible exact LeO.none _)
      | (with_reducible refine LeO.ite ?_ ?_)
      | (with_reducible refine LeO.bind ?_ (fun _ => ?_))
      | exact ih0 _ _ _ _ _ _
      | exact ih1 _ _ _ _ _ _ _ _ _
      | exact ih2 _ _ _ _ _ _ _ _ _ _ _
      | exact ih3 _ _ _ _ _ _ _ _ _ _ _ _
      | exact ih4 _ _ _ _ _ _ _
      | exact ih5 _ _ _ _ _ _ _ _ _
      | exact ih6 _ _ _ _ _ _ _ _
      | exact column_Basis.mono _ _ _
      | exact column_Coef.mono _ _ _
      | exact column_Rank.mono _ _ _
      | exact column_Scale.mono _ _ _ _
      | exact toruslaw04_plus.mono _ _ _ _ _
      | exact toruslaw04_spans.mono _ _ _ _
      | exact torusref01_Field.mono _ _
      | exact torusref01_Mod.mono _ _ _
      | exact torusref04_CopyList.mono _ _
      | exact torusref04_FitList.mono _ _ _ _ _
      | exact torusref04_SameList.mono _ _ _
      | exact LeO.none _
      | refine LeO.ite ?_ ?_
      | refine LeO.bind ?_ (fun _ => ?_)
    · intro y0 y1 y2 y3 y4 y5 y6 y7 y8 y9 y10 y11
      unfold toruslaw04_ColumnBasis.l1
      repeat' first
      | (with_reducible exact ih0 _ _ _ _ _ _)
      | (with_reducible exact ih1 _ _ _ _ _ _ _ _ _)
      | (with_reducible exact ih2 _ _ _ _ _ _ _ _ _ _ _)
      | (with_reducible exact ih3 _ _ _ _ _ _ _ _ _ _ _ _)
      | (with_reducible exact ih4 _ _ _ _ _ _ _)
      | (with_reducible exact ih5 _ _ _ _ _ _ _ _ _)
      | (with_reducible exact ih6 _ _ _ _ _ _ _ _)
      | (with_reducible exact column_Basis.mono _ _ _)
      | (with_reducible exact column_Coef.mono _ _ _)
      | (with_reducible exact column_Rank.mono _ _ _)
      | (with_reducible exact column_Scale.mono _ _ _ _)
      | (with_reducible exact toruslaw04_plus.mono _ _ _ _ _)
      | (with_reducible exact toruslaw04_spans.mono _ _ _ _)
      | (with_reducible exact torusref01_Field.mono _ _)
      | (with_reducible exact torusref01_Mod.mono _ _ _)
      | (with_reducible exact torusref04_CopyList.mono _ _)
      | (with_reducible exact torusref04_FitList.mono _ _ _ _ _)
      | (with_reducible exact torusref04_SameList.mono _ _ _)
      | (with_reducible exact LeO.refl _)
      | (with_reducible exact LeO.none _)
      | (with_reducible refine LeO.ite ?_ ?_)
      | (with_reducible refine LeO.bind ?_ (fun _ => ?_))
      | exact ih0 _ _ _ _ _ _
      | exact ih1 _ _ _ _ _ _ _ _ _
      | exact ih2 _ _ _ _ _ _ _ _ _ _ _
      | exact ih3 _ _ _ _ _ _ _ _ _ _ _ _
      | exact ih4 _ _ _ _ _ _ _
      | exact ih5 _ _ _ _ _ _ _ _ _
      | exact ih6 _ _ _ _ _ _ _ _
      | exact column_Basis.mono _ _ _
      | exact column_Coef.mono _ _ _
      | exact column_Rank.mono _ _ _
      | exact column_Scale.mono _ _ _ _
      | exact toruslaw04_plus.mono _ _ _ _ _
      | exact toruslaw04_spans.mono _ _ _ _
      | exact torusref01_Field.mono _ _
      | exact torusref01_Mod.mono _ _ _
      | exact torusref04_CopyList.mono _ _
      | exact torusref04_FitList.mono _ _ _ _ _
      | exact torusref04_SameList.mono _ _ _
      | exact LeO.none _
      | refine LeO.ite ?_ ?_
      | refine LeO.bind ?_ (fun _ => ?_)
    · intro y0 y1 y2 y3 y4 y5 y6
      unfold toruslaw04_ColumnBasis.l2
      repeat' first
      | (with_reducible exact ih0 _ _ _ _ _ _)
      | (with_reducible exact ih1 _ _ _ _ _ _ _ _ _)
      | (with_reducible exact ih2 _ _ _ _ _ _ _ _ _ _ _)
      | (with_reducible exact ih3 _ _ _ _ _ _ _ _ _ _ _ _)
      | (with_reducible exact ih4 _ _ _ _ _ _ _)
      | (with_reducible exact ih5 _ _ _ _ _ _ _ _ _)
      | (with_reducible exact ih6 _ _ _ _ _ _ _ _)
      | (with_reducible exact column_Basis.mono _ _ _)
      | (with_reducible exact column_Coef.mono _ _ _)
      | (with_reducible exact column_Rank.mono _ _ _)
      | (with_reducible exact column_Scale.mono _ _ _ _)
      | (with_reducible exact toruslaw04_plus.mono _ _ _ _ _)
      | (with_reducible exact toruslaw04_spans.mono _ _ _ _)
      | (with_reducible exact torusref01_Field.mono _ _)
      | (with_reducible exact torusref01_Mod.mono _ _ _)
      | (with_reducible exact torusref04_CopyList.mono _ _)
      | (with_reducible exact torusref04_FitList.mono _ _ _ _ _)
      | (with_reducible exact torusref04_SameList.mono _ _ _)
      | (with_reducible exact LeO.refl _)
      | (with_reducible exact LeO.none _)
      | (with_reducible refine LeO.ite ?_ ?_)
      | (with_reducible refine LeO.bind ?_ (fun _ => ?_))
      | exact ih0 _ _ _ _ _ _
      | exact ih1 _ _ _ _ _ _ _ _ _
      | exact ih2 _ _ _ _ _ _ _ _ _ _ _
      | exact ih3 _ _ _ _ _ _ _ _ _ _ _ _
      | exact ih4 _ _ _ _ _ _ _
      | exact ih5 _ _ _ _ _ _ _ _ _
      | exact ih6 _ _ _ _ _ _ _ _
      | exact column_Basis.mono _ _ _
      | exact column_Coef.mono _ _ _
      | exact column_Rank.mono _ _ _
      | exact column_Scale.mono _ _ _ _
      | exact toruslaw04_plus.mono _ _ _ _ _
      | exact toruslaw04_spans.mono _ _ _ _
      | exact torusref01_Field.mono _ _
      | exact torusref01_Mod.mono _ _ _
      | exact torusref04_CopyList.mono _ _
      | exact torusref04_FitList.mono _ _ _ _ _
      | exact torusref04_SameList.mono _ _ _
      | exact LeO.none _
      | refine LeO.ite ?_ ?_
      | refine LeO.bind ?_ (fun _ => ?_)
    · intro y0 y1 y2 y3 y4 y5 y6 y7 y8
      unfold toruslaw04_ColumnBasis.j5
      repeat' first
      | (with_reducible exact ih0 _ _ _ _ _ _)
      | (with_reducible exact ih1 _ _ _ _ _ _ _ _ _)
      | (with_reducible exact ih2 _ _ _ _ _ _ _ _ _ _ _)
      | (with_reducible exact ih3 _ _ _ _ _ _ _ _ _ _ _ _)
      | (with_reducible exact ih4 _ _ _ _ _ _ _)
      | (with_reducible exact ih5 _ _ _ _ _ _ _ _ _)
      | (with_reducible exact ih6 _ _ _ _ _ _ _ _)
      | (with_reducible exact column_Basis.mono _ _ _)
      | (with_reducible exact column_Coef.mono _ _ _)
      | (with_reducible exact column_Rank.mono _ _ _)
      | (with_reducible exact column_Scale.mono _ _ _ _)
      | (with_reducible exact toruslaw04_plus.mono _ _ _ _ _)
      | (with_reducible exact toruslaw04_spans.mono _ _ _ _)
      | (with_reducible exact torusref01_Field.mono _ _)
      | (with_reducible exact torusref01_Mod.mono _ _ _)
      | (with_reducible exact torusref04_CopyList.mono _ _)
      | (with_reducible exact torusref04_FitList.mono _ _ _ _ _)
      | (with_reducible exact torusref04_SameList.mono _ _ _)
      | (with_reducible exact LeO.refl _)
      | (with_reducible exact LeO.none _)
      | (with_reducible refine LeO.ite ?_ ?_)
      | (with_reducible refine LeO.bind ?_ (fun _ => ?_))
      | exact ih0 _ _ _ _ _ _
      | exact ih1 _ _ _ _ _ _ _ _ _
      | exact ih2 _ _ _ _ _ _ _ _ _ _ _
      | exact ih3 _ _ _ _ _ _ _ _ _ _ _ _
      | exact ih4 _ _ _ _ _ _ _
      | exact ih5 _ _ _ _ _ _ _ _ _
      | exact ih6 _ _ _ _ _ _ _ _
      | exact column_Basis.mono _ _ _
      | exact column_Coef.mono _ _ _
      | exact column_Rank.mono _ _ _
      | exact column_Scale.mono _ _ _ _
      | exact toruslaw04_plus.mono _ _ _ _ _
      | exact toruslaw04_spans.mono _ _ _ _
      | exact torusref01_Field.mono _ _
      | exact torusref01_Mod.mono _ _ _
      | exact torusref04_CopyList.mono _ _
      | exact torusref04_FitList.mono _ _ _ _ _
      | exact torusref04_SameList.mono _ _ _
      | exact LeO.none _
      | refine LeO.ite ?_ ?_
      | refine LeO.bind ?_ (fun _ => ?_)
    · intro y0 y1 y2 y3 y4 y5 y6 y7
      unfold toruslaw04_ColumnBasis.j6
      repeat' first
      | (with_reducible exact ih0 _ _ _ _ _ _)
      | (with_reducible exact ih1 _ _ _ _ _ _ _ _ _)
      | (with_reducible exact ih2 _ _ _ _ _ _ _ _ _ _ _)
      | (with_reducible exact ih3 _ _ _ _ _ _ _ _ _ _ _ _)
      | (with_reducible exact ih4 _ _ _ _ _ _ _)
      | (with_reducible exact ih5 _ _ _ _ _ _ _ _ _)
      | (with_reducible exact ih6 _ _ _ _ _ _ _ _)
      | (with_reducible exact column_Basis.mono _ _ _)
      | (with_reducible exact column_Coef.mono _ _ _)
      | (with_reducible exact column_Rank.mono _ _ _)
      | (with_reducible exact column_Scale.mono _ _ _ _)
      | (with_reducible exact toruslaw04_plus.mono _ _ _ _ _)
      | (with_reducible exact toruslaw04_spans.mono _ _ _ _)
      | (with_reducible exact torusref01_Field.mono _ _)
      | (with_reducible exact torusref01_Mod.mono _ _ _)
      | (with_reducible exact torusref04_CopyList.mono _ _)
      | (with_reducible exact torusref04_FitList.mono _ _ _ _ _)
      | (with_reducible exact torusref04_SameList.mono _ _ _)
      | (with_reducible exact LeO.refl _)
      | (with_reducible exact LeO.none _)
      | (with_reducible refine LeO.ite ?_ ?_)
      | (with_reducible refine LeO.bind ?_ (fun _ => ?_))
      | exact ih0 _ _ _ _ _ _
      | exact ih1 _ _ _ _ _ _ _ _ _
      | exact ih2 _ _ _ _ _ _ _ _ _ _ _
      | exact ih3 _ _ _ _ _ _ _ _ _ _ _ _
      | exact ih4 _ _ _ _ _ _ _
      | exact ih5 _ _ _ _ _ _ _ _ _
      | exact ih6 _ _ _ _ _ _ _ _
      | exact column_Basis.mono _ _ _
      | exact column_Coef.mono _ _ _
      | exact column_Rank.mono _ _ _
      | exact column_Scale.mono _ _ _ _
      | exact toruslaw04_plus.mono _ _ _ _ _
      | exact toruslaw04_spans.mono _ _ _ _
      | exact torusref01_Field.mono _ _
      | exact torusref01_Mod.mono _ _ _
      | exact torusref04_CopyList.mono _ _
      | exact torusref04_FitList.mono _ _ _ _ _
      | exact torusref04_SameList.mono _ _ _
      | exact LeO.none _
      | refine LeO.ite ?_ ?_
      | refine LeO.bind ?_ (fun _ => ?_)
theorem toruslaw04_ColumnBasis.mono : ∀ a0 a1 a2 k, LeO (toruslaw04_ColumnBasis.f k a0 a1 a2) (toruslaw04_ColumnBasis.f (k + 1) a0 a1 a2) := by
  intro a0 a1 a2 k
  obtain ⟨ih0, ih1, ih2, ih3, ih4, ih5, ih6⟩ := toruslaw04_ColumnBasis.mono_l k
  unfold toruslaw04_ColumnBasis.f
  repeat' first
      | (with_reducible exact ih0 _ _ _ _ _ _)
      | (with_reducible exact ih1 _ _ _ _ _ _ _ _ _)
      | (with_reducible exact ih2 _ _ _ _ _ _ _ _ _ _ _)
      | (with_reducible exact ih3 _ _ _ _ _ _ _ _ _ _ _ _)
      | (with_reducible exact ih4 _ _ _ _ _ _ _)
      | (with_reducible exact ih5 _ _ _ _ _ _ _ _ _)
      | (with_reducible exact ih6 _ _ _ _ _ _ _ _)
      | (with_reducible exact column_Basis.mono _ _ _)
      | (with_reducible exact column_Coef.mono _ _ _)
      | (with_reducible exact column_Rank.mono _ _ _)
      | (with_reducible exact column_Scale.mono _ _ _ _)
      | (with_reducible exact toruslaw04_plus.mono _ _ _ _ _)
      | (with_reducible exact toruslaw04_spans.mono _ _ _ _)
      | (with_reducible exact torusref01_Field.mono _ _)
      | (with_reducible exact torusref01_Mod.mono _ _ _)
      | (with_reducible exact torusref04_CopyList.mono _ _)
      | (with_reducible exact torusref04_FitList.mono _ _ _ _ _)
      | (with_reducible exact torusref04_SameList.mono _ _ _)
      | (with_reducible exact LeO.refl _)
      | (with_reducible exact LeO.none _)
      | (with_reducible refine LeO.ite ?_ ?_)
      | (with_reducible refine LeO.bind ?_ (fun _ => ?_))
      | exact ih0 _ _ _ _ _ _
      | exact ih1 _ _ _ _ _ _ _ _ _
      | exact ih2 _ _ _ _ _ _ _ _ _ _ _
      | exact ih3 _ _ _ _ _ _ _ _ _ _ _ _
      | exact ih4 _ _ _ _ _ _ _
      | exact ih5 _ _ _ _ _ _ _ _ _
      | exact ih6 _ _ _ _ _ _ _ _
      | exact column_Basis.mono _ _ _
      | exact column_Coef.mono _ _ _
      | exact column_Rank.mono _ _ _
      | exact column_Scale.mono _ _ _ _
      | exact toruslaw04_plus.mono _ _ _ _ _
      | exact toruslaw04_spans.mono _ _ _ _
      | exact torusref01_Field.mono _ _
      | exact torusref01_Mod.mono _ _ _
      | exact torusref04_CopyList.mono _ _
      | exact torusref04_FitList.mono _ _ _ _ _
      | exact torusref04_SameList.mono _ _ _
      | exact LeO.none _
      | refine LeO.ite ?_ ?_
      | refine LeO.bind ?_ (fun _ => ?_)
def toruslaw04_ColumnBasis.T31 : Bool × List (List Nat × List Nat) := (true, [([], []), ([], []), ([], []), ([], []), ([], []), ([3, 4], [3, 4]), ([5], [5]), ([], []), ([], []), ([8], [8]), ([9], [9]), ([], []), ([10, 11], [10, 11]), ([7, 12], [7, 12]), ([13], [13]), ([2, 6, 14], [2, 6, 14]), ([1, 15], [1, 15]), ([0, 16, 15], [0, 16]), ([17, 17, 0, 1, 2, 3, 4, 5, 6, 7, 8, 9, 10, 11, 12, 13, 14, 15, 16, 17], [0, 17])])
def toruslaw04_ColumnBasis.B31 : List Nat := [0, 0, 0, 0, 0, 24, 56, 0, 0, 256, 768, 0, 3840, 8064, 16256, 32764, 65534, 131071, 262143]
theorem toruslaw04_ColumnBasis.tab31 : rtab .any (opsOf Try.f6 31) = toruslaw04_ColumnBasis.T31 := by kernel_rfl
theorem toruslaw04_ColumnBasis.bits31 : waitsOk toruslaw04_ColumnBasis.T31.2 toruslaw04_ColumnBasis.B31 = true := by kernel_rfl
theorem toruslaw04_ColumnBasis.j0_dead (k : Nat) (x0 : _) (x1 : _) (x2 : _) (x3 : _) (x4 : _) : ¬ toruslaw04_ColumnBasis.j0 k x0 x1 x2 x3 x4 true = some true := by
  cases k <;> simp [toruslaw04_ColumnBasis.j0]
theorem toruslaw04_ColumnBasis.j2_dead (k : Nat) (x0 : _) (x1 : _) (x2 : _) (x3 : _) (x4 : _) (x5 : _) (x6 : _) (x7 : _) (x8 : _) (x9 : _) : ¬ toruslaw04_ColumnBasis.j2 k x0 x1 x2 x3 x4 x5 x6 x7 x8 x9 true = some true := by
  cases k <;> simp [toruslaw04_ColumnBasis.j2]
set_option maxHeartbeats 8000000 in
set_option maxRecDepth 100000 in
theorem toruslaw04_ColumnBasis.calls (k : Nat) (a0 : Int) (A1 : Option Addr) (c1 : Nat) (l1 : List (List (S45))) (A2 : Option Addr) (c2 : Nat) (l2 : List Int) (r : Bool) (w : World) (hr1 : Kd.C (Kd.slice 45 k45) w A1 l1.length l1) (hc1 : l1.length ≤ c1) (hr2 : Kd.C (Kd.int .i64) w A2 l2.length l2) (hc2 : l2.length ≤ c2) (h : toruslaw04_ColumnBasis.f k a0 l1 l2 = some r) (hrt : r = true) :
    Calls Try.prog 6 #[.int .i64 a0, .slice A1 l1.length c1, .slice A2 l2.length c2] w fun e w' => e = .returned (.bool r) ∧ Below w.heap.size w w' := by
  have HR1 := Aside0.mk hr1
  have HC1 := Aside0.mk hc1
  clear hr1 hc1
  have HR2 := Aside0.mk hr2
  have HC2 := Aside0.mk hc2
  clear hr2 hc2
  have HB := Aside0.mk (Below.refl w.heap.size w)
  have H : ((torusref01_Field.f k a0).bind fun t412 => ((torusref04_FitList.f k t412 l1 10 8).bind fun t413 => ((column_Basis.f k t412 t413).bind fun bt416 => ((column_Rank.f k t412 t413).bind fun bt420 => (if bt416.2 = 0 then (if bt420.2 = 0 then (if bt420.1 = (bt416.1.length : Int) then (if (bt416.1.length : Int) > (t413.length : Int) then (toruslaw04_ColumnBasis.j0 k l2 t412 t413 bt416.1 bt420.1 true) else ((toruslaw04_spans.f k t412 bt416.1 t413).bind fun t422 => (toruslaw04_ColumnBasis.j0 k l2 t412 t413 bt416.1 bt420.1 (!t422)))) else (toruslaw04_ColumnBasis.j0 k l2 t412 t413 bt416.1 bt420.1 true)) else (toruslaw04_ColumnBasis.j0 k l2 t412 t413 bt416.1 bt420.1 true)) else (toruslaw04_ColumnBasis.j0 k l2 t412 t413 bt416.1 bt420.1 true)))))) = some r := h
  clear h
  replace H := Option.bind_eq_some_iff.mp H
  obtain ⟨t412, A40, H⟩ := H
  replace H : ((torusref04_FitList.f k t412 l1 10 8).bind fun t413 => ((column_Basis.f k t412 t413).bind fun bt416 => ((column_Rank.f k t412 t413).bind fun bt420 => (if bt416.2 = 0 then (if bt420.2 = 0 then (if bt420.1 = (bt416.1.length : Int) then (if (bt416.1.length : Int) > (t413.length : Int) then (toruslaw04_ColumnBasis.j0 k l2 t412 t413 bt416.1 bt420.1 true) else ((toruslaw04_spans.f k t412 bt416.1 t413).bind fun t422 => (toruslaw04_ColumnBasis.j0 k l2 t412 t413 bt416.1 bt420.1 (!t422)))) else (toruslaw04_ColumnBasis.j0 k l2 t412 t413 bt416.1 bt420.1 true)) else (toruslaw04_ColumnBasis.j0 k l2 t412 t413 bt416.1 bt420.1 true)) else (toruslaw04_ColumnBasis.j0 k l2 t412 t413 bt416.1 bt420.1 true))))) = some r := H
  have A4 := Aside0.mk A40
  clear A40
  replace H := Option.bind_eq_some_iff.mp H
  obtain ⟨t413, A50, H⟩ := H
  replace H : ((column_Basis.f k t412 t413).bind fun bt416 => ((column_Rank.f k t412 t413).bind fun bt420 => (if bt416.2 = 0 then (if bt420.2 = 0 then (if bt420.1 = (bt416.1.length : Int) then (if (bt416.1.length : Int) > (t413.length : Int) then (toruslaw04_ColumnBasis.j0 k l2 t412 t413 bt416.1 bt420.1 true) else ((toruslaw04_spans.f k t412 bt416.1 t413).bind fun t422 => (toruslaw04_ColumnBasis.j0 k l2 t412 t413 bt416.1 bt420.1 (!t422)))) else (toruslaw04_ColumnBasis.j0 k l2 t412 t413 bt416.1 bt420.1 true)) else (toruslaw04_ColumnBasis.j0 k l2 t412 t413 bt416.1 bt420.1 true)) else (toruslaw04_ColumnBasis.j0 k l2 t412 t413 bt416.1 bt420.1 true)))) = some r := H
  have A5 := Aside0.mk A50
  clear A50
  replace H := Option.bind_eq_some_iff.mp H
  obtain ⟨⟨t416, t417⟩, A60, H⟩ := H
  replace H : ((column_Rank.f k t412 t413).bind fun bt420 => (if t417 = 0 then (if bt420.2 = 0 then (if bt420.1 = (t416.length : Int) then (if (t416.length : Int) > (t413.length : Int) then (toruslaw04_ColumnBasis.j0 k l2 t412 t413 t416 bt420.1 true) else ((toruslaw04_spans.f k t412 t416 t413).bind fun t422 => (toruslaw04_ColumnBasis.j0 k l2 t412 t413 t416 bt420.1 (!t422)))) else (toruslaw04_ColumnBasis.j0 k l2 t412 t413 t416 bt420.1 true)) else (toruslaw04_ColumnBasis.j0 k l2 t412 t413 t416 bt420.1 true)) else (toruslaw04_ColumnBasis.j0 k l2 t412 t413 t416 bt420.1 true))) = some r := H
  have A6 := Aside0.mk A60
  clear A60
  replace H := Option.bind_eq_some_iff.mp H
  obtain ⟨⟨t420, t421⟩, A70, H⟩ := H
  replace H : (if t417 = 0 then (if t421 = 0 then (if t420 = (t416.length : Int) then (if (t416.length : Int) > (t413.length : Int) then (toruslaw04_ColumnBasis.j0 k l2 t412 t413 t416 t420 true) else ((toruslaw04_spans.f k t412 t416 t413).bind fun t422 => (toruslaw04_ColumnBasis.j0 k l2 t412 t413 t416 t420 (!t422)))) else (toruslaw04_ColumnBasis.j0 k l2 t412 t413 t416 t420 true)) else (toruslaw04_ColumnBasis.j0 k l2 t412 t413 t416 t420 true)) else (toruslaw04_ColumnBasis.j0 k l2 t412 t413 t416 t420 true)) = some r := H
  have A7 := Aside0.mk A70
  clear A70
  have HC8 := Aside0.mk H
  clear H
  go_enter Try.func6, Try.ntmps6
  go_upto_region 5 with (first | ((with_reducible refine gate_callee (f := 12) rfl ?_); refine goesL_ (some 29) rfl rfl Try.func12 (by kernel_rfl) rfl #[.int .i64 a0] rfl (by (try simp only [List.map_toArray, List.map_cons, List.map_nil]); first | done | rfl | (simp only [List.length_drop, List.length_take]; rfl)) ?_; (with_reducible refine (torusref01_Field.calls k a0 t412 _ A4.out).mono ?_); rintro e w9 ⟨rfl, hb⟩; refine ⟨_, rfl, ?_⟩; have n0_ := Aside0.mk (below_step (by repeat (first | (with_reducible first | exact HB.out | apply below_alloc | apply pw_below_drewN | apply below_drew1) | exact HB.out)) hb); clear HB; have HB := n0_; clear n0_; (try clear hb); (try clear hb2); (try clear hk); (try clear hi)) | ((with_reducible refine gate_callee (f := 37) rfl ?_); refine goesL_ (some 32) rfl rfl Try.func37 (by kernel_rfl) rfl #[.int .i64 t412, .slice A1 l1.length c1, .int .i64 10, .int .i64 8] rfl (by (try simp only [List.map_toArray, List.map_cons, List.map_nil]); first | done | rfl | (simp only [List.length_drop, List.length_take]; rfl)) ?_; (with_reducible refine (torusref04_FitList.calls k t412 _ _ l1 10 8 t413 _ ?side1 ?side2 A5.out).mono ?_); (case side1 => repeat (first | exact (Kd.C_below HR1.out HB.out) | (with_reducible refine Kd.C_alloc ?_ _) | (with_reducible refine Kd.C_drewN ?_ _) | (with_reducible refine Kd.C_drew ?_))); (case side2 => exact HC1.out); rintro e w10 ⟨v414, rfl, ho0, hb⟩; refine ⟨_, rfl, ?_⟩; have n0_ := Aside0.mk (Kd.N_lower (Kd.N_mono (ok' := fun k_ => True) (Kd.S_N (Kd.S_bound ho0)) (fun k_ hk_ => trivial)) (below_size (by repeat (first | (with_reducible first | exact HB.out | apply below_alloc | apply pw_below_drewN | apply below_drew1) | exact HB.out)))); have n1_ := Aside0.mk (below_step (by repeat (first | (with_reducible first | exact HB.out | apply below_alloc | apply pw_below_drewN | apply below_drew1) | exact HB.out)) hb); clear HB; have HO415 := n0_; have HB := n1_; clear n0_ n1_; (try clear hb); (try clear hb2); (try clear hk); (try clear hi); (try clear ho0); obtain ⟨Ao11, co11, eo11⟩ := Kd.N_slice HO415.out; subst eo11) | ((with_reducible refine gate_callee (f := 38) rfl ?_); refine goesL_ (some 36) rfl rfl Try.func38 (by kernel_rfl) rfl #[.int .i64 t412, .slice Ao11 t413.length co11] rfl (by (try simp only [List.map_toArray, List.map_cons, List.map_nil]); first | done | rfl | (simp only [List.length_drop, List.length_take]; rfl)) ?_; (with_reducible refine (column_Basis.calls k t412 _ _ t413 t416 t417 _ ?side1 ?side2 A6.out).mono ?_); (case side1 => repeat (first | exact (Kd.N_reads' HO415.out).2.2 | (with_reducible refine Kd.C_alloc ?_ _) | (with_reducible refine Kd.C_drewN ?_ _) | (with_reducible refine Kd.C_drew ?_))); (case side2 => exact (Kd.N_reads' HO415.out).2.1); rintro e w12 ⟨v418, rfl, ho0, hb⟩; refine ⟨_, rfl, ?_⟩; have n0_ := Aside0.mk (Kd.N_elder' (by (with_reducible repeat (first | apply Kd.N_alloc | apply Kd.N_drewN | apply Kd.N_drew)); exact HO415.out) (by first | exact Kd.S_base ho0 | exact Kd.R_base ho0 | exact Kd.N_base ho0) hb); have n1_ := Aside0.mk (Kd.N_lower (Kd.N_mono (ok' := fun k_ => some k_ ≠ (.slice Ao11 t413.length co11 : Value).ownBlock) (Kd.S_N (Kd.S_bound ho0)) (fun k_ hk_ => (Kd.fresh' (Kd.N_lt (by (with_reducible repeat (first | apply Kd.N_alloc | apply Kd.N_drewN | apply Kd.N_drew)); exact HO415.out)) k_ hk_.2.1))) (below_size (by repeat (first | (with_reducible first | exact HB.out | apply below_alloc | apply pw_below_drewN | apply below_drew1) | exact HB.out)))); have n2_ := Aside0.mk (below_step (by repeat (first | (with_reducible first | exact HB.out | apply below_alloc | apply pw_below_drewN | apply below_drew1) | exact HB.out)) hb); clear HO415; clear HB; have HO415 := n0_; have HO419 := n1_; have HB := n2_; clear n0_ n1_ n2_; (try clear hb); (try clear hb2); (try clear hk); (try clear hi); (try clear ho0)) | ((with_reducible refine gate_callee (f := 39) rfl ?_); refine goesL_ (some 42) rfl rfl Try.func39 (by kernel_rfl) rfl #[.int .i64 t412, .slice Ao11 t413.length co11] rfl (by (try simp only [List.map_toArray, List.map_cons, List.map_nil]); first | done | rfl | (simp only [List.length_drop, List.length_take]; rfl)) ?_; (with_reducible refine (column_Rank.calls k t412 _ _ t413 t420 t421 _ ?side1 ?side2 A7.out).mono ?_); (case side1 => repeat (first | exact (Kd.N_reads' HO415.out).2.2 | (with_reducible refine Kd.C_alloc ?_ _) | (with_reducible refine Kd.C_drewN ?_ _) | (with_reducible refine Kd.C_drew ?_))); (case side2 => exact (Kd.N_reads' HO415.out).2.1); rintro e w13 ⟨rfl, hb⟩; refine ⟨_, rfl, ?_⟩; have n0_ := Aside0.mk (Kd.N_below (by (with_reducible repeat (first | apply Kd.N_alloc | apply Kd.N_drewN | apply Kd.N_drew)); exact HO415.out) hb); have n1_ := Aside0.mk (Kd.N_below (by (with_reducible repeat (first | apply Kd.N_alloc | apply Kd.N_drewN | apply Kd.N_drew)); exact HO419.out) hb); have n2_ := Aside0.mk (below_step (by repeat (first | (with_reducible first | exact HB.out | apply below_alloc | apply pw_below_drewN | apply below_drew1) | exact HB.out)) hb); clear HO415; clear HO419; clear HB; have HO415 := n0_; have HO419 := n1_; have HB := n2_; clear n0_ n1_ n2_; (try clear hb); (try clear hb2); (try clear hk); (try clear hi)))
  (try simp only [Act.put, List.setIfInBounds_toArray, List.set_cons_zero, List.set_cons_succ])
  go_cut [70] (fun v70 wc => ∃ (kq : Nat) (x70_7 : Bool), v70 = .bool x70_7 ∧ Aside0 (toruslaw04_ColumnBasis.j0 kq l2 t412 t413 t416 t420 x70_7 = some r) ∧ Aside0 (kq ≤ k) ∧ Aside0 (Kd.N (Kd.slice 45 k45) 22 wc w.heap.size (fun k_ => some k_ ≠ (v418 : Value).ownBlock) (.slice Ao11 t413.length co11) t413) ∧ Aside0 (Kd.N (Kd.slice 45 k45) 22 wc w.heap.size (fun k_ => some k_ ≠ ((.slice Ao11 t413.length co11) : Value).ownBlock) v418 t416) ∧ Aside0 (Below w.heap.size w wc))
  case first =>
    have H := HC8.out
    clear HC8
    by_cases c14 : t417 = 0
    · rw [if_pos c14] at H
      have c14b0 : (t417 == 0) = true := beq_iff_eq.mpr c14
      have c14b1 : (t417 != 0) = false := bne_eq_false_iff_eq.mpr c14
      clear c14
      (first | rw [c14b0] | (simp only [i64_w, i32_w]; rw [c14b0]) | skip)
      by_cases c15 : t421 = 0
      · rw [if_pos c15] at H
        have c15b0 : (t421 == 0) = true := beq_iff_eq.mpr c15
        have c15b1 : (t421 != 0) = false := bne_eq_false_iff_eq.mpr c15
        clear c15
        by_cases c16 : t420 = (t416.length : Int)
        · rw [if_pos c16] at H
          have c16b0 : (t420 == (t416.length : Int)) = true := beq_iff_eq.mpr c16
          have c16b1 : (t420 != (t416.length : Int)) = false := bne_eq_false_iff_eq.mpr c16
          clear c16
          by_cases c17 : (t416.length : Int) > (t413.length : Int)
          · rw [if_pos c17] at H
            exact absurd H (by rw [hrt]; exact toruslaw04_ColumnBasis.j0_dead _ _ _ _ _ _)
          · rw [if_neg c17] at H
            have c17b0 : decide ((t413.length : Int) < (t416.length : Int)) = false := decide_eq_false c17
            have c17b1 : decide (t413.length < t416.length) = false := decide_eq_false (fun h => c17 (Int.ofNat_lt.mpr h))
            clear c17
            replace H := Option.bind_eq_some_iff.mp H
            obtain ⟨t422, A190, H⟩ := H
            replace H : (toruslaw04_ColumnBasis.j0 k l2 t412 t413 t416 t420 (!t422)) = some r := H
            have A19 := Aside0.mk A190
            clear A190
            have H' := Aside0.mk H
            clear H
            obtain ⟨Ao20, co20, eo20⟩ := Kd.N_slice HO419.out
            subst eo20
            go_wp2_with (first | (go_at_call 40; (with_reducible refine (toruslaw04_spans.calls k t412 _ _ t416 _ _ t413 t422 _ ?side1 ?side2 ?side3 ?side4 A19.out).mono ?_); (case side1 => repeat (first | exact (Kd.N_reads' HO419.out).2.2 | (with_reducible refine Kd.C_alloc ?_ _) | (with_reducible refine Kd.C_drewN ?_ _) | (with_reducible refine Kd.C_drew ?_))); (case side2 => exact (Kd.N_reads' HO419.out).2.1); (case side3 => repeat (first | exact (Kd.N_reads' HO415.out).2.2 | (with_reducible refine Kd.C_alloc ?_ _) | (with_reducible refine Kd.C_drewN ?_ _) | (with_reducible refine Kd.C_drew ?_))); (case side4 => exact (Kd.N_reads' HO415.out).2.1); rintro e w21 ⟨rfl, hb⟩; have n0_ := Aside0.mk (Kd.N_below (by (with_reducible repeat (first | apply Kd.N_alloc | apply Kd.N_drewN | apply Kd.N_drew)); exact HO415.out) hb); have n1_ := Aside0.mk (Kd.N_below (by (with_reducible repeat (first | apply Kd.N_alloc | apply Kd.N_drewN | apply Kd.N_drew)); exact HO419.out) hb); have n2_ := Aside0.mk (below_step (by repeat (first | (with_reducible first | exact HB.out | apply below_alloc | apply pw_below_drewN | apply below_drew1) | exact HB.out)) hb); clear HO415; clear HO419; clear HB; have HO415 := n0_; have HO419 := n1_; have HB := n2_; clear n0_ n1_ n2_; (try clear hb); (try clear hb2); (try clear hk); (try clear hi)))
            go_meet
            case rel => exact ⟨_, (!t422), (by first | rfl | (simp; done) | (simp [*]; done)), H', ⟨by first | omega | exact Nat.le_refl _⟩, ⟨by (with_reducible repeat (first | apply Kd.N_alloc | apply Kd.N_drewN | apply Kd.N_drew)); exact Kd.N_mono HO415.out (fun _ hk => hk.2)⟩, ⟨by (with_reducible repeat (first | apply Kd.N_alloc | apply Kd.N_drewN | apply Kd.N_drew)); exact HO419.out⟩, ⟨by repeat (first | (with_reducible first | exact HB.out | apply below_alloc | apply pw_below_drewN | apply below_drew1) | exact HB.out)⟩⟩
        · rw [if_neg c16] at H
          exact absurd H (by rw [hrt]; exact toruslaw04_ColumnBasis.j0_dead _ _ _ _ _ _)
      · rw [if_neg c15] at H
        exact absurd H (by rw [hrt]; exact toruslaw04_ColumnBasis.j0_dead _ _ _ _ _ _)
    · rw [if_neg c14] at H
      exact absurd H (by rw [hrt]; exact toruslaw04_ColumnBasis.j0_dead _ _ _ _ _ _)
  case rest =>
    clear HC8
    try clear c1
    try clear c2
    try clear p2
    try clear c3
    try clear c6
    try clear c12
    try clear c14
    try clear c14b0
    try clear c14b1
    try clear c15
    try clear c15b0
    try clear c15b1
    try clear c16
    try clear c16b0
    try clear c16b1
    try clear c17
    try clear c17b0
    try clear c17b1
    obtain ⟨kq, x70_7, rfl, HA, HJ7, HO_8, HO_9, HB⟩ := hcut
    cases kq with
    | zero => exact absurd HA.out (by simp [toruslaw04_ColumnBasis.j0])
    | succ kj7 =>
      have H := HA.out
      clear HA
      simp only [toruslaw04_ColumnBasis.j0] at H
      by_cases c23 : x70_7 = true
      · subst c23
        have H1 : (some false) = some r := by rw [if_pos rfl] at H; exact H
        clear H
        have H := H1
        clear H1
        exact absurd (Option.some.inj H) (by rw [hrt]; exact Bool.false_ne_true)
      · replace c23 := Bool.eq_false_iff.mpr c23
        subst c23
        have H1 : (toruslaw04_ColumnBasis.l0 kj7 l2 t412 t413 t416 t420 (-1) t416 (t416.length : Int) 0) = some r := by rw [if_neg (show ¬ (false = true) by decide)] at H; exact H
        clear H
        have H := H1
        clear H1
        have H' := Aside0.mk H
        clear H
        obtain ⟨Ao24, co24, eo24⟩ := Kd.N_slice HO_9.out
        subst eo24
        go_wp2
        go_loopg [13, 73] kj7 (fun kq v13 v73 w' => ∃ (x13_2 : Int) (x73_2 : Int), v13 = .int .i64 x13_2 ∧ v73 = .int .i64 x73_2 ∧ Aside0 (toruslaw04_ColumnBasis.l0 kq l2 t412 t413 t416 t420 x13_2 t416 (t416.length : Int) x73_2 = some r) ∧ Aside0 (kq ≤ kj7) ∧ Aside0 (Kd.N (Kd.slice 45 k45) 22 w' w.heap.size (fun k_ => some k_ ≠ ((.slice Ao24 t416.length co24) : Value).ownBlock ∧ some k_ ≠ ((.slice Ao24 t416.length co24) : Value).ownBlock) (.slice Ao11 t413.length co11) t413) ∧ Aside0 (Kd.N (Kd.slice 45 k45) 22 w' w.heap.size (fun k_ => some k_ ≠ ((.slice Ao11 t413.length co11) : Value).ownBlock) (.slice Ao24 t416.length co24) t416) ∧ Aside0 (Kd.N (Kd.slice 45 k45) 22 w' w.heap.size (fun k_ => some k_ ≠ ((.slice Ao11 t413.length co11) : Value).ownBlock) (.slice Ao24 t416.length co24) t416) ∧ Aside0 (Below w.heap.size w w'))
        case atStart => exact ⟨((-1)), (0), (by first | rfl | (simp; done) | (simp [*]; done)), (by first | rfl | (simp; done) | (simp [*]; done)), H', ⟨Nat.le_refl _⟩, ⟨by (with_reducible repeat (first | apply Kd.N_alloc | apply Kd.N_drewN | apply Kd.N_drew)); exact Kd.N_mono HO_8.out (fun _ hk => ⟨hk, hk⟩)⟩, ⟨by (with_reducible repeat (first | apply Kd.N_alloc | apply Kd.N_drewN | apply Kd.N_drew)); exact HO_9.out⟩, ⟨by (with_reducible repeat (first | apply Kd.N_alloc | apply Kd.N_drewN | apply Kd.N_drew)); exact HO_9.out⟩, ⟨by repeat (first | (with_reducible first | exact HB.out | apply below_alloc | apply pw_below_drewN | apply below_drew1) | exact HB.out)⟩⟩
        case round =>
          clear H'
          try clear c1
          try clear c2
          try clear p2
          try clear c3
          try clear c6
          try clear c12
          try clear c14
          try clear c14b0
          try clear c14b1
          try clear c15
          try clear c15b0
          try clear c15b1
          try clear c16
          try clear c16b0
          try clear c16b1
          try clear c17
          try clear c17b0
          try clear c17b1
          try clear c23
          try clear p2
          obtain ⟨x13_2, x73_2, rfl, rfl, HA, HK2, HO_8, HO_9, HO_71, HB⟩ := hrel
          cases gk with
          | zero => exact absurd HA.out (by simp [toruslaw04_ColumnBasis.l0])
          | succ k2 =>
            have H := HA.out
            clear HA
            simp only [toruslaw04_ColumnBasis.l0] at H
            by_cases c25 : x73_2 < (t416.length : Int)
            · rw [if_pos c25] at H
              have c25b0 : decide (x73_2 < (t416.length : Int)) = true := decide_eq_true c25
              clear c25
              by_cases c26 : 0 ≤ x73_2
              · rw [if_pos c26] at H
                have c26b0 : decide (0 ≤ x73_2) = true := decide_eq_true c26
                clear c26
                by_cases c27 : x73_2 < (t416.length : Int)
                · rw [if_pos c27] at H
                  have c27b0 : decide (x73_2 < (t416.length : Int)) = true := decide_eq_true c27
                  clear c27
                  replace H := Option.bind_eq_some_iff.mp H
                  obtain ⟨⟨t424, t425⟩, A280, H⟩ := H
                  replace H : (if t425 = true then (if t424 ≤ x13_2 then (toruslaw04_ColumnBasis.j2 k2 l2 t412 t413 t416 t420 x73_2 t424 t416 (t416.length : Int) x73_2 true) else ((column_Coef.f k2 (rd_L2 t416 x73_2) t424).bind fun t426 => (toruslaw04_ColumnBasis.j2 k2 l2 t412 t413 t416 t420 x73_2 t424 t416 (t416.length : Int) x73_2 (t426 != 1)))) else (toruslaw04_ColumnBasis.j2 k2 l2 t412 t413 t416 t420 x73_2 t424 t416 (t416.length : Int) x73_2 true)) = some r := H
                  have A28 := Aside0.mk A280
                  clear A280
                  have HC29 := Aside0.mk H
                  clear H
                  have p423 : 0 ≤ (x73_2 : Int) := of_decide_eq_true (by first | (with_reducible assumption) | assumption)
                  have q423 : x73_2 < (t416.length : Int) := of_decide_eq_true (by first | (with_reducible assumption) | assumption)
                  obtain ⟨ad423, A423_0, c423_0, e423, hx423_0, hl423_0, hi423_0⟩ := at_L2 (Kd.N_reads' HO_71.out).2.2 x73_2 p423 q423
                  cases e423
                  obtain ⟨ce423, hce423, hMe423, hcc423⟩ := Kd.N_get HO_71.out [] x73_2 p423 (by first | exact q423 | exact of_decide_eq_true (by first | (with_reducible assumption) | assumption) | (have e_ := (Kd.N_reads' HO_71.out).1; omega))
                  obtain ⟨ua423_0, uc423_0, rfl, ul423_0, ge423_0⟩ := Kd.FK_slice_open hMe423
                  have hv423_0 := hcc423 0 _ rfl
                  rw [Nat.add_zero, show ((Kd.slice 45 k45)).sz = 1 from rfl, Nat.mul_one] at hv423_0
                  replace hv423_0 := Option.some.inj (hv423_0.symm.trans hx423_0)
                  injection hv423_0 with hva_ hvn_ hvc_
                  rw [hva_] at ge423_0
                  rw [hvc_] at ul423_0
                  have HL423_0 := Aside0.mk (show Kd.V k45 45 _ w.heap.size _ _ (rd_L2 t416 x73_2) from Kd.V_mk ul423_0 ge423_0)
                  clear hva_ hvn_ hvc_ ge423_0 ul423_0
                  clear hcc423 hce423
                  have HR423_0 := Aside0.mk hi423_0
                  have HC423_0 := Aside0.mk hl423_0
                  clear hi423_0 hl423_0
                  replace p423 := eq_true p423
                  replace q423 := eq_true q423
                  go_upto_region 12 with (first | ((with_reducible refine gate_callee (f := 22) rfl ?_); refine goesL_ (some 80) rfl rfl Try.func22 (by kernel_rfl) rfl #[.slice A423_0 (rd_L2 t416 x73_2).length c423_0] rfl (by (try simp only [List.map_toArray, List.map_cons, List.map_nil]); first | done | rfl | (simp only [List.length_drop, List.length_take]; rfl)) ?_; (with_reducible refine (column_Low.calls _ _ (rd_L2 t416 x73_2) t424 t425 _ ?side1 ?side2 A28.out).mono ?_); (case side1 => repeat (first | exact (by repeat (first | (with_reducible exact HR423_0.out) | (with_reducible refine Kd.C_alloc ?_ _) | (with_reducible refine Kd.C_drewN ?_ _) | (with_reducible refine Kd.C_drew ?_) | exact HR423_0.out)) | (with_reducible refine Kd.C_alloc ?_ _) | (with_reducible refine Kd.C_drewN ?_ _) | (with_reducible refine Kd.C_drew ?_))); (case side2 => exact HC423_0.out); rintro e w' ⟨rfl, ⟨nd, rfl⟩⟩; refine ⟨_, rfl, ?_⟩))
                  (try simp only [Act.put, List.setIfInBounds_toArray, List.set_cons_zero, List.set_cons_succ])
                  go_cut [95] (fun v95 wc => ∃ (kq : Nat) (x95_28 : Bool), v95 = .bool x95_28 ∧ Aside0 (toruslaw04_ColumnBasis.j2 kq l2 t412 t413 t416 t420 x73_2 t424 t416 (t416.length : Int) x73_2 x95_28 = some r) ∧ Aside0 (kq ≤ k2) ∧ Aside0 (Kd.N (Kd.slice 45 k45) 22 wc w.heap.size (fun k_ => some k_ ≠ ((.slice (some ad423) t416.length co24) : Value).ownBlock ∧ some k_ ≠ ((.slice (some ad423) t416.length co24) : Value).ownBlock) (.slice Ao11 t413.length co11) t413) ∧ Aside0 (Kd.N (Kd.slice 45 k45) 22 wc w.heap.size (fun k_ => some k_ ≠ ((.slice Ao11 t413.length co11) : Value).ownBlock) (.slice (some ad423) t416.length co24) t416) ∧ Aside0 (Kd.N (Kd.slice 45 k45) 22 wc w.heap.size (fun k_ => some k_ ≠ ((.slice Ao11 t413.length co11) : Value).ownBlock) (.slice (some ad423) t416.length co24) t416) ∧ Aside0 (Kd.C k45 wc A423_0 (rd_L2 t416 x73_2).length (rd_L2 t416 x73_2)) ∧ Aside0 (Below w.heap.size w wc))
                  case first =>
                    have H := HC29.out
                    clear HC29
                    by_cases c30 : t425 = true
                    · subst c30
                      have H1 : (if t424 ≤ x13_2 then (toruslaw04_ColumnBasis.j2 k2 l2 t412 t413 t416 t420 x73_2 t424 t416 (t416.length : Int) x73_2 true) else ((column_Coef.f k2 (rd_L2 t416 x73_2) t424).bind fun t426 => (toruslaw04_ColumnBasis.j2 k2 l2 t412 t413 t416 t420 x73_2 t424 t416 (t416.length : Int) x73_2 (t426 != 1)))) = some r := by rw [if_pos rfl] at H; exact H
                      clear H
                      have H := H1
                      clear H1
                      by_cases c31 : t424 ≤ x13_2
                      · rw [if_pos c31] at H
                        exact absurd H (by rw [hrt]; exact toruslaw04_ColumnBasis.j2_dead _ _ _ _ _ _ _ _ _ _ _)
                      · rw [if_neg c31] at H
                        have c31b0 : decide (t424 ≤ x13_2) = false := decide_eq_false c31
                        clear c31
                        (first | rw [c31b0] | (simp only [i64_w, i32_w]; rw [c31b0]) | skip)
                        replace H := Option.bind_eq_some_iff.mp H
                        obtain ⟨t426, A320, H⟩ := H
                        replace H : (toruslaw04_ColumnBasis.j2 k2 l2 t412 t413 t416 t420 x73_2 t424 t416 (t416.length : Int) x73_2 (t426 != 1)) = some r := H
                        have A32 := Aside0.mk A320
                        clear A320
                        have H' := Aside0.mk H
                        clear H
                        go_wp2_with (first | (go_at_call 26; (with_reducible refine (column_Coef.calls k2 _ _ (rd_L2 t416 x73_2) t424 t426 _ ?side1 ?side2 A32.out).mono ?_); (case side1 => repeat (first | exact (by repeat (first | (with_reducible exact HR423_0.out) | (with_reducible refine Kd.C_alloc ?_ _) | (with_reducible refine Kd.C_drewN ?_ _) | (with_reducible refine Kd.C_drew ?_) | exact HR423_0.out)) | (with_reducible refine Kd.C_alloc ?_ _) | (with_reducible refine Kd.C_drewN ?_ _) | (with_reducible refine Kd.C_drew ?_))); (case side2 => exact HC423_0.out); rintro e w33 ⟨rfl, hb⟩; have n0_ := Aside0.mk (Kd.N_below (by (with_reducible repeat (first | apply Kd.N_alloc | apply Kd.N_drewN | apply Kd.N_drew)); exact HO_8.out) hb); have n1_ := Aside0.mk (Kd.N_below (by (with_reducible repeat (first | apply Kd.N_alloc | apply Kd.N_drewN | apply Kd.N_drew)); exact HO_9.out) hb); have n2_ := Aside0.mk (Kd.N_below (by (with_reducible repeat (first | apply Kd.N_alloc | apply Kd.N_drewN | apply Kd.N_drew)); exact HO_71.out) hb); have n3_ := Aside0.mk (Kd.V_below (by (with_reducible repeat (first | apply Kd.V_alloc | apply Kd.V_drewN | apply Kd.V_drew)); exact HL423_0.out) hb); have n4_ := Aside0.mk (Kd.C_below (by repeat (first | (with_reducible exact HR423_0.out) | (with_reducible refine Kd.C_alloc ?_ _) | (with_reducible refine Kd.C_drewN ?_ _) | (with_reducible refine Kd.C_drew ?_) | exact HR423_0.out)) hb); have n5_ := Aside0.mk (below_step (by repeat (first | (with_reducible first | exact HB.out | apply below_alloc | apply pw_below_drewN | apply below_drew1) | exact HB.out)) hb); clear HO_8; clear HO_9; clear HO_71; clear HL423_0; clear HR423_0; clear HB; have HO_8 := n0_; have HO_9 := n1_; have HO_71 := n2_; have HL423_0 := n3_; have HR423_0 := n4_; have HB := n5_; clear n0_ n1_ n2_ n3_ n4_ n5_; (try clear hb); (try clear hb2); (try clear hk); (try clear hi)))
                        go_meet
                        case rel => exact ⟨_, ((t426 != 1)), (by first | rfl | (simp; done) | (simp [*]; done)), H', ⟨by have := HJ7.out; have := HK2.out; first | omega | exact Nat.le_refl _⟩, ⟨by (with_reducible repeat (first | apply Kd.N_alloc | apply Kd.N_drewN | apply Kd.N_drew)); exact HO_8.out⟩, ⟨by (with_reducible repeat (first | apply Kd.N_alloc | apply Kd.N_drewN | apply Kd.N_drew)); exact HO_9.out⟩, ⟨by (with_reducible repeat (first | apply Kd.N_alloc | apply Kd.N_drewN | apply Kd.N_drew)); exact HO_71.out⟩, ⟨by repeat (first | (with_reducible exact HR423_0.out) | (with_reducible refine Kd.C_alloc ?_ _) | (with_reducible refine Kd.C_drewN ?_ _) | (with_reducible refine Kd.C_drew ?_) | exact HR423_0.out)⟩, ⟨by repeat (first | (with_reducible first | exact HB.out | apply below_alloc | apply pw_below_drewN | apply below_drew1) | exact HB.out)⟩⟩
                    · replace c30 := Bool.eq_false_iff.mpr c30
                      subst c30
                      have H1 : (toruslaw04_ColumnBasis.j2 k2 l2 t412 t413 t416 t420 x73_2 t424 t416 (t416.length : Int) x73_2 true) = some r := by rw [if_neg (show ¬ (false = true) by decide)] at H; exact H
                      clear H
                      have H := H1
                      clear H1
                      exact absurd H (by rw [hrt]; exact toruslaw04_ColumnBasis.j2_dead _ _ _ _ _ _ _ _ _ _ _)
                  case rest =>
                    clear HC29
                    try clear c1
                    try clear c2
                    try clear p2
                    try clear c3
                    try clear c4
                    try clear p4
                    try clear q4
                    try clear hx4
                    try clear c6
                    try clear c12
                    try clear c14
                    try clear c14b0
                    try clear c14b1
                    try clear c15
                    try clear c15b0
                    try clear c15b1
                    try clear c16
                    try clear c16b0
                    try clear c16b1
                    try clear c17
                    try clear c17b0
                    try clear c17b1
                    try clear c22
                    try clear c23
                    try clear c25
                    try clear c25b0
                    try clear c26
                    try clear c26b0
                    try clear c27
                    try clear c27b0
                    try clear c30
                    try clear c31
                    try clear c31b0
                    try clear hx423_0
                    try clear p2
                    try clear p423
                    try clear q423
                    obtain ⟨kq, x95_28, rfl, HA, HJ28, HO_8, HO_9, HO_71, HR423_0, HB⟩ := hcut
                    cases kq with
                    | zero => exact absurd HA.out (by simp [toruslaw04_ColumnBasis.j2])
                    | succ kj28 =>
                      have H := HA.out
                      clear HA
                      simp only [toruslaw04_ColumnBasis.j2] at H
                      by_cases c34 : x95_28 = true
                      · subst c34
                        have H1 : (some false) = some r := by rw [if_pos rfl] at H; exact H
                        clear H
                        have H := H1
                        clear H1
                        exact absurd (Option.some.inj H) (by rw [hrt]; exact Bool.false_ne_true)
                      · replace c34 := Bool.eq_false_iff.mpr c34
                        subst c34
                        have H1 : (toruslaw04_ColumnBasis.l1 kj28 l2 t412 t413 t416 t420 t424 x73_2 t424 0 t416 (t416.length : Int) x73_2) = some r := by rw [if_neg (show ¬ (false = true) by decide)] at H; exact H
                        clear H
                        have H := H1
                        clear H1
                        have H' := Aside0.mk H
                        clear H
                        go_wp2
                        go_loopg [18] kj28 (fun kq v18 w' => ∃ (x18_4 : Int), v18 = .int .i64 x18_4 ∧ Aside0 (toruslaw04_ColumnBasis.l1 kq l2 t412 t413 t416 t420 t424 x73_2 t424 x18_4 t416 (t416.length : Int) x73_2 = some r) ∧ Aside0 (kq ≤ kj28) ∧ Aside0 (Kd.N (Kd.slice 45 k45) 22 w' w.heap.size (fun k_ => some k_ ≠ ((.slice (some ad423) t416.length co24) : Value).ownBlock ∧ some k_ ≠ ((.slice (some ad423) t416.length co24) : Value).ownBlock) (.slice Ao11 t413.length co11) t413) ∧ Aside0 (Kd.N (Kd.slice 45 k45) 22 w' w.heap.size (fun k_ => some k_ ≠ ((.slice Ao11 t413.length co11) : Value).ownBlock) (.slice (some ad423) t416.length co24) t416) ∧ Aside0 (Kd.N (Kd.slice 45 k45) 22 w' w.heap.size (fun k_ => some k_ ≠ ((.slice Ao11 t413.length co11) : Value).ownBlock) (.slice (some ad423) t416.length co24) t416) ∧ Aside0 (Kd.C k45 w' A423_0 (rd_L2 t416 x73_2).length (rd_L2 t416 x73_2)) ∧ Aside0 (Below w.heap.size w w'))
                        case atStart => exact ⟨(0), (by first | rfl | (simp; done) | (simp [*]; done)), H', ⟨Nat.le_refl _⟩, ⟨by (with_reducible repeat (first | apply Kd.N_alloc | apply Kd.N_drewN | apply Kd.N_drew)); exact HO_8.out⟩, ⟨by (with_reducible repeat (first | apply Kd.N_alloc | apply Kd.N_drewN | apply Kd.N_drew)); exact HO_9.out⟩, ⟨by (with_reducible repeat (first | apply Kd.N_alloc | apply Kd.N_drewN | apply Kd.N_drew)); exact HO_71.out⟩, ⟨by repeat (first | (with_reducible exact HR423_0.out) | (with_reducible refine Kd.C_alloc ?_ _) | (with_reducible refine Kd.C_drewN ?_ _) | (with_reducible refine Kd.C_drew ?_) | exact HR423_0.out)⟩, ⟨by repeat (first | (with_reducible first | exact HB.out | apply below_alloc | apply pw_below_drewN | apply below_drew1) | exact HB.out)⟩⟩
                        case round =>
                          clear H'
                          try clear c1
                          try clear c2
                          try clear p2
                          try clear c3
                          try clear c4
                          try clear p4
                          try clear q4
                          try clear hx4
                          try clear c6
                          try clear c12
                          try clear c14
                          try clear c14b0
                          try clear c14b1
                          try clear c15
                          try clear c15b0
                          try clear c15b1
                          try clear c16
                          try clear c16b0
                          try clear c16b1
                          try clear c17
                          try clear c17b0
                          try clear c17b1
                          try clear c22
                          try clear c23
                          try clear c25
                          try clear c25b0
                          try clear c26
                          try clear c26b0
                          try clear c27
                          try clear c27b0
                          try clear c30
                          try clear c31
                          try clear c31b0
                          try clear c34
                          try clear hx423_0
                          try clear p2
                          try clear p4
                          try clear p423
                          try clear q4
                          try clear q423
                          obtain ⟨x18_4, rfl, HA, HK4, HO_8, HO_9, HO_71, HR423_0, HB⟩ := hrel
                          cases gk with
                          | zero => exact absurd HA.out (by simp [toruslaw04_ColumnBasis.l1])
                          | succ k4 =>
                            have H := HA.out
                            clear HA
                            simp only [toruslaw04_ColumnBasis.l1] at H
                            by_cases c35 : x18_4 < (t416.length : Int)
                            · rw [if_pos c35] at H
                              have c35b0 : decide (x18_4 < (t416.length : Int)) = true := decide_eq_true c35
                              clear c35
                              by_cases c36 : x18_4 = x73_2
                              · rw [if_pos c36] at H
                                have c36b0 : (x18_4 == x73_2) = true := beq_iff_eq.mpr c36
                                have c36b1 : (x18_4 != x73_2) = false := bne_eq_false_iff_eq.mpr c36
                                clear c36
                                have H' := Aside0.mk H
                                clear H
                                go_wp2
                                go_roundg k4
                                case measure => have := HJ7.out; have := HK2.out; have := HJ28.out; have := HK4.out; omega
                                case rel => exact ⟨(wrap64 (x18_4 + 1)), (by first | rfl | (simp; done) | (simp [*]; done)), H', ⟨by have := HJ7.out; have := HK2.out; have := HJ28.out; have := HK4.out; omega⟩, ⟨by (with_reducible repeat (first | apply Kd.N_alloc | apply Kd.N_drewN | apply Kd.N_drew)); exact HO_8.out⟩, ⟨by (with_reducible repeat (first | apply Kd.N_alloc | apply Kd.N_drewN | apply Kd.N_drew)); exact HO_9.out⟩, ⟨by (with_reducible repeat (first | apply Kd.N_alloc | apply Kd.N_drewN | apply Kd.N_drew)); exact HO_71.out⟩, ⟨by repeat (first | (with_reducible exact HR423_0.out) | (with_reducible refine Kd.C_alloc ?_ _) | (with_reducible refine Kd.C_drewN ?_ _) | (with_reducible refine Kd.C_drew ?_) | exact HR423_0.out)⟩, ⟨by repeat (first | (with_reducible first | exact HB.out | apply below_alloc | apply pw_below_drewN | apply below_drew1) | exact HB.out)⟩⟩
                              · rw [if_neg c36] at H
                                have c36b0 : (x18_4 == x73_2) = false := beq_eq_false_iff_ne.mpr c36
                                have c36b1 : (x18_4 != x73_2) = true := bne_iff_ne.mpr c36
                                by_cases c37 : 0 ≤ x18_4
                                · rw [if_pos c37] at H
                                  have c37b0 : decide (0 ≤ x18_4) = true := decide_eq_true c37
                                  clear c37
                                  replace H := Option.bind_eq_some_iff.mp H
                                  obtain ⟨t428, A380, H⟩ := H
                                  replace H : (if t428 = 0 then (toruslaw04_ColumnBasis.l1 k4 l2 t412 t413 t416 t420 t424 x73_2 t424 (wrap64 (x18_4 + 1)) t416 (t416.length : Int) x73_2) else (some false)) = some r := H
                                  have A38 := Aside0.mk A380
                                  clear A380
                                  by_cases c39 : t428 = 0
                                  · rw [if_pos c39] at H
                                    have c39b0 : (t428 == 0) = true := beq_iff_eq.mpr c39
                                    have c39b1 : (t428 != 0) = false := bne_eq_false_iff_eq.mpr c39
                                    clear c39
                                    have H' := Aside0.mk H
                                    clear H
                                    have p427 : 0 ≤ (x18_4 : Int) := of_decide_eq_true (by first | (with_reducible assumption) | assumption)
                                    have q427 : x18_4 < (t416.length : Int) := of_decide_eq_true (by first | (with_reducible assumption) | assumption)
                                    obtain ⟨ad427, A427_0, c427_0, e427, hx427_0, hl427_0, hi427_0⟩ := at_L2 (Kd.N_reads' HO_9.out).2.2 x18_4 p427 q427
                                    obtain rfl : ad423 = ad427 := (by injection e427)
                                    obtain ⟨ce427, hce427, hMe427, hcc427⟩ := Kd.N_get HO_9.out [] x18_4 p427 (by first | exact q427 | exact of_decide_eq_true (by first | (with_reducible assumption) | assumption) | (have e_ := (Kd.N_reads' HO_9.out).1; omega))
                                    obtain ⟨ua427_0, uc427_0, rfl, ul427_0, ge427_0⟩ := Kd.FK_slice_open hMe427
                                    have hv427_0 := hcc427 0 _ rfl
                                    rw [Nat.add_zero, show ((Kd.slice 45 k45)).sz = 1 from rfl, Nat.mul_one] at hv427_0
                                    replace hv427_0 := Option.some.inj (hv427_0.symm.trans hx427_0)
                                    injection hv427_0 with hva_ hvn_ hvc_
                                    rw [hva_] at ge427_0
                                    rw [hvc_] at ul427_0
                                    have HL427_0 := Aside0.mk (show Kd.V k45 45 _ w.heap.size _ _ (rd_L2 t416 x18_4) from Kd.V_mk ul427_0 ge427_0)
                                    clear hva_ hvn_ hvc_ ge427_0 ul427_0
                                    clear hcc427 hce427
                                    have HR427_0 := Aside0.mk hi427_0
                                    have HC427_0 := Aside0.mk hl427_0
                                    clear hi427_0 hl427_0
                                    replace p427 := eq_true p427
                                    replace q427 := eq_true q427
                                    go_wp2_with (first | (go_at_call 26; (with_reducible refine (column_Coef.calls k4 _ _ (rd_L2 t416 x18_4) t424 t428 _ ?side1 ?side2 A38.out).mono ?_); (case side1 => repeat (first | exact (by repeat (first | (with_reducible exact HR427_0.out) | (with_reducible refine Kd.C_alloc ?_ _) | (with_reducible refine Kd.C_drewN ?_ _) | (with_reducible refine Kd.C_drew ?_) | exact HR427_0.out)) | (with_reducible refine Kd.C_alloc ?_ _) | (with_reducible refine Kd.C_drewN ?_ _) | (with_reducible refine Kd.C_drew ?_))); (case side2 => exact HC427_0.out); rintro e w40 ⟨rfl, hb⟩; have n0_ := Aside0.mk (Kd.N_below (by (with_reducible repeat (first | apply Kd.N_alloc | apply Kd.N_drewN | apply Kd.N_drew)); exact HO_8.out) hb); have n1_ := Aside0.mk (Kd.N_below (by (with_reducible repeat (first | apply Kd.N_alloc | apply Kd.N_drewN | apply Kd.N_drew)); exact HO_9.out) hb); have n2_ := Aside0.mk (Kd.N_below (by (with_reducible repeat (first | apply Kd.N_alloc | apply Kd.N_drewN | apply Kd.N_drew)); exact HO_71.out) hb); have n3_ := Aside0.mk (Kd.V_below (by (with_reducible repeat (first | apply Kd.V_alloc | apply Kd.V_drewN | apply Kd.V_drew)); exact HL427_0.out) hb); have n4_ := Aside0.mk (Kd.C_below (by repeat (first | (with_reducible exact HR423_0.out) | (with_reducible refine Kd.C_alloc ?_ _) | (with_reducible refine Kd.C_drewN ?_ _) | (with_reducible refine Kd.C_drew ?_) | exact HR423_0.out)) hb); have n5_ := Aside0.mk (Kd.C_below (by repeat (first | (with_reducible exact HR427_0.out) | (with_reducible refine Kd.C_alloc ?_ _) | (with_reducible refine Kd.C_drewN ?_ _) | (with_reducible refine Kd.C_drew ?_) | exact HR427_0.out)) hb); have n6_ := Aside0.mk (below_step (by repeat (first | (with_reducible first | exact HB.out | apply below_alloc | apply pw_below_drewN | apply below_drew1) | exact HB.out)) hb); clear HO_8; clear HO_9; clear HO_71; clear HL427_0; clear HR423_0; clear HR427_0; clear HB; have HO_8 := n0_; have HO_9 := n1_; have HO_71 := n2_; have HL427_0 := n3_; have HR423_0 := n4_; have HR427_0 := n5_; have HB := n6_; clear n0_ n1_ n2_ n3_ n4_ n5_ n6_; (try clear hb); (try clear hb2); (try clear hk); (try clear hi)))
                                    go_roundg k4
                                    case measure => have := HJ7.out; have := HK2.out; have := HJ28.out; have := HK4.out; omega
                                    case rel => exact ⟨(wrap64 (x18_4 + 1)), (by first | rfl | (simp; done) | (simp [*]; done)), H', ⟨by have := HJ7.out; have := HK2.out; have := HJ28.out; have := HK4.out; omega⟩, ⟨by (with_reducible repeat (first | apply Kd.N_alloc | apply Kd.N_drewN | apply Kd.N_drew)); exact HO_8.out⟩, ⟨by (with_reducible repeat (first | apply Kd.N_alloc | apply Kd.N_drewN | apply Kd.N_drew)); exact HO_9.out⟩, ⟨by (with_reducible repeat (first | apply Kd.N_alloc | apply Kd.N_drewN | apply Kd.N_drew)); exact HO_71.out⟩, ⟨by repeat (first | (with_reducible exact HR423_0.out) | (with_reducible refine Kd.C_alloc ?_ _) | (with_reducible refine Kd.C_drewN ?_ _) | (with_reducible refine Kd.C_drew ?_) | exact HR423_0.out)⟩, ⟨by repeat (first | (with_reducible first | exact HB.out | apply below_alloc | apply pw_below_drewN | apply below_drew1) | exact HB.out)⟩⟩
                                  · rw [if_neg c39] at H
                                    exact absurd (Option.some.inj H) (by rw [hrt]; exact Bool.false_ne_true)
                                · rw [if_neg c37] at H
                                  exact absurd H (by simp)
                            · rw [if_neg c35] at H
                              have c35b0 : decide (x18_4 < (t416.length : Int)) = false := decide_eq_false c35
                              clear c35
                              have H' := Aside0.mk H
                              clear H
                              go_wp2
                              go_roundg k4
                              case measure => have := HJ7.out; have := HK2.out; have := HJ28.out; have := HK4.out; omega
                              case rel => exact ⟨(t424), (wrap64 (x73_2 + 1)), (by first | rfl | (simp; done) | (simp [*]; done)), (by first | rfl | (simp; done) | (simp [*]; done)), H', ⟨by have := HJ7.out; have := HK2.out; have := HJ28.out; have := HK4.out; omega⟩, ⟨by (with_reducible repeat (first | apply Kd.N_alloc | apply Kd.N_drewN | apply Kd.N_drew)); exact HO_8.out⟩, ⟨by (with_reducible repeat (first | apply Kd.N_alloc | apply Kd.N_drewN | apply Kd.N_drew)); exact HO_9.out⟩, ⟨by (with_reducible repeat (first | apply Kd.N_alloc | apply Kd.N_drewN | apply Kd.N_drew)); exact HO_71.out⟩, ⟨by repeat (first | (with_reducible first | exact HB.out | apply below_alloc | apply pw_below_drewN | apply below_drew1) | exact HB.out)⟩⟩
                · rw [if_neg c27] at H
                  exact absurd H (by simp)
              · rw [if_neg c26] at H
                exact absurd H (by simp)
            · rw [if_neg c25] at H
              have c25b0 : decide (x73_2 < (t416.length : Int)) = false := decide_eq_false c25
              clear c25
              have H' := Aside0.mk H
              clear H
              go_wp2
              go_loopg [19, 20] k2 (fun kq v19 v20 w' => ∃ (x19_3 : List (List (S45))) (x20_3 : Int), v20 = .int .i64 x20_3 ∧ Aside0 (toruslaw04_ColumnBasis.l2 kq l2 t412 t413 t416 t420 x19_3 x20_3 = some r) ∧ Aside0 (kq ≤ k2) ∧ Aside0 (Kd.N (Kd.slice 45 k45) 22 w' w.heap.size (fun k_ => some k_ ≠ ((.slice Ao24 t416.length co24) : Value).ownBlock ∧ some k_ ≠ (v19 : Value).ownBlock) (.slice Ao11 t413.length co11) t413) ∧ Aside0 (Kd.N (Kd.slice 45 k45) 22 w' w.heap.size (fun k_ => some k_ ≠ ((.slice Ao11 t413.length co11) : Value).ownBlock ∧ some k_ ≠ (v19 : Value).ownBlock) (.slice Ao24 t416.length co24) t416) ∧ Aside0 (Kd.N (Kd.slice 45 k45) 22 w' w.heap.size (fun k_ => some k_ ≠ ((.slice Ao11 t413.length co11) : Value).ownBlock ∧ some k_ ≠ ((.slice Ao24 t416.length co24) : Value).ownBlock) v19 x19_3) ∧ Aside0 (Below w.heap.size w w'))
              case atStart => exact ⟨(([] : List (List (S45)))), (wrap64 ((t413.length : Int) - 1)), (by first | rfl | (simp; done) | (simp [*]; done)), H', ⟨Nat.le_refl _⟩, ⟨by (with_reducible repeat (first | apply Kd.N_alloc | apply Kd.N_drewN | apply Kd.N_drew)); exact Kd.N_mono HO_8.out (fun _ hk => ⟨hk.1, (by simp [Value.ownBlock])⟩)⟩, ⟨by (with_reducible repeat (first | apply Kd.N_alloc | apply Kd.N_drewN | apply Kd.N_drew)); exact Kd.N_mono HO_9.out (fun _ hk => ⟨hk, (by simp [Value.ownBlock])⟩)⟩, ⟨by first | exact Kd.S_nil _ _ _ _ _ | exact Kd.N_nil _ _ _ _ _ | exact Kd.V_nil _ _ _ _ _ | exact Kd.Q_nil _ _ _ _ _ | exact Kd.R_nil _ _ _ _ _⟩, ⟨by repeat (first | (with_reducible first | exact HB.out | apply below_alloc | apply pw_below_drewN | apply below_drew1) | exact HB.out)⟩⟩
              case round =>
                clear H'
                try clear c1
                try clear c2
                try clear p2
                try clear c3
                try clear c4
                try clear p4
                try clear q4
                try clear hx4
                try clear c6
                try clear p6
                try clear c12
                try clear c14
                try clear c14b0
                try clear c14b1
                try clear c15
                try clear c15b0
                try clear c15b1
                try clear c16
                try clear c16b0
                try clear c16b1
                try clear c17
                try clear c17b0
                try clear c17b1
                try clear c22
                try clear c23
                try clear c25
                try clear c25b0
                try clear c26
                try clear c26b0
                try clear c27
                try clear c27b0
                try clear c30
                try clear c31
                try clear c31b0
                try clear c34
                try clear c35
                try clear c35b0
                try clear c36
                try clear c36b0
                try clear c36b1
                try clear c37
                try clear c37b0
                try clear c38
                try clear c39
                try clear c39b0
                try clear c39b1
                try clear hx423_0
                try clear hx427_0
                try clear p2
                try clear p4
                try clear p423
                try clear p427
                try clear q4
                try clear q423
                try clear q427
                obtain ⟨x19_3, x20_3, rfl, HA, HK3, HO_8, HO_9, HO_19, HB⟩ := hrel
                cases gk with
                | zero => exact absurd HA.out (by simp [toruslaw04_ColumnBasis.l2])
                | succ k3 =>
                  have H := HA.out
                  clear HA
                  simp only [toruslaw04_ColumnBasis.l2] at H
                  by_cases c42 : x20_3 ≥ 0
                  · rw [if_pos c42] at H
                    have c42b0 : decide (0 ≤ x20_3) = true := decide_eq_true c42
                    clear c42
                    have HC43 := Aside0.mk H
                    clear H
                    go_upto_region 26 with (fail)
                    go_cut [135] (fun v135 wc => ∃ (kq : Nat) (x135_42 : Bool), v135 = .bool x135_42 ∧ Aside0 (toruslaw04_ColumnBasis.j5 kq l2 t412 t413 t416 t420 x19_3 x20_3 1 x135_42 = some r) ∧ Aside0 (kq ≤ k3) ∧ Aside0 (Kd.N (Kd.slice 45 k45) 22 wc w.heap.size (fun k_ => some k_ ≠ ((.slice Ao24 t416.length co24) : Value).ownBlock ∧ some k_ ≠ (u19 : Value).ownBlock) (.slice Ao11 t413.length co11) t413) ∧ Aside0 (Kd.N (Kd.slice 45 k45) 22 wc w.heap.size (fun k_ => some k_ ≠ ((.slice Ao11 t413.length co11) : Value).ownBlock ∧ some k_ ≠ (u19 : Value).ownBlock) (.slice Ao24 t416.length co24) t416) ∧ Aside0 (Kd.N (Kd.slice 45 k45) 22 wc w.heap.size (fun k_ => some k_ ≠ ((.slice Ao11 t413.length co11) : Value).ownBlock ∧ some k_ ≠ ((.slice Ao24 t416.length co24) : Value).ownBlock) u19 x19_3) ∧ Aside0 (Below w.heap.size w wc))
                    case first =>
                      have H := HC43.out
                      clear HC43
                      by_cases c44 : x20_3 < (l2.length : Int)
                      · rw [if_pos c44] at H
                        have c44b0 : decide (x20_3 < (l2.length : Int)) = true := decide_eq_true c44
                        clear c44
                        (first | rw [c44b0] | (simp only [i64_w, i32_w]; rw [c44b0]) | skip)
                        by_cases c45 : 0 ≤ x20_3
                        · rw [if_pos c45] at H
                          have c45b0 : decide (0 ≤ x20_3) = true := decide_eq_true c45
                          clear c45
                          replace H := Option.bind_eq_some_iff.mp H
                          obtain ⟨t430, A460, H⟩ := H
                          replace H : (toruslaw04_ColumnBasis.j5 k3 l2 t412 t413 t416 t420 x19_3 x20_3 1 (t430 != 0)) = some r := H
                          have A46 := Aside0.mk A460
                          clear A460
                          have H' := Aside0.mk H
                          clear H
                          have p429 : 0 ≤ (x20_3 : Int) := of_decide_eq_true (by first | (with_reducible assumption) | assumption)
                          have q429 : x20_3 < (l2.length : Int) := of_decide_eq_true (by first | (with_reducible assumption) | assumption)
                          obtain ⟨ad429, e429, hx429_0⟩ := Kd.at_int HR2.out x20_3 p429 q429
                          cases e429
                          replace hx429_0 := (HB.out.cell (World.block_lt_of_cell? w _ hx429_0)).trans hx429_0
                          replace p429 := eq_true p429
                          replace q429 := eq_true q429
                          go_wp2_with (first | (go_at_call 14; (with_reducible refine (torusref01_Mod.calls k3 t412 (rd l2 x20_3) t430 _ A46.out).mono ?_); rintro e w' ⟨rfl, ⟨nd, rfl⟩⟩))
                          go_meet
                          case rel => exact ⟨_, ((t430 != 0)), (by first | rfl | (simp; done) | (simp [*]; done)), H', ⟨by have := HJ7.out; have := HK2.out; have := HK3.out; first | omega | exact Nat.le_refl _⟩, ⟨by (with_reducible repeat (first | apply Kd.N_alloc | apply Kd.N_drewN | apply Kd.N_drew)); exact HO_8.out⟩, ⟨by (with_reducible repeat (first | apply Kd.N_alloc | apply Kd.N_drewN | apply Kd.N_drew)); exact HO_9.out⟩, ⟨by (with_reducible repeat (first | apply Kd.N_alloc | apply Kd.N_drewN | apply Kd.N_drew)); exact HO_19.out⟩, ⟨by repeat (first | (with_reducible first | exact HB.out | apply below_alloc | apply pw_below_drewN | apply below_drew1) | exact HB.out)⟩⟩
                        · rw [if_neg c45] at H
                          exact absurd H (by simp)
                      · rw [if_neg c44] at H
                        have c44b0 : decide (x20_3 < (l2.length : Int)) = false := decide_eq_false c44
                        clear c44
                        (first | rw [c44b0] | (simp only [i64_w, i32_w]; rw [c44b0]) | skip)
                        have H' := Aside0.mk H
                        clear H
                        go_wp2
                        go_meet
                        case rel => exact ⟨_, (false), (by first | rfl | (simp; done) | (simp [*]; done)), H', ⟨by have := HJ7.out; have := HK2.out; have := HK3.out; first | omega | exact Nat.le_refl _⟩, ⟨by (with_reducible repeat (first | apply Kd.N_alloc | apply Kd.N_drewN | apply Kd.N_drew)); exact HO_8.out⟩, ⟨by (with_reducible repeat (first | apply Kd.N_alloc | apply Kd.N_drewN | apply Kd.N_drew)); exact HO_9.out⟩, ⟨by (with_reducible repeat (first | apply Kd.N_alloc | apply Kd.N_drewN | apply Kd.N_drew)); exact HO_19.out⟩, ⟨by repeat (first | (with_reducible first | exact HB.out | apply below_alloc | apply pw_below_drewN | apply below_drew1) | exact HB.out)⟩⟩
                    case rest =>
                      clear HC43
                      try clear c1
                      try clear c2
                      try clear p2
                      try clear c3
                      try clear c4
                      try clear p4
                      try clear q4
                      try clear hx4
                      try clear c6
                      try clear p6
                      try clear c12
                      try clear c14
                      try clear c14b0
                      try clear c14b1
                      try clear c15
                      try clear c15b0
                      try clear c15b1
                      try clear c16
                      try clear c16b0
                      try clear c16b1
                      try clear c17
                      try clear c17b0
                      try clear c17b1
                      try clear c22
                      try clear c23
                      try clear c25
                      try clear c25b0
                      try clear c26
                      try clear c26b0
                      try clear c27
                      try clear c27b0
                      try clear c30
                      try clear c31
                      try clear c31b0
                      try clear c34
                      try clear c35
                      try clear c35b0
                      try clear c36
                      try clear c36b0
                      try clear c36b1
                      try clear c37
                      try clear c37b0
                      try clear c38
                      try clear c39
                      try clear c39b0
                      try clear c39b1
                      try clear c42
                      try clear c42b0
                      try clear p42
                      try clear q42
                      try clear hx42
                      try clear c44
                      try clear c44b0
                      try clear c45
                      try clear c45b0
                      try clear hx423_0
                      try clear hx427_0
                      try clear hx429_0
                      try clear p2
                      try clear p4
                      try clear p423
                      try clear p427
                      try clear p429
                      try clear p6
                      try clear q4
                      try clear q423
                      try clear q427
                      try clear q429
                      obtain ⟨kq, x135_42, rfl, HA, HJ42, HO_8, HO_9, HO_19, HB⟩ := hcut
                      cases kq with
                      | zero => exact absurd HA.out (by simp [toruslaw04_ColumnBasis.j5])
                      | succ kj42 =>
                        have H := HA.out
                        clear HA
                        simp only [toruslaw04_ColumnBasis.j5] at H
                        have HC47 := Aside0.mk H
                        clear H
                        go_upto_if 135 with (fail)
                        go_cut [21] (fun v21 wc => ∃ (kq : Nat) (x21_46 : Int), v21 = .int .i64 x21_46 ∧ Aside0 (toruslaw04_ColumnBasis.j6 kq l2 t412 t413 t416 t420 x19_3 x20_3 x21_46 = some r) ∧ Aside0 (kq ≤ kj42) ∧ Aside0 (Kd.N (Kd.slice 45 k45) 22 wc w.heap.size (fun k_ => some k_ ≠ ((.slice Ao24 t416.length co24) : Value).ownBlock ∧ some k_ ≠ (u19 : Value).ownBlock) (.slice Ao11 t413.length co11) t413) ∧ Aside0 (Kd.N (Kd.slice 45 k45) 22 wc w.heap.size (fun k_ => some k_ ≠ ((.slice Ao11 t413.length co11) : Value).ownBlock ∧ some k_ ≠ (u19 : Value).ownBlock) (.slice Ao24 t416.length co24) t416) ∧ Aside0 (Kd.N (Kd.slice 45 k45) 22 wc w.heap.size (fun k_ => some k_ ≠ ((.slice Ao11 t413.length co11) : Value).ownBlock ∧ some k_ ≠ ((.slice Ao24 t416.length co24) : Value).ownBlock) u19 x19_3) ∧ Aside0 (Below w.heap.size w wc))
                        case first =>
                          have H := HC47.out
                          clear HC47
                          by_cases c48 : x135_42 = true
                          · subst c48
                            have H1 : (if 0 ≤ x20_3 then (if x20_3 < (l2.length : Int) then (toruslaw04_ColumnBasis.j6 kj42 l2 t412 t413 t416 t420 x19_3 x20_3 (rd l2 x20_3)) else (none)) else (none)) = some r := by rw [if_pos rfl] at H; exact H
                            clear H
                            have H := H1
                            clear H1
                            by_cases c49 : 0 ≤ x20_3
                            · rw [if_pos c49] at H
                              have c49b0 : decide (0 ≤ x20_3) = true := decide_eq_true c49
                              clear c49
                              (first | rw [c49b0] | (simp only [i64_w, i32_w]; rw [c49b0]) | skip)
                              by_cases c50 : x20_3 < (l2.length : Int)
                              · rw [if_pos c50] at H
                                have c50b0 : decide (x20_3 < (l2.length : Int)) = true := decide_eq_true c50
                                clear c50
                                have H' := Aside0.mk H
                                clear H
                                have p431 : 0 ≤ (x20_3 : Int) := of_decide_eq_true (by first | (with_reducible assumption) | assumption)
                                have q431 : x20_3 < (l2.length : Int) := of_decide_eq_true (by first | (with_reducible assumption) | assumption)
                                obtain ⟨ad431, e431, hx431_0⟩ := Kd.at_int HR2.out x20_3 p431 q431
                                cases e431
                                replace hx431_0 := (HB.out.cell (World.block_lt_of_cell? w _ hx431_0)).trans hx431_0
                                replace p431 := eq_true p431
                                replace q431 := eq_true q431
                                go_wp2
                                go_meet
                                case rel => exact ⟨_, (rd l2 x20_3), (by first | rfl | (simp; done) | (simp [*]; done)), H', ⟨by have := HJ7.out; have := HK2.out; have := HK3.out; have := HJ42.out; first | omega | exact Nat.le_refl _⟩, ⟨by (with_reducible repeat (first | apply Kd.N_alloc | apply Kd.N_drewN | apply Kd.N_drew)); exact HO_8.out⟩, ⟨by (with_reducible repeat (first | apply Kd.N_alloc | apply Kd.N_drewN | apply Kd.N_drew)); exact HO_9.out⟩, ⟨by (with_reducible repeat (first | apply Kd.N_alloc | apply Kd.N_drewN | apply Kd.N_drew)); exact HO_19.out⟩, ⟨by repeat (first | (with_reducible first | exact HB.out | apply below_alloc | apply pw_below_drewN | apply below_drew1) | exact HB.out)⟩⟩
                              · rw [if_neg c50] at H
                                exact absurd H (by simp)
                            · rw [if_neg c49] at H
                              exact absurd H (by simp)
                          · replace c48 := Bool.eq_false_iff.mpr c48
                            subst c48
                            have H1 : (toruslaw04_ColumnBasis.j6 kj42 l2 t412 t413 t416 t420 x19_3 x20_3 1) = some r := by rw [if_neg (show ¬ (false = true) by decide)] at H; exact H
                            clear H
                            have H := H1
                            clear H1
                            have H' := Aside0.mk H
                            clear H
                            go_wp2
                            go_meet
                            case rel => exact ⟨_, (1), (by first | rfl | (simp; done) | (simp [*]; done)), H', ⟨by have := HJ7.out; have := HK2.out; have := HK3.out; have := HJ42.out; first | omega | exact Nat.le_refl _⟩, ⟨by (with_reducible repeat (first | apply Kd.N_alloc | apply Kd.N_drewN | apply Kd.N_drew)); exact HO_8.out⟩, ⟨by (with_reducible repeat (first | apply Kd.N_alloc | apply Kd.N_drewN | apply Kd.N_drew)); exact HO_9.out⟩, ⟨by (with_reducible repeat (first | apply Kd.N_alloc | apply Kd.N_drewN | apply Kd.N_drew)); exact HO_19.out⟩, ⟨by repeat (first | (with_reducible first | exact HB.out | apply below_alloc | apply pw_below_drewN | apply below_drew1) | exact HB.out)⟩⟩
                        case rest =>
                          clear HC47
                          try clear c1
                          try clear c2
                          try clear p2
                          try clear c3
                          try clear c4
                          try clear p4
                          try clear q4
                          try clear hx4
                          try clear c5
                          try clear c6
                          try clear p6
                          try clear c12
                          try clear c14
                          try clear c14b0
                          try clear c14b1
                          try clear c15
                          try clear c15b0
                          try clear c15b1
                          try clear c16
                          try clear c16b0
                          try clear c16b1
                          try clear c17
                          try clear c17b0
                          try clear c17b1
                          try clear c22
                          try clear c23
                          try clear c25
                          try clear c25b0
                          try clear c26
                          try clear c26b0
                          try clear c27
                          try clear c27b0
                          try clear c30
                          try clear c31
                          try clear c31b0
                          try clear c34
                          try clear c35
                          try clear c35b0
                          try clear c36
                          try clear c36b0
                          try clear c36b1
                          try clear c37
                          try clear c37b0
                          try clear c38
                          try clear c39
                          try clear c39b0
                          try clear c39b1
                          try clear c42
                          try clear c42b0
                          try clear p42
                          try clear q42
                          try clear hx42
                          try clear p43
                          try clear q43
                          try clear hx43
                          try clear c44
                          try clear c44b0
                          try clear c45
                          try clear c45b0
                          try clear c48
                          try clear c49
                          try clear c49b0
                          try clear c50
                          try clear c50b0
                          try clear hx423_0
                          try clear hx427_0
                          try clear hx429_0
                          try clear hx431_0
                          try clear p2
                          try clear p4
                          try clear p42
                          try clear p423
                          try clear p427
                          try clear p429
                          try clear p431
                          try clear p6
                          try clear q4
                          try clear q42
                          try clear q423
                          try clear q427
                          try clear q429
                          try clear q431
                          obtain ⟨kq, x21_46, rfl, HA, HJ46, HO_8, HO_9, HO_19, HB⟩ := hcut
                          cases kq with
                          | zero => exact absurd HA.out (by simp [toruslaw04_ColumnBasis.j6])
                          | succ kj46 =>
                            have H := HA.out
                            clear HA
                            simp only [toruslaw04_ColumnBasis.j6] at H
                            by_cases c51 : 0 ≤ x20_3
                            · rw [if_pos c51] at H
                              have c51b0 : decide (0 ≤ x20_3) = true := decide_eq_true c51
                              clear c51
                              by_cases c52 : x20_3 < (t413.length : Int)
                              · rw [if_pos c52] at H
                                have c52b0 : decide (x20_3 < (t413.length : Int)) = true := decide_eq_true c52
                                clear c52
                                replace H := Option.bind_eq_some_iff.mp H
                                obtain ⟨⟨t433, t434⟩, A530, H⟩ := H
                                replace H : (if t434 = 0 then (if 0 ≤ (wrap64 ((wrap64 ((t413.length : Int) - 1)) - x20_3)) then (if (wrap64 ((wrap64 ((t413.length : Int) - 1)) - x20_3)) < (t413.length : Int) then ((toruslaw04_plus.f kj46 t412 (rd_L2 t413 x20_3) 1 (rd_L2 t413 (wrap64 ((wrap64 ((t413.length : Int) - 1)) - x20_3)))).bind fun t439 => ((some (([t433, t439] : List (List (S45))) : List (List (S45)))).bind fun y442 => (if x19_3.length + y442.length < 5864062014805 then (toruslaw04_ColumnBasis.l2 kj46 l2 t412 t413 t416 t420 (x19_3 ++ y442) (wrap64 (x20_3 - 1))) else (none)))) else (none)) else (none)) else (some false)) = some r := H
                                have A53 := Aside0.mk A530
                                clear A530
                                by_cases c54 : t434 = 0
                                · rw [if_pos c54] at H
                                  have c54b0 : (t434 == 0) = true := beq_iff_eq.mpr c54
                                  have c54b1 : (t434 != 0) = false := bne_eq_false_iff_eq.mpr c54
                                  clear c54
                                  obtain ⟨ji55, hji55⟩ : ∃ j_ : Int, (wrap64 ((wrap64 ((t413.length : Int) - 1)) - x20_3)) = j_ := ⟨_, rfl⟩
                                  replace H : (if 0 ≤ (ji55) then (if (ji55) < (t413.length : Int) then ((toruslaw04_plus.f kj46 t412 (rd_L2 t413 x20_3) 1 (rd_L2 t413 (ji55))).bind fun t439 => ((some (([t433, t439] : List (List (S45))) : List (List (S45)))).bind fun y442 => (if x19_3.length + y442.length < 5864062014805 then (toruslaw04_ColumnBasis.l2 kj46 l2 t412 t413 t416 t420 (x19_3 ++ y442) (wrap64 (x20_3 - 1))) else (none)))) else (none)) else (none)) = some r := by first | (rw [hji55] at H; exact H) | (simp only [hji55] at H ⊢; exact H)
                                  (try rw [hji55] at A53)
                                  have hji55w : (IntKind.i64.wrap ((wrap64 ((t413.length : Int) - 1)) - x20_3)) = ji55 := (i64_w _).trans hji55
                                  by_cases c56 : 0 ≤ (ji55)
                                  · rw [if_pos c56] at H
                                    have c56b0 : decide (0 ≤ (ji55)) = true := decide_eq_true c56
                                    clear c56
                                    by_cases c57 : (ji55) < (t413.length : Int)
                                    · rw [if_pos c57] at H
                                      have c57b0 : decide ((ji55) < (t413.length : Int)) = true := decide_eq_true c57
                                      clear c57
                                      replace H := Option.bind_eq_some_iff.mp H
                                      obtain ⟨t439, A580, H⟩ := H
                                      replace H : ((some (([t433, t439] : List (List (S45))) : List (List (S45)))).bind fun y442 => (if x19_3.length + y442.length < 5864062014805 then (toruslaw04_ColumnBasis.l2 kj46 l2 t412 t413 t416 t420 (x19_3 ++ y442) (wrap64 (x20_3 - 1))) else (none))) = some r := H
                                      have A58 := Aside0.mk A580
                                      clear A580
                                      obtain ⟨y442, hy442⟩ : ∃ y_ : List (List (S45)), y_ = (([t433, t439] : List (List (S45)))) := ⟨_, rfl⟩
                                      replace H : (if x19_3.length + y442.length < 5864062014805 then (toruslaw04_ColumnBasis.l2 kj46 l2 t412 t413 t416 t420 (x19_3 ++ y442) (wrap64 (x20_3 - 1))) else (none)) = some r := by first | (rw [hy442]; with_reducible exact H) | (have H2_ := (Option.bind_some _ _).symm.trans H; rw [hy442]; with_reducible exact H2_) | (have H2_ := (Option.bind_some _ _).symm.trans H; with_reducible exact H2_) | with_reducible exact H | (rw [hy442]; exact H) | exact H
                                      have Ny442 := Aside0.mk hy442
                                      clear hy442
                                      by_cases c59 : x19_3.length + y442.length < 5864062014805
                                      · rw [if_pos c59] at H
                                        have LMc59 := Aside0.mk c59
                                        clear c59
                                        obtain ⟨y445, hy445⟩ : ∃ y_ : List (List (S45)), y_ = (x19_3 ++ y442) := ⟨_, rfl⟩
                                        replace H : (toruslaw04_ColumnBasis.l2 kj46 l2 t412 t413 t416 t420 y445 (wrap64 (x20_3 - 1))) = some r := by first | (rw [hy445]; with_reducible exact H) | (have H2_ := (Option.bind_some _ _).symm.trans H; rw [hy445]; with_reducible exact H2_) | (have H2_ := (Option.bind_some _ _).symm.trans H; with_reducible exact H2_) | with_reducible exact H | (rw [hy445]; exact H) | exact H
                                        have Ny445 := Aside0.mk hy445
                                        clear hy445
                                        have H' := Aside0.mk H
                                        clear H
                                        have p432 : 0 ≤ (x20_3 : Int) := of_decide_eq_true (by first | (with_reducible assumption) | assumption)
                                        have q432 : x20_3 < (t413.length : Int) := of_decide_eq_true (by first | (with_reducible assumption) | assumption)
                                        obtain ⟨ad432, A432_0, c432_0, e432, hx432_0, hl432_0, hi432_0⟩ := at_L2 (Kd.N_reads' HO_8.out).2.2 x20_3 p432 q432
                                        cases e432
                                        obtain ⟨ce432, hce432, hMe432, hcc432⟩ := Kd.N_get HO_8.out [] x20_3 p432 (by first | exact q432 | exact of_decide_eq_true (by first | (with_reducible assumption) | assumption) | (have e_ := (Kd.N_reads' HO_8.out).1; omega))
                                        obtain ⟨ua432_0, uc432_0, rfl, ul432_0, ge432_0⟩ := Kd.FK_slice_open hMe432
                                        have hv432_0 := hcc432 0 _ rfl
                                        rw [Nat.add_zero, show ((Kd.slice 45 k45)).sz = 1 from rfl, Nat.mul_one] at hv432_0
                                        replace hv432_0 := Option.some.inj (hv432_0.symm.trans hx432_0)
                                        injection hv432_0 with hva_ hvn_ hvc_
                                        rw [hva_] at ge432_0
                                        rw [hvc_] at ul432_0
                                        have HL432_0 := Aside0.mk (show Kd.V k45 45 _ w.heap.size _ _ (rd_L2 t413 x20_3) from Kd.V_mk ul432_0 ge432_0)
                                        clear hva_ hvn_ hvc_ ge432_0 ul432_0
                                        clear hcc432 hce432
                                        have HR432_0 := Aside0.mk hi432_0
                                        have HC432_0 := Aside0.mk hl432_0
                                        clear hi432_0 hl432_0
                                        replace p432 := eq_true p432
                                        replace q432 := eq_true q432
                                        try go_wp2_with (first | ((with_reducible refine gate_callee (f := 17) rfl ?_); refine goesL_ (some 147) rfl rfl Try.func17 (by kernel_rfl) rfl #[.int .i64 t412, .slice A432_0 (rd_L2 t413 x20_3).length c432_0, .int .i64 x21_46] rfl (by (try simp only [List.map_toArray, List.map_cons, List.map_nil]); first | done | rfl | (simp only [List.length_drop, List.length_take]; rfl)) ?_; (with_reducible refine (column_Scale.calls kj46 t412 _ _ (rd_L2 t413 x20_3) x21_46 t433 t434 _ ?side1 ?side2 A53.out).mono ?_); (case side1 => repeat (first | exact (by repeat (first | (with_reducible exact HR432_0.out) | (with_reducible refine Kd.C_alloc ?_ _) | (with_reducible refine Kd.C_drewN ?_ _) | (with_reducible refine Kd.C_drew ?_) | exact HR432_0.out)) | (with_reducible refine Kd.C_alloc ?_ _) | (with_reducible refine Kd.C_drewN ?_ _) | (with_reducible refine Kd.C_drew ?_))); (case side2 => exact HC432_0.out); rintro e w60 ⟨v435, rfl, ho0, hb⟩; refine ⟨_, rfl, ?_⟩; have n0_ := Aside0.mk (Kd.N_elder' (by (with_reducible repeat (first | apply Kd.N_alloc | apply Kd.N_drewN | apply Kd.N_drew)); exact HO_8.out) (Kd.R_base ho0) hb); have n1_ := Aside0.mk (Kd.N_elder' (by (with_reducible repeat (first | apply Kd.N_alloc | apply Kd.N_drewN | apply Kd.N_drew)); exact HO_9.out) (Kd.R_base ho0) hb); have n2_ := Aside0.mk (Kd.N_elder' (by (with_reducible repeat (first | apply Kd.N_alloc | apply Kd.N_drewN | apply Kd.N_drew)); exact HO_19.out) (Kd.R_base ho0) hb); have n3_ := Aside0.mk (Kd.V_elder' (by (with_reducible repeat (first | apply Kd.V_alloc | apply Kd.V_drewN | apply Kd.V_drew)); exact HL432_0.out) (Kd.R_base ho0) hb); have n4_ := Aside0.mk (Kd.R_lower ho0 (below_size (by repeat (first | (with_reducible first | exact HB.out | apply below_alloc | apply pw_below_drewN | apply below_drew1) | exact HB.out)))); have n5_ := Aside0.mk (Kd.C_below (by repeat (first | (with_reducible exact HR432_0.out) | (with_reducible refine Kd.C_alloc ?_ _) | (with_reducible refine Kd.C_drewN ?_ _) | (with_reducible refine Kd.C_drew ?_) | exact HR432_0.out)) hb); have n6_ := Aside0.mk (below_step (by repeat (first | (with_reducible first | exact HB.out | apply below_alloc | apply pw_below_drewN | apply below_drew1) | exact HB.out)) hb); clear HO_8; clear HO_9; clear HO_19; clear HL432_0; clear HR432_0; clear HB; have HO_8 := n0_; have HO_9 := n1_; have HO_19 := n2_; have HL432_0 := n3_; have HO436 := n4_; have HR432_0 := n5_; have HB := n6_; clear n0_ n1_ n2_ n3_ n4_ n5_ n6_; (try clear hb); (try clear hb2); (try clear hk); (try clear hi); (try clear ho0)))
                                        have n0_ := Aside0.mk (Kd.N_drew HO_8.out)
                                        have n1_ := Aside0.mk (Kd.N_drew HO_9.out)
                                        have n2_ := Aside0.mk (Kd.N_drew HO_19.out)
                                        have n3_ := Aside0.mk (Kd.V_drew HL432_0.out)
                                        have n4_ := Aside0.mk (Kd.R_drew HO436.out)
                                        have n5_ := Aside0.mk (Kd.C_drew HR432_0.out)
                                        have n6_ := Aside0.mk (below_drew1 HB.out)
                                        clear HO_8
                                        clear HO_9
                                        clear HO_19
                                        clear HL432_0
                                        clear HO436
                                        clear HR432_0
                                        clear HB
                                        have HO_8 := n0_
                                        have HO_9 := n1_
                                        have HO_19 := n2_
                                        have HL432_0 := n3_
                                        have HO436 := n4_
                                        have HR432_0 := n5_
                                        have HB := n6_
                                        clear n0_ n1_ n2_ n3_ n4_ n5_ n6_
                                        have p437 : 0 ≤ (x20_3 : Int) := of_decide_eq_true (by first | (with_reducible assumption) | assumption)
                                        have q437 : x20_3 < (t413.length : Int) := of_decide_eq_true (by first | (with_reducible assumption) | assumption)
                                        obtain ⟨ad437, A437_0, c437_0, e437, hx437_0, hl437_0, hi437_0⟩ := at_L2 (Kd.N_reads' HO_8.out).2.2 x20_3 p437 q437
                                        obtain rfl : ad432 = ad437 := (by injection e437)
                                        obtain ⟨ce437, hce437, hMe437, hcc437⟩ := Kd.N_get HO_8.out [] x20_3 p437 (by first | exact q437 | exact of_decide_eq_true (by first | (with_reducible assumption) | assumption) | (have e_ := (Kd.N_reads' HO_8.out).1; omega))
                                        obtain ⟨ua437_0, uc437_0, rfl, ul437_0, ge437_0⟩ := Kd.FK_slice_open hMe437
                                        have hv437_0 := hcc437 0 _ rfl
                                        rw [Nat.add_zero, show ((Kd.slice 45 k45)).sz = 1 from rfl, Nat.mul_one] at hv437_0
                                        replace hv437_0 := Option.some.inj (hv437_0.symm.trans hx437_0)
                                        injection hv437_0 with hva_ hvn_ hvc_
                                        rw [hva_] at ge437_0
                                        rw [hvc_] at ul437_0
                                        have HL437_0 := Aside0.mk (show Kd.V k45 45 _ w.heap.size _ _ (rd_L2 t413 x20_3) from Kd.V_mk ul437_0 ge437_0)
                                        clear hva_ hvn_ hvc_ ge437_0 ul437_0
                                        clear hcc437 hce437
                                        have HR437_0 := Aside0.mk hi437_0
                                        have HC437_0 := Aside0.mk hl437_0
                                        clear hi437_0 hl437_0
                                        replace p437 := eq_true p437
                                        replace q437 := eq_true q437
                                        have p438 : 0 ≤ ((ji55) : Int) := of_decide_eq_true (by first | (with_reducible assumption) | assumption)
                                        have q438 : (ji55) < (t413.length : Int) := of_decide_eq_true (by first | (with_reducible assumption) | assumption)
                                        obtain ⟨ad438, A438_0, c438_0, e438, hx438_0, hl438_0, hi438_0⟩ := at_L2 (Kd.N_reads' HO_8.out).2.2 (ji55) p438 q438
                                        obtain rfl : ad432 = ad438 := (by injection e438)
                                        obtain ⟨ce438, hce438, hMe438, hcc438⟩ := Kd.N_get HO_8.out [] (ji55) p438 (by first | exact q438 | exact of_decide_eq_true (by first | (with_reducible assumption) | assumption) | (have e_ := (Kd.N_reads' HO_8.out).1; omega))
                                        obtain ⟨ua438_0, uc438_0, rfl, ul438_0, ge438_0⟩ := Kd.FK_slice_open hMe438
                                        have hv438_0 := hcc438 0 _ rfl
                                        rw [Nat.add_zero, show ((Kd.slice 45 k45)).sz = 1 from rfl, Nat.mul_one] at hv438_0
                                        replace hv438_0 := Option.some.inj (hv438_0.symm.trans hx438_0)
                                        injection hv438_0 with hva_ hvn_ hvc_
                                        rw [hva_] at ge438_0
                                        rw [hvc_] at ul438_0
                                        have HL438_0 := Aside0.mk (show Kd.V k45 45 _ w.heap.size _ _ (rd_L2 t413 (ji55)) from Kd.V_mk ul438_0 ge438_0)
                                        clear hva_ hvn_ hvc_ ge438_0 ul438_0
                                        clear hcc438 hce438
                                        have HR438_0 := Aside0.mk hi438_0
                                        have HC438_0 := Aside0.mk hl438_0
                                        clear hi438_0 hl438_0
                                        replace p438 := eq_true p438
                                        replace q438 := eq_true q438
                                        refine start_ (n := 19) (S := fun w' => w'.cell? (ad432.add (x20_3).toNat) = some (.slice A437_0 (rd_L2 t413 x20_3).length c437_0) ∧ w'.cell? (ad432.add ((ji55)).toNat) = some (.slice A438_0 (rd_L2 t413 (ji55)).length c438_0)) (ds := [17]) #[false, false, false, false, false, false, false, false, false, false, false, false, false, false, false, false, false, false, false] (by kernel_rfl) rfl rfl ⟨hx437_0, hx438_0⟩ (fun hHeld => ?_); refine with_tabW toruslaw04_ColumnBasis.tab31 toruslaw04_ColumnBasis.bits31 (fun HT_ HW_ => ?_)
                                        generalize w60.drew = w61 at HO_8 HO_9 HO_19 HL432_0 HO436 HR432_0 HB HL437_0 HL438_0 HR437_0 HR438_0 hx437_0 hx438_0 hHeld ⊢
                                        refine pure_ (i := 0) (N := some 152) (v := ?_) (a' := ?_) #[true, false, false, false, false, false, false, false, false, false, false, false, false, false, false, false, false, false, false] rfl rfl (any_of HT_.out (by kernel_rfl)) (fun _ _ _ h => h) (Or.inl ⟨by rfl, ?_⟩) ?_ ?_
                                        rotate_left
                                        · intro w'
                                          go_simp
                                          with_reducible rfl
                                        rotate_left
                                        · simp only [Act.put, List.setIfInBounds_toArray, List.set_cons_zero, List.set_cons_succ, i64_w, i32_w]
                                          rfl
                                        refine pure_ (i := 1) (N := some 153) (v := ?_) (a' := ?_) #[true, true, false, false, false, false, false, false, false, false, false, false, false, false, false, false, false, false, false] rfl rfl (any_of HT_.out (by kernel_rfl)) (fun _ _ _ h => h) (Or.inl ⟨by rfl, ?_⟩) ?_ ?_
                                        rotate_left
                                        · intro w'
                                          go_simp
                                          with_reducible rfl
                                        rotate_left
                                        · simp only [Act.put, List.setIfInBounds_toArray, List.set_cons_zero, List.set_cons_succ, i64_w, i32_w]
                                          rfl
                                        refine pure_ (i := 2) (N := some 154) (v := ?_) (a' := ?_) #[true, true, true, false, false, false, false, false, false, false, false, false, false, false, false, false, false, false, false] rfl rfl (any_of HT_.out (by kernel_rfl)) (fun _ _ _ h => h) (Or.inl ⟨by rfl, ?_⟩) ?_ ?_
                                        rotate_left
                                        · intro w'
                                          go_simp
                                          with_reducible rfl
                                        rotate_left
                                        · simp only [Act.put, List.setIfInBounds_toArray, List.set_cons_zero, List.set_cons_succ, i64_w, i32_w]
                                          rfl
                                        refine pure_ (i := 3) (N := some 155) (v := ?_) (a' := ?_) #[true, true, true, true, false, false, false, false, false, false, false, false, false, false, false, false, false, false, false] rfl rfl (any_of HT_.out (by kernel_rfl)) (fun _ _ _ h => h) (Or.inl ⟨by rfl, ?_⟩) ?_ ?_
                                        rotate_left
                                        · intro w'
                                          go_simp
                                          with_reducible rfl
                                        rotate_left
                                        · simp only [Act.put, List.setIfInBounds_toArray, List.set_cons_zero, List.set_cons_succ, i64_w, i32_w]
                                          rfl
                                        refine pure_ (i := 4) (N := some 156) (v := ?_) (a' := ?_) #[true, true, true, true, true, false, false, false, false, false, false, false, false, false, false, false, false, false, false] rfl rfl (any_of HT_.out (by kernel_rfl)) (fun _ _ _ h => h) (Or.inl ⟨by rfl, ?_⟩) ?_ ?_
                                        rotate_left
                                        · intro w'
                                          go_simp
                                          with_reducible rfl
                                        rotate_left
                                        · simp only [Act.put, List.setIfInBounds_toArray, List.set_cons_zero, List.set_cons_succ, i64_w, i32_w]
                                          rfl
                                        refine pure_ (i := 5) (N := some 157) (v := ?_) (a' := ?_) #[true, true, true, true, true, true, false, false, false, false, false, false, false, false, false, false, false, false, false] rfl rfl (any_of HT_.out (by kernel_rfl)) (fun _ _ _ h => h) (Or.inl ⟨by rfl, ?_⟩) ?_ ?_
                                        rotate_left
                                        · intro w'
                                          go_simp
                                          with_reducible rfl
                                        rotate_left
                                        · simp only [Act.put, List.setIfInBounds_toArray, List.set_cons_zero, List.set_cons_succ, i64_w, i32_w]
                                          rfl
                                        refine pure_ (i := 7) (N := some 159) (v := ?_) (a' := ?_) #[true, true, true, true, true, true, false, true, false, false, false, false, false, false, false, false, false, false, false] rfl rfl (any_of HT_.out (by kernel_rfl)) (fun _ _ _ h => h) (Or.inl ⟨by rfl, ?_⟩) ?_ ?_
                                        rotate_left
                                        · intro w'
                                          go_simp
                                          with_reducible rfl
                                        rotate_left
                                        · simp only [Act.put, List.setIfInBounds_toArray, List.set_cons_zero, List.set_cons_succ, i64_w, i32_w]
                                          rfl
                                        refine pure_ (i := 8) (N := some 160) (v := ?_) (a' := ?_) #[true, true, true, true, true, true, false, true, true, false, false, false, false, false, false, false, false, false, false] rfl rfl (any_of HT_.out (by kernel_rfl)) (fun _ _ _ h => h) (Or.inl ⟨by rfl, ?_⟩) ?_ ?_
                                        rotate_left
                                        · intro w'
                                          go_simp
                                          with_reducible rfl
                                        rotate_left
                                        · simp only [Act.put, List.setIfInBounds_toArray, List.set_cons_zero, List.set_cons_succ, i64_w, i32_w]
                                          rfl
                                        refine pure_ (i := 9) (N := some 161) (v := ?_) (a' := ?_) #[true, true, true, true, true, true, false, true, true, true, false, false, false, false, false, false, false, false, false] rfl rfl (any_of HT_.out (by kernel_rfl)) (fun _ _ _ h => h) (Or.inl ⟨by rfl, ?_⟩) ?_ ?_
                                        rotate_left
                                        · intro w'
                                          go_simp
                                          with_reducible rfl
                                        rotate_left
                                        · simp only [Act.put, List.setIfInBounds_toArray, List.set_cons_zero, List.set_cons_succ, i64_w, i32_w]
                                          rfl
                                        refine pure_ (i := 10) (N := some 162) (v := ?_) (a' := ?_) #[true, true, true, true, true, true, false, true, true, true, true, false, false, false, false, false, false, false, false] rfl rfl (any_of HT_.out (by kernel_rfl)) (fun _ _ _ h => h) (Or.inl ⟨by rfl, ?_⟩) ?_ ?_
                                        rotate_left
                                        · intro w'
                                          go_simp
                                          with_reducible rfl
                                        rotate_left
                                        · simp only [Act.put, List.setIfInBounds_toArray, List.set_cons_zero, List.set_cons_succ, i64_w, i32_w]
                                          rfl
                                        refine pure_ (i := 11) (N := some 163) (v := ?_) (a' := ?_) #[true, true, true, true, true, true, false, true, true, true, true, true, false, false, false, false, false, false, false] rfl rfl (any_of HT_.out (by kernel_rfl)) (fun _ _ _ h => h) (Or.inl ⟨by rfl, ?_⟩) ?_ ?_
                                        rotate_left
                                        · intro w'
                                          go_simp
                                          with_reducible rfl
                                        rotate_left
                                        · simp only [Act.put, List.setIfInBounds_toArray, List.set_cons_zero, List.set_cons_succ, i64_w, i32_w]
                                          rfl
                                        refine pure_ (i := 12) (N := some 164) (v := ?_) (a' := ?_) #[true, true, true, true, true, true, false, true, true, true, true, true, true, false, false, false, false, false, false] rfl rfl (any_of HT_.out (by kernel_rfl)) (fun _ _ _ h => h) (Or.inl ⟨by rfl, ?_⟩) ?_ ?_
                                        rotate_left
                                        · intro w'
                                          go_simp
                                          with_reducible rfl
                                        rotate_left
                                        · simp only [Act.put, List.setIfInBounds_toArray, List.set_cons_zero, List.set_cons_succ, i64_w, i32_w]
                                          rfl
                                        refine pure_ (i := 13) (N := some 165) (v := ?_) (a' := ?_) #[true, true, true, true, true, true, false, true, true, true, true, true, true, true, false, false, false, false, false] rfl rfl (any_of HT_.out (by kernel_rfl)) (fun _ _ _ h => h) (Or.inl ⟨by rfl, ?_⟩) ?_ ?_
                                        rotate_left
                                        · intro w'
                                          go_simp
                                          with_reducible rfl
                                        rotate_left
                                        · simp only [Act.put, List.setIfInBounds_toArray, List.set_cons_zero, List.set_cons_succ, i64_w, i32_w]
                                          rfl
                                        refine take_ (i := 6) (N := some 158) (v := ?_) (a' := ?_) #[true, true, true, true, true, true, true, true, true, true, true, true, true, true, false, false, false, false, false] rfl rfl (take_ofW HT_.out HW_.out (by kernel_rfl)) (fun _ _ _ h => h) (Or.inl ⟨by rfl, ?_⟩) hHeld ?_ ?_
                                        rotate_left
                                        · rintro w' ⟨s0, s1⟩
                                          go_simp
                                          with_reducible rfl
                                        rotate_left
                                        · simp only [Act.put, List.setIfInBounds_toArray, List.set_cons_zero, List.set_cons_succ, i64_w, i32_w]
                                          rfl
                                        refine take_ (i := 14) (N := some 166) (v := ?_) (a' := ?_) #[true, true, true, true, true, true, true, true, true, true, true, true, true, true, true, false, false, false, false] rfl rfl (take_ofW HT_.out HW_.out (by kernel_rfl)) (fun _ _ _ h => h) (Or.inl ⟨by rfl, ?_⟩) hHeld ?_ ?_
                                        rotate_left
                                        · rintro w' ⟨s0, s1⟩
                                          go_simp
                                          with_reducible rfl
                                        rotate_left
                                        · simp only [Act.put, List.setIfInBounds_toArray, List.set_cons_zero, List.set_cons_succ, i64_w, i32_w]
                                          rfl
                                        refine one_ (i := 15) (N := some 167) #[true, true, true, true, true, true, true, true, true, true, true, true, true, true, true, true, false, false, false] rfl rfl (one_of HT_.out (by kernel_rfl)) (by decide) (fun K hK => ?_)
                                        refine goes_ Try.func16 (by kernel_rfl) rfl #[.int .i64 t412, .slice A437_0 (rd_L2 t413 x20_3).length c437_0, .int .i64 1, .slice A438_0 (rd_L2 t413 (ji55)).length c438_0] (by rfl) rfl rfl (by (try simp only [List.map_toArray, List.map_cons, List.map_nil]); first | done | (simp only [hji55]; rfl) | rfl | (simp only [List.length_drop, List.length_take]; rfl)) ?_
                                        with_reducible refine (toruslaw04_plus.calls kj46 t412 _ _ (rd_L2 t413 x20_3) 1 _ _ (rd_L2 t413 (ji55)) t439 _ ?side1 ?side2 ?side3 ?side4 A58.out).mono ?_
                                        (case side1 => repeat (first | exact (by repeat (first | (with_reducible exact HR437_0.out) | (with_reducible refine Kd.C_alloc ?_ _) | (with_reducible refine Kd.C_drewN ?_ _) | (with_reducible refine Kd.C_drew ?_) | exact HR437_0.out)) | (with_reducible refine Kd.C_alloc ?_ _) | (with_reducible refine Kd.C_drewN ?_ _) | (with_reducible refine Kd.C_drew ?_)))
                                        (case side2 => exact HC437_0.out)
                                        (case side3 => repeat (first | exact (by repeat (first | (with_reducible exact HR438_0.out) | (with_reducible refine Kd.C_alloc ?_ _) | (with_reducible refine Kd.C_drewN ?_ _) | (with_reducible refine Kd.C_drew ?_) | exact HR438_0.out)) | (with_reducible refine Kd.C_alloc ?_ _) | (with_reducible refine Kd.C_drewN ?_ _) | (with_reducible refine Kd.C_drew ?_)))
                                        (case side4 => exact HC438_0.out)
                                        rintro e w62 ⟨v440, rfl, ho0, hb⟩
                                        have HS0_ := (hb.cell (World.block_lt_of_cell? _ _ (hHeld.1))).trans (hHeld.1)
                                        have HS1_ := (hb.cell (World.block_lt_of_cell? _ _ (hHeld.2))).trans (hHeld.2)
                                        refine ⟨_, rfl, ?_⟩
                                        have n0_ := Aside0.mk (Kd.N_elder' (by (with_reducible repeat (first | apply Kd.N_alloc | apply Kd.N_drewN | apply Kd.N_drew)); exact HO_8.out) (Kd.R_base ho0) hb)
                                        have n1_ := Aside0.mk (Kd.N_elder' (by (with_reducible repeat (first | apply Kd.N_alloc | apply Kd.N_drewN | apply Kd.N_drew)); exact HO_9.out) (Kd.R_base ho0) hb)
                                        have n2_ := Aside0.mk (Kd.N_elder' (by (with_reducible repeat (first | apply Kd.N_alloc | apply Kd.N_drewN | apply Kd.N_drew)); exact HO_19.out) (Kd.R_base ho0) hb)
                                        have n3_ := Aside0.mk (Kd.V_elder' (by (with_reducible repeat (first | apply Kd.V_alloc | apply Kd.V_drewN | apply Kd.V_drew)); exact HL432_0.out) (Kd.R_base ho0) hb)
                                        have n4_ := Aside0.mk (Kd.R_elder' (by (with_reducible repeat (first | apply Kd.R_alloc | apply Kd.R_drewN | apply Kd.R_drew)); exact HO436.out) (Kd.R_base ho0) hb)
                                        have n5_ := Aside0.mk (Kd.V_elder' (by (with_reducible repeat (first | apply Kd.V_alloc | apply Kd.V_drewN | apply Kd.V_drew)); exact HL437_0.out) (Kd.R_base ho0) hb)
                                        have n6_ := Aside0.mk (Kd.V_elder' (by (with_reducible repeat (first | apply Kd.V_alloc | apply Kd.V_drewN | apply Kd.V_drew)); exact HL438_0.out) (Kd.R_base ho0) hb)
                                        have n7_ := Aside0.mk (Kd.R_lower (Kd.R_new' ho0 (Kd.R_lt (by (with_reducible repeat (first | apply Kd.R_alloc | apply Kd.R_drewN | apply Kd.R_drew)); exact HO436.out))) (below_size (by repeat (first | (with_reducible first | exact HB.out | apply below_alloc | apply pw_below_drewN | apply below_drew1) | exact HB.out))))
                                        have n8_ := Aside0.mk (Kd.C_below (by repeat (first | (with_reducible exact HR432_0.out) | (with_reducible refine Kd.C_alloc ?_ _) | (with_reducible refine Kd.C_drewN ?_ _) | (with_reducible refine Kd.C_drew ?_) | exact HR432_0.out)) hb)
                                        have n9_ := Aside0.mk (Kd.C_below (by repeat (first | (with_reducible exact HR437_0.out) | (with_reducible refine Kd.C_alloc ?_ _) | (with_reducible refine Kd.C_drewN ?_ _) | (with_reducible refine Kd.C_drew ?_) | exact HR437_0.out)) hb)
                                        have n10_ := Aside0.mk (Kd.C_below (by repeat (first | (with_reducible exact HR438_0.out) | (with_reducible refine Kd.C_alloc ?_ _) | (with_reducible refine Kd.C_drewN ?_ _) | (with_reducible refine Kd.C_drew ?_) | exact HR438_0.out)) hb)
                                        have n11_ := Aside0.mk (below_step (by repeat (first | (with_reducible first | exact HB.out | apply below_alloc | apply pw_below_drewN | apply below_drew1) | exact HB.out)) hb)
                                        clear HO_8
                                        clear HO_9
                                        clear HO_19
                                        clear HL432_0
                                        clear HO436
                                        clear HL437_0
                                        clear HL438_0
                                        clear HR432_0
                                        clear HR437_0
                                        clear HR438_0
                                        clear HB
                                        have HO_8 := n0_
                                        have HO_9 := n1_
                                        have HO_19 := n2_
                                        have HL432_0 := n3_
                                        have HO436 := n4_
                                        have HL437_0 := n5_
                                        have HL438_0 := n6_
                                        have HO441 := n7_
                                        have HR432_0 := n8_
                                        have HR437_0 := n9_
                                        have HR438_0 := n10_
                                        have HB := n11_
                                        clear n0_ n1_ n2_ n3_ n4_ n5_ n6_ n7_ n8_ n9_ n10_ n11_
                                        (try clear hb)
                                        (try clear hb2)
                                        (try clear hk)
                                        (try clear hi)
                                        (try clear ho0)
                                        obtain ⟨Ao63, co63, eo63⟩ := Kd.R_slice HO436.out
                                        (first | subst eo63 | (injection eo63 with f1_ f2_ f3_; have f4_ := f1_.symm; have f5_ := f3_.symm; clear f1_ f2_ f3_; subst f4_; subst f5_))
                                        obtain ⟨Ao64, co64, eo64⟩ := Kd.R_slice HO441.out
                                        (first | subst eo64 | (injection eo64 with f1_ f2_ f3_; have f4_ := f1_.symm; have f5_ := f3_.symm; clear f1_ f2_ f3_; subst f4_; subst f5_))
                                        refine hK.out _ _ ⟨HS0_, HS1_⟩ (fun hHeld => ?_)
                                        clear hK K
                                        refine norm_ (a' := ?_) ?_ ?_
                                        rotate_left
                                        · show Act.put _ (some 167) _ = _
                                          simp only [Act.put, List.setIfInBounds_toArray, List.set_cons_zero, List.set_cons_succ, i64_w, i32_w]
                                          rfl
                                        refine one_ (i := 16) (N := some 168) #[true, true, true, true, true, true, true, true, true, true, true, true, true, true, true, true, true, false, false] rfl rfl (one_of HT_.out (by kernel_rfl)) (by decide) (fun K hK => ?_)
                                        refine Kd.N_lit_step (Kd.slice 45 k45) _ 22 ?hg (N' := 168) ?hd (xs := ([t433, t439] : List (List (S45)))) (inner := [.slice Ao63 t433.length co63, .slice Ao64 t439.length co64]) (ok := (fun k_ => some k_ ≠ (.slice (some ad432) t413.length co11 : Value).ownBlock ∧ some k_ ≠ (.slice Ao24 t416.length co24 : Value).ownBlock ∧ some k_ ≠ (u19 : Value).ownBlock)) (okp := (fun k_ => some k_ ≠ (.slice (some ad432) t413.length co11 : Value).ownBlock ∧ some k_ ≠ (.slice Ao24 t416.length co24 : Value).ownBlock ∧ some k_ ≠ (u19 : Value).ownBlock)) ?hr ?hp (fun _ hk => hk) ((show ∀ k_, w62.heap.size ≤ k_ → (fun k_ => some k_ ≠ (.slice (some ad432) t413.length co11 : Value).ownBlock ∧ some k_ ≠ (.slice Ao24 t416.length co24 : Value).ownBlock ∧ some k_ ≠ (u19 : Value).ownBlock) k_ from fun k_ hk => ⟨Kd.fresh' (Kd.N_lt (by (with_reducible repeat (first | apply Kd.N_alloc | apply Kd.N_drewN | apply Kd.N_drew)); exact HO_8.out)) k_ hk, Kd.fresh' (Kd.N_lt (by (with_reducible repeat (first | apply Kd.N_alloc | apply Kd.N_drewN | apply Kd.N_drew)); exact HO_9.out)) k_ hk, Kd.fresh' (Kd.N_lt (by (with_reducible repeat (first | apply Kd.N_alloc | apply Kd.N_drewN | apply Kd.N_drew)); exact HO_19.out)) k_ hk⟩) _ (Nat.le_refl _)) (Below.refl _ _) (Nat.le_refl _) (by simp) ?_; (case hd => rfl); (case hg => rfl); (case hr => first | (go_simp; done) | (go_simp; rfl)); (case hp => exact (Reps.one (show Kd.FK (Kd.slice 45 k45) _ _ t433 [.slice Ao63 t433.length co63] from (Kd.FK_slice_mk (Kd.R_reads' (Kd.R_mono (ok' := (fun k_ => some k_ ≠ (.slice (some ad432) t413.length co11 : Value).ownBlock ∧ some k_ ≠ (.slice Ao24 t416.length co24 : Value).ownBlock ∧ some k_ ≠ (u19 : Value).ownBlock)) (Kd.R_apart' (Kd.R_apart' (Kd.R_apart' (HO436.out) (Kd.N_typed HO_8.out) (by decide)) (Kd.N_typed HO_9.out) (by decide)) (Kd.N_typed HO_19.out) (by decide)) (fun k_ hk => ⟨hk.1.1.2, ⟨hk.1.2, hk.2⟩⟩))).2.1 (Kd.R_F (Kd.R_mono (ok' := (fun k_ => some k_ ≠ (.slice (some ad432) t413.length co11 : Value).ownBlock ∧ some k_ ≠ (.slice Ao24 t416.length co24 : Value).ownBlock ∧ some k_ ≠ (u19 : Value).ownBlock)) (Kd.R_apart' (Kd.R_apart' (Kd.R_apart' (HO436.out) (Kd.N_typed HO_8.out) (by decide)) (Kd.N_typed HO_9.out) (by decide)) (Kd.N_typed HO_19.out) (by decide)) (fun k_ hk => ⟨hk.1.1.2, ⟨hk.1.2, hk.2⟩⟩))))) (Reps.one (show Kd.FK (Kd.slice 45 k45) _ _ t439 [.slice Ao64 t439.length co64] from (Kd.FK_slice_mk (Kd.R_reads' (Kd.R_mono (ok' := (fun k_ => some k_ ≠ (.slice (some ad432) t413.length co11 : Value).ownBlock ∧ some k_ ≠ (.slice Ao24 t416.length co24 : Value).ownBlock ∧ some k_ ≠ (u19 : Value).ownBlock)) (Kd.R_apart' (Kd.R_apart' (Kd.R_apart' (HO441.out) (Kd.N_typed HO_8.out) (by decide)) (Kd.N_typed HO_9.out) (by decide)) (Kd.N_typed HO_19.out) (by decide)) (fun k_ hk => ⟨hk.1.1.2, ⟨hk.1.2, hk.2⟩⟩))).2.1 (Kd.R_F (Kd.R_mono (ok' := (fun k_ => some k_ ≠ (.slice (some ad432) t413.length co11 : Value).ownBlock ∧ some k_ ≠ (.slice Ao24 t416.length co24 : Value).ownBlock ∧ some k_ ≠ (u19 : Value).ownBlock)) (Kd.R_apart' (Kd.R_apart' (Kd.R_apart' (HO441.out) (Kd.N_typed HO_8.out) (by decide)) (Kd.N_typed HO_9.out) (by decide)) (Kd.N_typed HO_19.out) (by decide)) (fun k_ hk => ⟨hk.1.1.2, ⟨hk.1.2, hk.2⟩⟩))))) (Reps.none _ _))))
                                        intro v443 w65 ho66 hb hg_ hnew_
                                        have HS0_ := (hb.cell (World.block_lt_of_cell? _ _ (hHeld.1))).trans (hHeld.1)
                                        have HS1_ := (hb.cell (World.block_lt_of_cell? _ _ (hHeld.2))).trans (hHeld.2)
                                        clear hg_ hnew_
                                        (first | rw [← Ny442.out] at ho66 | (simp only [Int.reduceToNat] at ho66; rw [← Ny442.out] at ho66))
                                        have n0_ := Aside0.mk (Kd.N_elder' (by (with_reducible repeat (first | apply Kd.N_alloc | apply Kd.N_drewN | apply Kd.N_drew)); exact HO_8.out) (Kd.N_base ho66) hb)
                                        have n1_ := Aside0.mk (Kd.N_elder' (by (with_reducible repeat (first | apply Kd.N_alloc | apply Kd.N_drewN | apply Kd.N_drew)); exact HO_9.out) (Kd.N_base ho66) hb)
                                        have n2_ := Aside0.mk (Kd.N_elder' (by (with_reducible repeat (first | apply Kd.N_alloc | apply Kd.N_drewN | apply Kd.N_drew)); exact HO_19.out) (Kd.N_base ho66) hb)
                                        have n3_ := Aside0.mk (Kd.V_elder' (by (with_reducible repeat (first | apply Kd.V_alloc | apply Kd.V_drewN | apply Kd.V_drew)); exact HL432_0.out) (Kd.N_base ho66) hb)
                                        have n4_ := Aside0.mk (Kd.V_elder' (by (with_reducible repeat (first | apply Kd.V_alloc | apply Kd.V_drewN | apply Kd.V_drew)); exact HL437_0.out) (Kd.N_base ho66) hb)
                                        have n5_ := Aside0.mk (Kd.V_elder' (by (with_reducible repeat (first | apply Kd.V_alloc | apply Kd.V_drewN | apply Kd.V_drew)); exact HL438_0.out) (Kd.N_base ho66) hb)
                                        have n6_ := Aside0.mk (Kd.N_lower ho66 (below_size (by repeat (first | (with_reducible first | exact HB.out | apply below_alloc | apply pw_below_drewN | apply below_drew1) | exact HB.out))))
                                        have n7_ := Aside0.mk (Kd.C_below (by repeat (first | (with_reducible exact HR432_0.out) | (with_reducible refine Kd.C_alloc ?_ _) | (with_reducible refine Kd.C_drewN ?_ _) | (with_reducible refine Kd.C_drew ?_) | exact HR432_0.out)) hb)
                                        have n8_ := Aside0.mk (Kd.C_below (by repeat (first | (with_reducible exact HR437_0.out) | (with_reducible refine Kd.C_alloc ?_ _) | (with_reducible refine Kd.C_drewN ?_ _) | (with_reducible refine Kd.C_drew ?_) | exact HR437_0.out)) hb)
                                        have n9_ := Aside0.mk (Kd.C_below (by repeat (first | (with_reducible exact HR438_0.out) | (with_reducible refine Kd.C_alloc ?_ _) | (with_reducible refine Kd.C_drewN ?_ _) | (with_reducible refine Kd.C_drew ?_) | exact HR438_0.out)) hb)
                                        have n10_ := Aside0.mk (below_step (by repeat (first | (with_reducible first | exact HB.out | apply below_alloc | apply pw_below_drewN | apply below_drew1) | exact HB.out)) hb)
                                        clear HO_8
                                        clear HO_9
                                        clear HO_19
                                        clear HL432_0
                                        clear HL437_0
                                        clear HL438_0
                                        clear HR432_0
                                        clear HR437_0
                                        clear HR438_0
                                        clear HB
                                        clear HO436
                                        clear HO441
                                        have HO_8 := n0_
                                        have HO_9 := n1_
                                        have HO_19 := n2_
                                        have HL432_0 := n3_
                                        have HL437_0 := n4_
                                        have HL438_0 := n5_
                                        have HO444 := n6_
                                        have HR432_0 := n7_
                                        have HR437_0 := n8_
                                        have HR438_0 := n9_
                                        have HB := n10_
                                        clear n0_ n1_ n2_ n3_ n4_ n5_ n6_ n7_ n8_ n9_ n10_
                                        clear hb ho66
                                        obtain ⟨Ao68, co68, eo68⟩ := Kd.N_slice HO444.out
                                        (first | subst eo68 | (injection eo68 with f1_ f2_ f3_; have f4_ := f1_.symm; have f5_ := f3_.symm; clear f1_ f2_ f3_; subst f4_; subst f5_))
                                        refine hK.out _ _ ⟨HS0_, HS1_⟩ (fun hHeld => ?_)
                                        clear hK K
                                        refine norm_ (a' := ?_) ?_ ?_
                                        rotate_left
                                        · show Act.put _ (some 168) _ = _
                                          simp only [Act.put, List.setIfInBounds_toArray, List.set_cons_zero, List.set_cons_succ, i64_w, i32_w]
                                          rfl
                                        refine last_ (i := 17) (N := some 169) #[true, true, true, true, true, true, true, true, true, true, true, true, true, true, true, true, true, true, false] rfl rfl (one_of HT_.out (by kernel_rfl)) (by decide) (fun K hK => ?_)
                                        refine Kd.N_append_rows_step (Kd.slice 45 k45) (w0 := w) w.heap.size (by rfl) (.tmp 152) (.tmp 168) 37 22 (.slice none 0 0) 24 rfl Try.underlying37 info22 rfl (by decide) (by omega) u19 x19_3 y442 _ _ _ (fun k_ => some k_ ≠ (.slice (some ad432) t413.length co11 : Value).ownBlock ∧ some k_ ≠ (.slice Ao24 t416.length co24 : Value).ownBlock) (fun k_ => ((fun k_ => some k_ ≠ (.slice (some ad432) t413.length co11 : Value).ownBlock ∧ some k_ ≠ (.slice Ao24 t416.length co24 : Value).ownBlock)) k_ ∧ some k_ ≠ (u19 : Value).ownBlock) rfl rfl ?aO ?aR (fun _ hk => hk) ?aF ?aB ?aS ?aL ?_
                                        (case aR => exact (by skip; exact Kd.N_F (Kd.N_mono (ok' := (fun k_ => ((fun k_ => some k_ ≠ (.slice (some ad432) t413.length co11 : Value).ownBlock ∧ some k_ ≠ (.slice Ao24 t416.length co24 : Value).ownBlock)) k_ ∧ some k_ ≠ (u19 : Value).ownBlock)) (HO444.out) (fun k_ hk => ⟨⟨hk.1, hk.2.1⟩, hk.2.2⟩))))
                                        (case aB => exact (by repeat (first | (with_reducible first | exact HB.out | apply below_alloc | apply pw_below_drewN | apply below_drew1) | exact HB.out)))
                                        (case aF => exact (fun k_ hk => ⟨Kd.fresh' (Kd.N_lt (by (with_reducible repeat (first | apply Kd.N_alloc | apply Kd.N_drewN | apply Kd.N_drew)); exact HO_8.out)) k_ hk, Kd.fresh' (Kd.N_lt (by (with_reducible repeat (first | apply Kd.N_alloc | apply Kd.N_drewN | apply Kd.N_drew)); exact HO_9.out)) k_ hk⟩))
                                        (case aO => exact (by (with_reducible repeat (first | apply Kd.N_alloc | apply Kd.N_drewN | apply Kd.N_drew)); exact Kd.N_mono HO_19.out (fun _ hk => ⟨hk.1.1.1.1, hk.1.1.1.2⟩)))
                                        (case aS => exact (below_size (by repeat (first | (with_reducible first | exact HB.out | apply below_alloc | apply pw_below_drewN | apply below_drew1) | exact HB.out))))
                                        (case aL => have := LMc59.out; omega)
                                        intro v446 w67 ho hb hg hat
                                        rw [← Ny445.out] at ho
                                        have n0_ := Aside0.mk (Kd.N_afterv (ok := (fun k_ => some k_ ≠ (.slice Ao24 t416.length co24 : Value).ownBlock ∧ some k_ ≠ (.slice Ao68 y442.length co68 : Value).ownBlock)) (by (with_reducible repeat (first | apply Kd.N_alloc | apply Kd.N_drewN | apply Kd.N_drew)); exact Kd.N_mono HO_8.out (fun _ hk => ⟨⟨hk.1.1.1.1, hk.2⟩, hk.1.1.1.2⟩)) hg hat)
                                        have n1_ := Aside0.mk (Kd.N_afterv (ok := (fun k_ => some k_ ≠ (.slice (some ad432) t413.length co11 : Value).ownBlock ∧ some k_ ≠ (.slice Ao68 y442.length co68 : Value).ownBlock)) (by (with_reducible repeat (first | apply Kd.N_alloc | apply Kd.N_drewN | apply Kd.N_drew)); exact Kd.N_mono HO_9.out (fun _ hk => ⟨⟨hk.1.1.1.1, hk.2⟩, hk.1.1.1.2⟩)) hg hat)
                                        have n2_ := Aside0.mk (Kd.V_afterv (ok := (fun k_ => some k_ ≠ (.slice (some ad432) t413.length co11 : Value).ownBlock ∧ some k_ ≠ (.slice Ao24 t416.length co24 : Value).ownBlock ∧ some k_ ≠ (.slice Ao68 y442.length co68 : Value).ownBlock)) (by (with_reducible repeat (first | apply Kd.V_alloc | apply Kd.V_drewN | apply Kd.V_drew)); exact Kd.V_mono HL432_0.out (fun _ hk => ⟨⟨hk.1.1.1.2, ⟨hk.1.1.1.1.1, hk.2⟩⟩, hk.1.1.1.1.2⟩)) hg hat)
                                        have n3_ := Aside0.mk (Kd.V_afterv (ok := (fun k_ => some k_ ≠ (.slice (some ad432) t413.length co11 : Value).ownBlock ∧ some k_ ≠ (.slice Ao24 t416.length co24 : Value).ownBlock ∧ some k_ ≠ (.slice Ao68 y442.length co68 : Value).ownBlock)) (by (with_reducible repeat (first | apply Kd.V_alloc | apply Kd.V_drewN | apply Kd.V_drew)); exact Kd.V_mono HL437_0.out (fun _ hk => ⟨⟨hk.1.1.2, ⟨hk.1.1.1.1.1, hk.2⟩⟩, hk.1.1.1.1.2⟩)) hg hat)
                                        have n4_ := Aside0.mk (Kd.V_afterv (ok := (fun k_ => some k_ ≠ (.slice (some ad432) t413.length co11 : Value).ownBlock ∧ some k_ ≠ (.slice Ao24 t416.length co24 : Value).ownBlock ∧ some k_ ≠ (.slice Ao68 y442.length co68 : Value).ownBlock)) (by (with_reducible repeat (first | apply Kd.V_alloc | apply Kd.V_drewN | apply Kd.V_drew)); exact Kd.V_mono HL438_0.out (fun _ hk => ⟨⟨hk.1.1.2, ⟨hk.1.1.1.1.1, hk.2⟩⟩, hk.1.1.1.1.2⟩)) hg hat)
                                        have n5_ := Aside0.mk (Kd.N_afterv (ok := (fun k_ => some k_ ≠ (.slice (some ad432) t413.length co11 : Value).ownBlock ∧ some k_ ≠ (.slice Ao24 t416.length co24 : Value).ownBlock)) (by (with_reducible repeat (first | apply Kd.N_alloc | apply Kd.N_drewN | apply Kd.N_drew)); exact Kd.N_mono HO444.out (fun _ hk => ⟨⟨hk.1, hk.2.1⟩, hk.2.2⟩)) hg hat)
                                        have n6_ := Aside0.mk (hb)
                                        have n7_ := Aside0.mk (ho)
                                        clear HO_8
                                        clear HO_9
                                        clear HL432_0
                                        clear HL437_0
                                        clear HL438_0
                                        clear HO444
                                        clear HB
                                        clear HO_19
                                        have HO_8 := n0_
                                        have HO_9 := n1_
                                        have HL432_0 := n2_
                                        have HL437_0 := n3_
                                        have HL438_0 := n4_
                                        have HO444 := n5_
                                        have HB := n6_
                                        have HO447 := n7_
                                        clear n0_ n1_ n2_ n3_ n4_ n5_ n6_ n7_
                                        clear ho hb hg hat
                                        refine hK.out _ _ ?_
                                        clear hK K
                                        refine norm_ (a' := ?_) ?_ ?_
                                        rotate_left
                                        · show Act.put _ (some 169) _ = _
                                          simp only [Act.put, List.setIfInBounds_toArray, List.set_cons_zero, List.set_cons_succ, i64_w, i32_w]
                                          rfl
                                        refine pure_ (i := 18) (N := some 19) (v := ?_) (a' := ?_) #[true, true, true, true, true, true, true, true, true, true, true, true, true, true, true, true, true, true, true] rfl rfl (any_of HT_.out (by kernel_rfl)) (fun _ _ _ h => h) (Or.inl ⟨by rfl, ?_⟩) ?_ ?_
                                        rotate_left
                                        · intro w'
                                          go_simp
                                          with_reducible rfl
                                        rotate_left
                                        · simp only [Act.put, List.setIfInBounds_toArray, List.set_cons_zero, List.set_cons_succ, i64_w, i32_w]
                                          rfl
                                        refine done_ (done_of HT_.out (by kernel_rfl)) ?_
                                        try go_wp2
                                        go_roundg kj46
                                        case measure => have := HJ7.out; have := HK2.out; have := HK3.out; have := HJ42.out; have := HJ46.out; omega
                                        case rel => exact ⟨(y445), (wrap64 (x20_3 - 1)), (by first | rfl | (simp; done) | (simp [*]; done)), H', ⟨by have := HJ7.out; have := HK2.out; have := HK3.out; have := HJ42.out; have := HJ46.out; omega⟩, ⟨by (with_reducible repeat (first | apply Kd.N_alloc | apply Kd.N_drewN | apply Kd.N_drew)); exact Kd.N_mono HO_8.out (fun _ hk => ⟨hk.1.1, hk.2⟩)⟩, ⟨by (with_reducible repeat (first | apply Kd.N_alloc | apply Kd.N_drewN | apply Kd.N_drew)); exact Kd.N_mono HO_9.out (fun _ hk => ⟨hk.1.1, hk.2⟩)⟩, ⟨by (with_reducible repeat (first | apply Kd.N_alloc | apply Kd.N_drewN | apply Kd.N_drew)); exact HO447.out⟩, ⟨by repeat (first | (with_reducible first | exact HB.out | apply below_alloc | apply pw_below_drewN | apply below_drew1) | exact HB.out)⟩⟩
                                      · rw [if_neg c59] at H
                                        exact absurd H (by simp)
                                    · rw [if_neg c57] at H
                                      exact absurd H (by simp)
                                  · rw [if_neg c56] at H
                                    exact absurd H (by simp)
                                · rw [if_neg c54] at H
                                  exact absurd (Option.some.inj H) (by rw [hrt]; exact Bool.false_ne_true)
                              · rw [if_neg c52] at H
                                exact absurd H (by simp)
                            · rw [if_neg c51] at H
                              exact absurd H (by simp)
                  · rw [if_neg c42] at H
                    have c42b0 : decide (0 ≤ x20_3) = false := decide_eq_false c42
                    clear c42
                    replace H := Option.bind_eq_some_iff.mp H
                    obtain ⟨⟨t448, t449⟩, A700, H⟩ := H
                    replace H : ((torusref04_CopyList.f k3 t416).bind fun t452 => (if t452.length + t413.length < 5864062014805 then ((column_Rank.f k3 t412 (t452 ++ t413)).bind fun bt458 => (if t449 = 0 then ((torusref04_SameList.f k3 t448 t416).bind fun t460 => (if t460 = true then (if bt458.2 = 0 then (if bt458.1 = t420 then ((toruslaw04_awake.f).bind fun t461 => (some t461)) else (some false)) else (some false)) else (some false))) else (some false))) else (none))) = some r := H
                    have A70 := Aside0.mk A700
                    clear A700
                    replace H := Option.bind_eq_some_iff.mp H
                    obtain ⟨t452, A710, H⟩ := H
                    replace H : (if t452.length + t413.length < 5864062014805 then ((column_Rank.f k3 t412 (t452 ++ t413)).bind fun bt458 => (if t449 = 0 then ((torusref04_SameList.f k3 t448 t416).bind fun t460 => (if t460 = true then (if bt458.2 = 0 then (if bt458.1 = t420 then ((toruslaw04_awake.f).bind fun t461 => (some t461)) else (some false)) else (some false)) else (some false))) else (some false))) else (none)) = some r := H
                    have A71 := Aside0.mk A710
                    clear A710
                    by_cases c72 : t452.length + t413.length < 5864062014805
                    · rw [if_pos c72] at H
                      have LMc72 := Aside0.mk c72
                      clear c72
                      obtain ⟨y455, hy455⟩ : ∃ y_ : List (List (S45)), y_ = (t452 ++ t413) := ⟨_, rfl⟩
                      replace H : ((column_Rank.f k3 t412 y455).bind fun bt458 => (if t449 = 0 then ((torusref04_SameList.f k3 t448 t416).bind fun t460 => (if t460 = true then (if bt458.2 = 0 then (if bt458.1 = t420 then ((toruslaw04_awake.f).bind fun t461 => (some t461)) else (some false)) else (some false)) else (some false))) else (some false))) = some r := by first | (rw [hy455]; with_reducible exact H) | (have H2_ := (Option.bind_some _ _).symm.trans H; rw [hy455]; with_reducible exact H2_) | (have H2_ := (Option.bind_some _ _).symm.trans H; with_reducible exact H2_) | with_reducible exact H | (rw [hy455]; exact H) | exact H
                      have Ny455 := Aside0.mk hy455
                      clear hy455
                      replace H := Option.bind_eq_some_iff.mp H
                      obtain ⟨⟨t458, t459⟩, A730, H⟩ := H
                      replace H : (if t449 = 0 then ((torusref04_SameList.f k3 t448 t416).bind fun t460 => (if t460 = true then (if t459 = 0 then (if t458 = t420 then ((toruslaw04_awake.f).bind fun t461 => (some t461)) else (some false)) else (some false)) else (some false))) else (some false)) = some r := H
                      have A73 := Aside0.mk A730
                      clear A730
                      by_cases c74 : t449 = 0
                      · rw [if_pos c74] at H
                        have c74b0 : (t449 == 0) = true := beq_iff_eq.mpr c74
                        have c74b1 : (t449 != 0) = false := bne_eq_false_iff_eq.mpr c74
                        clear c74
                        replace H := Option.bind_eq_some_iff.mp H
                        obtain ⟨t460, A750, H⟩ := H
                        replace H : (if t460 = true then (if t459 = 0 then (if t458 = t420 then ((toruslaw04_awake.f).bind fun t461 => (some t461)) else (some false)) else (some false)) else (some false)) = some r := H
                        have A75 := Aside0.mk A750
                        clear A750
                        by_cases c76 : t460 = true
                        · subst c76
                          have H1 : (if t459 = 0 then (if t458 = t420 then ((toruslaw04_awake.f).bind fun t461 => (some t461)) else (some false)) else (some false)) = some r := by rw [if_pos rfl] at H; exact H
                          clear H
                          have H := H1
                          clear H1
                          by_cases c77 : t459 = 0
                          · rw [if_pos c77] at H
                            have c77b0 : (t459 == 0) = true := beq_iff_eq.mpr c77
                            have c77b1 : (t459 != 0) = false := bne_eq_false_iff_eq.mpr c77
                            clear c77
                            by_cases c78 : t458 = t420
                            · rw [if_pos c78] at H
                              have c78b0 : (t458 == t420) = true := beq_iff_eq.mpr c78
                              have c78b1 : (t458 != t420) = false := bne_eq_false_iff_eq.mpr c78
                              clear c78
                              replace H := Option.bind_eq_some_iff.mp H
                              obtain ⟨t461, A790, H⟩ := H
                              replace H : (some t461) = some r := H
                              have A79 := Aside0.mk A790
                              clear A790
                              obtain rfl := Option.some.inj H
                              obtain ⟨Ao80, co80, eo80⟩ := Kd.N_slice HO_19.out
                              subst eo80
                              go_wp2_with (first | ((with_reducible refine gate_callee (f := 38) rfl ?_); refine goesL_ (some 173) rfl rfl Try.func38 (by kernel_rfl) rfl #[.int .i64 t412, .slice Ao80 x19_3.length co80] rfl (by (try simp only [List.map_toArray, List.map_cons, List.map_nil]); first | done | rfl | (simp only [List.length_drop, List.length_take]; rfl)) ?_; (with_reducible refine (column_Basis.calls k3 t412 _ _ x19_3 t448 t449 _ ?side1 ?side2 A70.out).mono ?_); (case side1 => repeat (first | exact (Kd.N_reads' HO_19.out).2.2 | (with_reducible refine Kd.C_alloc ?_ _) | (with_reducible refine Kd.C_drewN ?_ _) | (with_reducible refine Kd.C_drew ?_))); (case side2 => exact (Kd.N_reads' HO_19.out).2.1); rintro e w81 ⟨v450, rfl, ho0, hb⟩; refine ⟨_, rfl, ?_⟩; have n0_ := Aside0.mk (Kd.N_elder' (by (with_reducible repeat (first | apply Kd.N_alloc | apply Kd.N_drewN | apply Kd.N_drew)); exact HO_8.out) (by first | exact Kd.S_base ho0 | exact Kd.R_base ho0 | exact Kd.N_base ho0) hb); have n1_ := Aside0.mk (Kd.N_elder' (by (with_reducible repeat (first | apply Kd.N_alloc | apply Kd.N_drewN | apply Kd.N_drew)); exact HO_9.out) (by first | exact Kd.S_base ho0 | exact Kd.R_base ho0 | exact Kd.N_base ho0) hb); have n2_ := Aside0.mk (Kd.N_elder' (by (with_reducible repeat (first | apply Kd.N_alloc | apply Kd.N_drewN | apply Kd.N_drew)); exact HO_19.out) (by first | exact Kd.S_base ho0 | exact Kd.R_base ho0 | exact Kd.N_base ho0) hb); have n3_ := Aside0.mk (Kd.N_lower (Kd.N_mono (ok' := fun k_ => some k_ ≠ (.slice Ao11 t413.length co11 : Value).ownBlock ∧ some k_ ≠ (.slice Ao24 t416.length co24 : Value).ownBlock ∧ some k_ ≠ (.slice Ao80 x19_3.length co80 : Value).ownBlock) (Kd.S_N (Kd.S_bound ho0)) (fun k_ hk_ => ⟨(Kd.fresh' (Kd.N_lt (by (with_reducible repeat (first | apply Kd.N_alloc | apply Kd.N_drewN | apply Kd.N_drew)); exact HO_8.out)) k_ hk_.2.1), (Kd.fresh' (Kd.N_lt (by (with_reducible repeat (first | apply Kd.N_alloc | apply Kd.N_drewN | apply Kd.N_drew)); exact HO_9.out)) k_ hk_.2.1), (Kd.fresh' (Kd.N_lt (by (with_reducible repeat (first | apply Kd.N_alloc | apply Kd.N_drewN | apply Kd.N_drew)); exact HO_19.out)) k_ hk_.2.1)⟩)) (below_size (by repeat (first | (with_reducible first | exact HB.out | apply below_alloc | apply pw_below_drewN | apply below_drew1) | exact HB.out)))); have n4_ := Aside0.mk (below_step (by repeat (first | (with_reducible first | exact HB.out | apply below_alloc | apply pw_below_drewN | apply below_drew1) | exact HB.out)) hb); clear HO_8; clear HO_9; clear HO_19; clear HB; have HO_8 := n0_; have HO_9 := n1_; have HO_19 := n2_; have HO451 := n3_; have HB := n4_; clear n0_ n1_ n2_ n3_ n4_; (try clear hb); (try clear hb2); (try clear hk); (try clear hi); (try clear ho0)) | ((with_reducible refine gate_callee (f := 41) rfl ?_); refine goesL_ (some 179) rfl rfl Try.func41 (by kernel_rfl) rfl #[.slice Ao24 t416.length co24] rfl (by (try simp only [List.map_toArray, List.map_cons, List.map_nil]); first | done | rfl | (simp only [List.length_drop, List.length_take]; rfl)) ?_; (with_reducible refine (torusref04_CopyList.calls k3 _ _ t416 t452 _ ?side1 ?side2 A71.out).mono ?_); (case side1 => repeat (first | exact (Kd.N_reads' HO_9.out).2.2 | (with_reducible refine Kd.C_alloc ?_ _) | (with_reducible refine Kd.C_drewN ?_ _) | (with_reducible refine Kd.C_drew ?_))); (case side2 => exact (Kd.N_reads' HO_9.out).2.1); rintro e w82 ⟨v453, rfl, ho0, hb⟩; refine ⟨_, rfl, ?_⟩; have n0_ := Aside0.mk (Kd.N_elder' (by (with_reducible repeat (first | apply Kd.N_alloc | apply Kd.N_drewN | apply Kd.N_drew)); exact HO_8.out) (by first | exact Kd.S_base ho0 | exact Kd.R_base ho0 | exact Kd.N_base ho0) hb); have n1_ := Aside0.mk (Kd.N_elder' (by (with_reducible repeat (first | apply Kd.N_alloc | apply Kd.N_drewN | apply Kd.N_drew)); exact HO_9.out) (by first | exact Kd.S_base ho0 | exact Kd.R_base ho0 | exact Kd.N_base ho0) hb); have n2_ := Aside0.mk (Kd.N_elder' (by (with_reducible repeat (first | apply Kd.N_alloc | apply Kd.N_drewN | apply Kd.N_drew)); exact HO_19.out) (by first | exact Kd.S_base ho0 | exact Kd.R_base ho0 | exact Kd.N_base ho0) hb); have n3_ := Aside0.mk (Kd.N_elder' (by (with_reducible repeat (first | apply Kd.N_alloc | apply Kd.N_drewN | apply Kd.N_drew)); exact HO451.out) (by first | exact Kd.S_base ho0 | exact Kd.R_base ho0 | exact Kd.N_base ho0) hb); have n4_ := Aside0.mk (Kd.N_lower (Kd.N_mono (ok' := fun k_ => some k_ ≠ (.slice Ao11 t413.length co11 : Value).ownBlock ∧ some k_ ≠ (.slice Ao24 t416.length co24 : Value).ownBlock ∧ some k_ ≠ (.slice Ao80 x19_3.length co80 : Value).ownBlock ∧ some k_ ≠ (v450 : Value).ownBlock) (Kd.S_N (Kd.S_bound ho0)) (fun k_ hk_ => ⟨(Kd.fresh' (Kd.N_lt (by (with_reducible repeat (first | apply Kd.N_alloc | apply Kd.N_drewN | apply Kd.N_drew)); exact HO_8.out)) k_ hk_.2.1), (Kd.fresh' (Kd.N_lt (by (with_reducible repeat (first | apply Kd.N_alloc | apply Kd.N_drewN | apply Kd.N_drew)); exact HO_9.out)) k_ hk_.2.1), (Kd.fresh' (Kd.N_lt (by (with_reducible repeat (first | apply Kd.N_alloc | apply Kd.N_drewN | apply Kd.N_drew)); exact HO_19.out)) k_ hk_.2.1), (Kd.fresh' (Kd.N_lt (by (with_reducible repeat (first | apply Kd.N_alloc | apply Kd.N_drewN | apply Kd.N_drew)); exact HO451.out)) k_ hk_.2.1)⟩)) (below_size (by repeat (first | (with_reducible first | exact HB.out | apply below_alloc | apply pw_below_drewN | apply below_drew1) | exact HB.out)))); have n5_ := Aside0.mk (below_step (by repeat (first | (with_reducible first | exact HB.out | apply below_alloc | apply pw_below_drewN | apply below_drew1) | exact HB.out)) hb); clear HO_8; clear HO_9; clear HO_19; clear HO451; clear HB; have HO_8 := n0_; have HO_9 := n1_; have HO_19 := n2_; have HO451 := n3_; have HO454 := n4_; have HB := n5_; clear n0_ n1_ n2_ n3_ n4_ n5_; (try clear hb); (try clear hb2); (try clear hk); (try clear hi); (try clear ho0)) | ((with_reducible refine gate_builtin (b := .append) (xs := #[.tmp 179, .tmp 180]) rfl ?_); (try (refine gate_guard (by rfl) ?_; dsimp only)); at_builtin; refine Kd.N_append_rows (Kd.slice 45 k45) (w0 := w) w.heap.size rfl (.tmp 179) (.tmp 180) 37 22 (.slice none 0 0) 24 rfl Try.underlying37 info22 rfl (by decide) (by omega) v453 t452 t413 _ _ _ (fun k_ => some k_ ≠ (.slice Ao24 t416.length co24 : Value).ownBlock ∧ some k_ ≠ (.slice Ao80 x19_3.length co80 : Value).ownBlock ∧ some k_ ≠ (v450 : Value).ownBlock) (fun k_ => ((fun k_ => some k_ ≠ (.slice Ao24 t416.length co24 : Value).ownBlock ∧ some k_ ≠ (.slice Ao80 x19_3.length co80 : Value).ownBlock ∧ some k_ ≠ (v450 : Value).ownBlock)) k_ ∧ some k_ ≠ (v453 : Value).ownBlock) rfl rfl ?aO ?aR (fun _ hk => hk) ?aF ?aB ?aS ?aL ?_; (case aR => exact (by skip; exact Kd.N_F (Kd.N_mono (ok' := (fun k_ => ((fun k_ => some k_ ≠ (.slice Ao24 t416.length co24 : Value).ownBlock ∧ some k_ ≠ (.slice Ao80 x19_3.length co80 : Value).ownBlock ∧ some k_ ≠ (v450 : Value).ownBlock)) k_ ∧ some k_ ≠ (v453 : Value).ownBlock)) (HO_8.out) (fun k_ hk => ⟨⟨hk.1.1.1, ⟨hk.1.1.2, hk.1.2⟩⟩, hk.2⟩)))); (case aB => exact (by repeat (first | (with_reducible first | exact HB.out | apply below_alloc | apply pw_below_drewN | apply below_drew1) | exact HB.out))); (case aF => exact (fun k_ hk => ⟨Kd.fresh' (Kd.N_lt (by (with_reducible repeat (first | apply Kd.N_alloc | apply Kd.N_drewN | apply Kd.N_drew)); exact HO_9.out)) k_ hk, Kd.fresh' (Kd.N_lt (by (with_reducible repeat (first | apply Kd.N_alloc | apply Kd.N_drewN | apply Kd.N_drew)); exact HO_19.out)) k_ hk, Kd.fresh' (Kd.N_lt (by (with_reducible repeat (first | apply Kd.N_alloc | apply Kd.N_drewN | apply Kd.N_drew)); exact HO451.out)) k_ hk⟩)); (case aO => exact (by (with_reducible repeat (first | apply Kd.N_alloc | apply Kd.N_drewN | apply Kd.N_drew)); exact Kd.N_mono HO454.out (fun _ hk => ⟨hk.2.1, ⟨hk.2.2.1, hk.2.2.2⟩⟩))); (case aS => exact (below_size (by repeat (first | (with_reducible first | exact HB.out | apply below_alloc | apply pw_below_drewN | apply below_drew1) | exact HB.out)))); (case aL => have := LMc72.out; omega); intro v456 w83 ho hb hg hat; rw [← Ny455.out] at ho; have n0_ := Aside0.mk (Kd.N_afterv (ok := (fun k_ => some k_ ≠ (.slice Ao24 t416.length co24 : Value).ownBlock ∧ some k_ ≠ (.slice Ao80 x19_3.length co80 : Value).ownBlock ∧ some k_ ≠ (v450 : Value).ownBlock)) (by (with_reducible repeat (first | apply Kd.N_alloc | apply Kd.N_drewN | apply Kd.N_drew)); exact Kd.N_mono HO_8.out (fun _ hk => ⟨⟨hk.1.1.1, ⟨hk.1.1.2, hk.1.2⟩⟩, hk.2⟩)) hg hat); have n1_ := Aside0.mk (Kd.N_afterv (ok := (fun k_ => some k_ ≠ (.slice Ao11 t413.length co11 : Value).ownBlock ∧ some k_ ≠ (.slice Ao80 x19_3.length co80 : Value).ownBlock ∧ some k_ ≠ (v450 : Value).ownBlock)) (by (with_reducible repeat (first | apply Kd.N_alloc | apply Kd.N_drewN | apply Kd.N_drew)); exact Kd.N_mono HO_9.out (fun _ hk => ⟨⟨hk.1.1.1, ⟨hk.1.1.2, hk.1.2⟩⟩, hk.2⟩)) hg hat); have n2_ := Aside0.mk (Kd.N_afterv (ok := (fun k_ => some k_ ≠ (.slice Ao11 t413.length co11 : Value).ownBlock ∧ some k_ ≠ (.slice Ao24 t416.length co24 : Value).ownBlock ∧ some k_ ≠ (v450 : Value).ownBlock)) (by (with_reducible repeat (first | apply Kd.N_alloc | apply Kd.N_drewN | apply Kd.N_drew)); exact Kd.N_mono HO_19.out (fun _ hk => ⟨⟨hk.1.1.1, ⟨hk.1.1.2, hk.1.2⟩⟩, hk.2⟩)) hg hat); have n3_ := Aside0.mk (Kd.N_afterv (ok := (fun k_ => some k_ ≠ (.slice Ao11 t413.length co11 : Value).ownBlock ∧ some k_ ≠ (.slice Ao24 t416.length co24 : Value).ownBlock ∧ some k_ ≠ (.slice Ao80 x19_3.length co80 : Value).ownBlock)) (by (with_reducible repeat (first | apply Kd.N_alloc | apply Kd.N_drewN | apply Kd.N_drew)); exact HO451.out) hg hat); have n4_ := Aside0.mk (hb); have n5_ := Aside0.mk (ho); clear HO_8; clear HO_9; clear HO_19; clear HO451; clear HB; clear HO454; have HO_8 := n0_; have HO_9 := n1_; have HO_19 := n2_; have HO451 := n3_; have HB := n4_; have HO457 := n5_; clear n0_ n1_ n2_ n3_ n4_ n5_; clear ho hb hg hat; obtain ⟨Ao84, co84, eo84⟩ := Kd.N_slice HO457.out; subst eo84) | ((with_reducible refine gate_callee (f := 39) rfl ?_); refine goesL_ (some 182) rfl rfl Try.func39 (by kernel_rfl) rfl #[.int .i64 t412, .slice Ao84 y455.length co84] rfl (by (try simp only [List.map_toArray, List.map_cons, List.map_nil]); first | done | rfl | (simp only [List.length_drop, List.length_take]; rfl)) ?_; (with_reducible refine (column_Rank.calls k3 t412 _ _ y455 t458 t459 _ ?side1 ?side2 A73.out).mono ?_); (case side1 => repeat (first | exact (Kd.N_reads' HO457.out).2.2 | (with_reducible refine Kd.C_alloc ?_ _) | (with_reducible refine Kd.C_drewN ?_ _) | (with_reducible refine Kd.C_drew ?_))); (case side2 => exact (Kd.N_reads' HO457.out).2.1); rintro e w85 ⟨rfl, hb⟩; refine ⟨_, rfl, ?_⟩; have n0_ := Aside0.mk (Kd.N_below (by (with_reducible repeat (first | apply Kd.N_alloc | apply Kd.N_drewN | apply Kd.N_drew)); exact HO_8.out) hb); have n1_ := Aside0.mk (Kd.N_below (by (with_reducible repeat (first | apply Kd.N_alloc | apply Kd.N_drewN | apply Kd.N_drew)); exact HO_9.out) hb); have n2_ := Aside0.mk (Kd.N_below (by (with_reducible repeat (first | apply Kd.N_alloc | apply Kd.N_drewN | apply Kd.N_drew)); exact HO_19.out) hb); have n3_ := Aside0.mk (Kd.N_below (by (with_reducible repeat (first | apply Kd.N_alloc | apply Kd.N_drewN | apply Kd.N_drew)); exact HO451.out) hb); have n4_ := Aside0.mk (Kd.N_below (by (with_reducible repeat (first | apply Kd.N_alloc | apply Kd.N_drewN | apply Kd.N_drew)); exact HO457.out) hb); have n5_ := Aside0.mk (below_step (by repeat (first | (with_reducible first | exact HB.out | apply below_alloc | apply pw_below_drewN | apply below_drew1) | exact HB.out)) hb); clear HO_8; clear HO_9; clear HO_19; clear HO451; clear HO457; clear HB; have HO_8 := n0_; have HO_9 := n1_; have HO_19 := n2_; have HO451 := n3_; have HO457 := n4_; have HB := n5_; clear n0_ n1_ n2_ n3_ n4_ n5_; (try clear hb); (try clear hb2); (try clear hk); (try clear hi); obtain ⟨Ao86, co86, eo86⟩ := Kd.N_slice HO451.out; subst eo86) | (go_at_call 42; (with_reducible refine (torusref04_SameList.calls k3 _ _ t448 _ _ t416 true _ ?side1 ?side2 ?side3 ?side4 A75.out).mono ?_); (case side1 => repeat (first | exact (Kd.N_reads' HO451.out).2.2 | (with_reducible refine Kd.C_alloc ?_ _) | (with_reducible refine Kd.C_drewN ?_ _) | (with_reducible refine Kd.C_drew ?_))); (case side2 => exact (Kd.N_reads' HO451.out).2.1); (case side3 => repeat (first | exact (Kd.N_reads' HO_9.out).2.2 | (with_reducible refine Kd.C_alloc ?_ _) | (with_reducible refine Kd.C_drewN ?_ _) | (with_reducible refine Kd.C_drew ?_))); (case side4 => exact (Kd.N_reads' HO_9.out).2.1); rintro e w' ⟨rfl, ⟨nd, rfl⟩⟩) | (go_at_call 19; (with_reducible refine (toruslaw04_awake.calls  t461 _ A79.out).mono ?_); rintro e w87 ⟨rfl, hb⟩; have n0_ := Aside0.mk (Kd.N_below (by (with_reducible repeat (first | apply Kd.N_alloc | apply Kd.N_drewN | apply Kd.N_drew)); exact HO_8.out) hb); have n1_ := Aside0.mk (Kd.N_below (by (with_reducible repeat (first | apply Kd.N_alloc | apply Kd.N_drewN | apply Kd.N_drew)); exact HO_9.out) hb); have n2_ := Aside0.mk (Kd.N_below (by (with_reducible repeat (first | apply Kd.N_alloc | apply Kd.N_drewN | apply Kd.N_drew)); exact HO_19.out) hb); have n3_ := Aside0.mk (Kd.N_below (by (with_reducible repeat (first | apply Kd.N_alloc | apply Kd.N_drewN | apply Kd.N_drew)); exact HO451.out) hb); have n4_ := Aside0.mk (Kd.N_below (by (with_reducible repeat (first | apply Kd.N_alloc | apply Kd.N_drewN | apply Kd.N_drew)); exact HO457.out) hb); have n5_ := Aside0.mk (below_step (by repeat (first | (with_reducible first | exact HB.out | apply below_alloc | apply pw_below_drewN | apply below_drew1) | exact HB.out)) hb); clear HO_8; clear HO_9; clear HO_19; clear HO451; clear HO457; clear HB; have HO_8 := n0_; have HO_9 := n1_; have HO_19 := n2_; have HO451 := n3_; have HO457 := n4_; have HB := n5_; clear n0_ n1_ n2_ n3_ n4_ n5_; (try clear hb); (try clear hb2); (try clear hk); (try clear hi)))
                              go_ret
                              exact ⟨by first | rfl | (simp [errW_none, errW_some] <;> rfl) | (simp [*, errW_none, errW_some] <;> rfl), by repeat (first | (with_reducible first | exact HB.out | apply below_alloc | apply pw_below_drewN | apply below_drew1) | exact HB.out)⟩
                            · rw [if_neg c78] at H
                              exact absurd (Option.some.inj H) (by rw [hrt]; exact Bool.false_ne_true)
                          · rw [if_neg c77] at H
                            exact absurd (Option.some.inj H) (by rw [hrt]; exact Bool.false_ne_true)
                        · replace c76 := Bool.eq_false_iff.mpr c76
                          subst c76
                          have H1 : (some false) = some r := by rw [if_neg (show ¬ (false = true) by decide)] at H; exact H
                          clear H
                          have H := H1
                          clear H1
                          exact absurd (Option.some.inj H) (by rw [hrt]; exact Bool.false_ne_true)
                      · rw [if_neg c74] at H
                        exact absurd (Option.some.inj H) (by rw [hrt]; exact Bool.false_ne_true)
                    · rw [if_neg c72] at H
                      exact absurd H (by simp)
end Go.Proofs.Ytojnnfhalpefmaa.M
