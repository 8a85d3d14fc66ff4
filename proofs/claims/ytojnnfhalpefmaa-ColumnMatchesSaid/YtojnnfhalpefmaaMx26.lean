-- Written by a program of this session (a widened copy of the kit's printer) out of the translation.
import Derived.Test.YtojnnfhalpefmaaWJb
import Derived.Test.YtojnnfhalpefmaaMx20
import Derived.Test.YtojnnfhalpefmaaEAw
import Derived.Test.YtojnnfhalpefmaaMx3
import Derived.Test.YtojnnfhalpefmaaMx5
import Derived.Test.YtojnnfhalpefmaaMx6
import Derived.Test.YtojnnfhalpefmaaMx7
import Derived.Test.YtojnnfhalpefmaaMx8
import Derived.Test.YtojnnfhalpefmaaMx9
namespace Go.Proofs.Ytojnnfhalpefmaa.M
open Go.RowKit Go.Proofs.YtojnnfhalpefmaaW.PrintWords Go.Proofs.YtojnnfhalpefmaaW.PrintLast Go.Proofs.YtojnnfhalpefmaaW.PrintMore
attribute [local go_sem] max2_int min2_int max_two min_two max_three min_three max_four min_four   -- for this text's walks alone
set_option linter.unusedVariables false
set_option linter.unusedSimpArgs false

/-! ### toruslaw04_ColumnMatches: function 4 -/
mutual
def toruslaw04_ColumnMatches.j0 : Nat → Int → List (S45) → List (S45) → Int → List (S45) → List (S45) → Bool → Option (Bool)
  | 0, _, _, _, _, _, _, _ => none
  | k + 1, x0, x1, x2, x3, x11, x12, x76 => if x76 = true then (some false) else (toruslaw04_ColumnMatches.l0 k x0 x1 x2 x3 x11 x12 0)
def toruslaw04_ColumnMatches.l0 : Nat → Int → List (S45) → List (S45) → Int → List (S45) → List (S45) → Int → Option (Bool)
  | 0, _, _, _, _, _, _, _ => none
  | k + 1, x0, x1, x2, x3, x11, x12, x17 => if x17 < 2 then ((column_Add.f k x0 x11 x3 x12).bind fun bt351 => ((torusref04_Add.f k x0 x1 x3 x2).bind fun bt355 => ((column_Scale.f k x0 x11 x3).bind fun bt359 => ((torusref04_Scale.f k x0 x1 x3).bind fun bt363 => ((torusref04_Same.f k bt351.1 bt355.1).bind fun t367 => (if t367 = true then (if bt351.2 = bt355.2 then ((torusref04_Same.f k bt359.1 bt363.1).bind fun t368 => (if t368 = true then (toruslaw04_ColumnMatches.j2 k x0 x1 x2 x3 x11 x12 x17 bt351.1 bt359.1 (bt359.2 != bt363.2)) else (toruslaw04_ColumnMatches.j2 k x0 x1 x2 x3 x11 x12 x17 bt351.1 bt359.1 true))) else (toruslaw04_ColumnMatches.j2 k x0 x1 x2 x3 x11 x12 x17 bt351.1 bt359.1 true)) else (toruslaw04_ColumnMatches.j2 k x0 x1 x2 x3 x11 x12 x17 bt351.1 bt359.1 true))))))) else ((column_Dot.f k x0 x11 x12).bind fun bt371 => ((torusref04_Dot.f k x0 x1 x2).bind fun bt373 => (if bt371.1 = bt373.1 then (if bt371.2 = bt373.2 then ((torusref04_Same.f k x11 x1).bind fun t375 => (if t375 = true then ((torusref04_Same.f k x12 x2).bind fun t376 => (if t376 = true then ((toruslaw04_awake.f).bind fun t377 => (some t377)) else (some false))) else (some false))) else (some false)) else (some false))))
def toruslaw04_ColumnMatches.j2 : Nat → Int → List (S45) → List (S45) → Int → List (S45) → List (S45) → Int → List (S45) → List (S45) → Bool → Option (Bool)
  | 0, _, _, _, _, _, _, _, _, _, _ => none
  | k + 1, x0, x1, x2, x3, x11, x12, x17, x18, x22, x130 => if x130 = true then (some false) else (toruslaw04_ColumnMatches.l1 k x0 x1 x2 x3 x11 x12 x17 x18 x22 0)
def toruslaw04_ColumnMatches.l1 : Nat → Int → List (S45) → List (S45) → Int → List (S45) → List (S45) → Int → List (S45) → List (S45) → Int → Option (Bool)
  | 0, _, _, _, _, _, _, _, _, _, _ => none
  | k + 1, x0, x1, x2, x3, x11, x12, x17, x18, x22, x26 => if x26 < (x18.length : Int) then (if 0 ≤ x26 then (toruslaw04_ColumnMatches.l1 k x0 x1 x2 x3 x11 x12 x17 (x18.set (x26 : Int).toNat (⟨(-7), (-7)⟩ : S45)) x22 (wrap64 (x26 + 1))) else (none)) else (toruslaw04_ColumnMatches.l2 k x0 x1 x2 x3 x11 x12 x17 x22 0)
def toruslaw04_ColumnMatches.l2 : Nat → Int → List (S45) → List (S45) → Int → List (S45) → List (S45) → Int → List (S45) → Int → Option (Bool)
  | 0, _, _, _, _, _, _, _, _, _ => none
  | k + 1, x0, x1, x2, x3, x11, x12, x17, x22, x27 => if x27 < (x22.length : Int) then (if 0 ≤ x27 then (toruslaw04_ColumnMatches.l2 k x0 x1 x2 x3 x11 x12 x17 (x22.set (x27 : Int).toNat (⟨(-7), (-7)⟩ : S45)) (wrap64 (x27 + 1))) else (none)) else (toruslaw04_ColumnMatches.l0 k x0 x1 x2 x3 x11 x12 (wrap64 (x17 + 1)))
end
def toruslaw04_ColumnMatches.f (k : Nat) (a0 : Int) (l1 : List (S45)) (l2 : List (S45)) (a3 : Int) (a4 : Int) : Option (Bool) := (toruslaw04_long.f k (([l1, l2] : List (List (S45))))).bind fun t335 => (if t335 = true then ((toruslaw04_awake.f).bind fun t336 => (some t336)) else ((torusref04_Copy.f l1).bind fun t337 => ((torusref04_Copy.f l2).bind fun t340 => ((column_Low.f l1).bind fun bt343 => ((torusref04_Low.f l1).bind fun bt345 => ((column_Check.f k a0 t337).bind fun t347 => ((torusref04_Check.f k a0 l1).bind fun t348 => (if t347 = t348 then (if bt343.1 = bt345.1 then (if (bt343.2 != bt345.2) = true then (toruslaw04_ColumnMatches.j0 k a0 l1 l2 a3 t337 t340 true) else ((column_Coef.f k l1 a4).bind fun t349 => ((torusref04_Coef.f k l1 a4).bind fun t350 => (toruslaw04_ColumnMatches.j0 k a0 l1 l2 a3 t337 t340 (t349 != t350))))) else (toruslaw04_ColumnMatches.j0 k a0 l1 l2 a3 t337 t340 true)) else (toruslaw04_ColumnMatches.j0 k a0 l1 l2 a3 t337 t340 true)))))))))
theorem toruslaw04_ColumnMatches.mono_l : ∀ k, (∀ y0 y1 y2 y3 y4 y5 y6, LeO (toruslaw04_ColumnMatches.j0 k y0 y1 y2 y3 y4 y5 y6) (toruslaw04_ColumnMatches.j0 (k + 1) y0 y1 y2 y3 y4 y5 y6)) ∧ (∀ y0 y1 y2 y3 y4 y5 y6, LeO (toruslaw04_ColumnMatches.l0 k y0 y1 y2 y3 y4 y5 y6) (toruslaw04_ColumnMatches.l0 (k + 1) y0 y1 y2 y3 y4 y5 y6)) ∧ (∀ y0 y1 y2 y3 y4 y5 y6 y7 y8 y9, LeO (toruslaw04_ColumnMatches.j2 k y0 y1 y2 y3 y4 y5 y6 y7 y8 y9) (toruslaw04_ColumnMatches.j2 (k + 1) y0 y1 y2 y3 y4 y5 y6 y7 y8 y9)) ∧ (∀ y0 y1 y2 y3 y4 y5 y6 y7 y8 y9, LeO (toruslaw04_ColumnMatches.l1 k y0 y1 y2 y3 y4 y5 y6 y7 y8 y9) (toruslaw04_ColumnMatches.l1 (k + 1) y0 y1 y2 y3 y4 y5 y6 y7 y8 y9)) ∧ (∀ y0 y1 y2 y3 y4 y5 y6 y7 y8, LeO (toruslaw04_ColumnMatches.l2 k y0 y1 y2 y3 y4 y5 y6 y7 y8) (toruslaw04_ColumnMatches.l2 (k + 1) y0 y1 y2 y3 y4 y5 y6 y7 y8))
  | 0 => ⟨fun _ _ _ _ _ _ _ r h => by simp [toruslaw04_ColumnMatches.j0] at h, fun _ _ _ _ _ _ _ r h => by simp [toruslaw04_ColumnMatches.l0] at h, fun _ _ _ _ _ _ _ _ _ _ r h => by simp [toruslaw04_ColumnMatches.j2] at h, fun _ _ _ _ _ _ _ _ _ _ r h => by simp [toruslaw04_ColumnMatches.l1] at h, fun _ _ _ _ _ _ _ _ _ r h => by simp [toruslaw04_ColumnMatches.l2] at h⟩
  | k + 1 => by
    obtain ⟨ih0, ih1, ih2, ih3, ih4⟩ := toruslaw04_ColumnMatches.mono_l k
    refine ⟨?_, ?_, ?_, ?_, ?_⟩
    · intro y0 y1 y2 y3 y4 y5 y6
      unfold toruslaw04_ColumnMatches.j0
      repeat' first
      | (with_reducible exact ih0 _ _ _ _ _ _ _)
      | (with_reducible exact ih1 _ _ _ _ _ _ _)
      | (with_reducible exact ih2 _ _ _ _ _ _ _ _ _ _)
      | (with_reducible exact ih3 _ _ _ _ _ _ _ _ _ _)
      | (with_reducible exact ih4 _ _ _ _ _ _ _ _ _)
      | (with_reducible exact column_Add.mono _ _ _ _ _)
      | (with_reducible exact column_Check.mono _ _ _)
      | (with_reducible exact column_Coef.mono _ _ _)
      | (with_reducible exact column_Dot.mono _ _ _ _)
      | (with_reducible exact column_Scale.mono _ _ _ _)
      | (with_reducible exact toruslaw04_long.mono _ _)
      | (with_reducible exact torusref04_Add.mono _ _ _ _ _)
      | (with_reducible exact torusref04_Check.mono _ _ _)
      | (with_reducible exact torusref04_Coef.mono _ _ _)
      | (with_reducible exact torusref04_Dot.mono _ _ _ _)
      | (with_reducible exact torusref04_Same.mono _ _ _)
      | (with_reducible exact torusref04_Scale.mono _ _ _ _)
      | (with_reducible exact LeO.refl _)
      | (with_reducible exact LeO.none _)
      | (with_reducible refine LeO.ite ?_ ?_)
      | (with_reducible refine LeO.bind ?_ (fun _ => ?_))
      | exact ih0 _ _ _ _ _ _ _
      | exact ih1 _ _ _ _ _ _ _
      | exact ih2 _ _ _ _ _ _ _ _ _ _
      | exact ih3 _ _ _ _ _ _ _ _ _ _
      | exact ih4 _ _ _ _ _ _ _ _ _
      | exact column_Add.mono _ _ _ _ _
      | exact column_Check.mono _ _ _
      | exact column_Coef.mono _ _ _
      | exact column_Dot.mono _ _ _ _
      | exact column_Scale.mono _ _ _ _
      | exact toruslaw04_long.mono _ _
      | exact torusref04_Add.mono _ _ _ _ _
      | exact torusref04_Check.mono _ _ _
      | exact torusref04_Coef.mono _ _ _
      | exact torusref04_Dot.mono _ _ _ _
      | exact torusref04_Same.mono _ _ _
      | exact torusref04_Scale.mono _ _ _ _
      | exact LeO.none _
      | refine LeO.ite ?_ ?_
      | refine LeO.bind ?_ (fun _ => ?_)
    · intro y0 y1 y2 y3 y4 y5 y6
      unfold toruslaw04_ColumnMatches.l0
      repeat' first
      | (with_reducible exact ih0 _ _ _ _ _ _ _)
      | (with_reducible exact ih1 _ _ _ _ _ _ _)
      | (with_reducible exact ih2 _ _ _ _ _ _ _ _ _ _)
      | (with_reducible exact ih3 _ _ _ _ _ _ _ _ _ _)
      | (with_reducible exact ih4 _ _ _ _ _ _ _ _ _)
      | (with_reducible exact column_Add.mono _ _ _ _ _)
      | (with_reducible exact column_Check.mono _ _ _)
      | (with_reducible exact column_Coef.mono _ _ _)
      | (with_reducible exact column_Dot.mono _ _ _ _)
      | (with_reducible exact column_Scale.mono _ _ _ _)
      | (with_reducible exact toruslaw04_long.mono _ _)
      | (with_reducible exact torusref04_Add.mono _ _ _ _ _)
      | (with_reducible exact torusref04_Check.mono _ _ _)
      | (with_reducible exact torusref04_Coef.mono _ _ _)
      | (with_reducible exact torusref04_Dot.mono _ _ _ _)
      | (with_reducible exact torusref04_Same.mono _ _ _)
      | (with_reducible exact torusref04_Scale.mono _ _ _ _)
      | (with_reducible exact LeO.refl _)
      | (with_reducible exact LeO.none _)
      | (with_reducible refine LeO.ite ?_ ?_)
      | (with_reducible refine LeO.bind ?_ (fun _ => ?_))
      | exact ih0 _ _ _ _ _ _ _
      | exact ih1 _ _ _ _ _ _ _
      | exact ih2 _ _ _ _ _ _ _ _ _ _
      | exact ih3 _ _ _ _ _ _ _ _ _ _
      | exact ih4 _ _ _ _ _ _ _ _ _
      | exact column_Add.mono _ _ _ _ _
      | exact column_Check.mono _ _ _
      | exact column_Coef.mono _ _ _
      | exact column_Dot.mono _ _ _ _
      | exact column_Scale.mono _ _ _ _
      | exact toruslaw04_long.mono _ _
      | exact torusref04_Add.mono _ _ _ _ _
      | exact torusref04_Check.mono _ _ _
      | exact torusref04_Coef.mono _ _ _
      | exact torusref04_Dot.mono _ _ _ _
      | exact torusref04_Same.mono _ _ _
      | exact torusref04_Scale.mono _ _ _ _
      | exact LeO.none _
      | refine LeO.ite ?_ ?_
      | refine LeO.bind ?_ (fun _ => ?_)
    · intro y0 y1 y2 y3 y4 y5 y6 y7 y8 y9
      unfold toruslaw04_ColumnMatches.j2
      repeat' first
      | (with_reducible exact ih0 _ _ _ _ _ _ _)
      | (with_reducible exact ih1 _ _ _ _ _ _ _)
      | (with_reducible exact ih2 _ _ _ _ _ _ _ _ _ _)
      | (with_reducible exact ih3 _ _ _ _ _ _ _ _ _ _)
      | (with_reducible exact ih4 _ _ _ _ _ _ _ _ _)
      | (with_reducible exact column_Add.mono _ _ _ _ _)
      | (with_reducible exact column_Check.mono _ _ _)
      | (with_reducible exact column_Coef.mono _ _ _)
      | (with_reducible exact column_Dot.mono _ _ _ _)
      | (with_reducible exact column_Scale.mono _ _ _ _)
      | (with_reducible exact toruslaw04_long.mono _ _)
      | (with_reducible exact torusref04_Add.mono _ _ _ _ _)
      | (with_reducible exact torusref04_Check.mono _ _ _)
      | (with_reducible exact torusref04_Coef.mono _ _ _)
      | (with_reducible exact torusref04_Dot.mono _ _ _ _)
      | (with_reducible exact torusref04_Same.mono _ _ _)
      | (with_reducible exact torusref04_Scale.mono _ _ _ _)
      | (with_reducible exact LeO.refl _)
      | (with_reducible exact LeO.none _)
      | (with_reducible refine LeO.ite ?_ ?_)
      | (with_reducible refine LeO.bind ?_ (fun _ => ?_))
      | exact ih0 _ _ _ _ _ _ _
      | exact ih1 _ _ _ _ _ _ _
      | exact ih2 _ _ _ _ _ _ _ _ _ _
      | exact ih3 _ _ _ _ _ _ _ _ _ _
      | exact ih4 _ _ _ _ _ _ _ _ _
      | exact column_Add.mono _ _ _ _ _
      | exact column_Check.mono _ _ _
      | exact column_Coef.mono _ _ _
      | exact column_Dot.mono _ _ _ _
      | exact column_Scale.mono _ _ _ _
      | exact toruslaw04_long.mono _ _
      | exact torusref04_Add.mono _ _ _ _ _
      | exact torusref04_Check.mono _ _ _
      | exact torusref04_Coef.mono _ _ _
      | exact torusref04_Dot.mono _ _ _ _
      | exact torusref04_Same.mono _ _ _
      | exact torusref04_Scale.mono _ _ _ _
      | exact LeO.none _
      | refine LeO.ite ?_ ?_
      | refine LeO.bind ?_ (fun _ => ?_)
    · intro y0 y1 y2 y3 y4 y5 y6 y7 y8 y9
      unfold toruslaw04_ColumnMatches.l1
      repeat' first
      | (with_reducible exact ih0 _ _ _ _ _ _ _)
      | (with_reducible exact ih1 _ _ _ _ _ _ _)
      | (with_reducible exact ih2 _ _ _ _ _ _ _ _ _ _)
      | (with_reducible exact ih3 _ _ _ _ _ _ _ _ _ _)
      | (with_reducible exact ih4 _ _ _ _ _ _ _ _ _)
      | (with_reducible exact column_Add.mono _ _ _ _ _)
      | (with_reducible exact column_Check.mono _ _ _)
      | (with_reducible exact column_Coef.mono _ _ _)
      | (with_reducible exact column_Dot.mono _ _ _ _)
      | (with_reducible exact column_Scale.mono _ _ _ _)
      | (with_reducible exact toruslaw04_long.mono _ _)
      | (with_reducible exact torusref04_Add.mono _ _ _ _ _)
      | (with_reducible exact torusref04_Check.mono _ _ _)
      | (with_reducible exact torusref04_Coef.mono _ _ _)
      | (with_reducible exact torusref04_Dot.mono _ _ _ _)
      | (with_reducible exact torusref04_Same.mono _ _ _)
      | (with_reducible exact torusref04_Scale.mono _ _ _ _)
      | (with_reducible exact LeO.refl _)
      | (with_reducible exact LeO.none _)
      | (with_reducible refine LeO.ite ?_ ?_)
      | (with_reducible refine LeO.bind ?_ (fun _ => ?_))
      | exact ih0 _ _ _ _ _ _ _
      | exact ih1 _ _ _ _ _ _ _
      | exact ih2 _ _ _ _ _ _ _ _ _ _
      | exact ih3 _ _ _ _ _ _ _ _ _ _
      | exact ih4 _ _ _ _ _ _ _ _ _
      | exact column_Add.mono _ _ _ _ _
      | exact column_Check.mono _ _ _
      | exact column_Coef.mono _ _ _
      | exact column_Dot.mono _ _ _ _
      | exact column_Scale.mono _ _ _ _
      | exact toruslaw04_long.mono _ _
      | exact torusref04_Add.mono _ _ _ _ _
      | exact torusref04_Check.mono _ _ _
      | exact torusref04_Coef.mono _ _ _
      | exact torusref04_Dot.mono _ _ _ _
      | exact torusref04_Same.mono _ _ _
      | exact torusref04_Scale.mono _ _ _ _
      | exact LeO.none _
      | refine LeO.ite ?_ ?_
      | refine LeO.bind ?_ (fun _ => ?_)
    · intro y0 y1 y2 y3 y4 y5 y6 y7 y8
      unfold toruslaw04_ColumnMatches.l2
      repeat' first
      | (with_reducible exact ih0 _ _ _ _ _ _ _)
      | (with_reducible exact ih1 _ _ _ _ _ _ _)
      | (with_reducible exact ih2 _ _ _ _ _ _ _ _ _ _)
      | (with_reducible exact ih3 _ _ _ _ _ _ _ _ _ _)
      | (with_reducible exact ih4 _ _ _ _ _ _ _ _ _)
      | (with_reducible exact column_Add.mono _ _ _ _ _)
      | (with_reducible exact column_Check.mono _ _ _)
      | (with_reducible exact column_Coef.mono _ _ _)
      | (with_reducible exact column_Dot.mono _ _ _ _)
      | (with_reducible exact column_Scale.mono _ _ _ _)
      | (with_reducible exact toruslaw04_long.mono _ _)
      | (with_reducible exact torusref04_Add.mono _ _ _ _ _)
      | (with_reducible exact torusref04_Check.mono _ _ _)
      | (with_reducible exact torusref04_Coef.mono _ _ _)
      | (with_reducible exact torusref04_Dot.mono _ _ _ _)
      | (with_reducible exact torusref04_Same.mono _ _ _)
      | (with_reducible exact torusref04_Scale.mono _ _ _ _)
      | (with_reducible exact LeO.refl _)
      | (with_reducible exact LeO.none _)
      | (with_reducible refine LeO.ite ?_ ?_)
      | (with_reducible refine LeO.bind ?_ (fun _ => ?_))
      | exact ih0 _ _ _ _ _ _ _
      | exact ih1 _ _ _ _ _ _ _
      | exact ih2 _ _ _ _ _ _ _ _ _ _
      | exact ih3 _ _ _ _ _ _ _ _ _ _
      | exact ih4 _ _ _ _ _ _ _ _ _
      | exact column_Add.mono _ _ _ _ _
      | exact column_Check.mono _ _ _
      | exact column_Coef.mono _ _ _
      | exact column_Dot.mono _ _ _ _
      | exact column_Scale.mono _ _ _ _
      | exact toruslaw04_long.mono _ _
      | exact torusref04_Add.mono _ _ _ _ _
      | exact torusref04_Check.mono _ _ _
      | exact torusref04_Coef.mono _ _ _
      | exact torusref04_Dot.mono _ _ _ _
      | exact torusref04_Same.mono _ _ _
      | exact torusref04_Scale.mono _ _ _ _
      | exact LeO.none _
      | refine LeO.ite ?_ ?_
      | refine LeO.bind ?_ (fun _ => ?_)
theorem toruslaw04_ColumnMatches.mono : ∀ a0 a1 a2 a3 a4 k, LeO (toruslaw04_ColumnMatches.f k a0 a1 a2 a3 a4) (toruslaw04_ColumnMatches.f (k + 1) a0 a1 a2 a3 a4) := by
  intro a0 a1 a2 a3 a4 k
  obtain ⟨ih0, ih1, ih2, ih3, ih4⟩ := toruslaw04_ColumnMatches.mono_l k
  unfold toruslaw04_ColumnMatches.f
  repeat' first
      | (with_reducible exact ih0 _ _ _ _ _ _ _)
      | (with_reducible exact ih1 _ _ _ _ _ _ _)
      | (with_reducible exact ih2 _ _ _ _ _ _ _ _ _ _)
      | (with_reducible exact ih3 _ _ _ _ _ _ _ _ _ _)
      | (with_reducible exact ih4 _ _ _ _ _ _ _ _ _)
      | (with_reducible exact column_Add.mono _ _ _ _ _)
      | (with_reducible exact column_Check.mono _ _ _)
      | (with_reducible exact column_Coef.mono _ _ _)
      | (with_reducible exact column_Dot.mono _ _ _ _)
      | (with_reducible exact column_Scale.mono _ _ _ _)
      | (with_reducible exact toruslaw04_long.mono _ _)
      | (with_reducible exact torusref04_Add.mono _ _ _ _ _)
      | (with_reducible exact torusref04_Check.mono _ _ _)
      | (with_reducible exact torusref04_Coef.mono _ _ _)
      | (with_reducible exact torusref04_Dot.mono _ _ _ _)
      | (with_reducible exact torusref04_Same.mono _ _ _)
      | (with_reducible exact torusref04_Scale.mono _ _ _ _)
      | (with_reducible exact LeO.refl _)
      | (with_reducible exact LeO.none _)
      | (with_reducible refine LeO.ite ?_ ?_)
      | (with_reducible refine LeO.bind ?_ (fun _ => ?_))
      | exact ih0 _ _ _ _ _ _ _
      | exact ih1 _ _ _ _ _ _ _
      | exact ih2 _ _ _ _ _ _ _ _ _ _
      | exact ih3 _ _ _ _ _ _ _ _ _ _
      | exact ih4 _ _ _ _ _ _ _ _ _
      | exact column_Add.mono _ _ _ _ _
      | exact column_Check.mono _ _ _
      | exact column_Coef.mono _ _ _
      | exact column_Dot.mono _ _ _ _
      | exact column_Scale.mono _ _ _ _
      | exact toruslaw04_long.mono _ _
      | exact torusref04_Add.mono _ _ _ _ _
      | exact torusref04_Check.mono _ _ _
      | exact torusref04_Coef.mono _ _ _
      | exact torusref04_Dot.mono _ _ _ _
      | exact torusref04_Same.mono _ _ _
      | exact torusref04_Scale.mono _ _ _ _
      | exact LeO.none _
      | refine LeO.ite ?_ ?_
      | refine LeO.bind ?_ (fun _ => ?_)
theorem toruslaw04_ColumnMatches.j0_dead (k : Nat) (x0 : _) (x1 : _) (x2 : _) (x3 : _) (x4 : _) (x5 : _) : ¬ toruslaw04_ColumnMatches.j0 k x0 x1 x2 x3 x4 x5 true = some true := by
  cases k <;> simp [toruslaw04_ColumnMatches.j0]
theorem toruslaw04_ColumnMatches.j2_dead (k : Nat) (x0 : _) (x1 : _) (x2 : _) (x3 : _) (x4 : _) (x5 : _) (x6 : _) (x7 : _) (x8 : _) : ¬ toruslaw04_ColumnMatches.j2 k x0 x1 x2 x3 x4 x5 x6 x7 x8 true = some true := by
  cases k <;> simp [toruslaw04_ColumnMatches.j2]
set_option maxHeartbeats 8000000 in
set_option maxRecDepth 100000 in
theorem toruslaw04_ColumnMatches.calls (k : Nat) (a0 : Int) (P1_ : Nat → Prop) (A1 : Option Addr) (c1 : Nat) (l1 : List (S45)) (P2_ : Nat → Prop) (A2 : Option Addr) (c2 : Nat) (l2 : List (S45)) (a3 : Int) (a4 : Int) (r : Bool) (w : World) (hs1 : Kd.V k45 45 w w.heap.size (fun k_ => P1_ k_) (.slice A1 l1.length c1) l1) (hs2 : Kd.V k45 45 w w.heap.size (fun k_ => P2_ k_) (.slice A2 l2.length c2) l2) (h : toruslaw04_ColumnMatches.f k a0 l1 l2 a3 a4 = some r) (hrt : r = true) :
    Calls Try.prog 4 #[.int .i64 a0, .slice A1 l1.length c1, .slice A2 l2.length c2, .int .i64 a3, .int .i64 a4] w fun e w' => e = .returned (.bool r) ∧ Below w.heap.size w w' := by
  have hu45 := Try.underlying45
  have HO1 := Aside0.mk (show Kd.V k45 45 w w.heap.size (fun k_ => ((P1_ k_ ∨ P2_ k_) ∨ w.heap.size ≤ k_)) (.slice A1 l1.length c1) l1 from Kd.V_mono hs1 (fun k_ hk => .inl (.inl hk)))
  have HO2 := Aside0.mk (show Kd.V k45 45 w w.heap.size (fun k_ => ((P1_ k_ ∨ P2_ k_) ∨ w.heap.size ≤ k_)) (.slice A2 l2.length c2) l2 from Kd.V_mono hs2 (fun k_ hk => .inl (.inr hk)))
  have HB := Aside0.mk (Below.refl w.heap.size w)
  have H : ((toruslaw04_long.f k (([l1, l2] : List (List (S45))))).bind fun t335 => (if t335 = true then ((toruslaw04_awake.f).bind fun t336 => (some t336)) else ((torusref04_Copy.f l1).bind fun t337 => ((torusref04_Copy.f l2).bind fun t340 => ((column_Low.f l1).bind fun bt343 => ((torusref04_Low.f l1).bind fun bt345 => ((column_Check.f k a0 t337).bind fun t347 => ((torusref04_Check.f k a0 l1).bind fun t348 => (if t347 = t348 then (if bt343.1 = bt345.1 then (if (bt343.2 != bt345.2) = true then (toruslaw04_ColumnMatches.j0 k a0 l1 l2 a3 t337 t340 true) else ((column_Coef.f k l1 a4).bind fun t349 => ((torusref04_Coef.f k l1 a4).bind fun t350 => (toruslaw04_ColumnMatches.j0 k a0 l1 l2 a3 t337 t340 (t349 != t350))))) else (toruslaw04_ColumnMatches.j0 k a0 l1 l2 a3 t337 t340 true)) else (toruslaw04_ColumnMatches.j0 k a0 l1 l2 a3 t337 t340 true)))))))))) = some r := h
  clear h
  obtain ⟨y332, hy332⟩ : ∃ y_ : List (List (S45)), y_ = (([l1, l2] : List (List (S45)))) := ⟨_, rfl⟩
  replace H : ((toruslaw04_long.f k y332).bind fun t335 => (if t335 = true then ((toruslaw04_awake.f).bind fun t336 => (some t336)) else ((torusref04_Copy.f l1).bind fun t337 => ((torusref04_Copy.f l2).bind fun t340 => ((column_Low.f l1).bind fun bt343 => ((torusref04_Low.f l1).bind fun bt345 => ((column_Check.f k a0 t337).bind fun t347 => ((torusref04_Check.f k a0 l1).bind fun t348 => (if t347 = t348 then (if bt343.1 = bt345.1 then (if (bt343.2 != bt345.2) = true then (toruslaw04_ColumnMatches.j0 k a0 l1 l2 a3 t337 t340 true) else ((column_Coef.f k l1 a4).bind fun t349 => ((torusref04_Coef.f k l1 a4).bind fun t350 => (toruslaw04_ColumnMatches.j0 k a0 l1 l2 a3 t337 t340 (t349 != t350))))) else (toruslaw04_ColumnMatches.j0 k a0 l1 l2 a3 t337 t340 true)) else (toruslaw04_ColumnMatches.j0 k a0 l1 l2 a3 t337 t340 true)))))))))) = some r := by first | (rw [hy332]; with_reducible exact H) | (have H2_ := (Option.bind_some _ _).symm.trans H; rw [hy332]; with_reducible exact H2_) | (have H2_ := (Option.bind_some _ _).symm.trans H; with_reducible exact H2_) | with_reducible exact H | (rw [hy332]; exact H) | exact H
  have Ny332 := Aside0.mk hy332
  clear hy332
  replace H := Option.bind_eq_some_iff.mp H
  obtain ⟨t335, A60, H⟩ := H
  replace H : (if t335 = true then ((toruslaw04_awake.f).bind fun t336 => (some t336)) else ((torusref04_Copy.f l1).bind fun t337 => ((torusref04_Copy.f l2).bind fun t340 => ((column_Low.f l1).bind fun bt343 => ((torusref04_Low.f l1).bind fun bt345 => ((column_Check.f k a0 t337).bind fun t347 => ((torusref04_Check.f k a0 l1).bind fun t348 => (if t347 = t348 then (if bt343.1 = bt345.1 then (if (bt343.2 != bt345.2) = true then (toruslaw04_ColumnMatches.j0 k a0 l1 l2 a3 t337 t340 true) else ((column_Coef.f k l1 a4).bind fun t349 => ((torusref04_Coef.f k l1 a4).bind fun t350 => (toruslaw04_ColumnMatches.j0 k a0 l1 l2 a3 t337 t340 (t349 != t350))))) else (toruslaw04_ColumnMatches.j0 k a0 l1 l2 a3 t337 t340 true)) else (toruslaw04_ColumnMatches.j0 k a0 l1 l2 a3 t337 t340 true))))))))) = some r := H
  have A6 := Aside0.mk A60
  clear A60
  by_cases c7 : t335 = true
  · subst c7
    have H1 : ((toruslaw04_awake.f).bind fun t336 => (some t336)) = some r := by rw [if_pos rfl] at H; exact H
    clear H
    have H := H1
    clear H1
    replace H := Option.bind_eq_some_iff.mp H
    obtain ⟨t336, A80, H⟩ := H
    replace H : (some t336) = some r := H
    have A8 := Aside0.mk A80
    clear A80
    obtain rfl := Option.some.inj H
    go_enter Try.func4, Try.ntmps4
    go_wp2_with (first | ((with_reducible refine gate_dst (N := 34) rfl ?_); refine Kd.N_lit (Kd.slice 45 k45) _ 22 ?hg (N' := 34) ?hd (xs := ([l1, l2] : List (List (S45)))) (inner := [.slice A1 l1.length c1, .slice A2 l2.length c2]) (ok := (fun k_ => ((P1_ k_ ∨ P2_ k_) ∨ w.heap.size ≤ k_))) (okp := (fun k_ => ((P1_ k_ ∨ P2_ k_) ∨ w.heap.size ≤ k_))) ?hr ?hp (fun _ hk => hk) ((show ∀ k_, w.heap.size ≤ k_ → (fun k_ => ((P1_ k_ ∨ P2_ k_) ∨ w.heap.size ≤ k_)) k_ from fun k_ hk => (.inr (Nat.le_trans (below_size (by repeat (first | (with_reducible first | exact HB.out | apply below_alloc | apply pw_below_drewN | apply below_drew1) | exact HB.out))) hk))) _ (Nat.le_refl _)) (Below.refl _ _) (Nat.le_refl _) (by simp) ?_; (case hd => rfl); (case hg => rfl); (case hr => first | (go_simp; done) | (go_simp; rfl)); (case hp => exact (Reps.one (show Kd.FK (Kd.slice 45 k45) _ _ l1 [.slice A1 l1.length c1] from (Kd.FK_slice_mk (Kd.V_reads' (Kd.V_mono (ok' := (fun k_ => ((P1_ k_ ∨ P2_ k_) ∨ w.heap.size ≤ k_))) (HO1.out) (fun k_ hk => hk))).2.1 (Kd.V_F (Kd.V_mono (ok' := (fun k_ => ((P1_ k_ ∨ P2_ k_) ∨ w.heap.size ≤ k_))) (HO1.out) (fun k_ hk => hk))))) (Reps.one (show Kd.FK (Kd.slice 45 k45) _ _ l2 [.slice A2 l2.length c2] from (Kd.FK_slice_mk (Kd.V_reads' (Kd.V_mono (ok' := (fun k_ => ((P1_ k_ ∨ P2_ k_) ∨ w.heap.size ≤ k_))) (HO2.out) (fun k_ hk => hk))).2.1 (Kd.V_F (Kd.V_mono (ok' := (fun k_ => ((P1_ k_ ∨ P2_ k_) ∨ w.heap.size ≤ k_))) (HO2.out) (fun k_ hk => hk))))) (Reps.none _ _)))); intro v333 w9 ho10 hb hg_ hnew_; clear hg_ hnew_; (first | rw [← Ny332.out] at ho10 | (simp only [Int.reduceToNat] at ho10; rw [← Ny332.out] at ho10)); have n0_ := Aside0.mk (Kd.V_elder' (by (with_reducible repeat (first | apply Kd.V_alloc | apply Kd.V_drewN | apply Kd.V_drew)); exact HO1.out) (Kd.N_base ho10) hb); have n1_ := Aside0.mk (Kd.V_elder' (by (with_reducible repeat (first | apply Kd.V_alloc | apply Kd.V_drewN | apply Kd.V_drew)); exact HO2.out) (Kd.N_base ho10) hb); have n2_ := Aside0.mk (Kd.N_lower ho10 (below_size (by repeat (first | (with_reducible first | exact HB.out | apply below_alloc | apply pw_below_drewN | apply below_drew1) | exact HB.out)))); have n3_ := Aside0.mk (below_step (by repeat (first | (with_reducible first | exact HB.out | apply below_alloc | apply pw_below_drewN | apply below_drew1) | exact HB.out)) hb); clear HO1; clear HO2; clear HB; have HO1 := n0_; have HO2 := n1_; have HO334 := n2_; have HB := n3_; clear n0_ n1_ n2_ n3_; clear hb ho10; obtain ⟨Ao11, co11, eo11⟩ := Kd.N_slice HO334.out; subst eo11) | ((with_reducible refine gate_callee (f := 20) rfl ?_); refine goesL_ (some 35) rfl rfl Try.func20 (by kernel_rfl) rfl #[.slice Ao11 y332.length co11] rfl (by (try simp only [List.map_toArray, List.map_cons, List.map_nil]); first | done | rfl | (simp only [List.length_drop, List.length_take]; rfl)) ?_; (with_reducible refine (toruslaw04_long.calls k _ _ y332 true _ ?side1 ?side2 A6.out).mono ?_); (case side1 => repeat (first | exact (Kd.N_reads' HO334.out).2.2 | (with_reducible refine Kd.C_alloc ?_ _) | (with_reducible refine Kd.C_drewN ?_ _) | (with_reducible refine Kd.C_drew ?_))); (case side2 => exact (Kd.N_reads' HO334.out).2.1); rintro e w' ⟨rfl, ⟨nd, rfl⟩⟩; refine ⟨_, rfl, ?_⟩) | ((with_reducible refine gate_callee (f := 19) rfl ?_); refine goesL_ (some 36) rfl rfl Try.func19 (by kernel_rfl) rfl #[] rfl (by (try simp only [List.map_toArray, List.map_cons, List.map_nil]); first | done | rfl | (simp only [List.length_drop, List.length_take]; rfl)) ?_; (with_reducible refine (toruslaw04_awake.calls  t336 _ A8.out).mono ?_); rintro e w12 ⟨rfl, hb⟩; refine ⟨_, rfl, ?_⟩; have n0_ := Aside0.mk (Kd.V_below (by (with_reducible repeat (first | apply Kd.V_alloc | apply Kd.V_drewN | apply Kd.V_drew)); exact HO1.out) hb); have n1_ := Aside0.mk (Kd.V_below (by (with_reducible repeat (first | apply Kd.V_alloc | apply Kd.V_drewN | apply Kd.V_drew)); exact HO2.out) hb); have n2_ := Aside0.mk (Kd.N_below (by (with_reducible repeat (first | apply Kd.N_alloc | apply Kd.N_drewN | apply Kd.N_drew)); exact HO334.out) hb); have n3_ := Aside0.mk (below_step (by repeat (first | (with_reducible first | exact HB.out | apply below_alloc | apply pw_below_drewN | apply below_drew1) | exact HB.out)) hb); clear HO1; clear HO2; clear HO334; clear HB; have HO1 := n0_; have HO2 := n1_; have HO334 := n2_; have HB := n3_; clear n0_ n1_ n2_ n3_; (try clear hb); (try clear hb2); (try clear hk); (try clear hi)))
    go_ret
    exact ⟨by first | rfl | (simp [errW_none, errW_some] <;> rfl) | (simp [*, errW_none, errW_some] <;> rfl), by repeat (first | (with_reducible first | exact HB.out | apply below_alloc | apply pw_below_drewN | apply below_drew1) | exact HB.out)⟩
  · replace c7 := Bool.eq_false_iff.mpr c7
    subst c7
    have H1 : ((torusref04_Copy.f l1).bind fun t337 => ((torusref04_Copy.f l2).bind fun t340 => ((column_Low.f l1).bind fun bt343 => ((torusref04_Low.f l1).bind fun bt345 => ((column_Check.f k a0 t337).bind fun t347 => ((torusref04_Check.f k a0 l1).bind fun t348 => (if t347 = t348 then (if bt343.1 = bt345.1 then (if (bt343.2 != bt345.2) = true then (toruslaw04_ColumnMatches.j0 k a0 l1 l2 a3 t337 t340 true) else ((column_Coef.f k l1 a4).bind fun t349 => ((torusref04_Coef.f k l1 a4).bind fun t350 => (toruslaw04_ColumnMatches.j0 k a0 l1 l2 a3 t337 t340 (t349 != t350))))) else (toruslaw04_ColumnMatches.j0 k a0 l1 l2 a3 t337 t340 true)) else (toruslaw04_ColumnMatches.j0 k a0 l1 l2 a3 t337 t340 true)))))))) = some r := by rw [if_neg (show ¬ (false = true) by decide)] at H; exact H
    clear H
    have H := H1
    clear H1
    replace H := Option.bind_eq_some_iff.mp H
    obtain ⟨t337, A130, H⟩ := H
    replace H : ((torusref04_Copy.f l2).bind fun t340 => ((column_Low.f l1).bind fun bt343 => ((torusref04_Low.f l1).bind fun bt345 => ((column_Check.f k a0 t337).bind fun t347 => ((torusref04_Check.f k a0 l1).bind fun t348 => (if t347 = t348 then (if bt343.1 = bt345.1 then (if (bt343.2 != bt345.2) = true then (toruslaw04_ColumnMatches.j0 k a0 l1 l2 a3 t337 t340 true) else ((column_Coef.f k l1 a4).bind fun t349 => ((torusref04_Coef.f k l1 a4).bind fun t350 => (toruslaw04_ColumnMatches.j0 k a0 l1 l2 a3 t337 t340 (t349 != t350))))) else (toruslaw04_ColumnMatches.j0 k a0 l1 l2 a3 t337 t340 true)) else (toruslaw04_ColumnMatches.j0 k a0 l1 l2 a3 t337 t340 true))))))) = some r := H
    have A13 := Aside0.mk A130
    clear A130
    replace H := Option.bind_eq_some_iff.mp H
    obtain ⟨t340, A140, H⟩ := H
    replace H : ((column_Low.f l1).bind fun bt343 => ((torusref04_Low.f l1).bind fun bt345 => ((column_Check.f k a0 t337).bind fun t347 => ((torusref04_Check.f k a0 l1).bind fun t348 => (if t347 = t348 then (if bt343.1 = bt345.1 then (if (bt343.2 != bt345.2) = true then (toruslaw04_ColumnMatches.j0 k a0 l1 l2 a3 t337 t340 true) else ((column_Coef.f k l1 a4).bind fun t349 => ((torusref04_Coef.f k l1 a4).bind fun t350 => (toruslaw04_ColumnMatches.j0 k a0 l1 l2 a3 t337 t340 (t349 != t350))))) else (toruslaw04_ColumnMatches.j0 k a0 l1 l2 a3 t337 t340 true)) else (toruslaw04_ColumnMatches.j0 k a0 l1 l2 a3 t337 t340 true)))))) = some r := H
    have A14 := Aside0.mk A140
    clear A140
    replace H := Option.bind_eq_some_iff.mp H
    obtain ⟨⟨t343, t344⟩, A150, H⟩ := H
    replace H : ((torusref04_Low.f l1).bind fun bt345 => ((column_Check.f k a0 t337).bind fun t347 => ((torusref04_Check.f k a0 l1).bind fun t348 => (if t347 = t348 then (if t343 = bt345.1 then (if (t344 != bt345.2) = true then (toruslaw04_ColumnMatches.j0 k a0 l1 l2 a3 t337 t340 true) else ((column_Coef.f k l1 a4).bind fun t349 => ((torusref04_Coef.f k l1 a4).bind fun t350 => (toruslaw04_ColumnMatches.j0 k a0 l1 l2 a3 t337 t340 (t349 != t350))))) else (toruslaw04_ColumnMatches.j0 k a0 l1 l2 a3 t337 t340 true)) else (toruslaw04_ColumnMatches.j0 k a0 l1 l2 a3 t337 t340 true))))) = some r := H
    have A15 := Aside0.mk A150
    clear A150
    replace H := Option.bind_eq_some_iff.mp H
    obtain ⟨⟨t345, t346⟩, A160, H⟩ := H
    replace H : ((column_Check.f k a0 t337).bind fun t347 => ((torusref04_Check.f k a0 l1).bind fun t348 => (if t347 = t348 then (if t343 = t345 then (if (t344 != t346) = true then (toruslaw04_ColumnMatches.j0 k a0 l1 l2 a3 t337 t340 true) else ((column_Coef.f k l1 a4).bind fun t349 => ((torusref04_Coef.f k l1 a4).bind fun t350 => (toruslaw04_ColumnMatches.j0 k a0 l1 l2 a3 t337 t340 (t349 != t350))))) else (toruslaw04_ColumnMatches.j0 k a0 l1 l2 a3 t337 t340 true)) else (toruslaw04_ColumnMatches.j0 k a0 l1 l2 a3 t337 t340 true)))) = some r := H
    have A16 := Aside0.mk A160
    clear A160
    have HC17 := Aside0.mk H
    clear H
    go_enter Try.func4, Try.ntmps4
    go_upto_region 6 with (first | ((with_reducible refine gate_dst (N := 34) rfl ?_); refine Kd.N_lit (Kd.slice 45 k45) _ 22 ?hg (N' := 34) ?hd (xs := ([l1, l2] : List (List (S45)))) (inner := [.slice A1 l1.length c1, .slice A2 l2.length c2]) (ok := (fun k_ => ((P1_ k_ ∨ P2_ k_) ∨ w.heap.size ≤ k_))) (okp := (fun k_ => ((P1_ k_ ∨ P2_ k_) ∨ w.heap.size ≤ k_))) ?hr ?hp (fun _ hk => hk) ((show ∀ k_, w.heap.size ≤ k_ → (fun k_ => ((P1_ k_ ∨ P2_ k_) ∨ w.heap.size ≤ k_)) k_ from fun k_ hk => (.inr (Nat.le_trans (below_size (by repeat (first | (with_reducible first | exact HB.out | apply below_alloc | apply pw_below_drewN | apply below_drew1) | exact HB.out))) hk))) _ (Nat.le_refl _)) (Below.refl _ _) (Nat.le_refl _) (by simp) ?_; (case hd => rfl); (case hg => rfl); (case hr => first | (go_simp; done) | (go_simp; rfl)); (case hp => exact (Reps.one (show Kd.FK (Kd.slice 45 k45) _ _ l1 [.slice A1 l1.length c1] from (Kd.FK_slice_mk (Kd.V_reads' (Kd.V_mono (ok' := (fun k_ => ((P1_ k_ ∨ P2_ k_) ∨ w.heap.size ≤ k_))) (HO1.out) (fun k_ hk => hk))).2.1 (Kd.V_F (Kd.V_mono (ok' := (fun k_ => ((P1_ k_ ∨ P2_ k_) ∨ w.heap.size ≤ k_))) (HO1.out) (fun k_ hk => hk))))) (Reps.one (show Kd.FK (Kd.slice 45 k45) _ _ l2 [.slice A2 l2.length c2] from (Kd.FK_slice_mk (Kd.V_reads' (Kd.V_mono (ok' := (fun k_ => ((P1_ k_ ∨ P2_ k_) ∨ w.heap.size ≤ k_))) (HO2.out) (fun k_ hk => hk))).2.1 (Kd.V_F (Kd.V_mono (ok' := (fun k_ => ((P1_ k_ ∨ P2_ k_) ∨ w.heap.size ≤ k_))) (HO2.out) (fun k_ hk => hk))))) (Reps.none _ _)))); intro v333 w18 ho19 hb hg_ hnew_; clear hg_ hnew_; (first | rw [← Ny332.out] at ho19 | (simp only [Int.reduceToNat] at ho19; rw [← Ny332.out] at ho19)); have n0_ := Aside0.mk (Kd.V_elder' (by (with_reducible repeat (first | apply Kd.V_alloc | apply Kd.V_drewN | apply Kd.V_drew)); exact HO1.out) (Kd.N_base ho19) hb); have n1_ := Aside0.mk (Kd.V_elder' (by (with_reducible repeat (first | apply Kd.V_alloc | apply Kd.V_drewN | apply Kd.V_drew)); exact HO2.out) (Kd.N_base ho19) hb); have n2_ := Aside0.mk (Kd.N_lower ho19 (below_size (by repeat (first | (with_reducible first | exact HB.out | apply below_alloc | apply pw_below_drewN | apply below_drew1) | exact HB.out)))); have n3_ := Aside0.mk (below_step (by repeat (first | (with_reducible first | exact HB.out | apply below_alloc | apply pw_below_drewN | apply below_drew1) | exact HB.out)) hb); clear HO1; clear HO2; clear HB; have HO1 := n0_; have HO2 := n1_; have HO334 := n2_; have HB := n3_; clear n0_ n1_ n2_ n3_; clear hb ho19; obtain ⟨Ao20, co20, eo20⟩ := Kd.N_slice HO334.out; subst eo20) | ((with_reducible refine gate_callee (f := 20) rfl ?_); refine goesL_ (some 35) rfl rfl Try.func20 (by kernel_rfl) rfl #[.slice Ao20 y332.length co20] rfl (by (try simp only [List.map_toArray, List.map_cons, List.map_nil]); first | done | rfl | (simp only [List.length_drop, List.length_take]; rfl)) ?_; (with_reducible refine (toruslaw04_long.calls k _ _ y332 false _ ?side1 ?side2 A6.out).mono ?_); (case side1 => repeat (first | exact (Kd.N_reads' HO334.out).2.2 | (with_reducible refine Kd.C_alloc ?_ _) | (with_reducible refine Kd.C_drewN ?_ _) | (with_reducible refine Kd.C_drew ?_))); (case side2 => exact (Kd.N_reads' HO334.out).2.1); rintro e w' ⟨rfl, ⟨nd, rfl⟩⟩; refine ⟨_, rfl, ?_⟩) | ((with_reducible refine gate_callee (f := 21) rfl ?_); refine goesL_ (some 38) rfl rfl Try.func21 (by kernel_rfl) rfl #[.slice A1 l1.length c1] rfl (by (try simp only [List.map_toArray, List.map_cons, List.map_nil]); first | done | rfl | (simp only [List.length_drop, List.length_take]; rfl)) ?_; (with_reducible refine (torusref04_Copy.calls _ _ l1 t337 _ ?side1 ?side2 A13.out).mono ?_); (case side1 => repeat (first | exact (Kd.V_reads' HO1.out).2.2 | (with_reducible refine Kd.C_alloc ?_ _) | (with_reducible refine Kd.C_drewN ?_ _) | (with_reducible refine Kd.C_drew ?_))); (case side2 => exact (Kd.V_reads' HO1.out).2.1); rintro e w21 ⟨v338, rfl, ho0, hb⟩; refine ⟨_, rfl, ?_⟩; have n0_ := Aside0.mk (Kd.V_elder' (by (with_reducible repeat (first | apply Kd.V_alloc | apply Kd.V_drewN | apply Kd.V_drew)); exact HO1.out) (Kd.R_base ho0) hb); have n1_ := Aside0.mk (Kd.V_elder' (by (with_reducible repeat (first | apply Kd.V_alloc | apply Kd.V_drewN | apply Kd.V_drew)); exact HO2.out) (Kd.R_base ho0) hb); have n2_ := Aside0.mk (Kd.N_elder' (by (with_reducible repeat (first | apply Kd.N_alloc | apply Kd.N_drewN | apply Kd.N_drew)); exact HO334.out) (Kd.R_base ho0) hb); have n3_ := Aside0.mk (Kd.R_lower (Kd.R_newM (M := fun k_ => (w.heap.size ≤ k_)) ho0 (below_size (by repeat (first | (with_reducible first | exact HB.out | apply below_alloc | apply pw_below_drewN | apply below_drew1) | exact HB.out))) (fun k_ h_ => h_)) (below_size (by repeat (first | (with_reducible first | exact HB.out | apply below_alloc | apply pw_below_drewN | apply below_drew1) | exact HB.out)))); have n4_ := Aside0.mk (below_step (by repeat (first | (with_reducible first | exact HB.out | apply below_alloc | apply pw_below_drewN | apply below_drew1) | exact HB.out)) hb); clear HO1; clear HO2; clear HO334; clear HB; have HO1 := n0_; have HO2 := n1_; have HO334 := n2_; have HO339 := n3_; have HB := n4_; clear n0_ n1_ n2_ n3_ n4_; (try clear hb); (try clear hb2); (try clear hk); (try clear hi); (try clear ho0)) | ((with_reducible refine gate_callee (f := 21) rfl ?_); refine goesL_ (some 40) rfl rfl Try.func21 (by kernel_rfl) rfl #[.slice A2 l2.length c2] rfl (by (try simp only [List.map_toArray, List.map_cons, List.map_nil]); first | done | rfl | (simp only [List.length_drop, List.length_take]; rfl)) ?_; (with_reducible refine (torusref04_Copy.calls _ _ l2 t340 _ ?side1 ?side2 A14.out).mono ?_); (case side1 => repeat (first | exact (Kd.V_reads' HO2.out).2.2 | (with_reducible refine Kd.C_alloc ?_ _) | (with_reducible refine Kd.C_drewN ?_ _) | (with_reducible refine Kd.C_drew ?_))); (case side2 => exact (Kd.V_reads' HO2.out).2.1); rintro e w22 ⟨v341, rfl, ho0, hb⟩; refine ⟨_, rfl, ?_⟩; have n0_ := Aside0.mk (Kd.V_elder' (by (with_reducible repeat (first | apply Kd.V_alloc | apply Kd.V_drewN | apply Kd.V_drew)); exact HO1.out) (Kd.R_base ho0) hb); have n1_ := Aside0.mk (Kd.V_elder' (by (with_reducible repeat (first | apply Kd.V_alloc | apply Kd.V_drewN | apply Kd.V_drew)); exact HO2.out) (Kd.R_base ho0) hb); have n2_ := Aside0.mk (Kd.N_elder' (by (with_reducible repeat (first | apply Kd.N_alloc | apply Kd.N_drewN | apply Kd.N_drew)); exact HO334.out) (Kd.R_base ho0) hb); have n3_ := Aside0.mk (Kd.R_elder' (by (with_reducible repeat (first | apply Kd.R_alloc | apply Kd.R_drewN | apply Kd.R_drew)); exact HO339.out) (Kd.R_base ho0) hb); have n4_ := Aside0.mk (Kd.R_lower (Kd.R_new' (Kd.R_newM (M := fun k_ => (w.heap.size ≤ k_)) ho0 (below_size (by repeat (first | (with_reducible first | exact HB.out | apply below_alloc | apply pw_below_drewN | apply below_drew1) | exact HB.out))) (fun k_ h_ => h_)) (Kd.R_lt (by (with_reducible repeat (first | apply Kd.R_alloc | apply Kd.R_drewN | apply Kd.R_drew)); exact HO339.out))) (below_size (by repeat (first | (with_reducible first | exact HB.out | apply below_alloc | apply pw_below_drewN | apply below_drew1) | exact HB.out)))); have n5_ := Aside0.mk (below_step (by repeat (first | (with_reducible first | exact HB.out | apply below_alloc | apply pw_below_drewN | apply below_drew1) | exact HB.out)) hb); clear HO1; clear HO2; clear HO334; clear HO339; clear HB; have HO1 := n0_; have HO2 := n1_; have HO334 := n2_; have HO339 := n3_; have HO342 := n4_; have HB := n5_; clear n0_ n1_ n2_ n3_ n4_ n5_; (try clear hb); (try clear hb2); (try clear hk); (try clear hi); (try clear ho0)) | ((with_reducible refine gate_callee (f := 22) rfl ?_); refine goesL_ (some 43) rfl rfl Try.func22 (by kernel_rfl) rfl #[.slice A1 l1.length c1] rfl (by (try simp only [List.map_toArray, List.map_cons, List.map_nil]); first | done | rfl | (simp only [List.length_drop, List.length_take]; rfl)) ?_; (with_reducible refine (column_Low.calls _ _ l1 t343 t344 _ ?side1 ?side2 A15.out).mono ?_); (case side1 => repeat (first | exact (Kd.V_reads' HO1.out).2.2 | (with_reducible refine Kd.C_alloc ?_ _) | (with_reducible refine Kd.C_drewN ?_ _) | (with_reducible refine Kd.C_drew ?_))); (case side2 => exact (Kd.V_reads' HO1.out).2.1); rintro e w' ⟨rfl, ⟨nd, rfl⟩⟩; refine ⟨_, rfl, ?_⟩) | ((with_reducible refine gate_callee (f := 23) rfl ?_); refine goesL_ (some 48) rfl rfl Try.func23 (by kernel_rfl) rfl #[.slice A1 l1.length c1] rfl (by (try simp only [List.map_toArray, List.map_cons, List.map_nil]); first | done | rfl | (simp only [List.length_drop, List.length_take]; rfl)) ?_; (with_reducible refine (torusref04_Low.calls _ _ l1 t345 t346 _ ?side1 ?side2 A16.out).mono ?_); (case side1 => repeat (first | exact (Kd.V_reads' HO1.out).2.2 | (with_reducible refine Kd.C_alloc ?_ _) | (with_reducible refine Kd.C_drewN ?_ _) | (with_reducible refine Kd.C_drew ?_))); (case side2 => exact (Kd.V_reads' HO1.out).2.1); rintro e w' ⟨rfl, ⟨nd, rfl⟩⟩; refine ⟨_, rfl, ?_⟩))
    (try simp only [Act.put, List.setIfInBounds_toArray, List.set_cons_zero, List.set_cons_succ])
    go_cut [76] (fun v76 wc => ∃ (kq : Nat) (x76_16 : Bool), v76 = .bool x76_16 ∧ Aside0 (toruslaw04_ColumnMatches.j0 kq a0 l1 l2 a3 t337 t340 x76_16 = some r) ∧ Aside0 (kq ≤ k) ∧ Aside0 (Kd.V k45 45 wc w.heap.size (fun k_ => ((P1_ k_ ∨ P2_ k_) ∨ w.heap.size ≤ k_) ∧ some k_ ≠ (v338 : Value).ownBlock ∧ some k_ ≠ (v341 : Value).ownBlock) (.slice A1 l1.length c1) l1) ∧ Aside0 (Kd.V k45 45 wc w.heap.size (fun k_ => ((P1_ k_ ∨ P2_ k_) ∨ w.heap.size ≤ k_) ∧ some k_ ≠ (v338 : Value).ownBlock ∧ some k_ ≠ (v341 : Value).ownBlock) (.slice A2 l2.length c2) l2) ∧ Aside0 (Kd.R k45 45 wc w.heap.size (fun k_ => (w.heap.size ≤ k_) ∧ some k_ ≠ (v341 : Value).ownBlock) v338 t337) ∧ Aside0 (Kd.R k45 45 wc w.heap.size (fun k_ => (w.heap.size ≤ k_) ∧ some k_ ≠ (v338 : Value).ownBlock) v341 t340) ∧ Aside0 (Below w.heap.size w wc))
    case first =>
      have H := HC17.out
      clear HC17
      replace H := Option.bind_eq_some_iff.mp H
      obtain ⟨t347, A230, H⟩ := H
      replace H : ((torusref04_Check.f k a0 l1).bind fun t348 => (if t347 = t348 then (if t343 = t345 then (if (t344 != t346) = true then (toruslaw04_ColumnMatches.j0 k a0 l1 l2 a3 t337 t340 true) else ((column_Coef.f k l1 a4).bind fun t349 => ((torusref04_Coef.f k l1 a4).bind fun t350 => (toruslaw04_ColumnMatches.j0 k a0 l1 l2 a3 t337 t340 (t349 != t350))))) else (toruslaw04_ColumnMatches.j0 k a0 l1 l2 a3 t337 t340 true)) else (toruslaw04_ColumnMatches.j0 k a0 l1 l2 a3 t337 t340 true))) = some r := H
      have A23 := Aside0.mk A230
      clear A230
      replace H := Option.bind_eq_some_iff.mp H
      obtain ⟨t348, A240, H⟩ := H
      replace H : (if t347 = t348 then (if t343 = t345 then (if (t344 != t346) = true then (toruslaw04_ColumnMatches.j0 k a0 l1 l2 a3 t337 t340 true) else ((column_Coef.f k l1 a4).bind fun t349 => ((torusref04_Coef.f k l1 a4).bind fun t350 => (toruslaw04_ColumnMatches.j0 k a0 l1 l2 a3 t337 t340 (t349 != t350))))) else (toruslaw04_ColumnMatches.j0 k a0 l1 l2 a3 t337 t340 true)) else (toruslaw04_ColumnMatches.j0 k a0 l1 l2 a3 t337 t340 true)) = some r := H
      have A24 := Aside0.mk A240
      clear A240
      by_cases c25 : t347 = t348
      · rw [if_pos c25] at H
        have c25b0 : (t347 == t348) = true := beq_iff_eq.mpr c25
        have c25b1 : (t347 != t348) = false := bne_eq_false_iff_eq.mpr c25
        clear c25
        (first | rw [c25b0] | (simp only [i64_w, i32_w]; rw [c25b0]) | skip)
        by_cases c26 : t343 = t345
        · rw [if_pos c26] at H
          have c26b0 : (t343 == t345) = true := beq_iff_eq.mpr c26
          have c26b1 : (t343 != t345) = false := bne_eq_false_iff_eq.mpr c26
          clear c26
          by_cases c27 : (t344 != t346) = true
          · rw [if_pos c27] at H
            exact absurd H (by rw [hrt]; exact toruslaw04_ColumnMatches.j0_dead _ _ _ _ _ _ _)
          · rw [if_neg c27] at H
            have c27b0 : (t344 != t346) = false := by simpa using c27
            (try (have c27b1 : decide (t344 = t346) = true := by simpa using c27))
            (try (have c27b2 : (t344 == t346) = true := by simpa using c27))
            clear c27
            replace H := Option.bind_eq_some_iff.mp H
            obtain ⟨t349, A300, H⟩ := H
            replace H : ((torusref04_Coef.f k l1 a4).bind fun t350 => (toruslaw04_ColumnMatches.j0 k a0 l1 l2 a3 t337 t340 (t349 != t350))) = some r := H
            have A30 := Aside0.mk A300
            clear A300
            replace H := Option.bind_eq_some_iff.mp H
            obtain ⟨t350, A310, H⟩ := H
            replace H : (toruslaw04_ColumnMatches.j0 k a0 l1 l2 a3 t337 t340 (t349 != t350)) = some r := H
            have A31 := Aside0.mk A310
            clear A310
            have H' := Aside0.mk H
            clear H
            obtain ⟨Ao32, co32, eo32⟩ := Kd.R_slice HO339.out
            subst eo32
            go_wp2_with (first | ((with_reducible refine gate_callee (f := 24) rfl ?_); refine goesL_ (some 53) rfl rfl Try.func24 (by kernel_rfl) rfl #[.int .i64 a0, .slice Ao32 t337.length co32] rfl (by (try simp only [List.map_toArray, List.map_cons, List.map_nil]); first | done | rfl | (simp only [List.length_drop, List.length_take]; rfl)) ?_; (with_reducible refine (column_Check.calls k a0 _ _ t337 t347 _ ?side1 ?side2 A23.out).mono ?_); (case side1 => repeat (first | exact (Kd.R_reads' HO339.out).2.2 | (with_reducible refine Kd.C_alloc ?_ _) | (with_reducible refine Kd.C_drewN ?_ _) | (with_reducible refine Kd.C_drew ?_))); (case side2 => exact (Kd.R_reads' HO339.out).2.1); rintro e w33 ⟨rfl, hb⟩; refine ⟨_, rfl, ?_⟩; have n0_ := Aside0.mk (Kd.V_below (by (with_reducible repeat (first | apply Kd.V_alloc | apply Kd.V_drewN | apply Kd.V_drew)); exact HO1.out) hb); have n1_ := Aside0.mk (Kd.V_below (by (with_reducible repeat (first | apply Kd.V_alloc | apply Kd.V_drewN | apply Kd.V_drew)); exact HO2.out) hb); have n2_ := Aside0.mk (Kd.N_below (by (with_reducible repeat (first | apply Kd.N_alloc | apply Kd.N_drewN | apply Kd.N_drew)); exact HO334.out) hb); have n3_ := Aside0.mk (Kd.R_below (by (with_reducible repeat (first | apply Kd.R_alloc | apply Kd.R_drewN | apply Kd.R_drew)); exact HO339.out) hb); have n4_ := Aside0.mk (Kd.R_below (by (with_reducible repeat (first | apply Kd.R_alloc | apply Kd.R_drewN | apply Kd.R_drew)); exact HO342.out) hb); have n5_ := Aside0.mk (below_step (by repeat (first | (with_reducible first | exact HB.out | apply below_alloc | apply pw_below_drewN | apply below_drew1) | exact HB.out)) hb); clear HO1; clear HO2; clear HO334; clear HO339; clear HO342; clear HB; have HO1 := n0_; have HO2 := n1_; have HO334 := n2_; have HO339 := n3_; have HO342 := n4_; have HB := n5_; clear n0_ n1_ n2_ n3_ n4_ n5_; (try clear hb); (try clear hb2); (try clear hk); (try clear hi)) | ((with_reducible refine gate_callee (f := 25) rfl ?_); refine goesL_ (some 56) rfl rfl Try.func25 (by kernel_rfl) rfl #[.int .i64 a0, .slice A1 l1.length c1] rfl (by (try simp only [List.map_toArray, List.map_cons, List.map_nil]); first | done | rfl | (simp only [List.length_drop, List.length_take]; rfl)) ?_; (with_reducible refine (torusref04_Check.calls k a0 _ _ l1 t348 _ ?side1 ?side2 A24.out).mono ?_); (case side1 => repeat (first | exact (Kd.V_reads' HO1.out).2.2 | (with_reducible refine Kd.C_alloc ?_ _) | (with_reducible refine Kd.C_drewN ?_ _) | (with_reducible refine Kd.C_drew ?_))); (case side2 => exact (Kd.V_reads' HO1.out).2.1); rintro e w' ⟨rfl, ⟨nd, rfl⟩⟩; refine ⟨_, rfl, ?_⟩) | (go_at_call 26; (with_reducible refine (column_Coef.calls k _ _ l1 a4 t349 _ ?side1 ?side2 A30.out).mono ?_); (case side1 => repeat (first | exact (Kd.V_reads' HO1.out).2.2 | (with_reducible refine Kd.C_alloc ?_ _) | (with_reducible refine Kd.C_drewN ?_ _) | (with_reducible refine Kd.C_drew ?_))); (case side2 => exact (Kd.V_reads' HO1.out).2.1); rintro e w34 ⟨rfl, hb⟩; have n0_ := Aside0.mk (Kd.V_below (by (with_reducible repeat (first | apply Kd.V_alloc | apply Kd.V_drewN | apply Kd.V_drew)); exact HO1.out) hb); have n1_ := Aside0.mk (Kd.V_below (by (with_reducible repeat (first | apply Kd.V_alloc | apply Kd.V_drewN | apply Kd.V_drew)); exact HO2.out) hb); have n2_ := Aside0.mk (Kd.N_below (by (with_reducible repeat (first | apply Kd.N_alloc | apply Kd.N_drewN | apply Kd.N_drew)); exact HO334.out) hb); have n3_ := Aside0.mk (Kd.R_below (by (with_reducible repeat (first | apply Kd.R_alloc | apply Kd.R_drewN | apply Kd.R_drew)); exact HO339.out) hb); have n4_ := Aside0.mk (Kd.R_below (by (with_reducible repeat (first | apply Kd.R_alloc | apply Kd.R_drewN | apply Kd.R_drew)); exact HO342.out) hb); have n5_ := Aside0.mk (below_step (by repeat (first | (with_reducible first | exact HB.out | apply below_alloc | apply pw_below_drewN | apply below_drew1) | exact HB.out)) hb); clear HO1; clear HO2; clear HO334; clear HO339; clear HO342; clear HB; have HO1 := n0_; have HO2 := n1_; have HO334 := n2_; have HO339 := n3_; have HO342 := n4_; have HB := n5_; clear n0_ n1_ n2_ n3_ n4_ n5_; (try clear hb); (try clear hb2); (try clear hk); (try clear hi)) | (go_at_call 27; (with_reducible refine (torusref04_Coef.calls k _ _ l1 a4 t350 _ ?side1 ?side2 A31.out).mono ?_); (case side1 => repeat (first | exact (Kd.V_reads' HO1.out).2.2 | (with_reducible refine Kd.C_alloc ?_ _) | (with_reducible refine Kd.C_drewN ?_ _) | (with_reducible refine Kd.C_drew ?_))); (case side2 => exact (Kd.V_reads' HO1.out).2.1); rintro e w' ⟨rfl, ⟨nd, rfl⟩⟩))
            go_meet
            case rel => exact ⟨_, ((t349 != t350)), (by first | rfl | (simp; done) | (simp [*]; done)), H', ⟨by first | omega | exact Nat.le_refl _⟩, ⟨by (with_reducible repeat (first | apply Kd.V_alloc | apply Kd.V_drewN | apply Kd.V_drew)); exact Kd.V_mono HO1.out (fun _ hk => ⟨hk.1.1.1, ⟨hk.1.2, hk.2⟩⟩)⟩, ⟨by (with_reducible repeat (first | apply Kd.V_alloc | apply Kd.V_drewN | apply Kd.V_drew)); exact Kd.V_mono HO2.out (fun _ hk => ⟨hk.1.1.1, ⟨hk.1.2, hk.2⟩⟩)⟩, ⟨by (with_reducible repeat (first | apply Kd.R_alloc | apply Kd.R_drewN | apply Kd.R_drew)); exact Kd.R_mono HO339.out (fun _ hk => ⟨hk.1.1, hk.2⟩)⟩, ⟨by (with_reducible repeat (first | apply Kd.R_alloc | apply Kd.R_drewN | apply Kd.R_drew)); exact Kd.R_mono HO342.out (fun _ hk => ⟨hk.1.1, hk.2⟩)⟩, ⟨by repeat (first | (with_reducible first | exact HB.out | apply below_alloc | apply pw_below_drewN | apply below_drew1) | exact HB.out)⟩⟩
        · rw [if_neg c26] at H
          exact absurd H (by rw [hrt]; exact toruslaw04_ColumnMatches.j0_dead _ _ _ _ _ _ _)
      · rw [if_neg c25] at H
        exact absurd H (by rw [hrt]; exact toruslaw04_ColumnMatches.j0_dead _ _ _ _ _ _ _)
    case rest =>
      clear HC17
      try clear c1
      try clear c2
      try clear p2
      try clear c4
      try clear c7
      try clear c19
      try clear c20
      try clear c21
      try clear c22
      try clear c23
      try clear c24
      try clear c25
      try clear c25b0
      try clear c25b1
      try clear c26
      try clear c26b0
      try clear c26b1
      try clear c27
      try clear c27b0
      try clear c27b1
      try clear c27b2
      obtain ⟨kq, x76_16, rfl, HA, HJ16, HO_1, HO_2, HO_11, HO_12, HB⟩ := hcut
      cases kq with
      | zero => exact absurd HA.out (by simp [toruslaw04_ColumnMatches.j0])
      | succ kj16 =>
        have H := HA.out
        clear HA
        simp only [toruslaw04_ColumnMatches.j0] at H
        by_cases c39 : x76_16 = true
        · subst c39
          have H1 : (some false) = some r := by rw [if_pos rfl] at H; exact H
          clear H
          have H := H1
          clear H1
          exact absurd (Option.some.inj H) (by rw [hrt]; exact Bool.false_ne_true)
        · replace c39 := Bool.eq_false_iff.mpr c39
          subst c39
          have H1 : (toruslaw04_ColumnMatches.l0 kj16 a0 l1 l2 a3 t337 t340 0) = some r := by rw [if_neg (show ¬ (false = true) by decide)] at H; exact H
          clear H
          have H := H1
          clear H1
          have H' := Aside0.mk H
          clear H
          go_wp2
          go_loopg [17] kj16 (fun kq v17 w' => ∃ (x1_2 : List (S45)) (x2_2 : List (S45)) (x11_2 : List (S45)) (x12_2 : List (S45)) (x17_2 : Int), v17 = .int .i64 x17_2 ∧ Aside0 (toruslaw04_ColumnMatches.l0 kq a0 x1_2 x2_2 a3 x11_2 x12_2 x17_2 = some r) ∧ Aside0 (kq ≤ kj16) ∧ Aside0 (Kd.V k45 45 w' w.heap.size (fun k_ => ((P1_ k_ ∨ P2_ k_) ∨ w.heap.size ≤ k_) ∧ some k_ ≠ (v338 : Value).ownBlock ∧ some k_ ≠ (v341 : Value).ownBlock) (.slice A1 l1.length c1) x1_2) ∧ Aside0 (Kd.V k45 45 w' w.heap.size (fun k_ => ((P1_ k_ ∨ P2_ k_) ∨ w.heap.size ≤ k_) ∧ some k_ ≠ (v338 : Value).ownBlock ∧ some k_ ≠ (v341 : Value).ownBlock) (.slice A2 l2.length c2) x2_2) ∧ Aside0 (Kd.R k45 45 w' w.heap.size (fun k_ => (w.heap.size ≤ k_) ∧ some k_ ≠ (v341 : Value).ownBlock) v338 x11_2) ∧ Aside0 (Kd.R k45 45 w' w.heap.size (fun k_ => (w.heap.size ≤ k_) ∧ some k_ ≠ (v338 : Value).ownBlock) v341 x12_2) ∧ Aside0 (Below w.heap.size w w'))
          case atStart => exact ⟨(l1), (l2), (t337), (t340), (0), (by first | rfl | (simp; done) | (simp [*]; done)), H', ⟨Nat.le_refl _⟩, ⟨by (with_reducible repeat (first | apply Kd.V_alloc | apply Kd.V_drewN | apply Kd.V_drew)); exact HO_1.out⟩, ⟨by (with_reducible repeat (first | apply Kd.V_alloc | apply Kd.V_drewN | apply Kd.V_drew)); exact HO_2.out⟩, ⟨by (with_reducible repeat (first | apply Kd.R_alloc | apply Kd.R_drewN | apply Kd.R_drew)); exact HO_11.out⟩, ⟨by (with_reducible repeat (first | apply Kd.R_alloc | apply Kd.R_drewN | apply Kd.R_drew)); exact HO_12.out⟩, ⟨by repeat (first | (with_reducible first | exact HB.out | apply below_alloc | apply pw_below_drewN | apply below_drew1) | exact HB.out)⟩⟩
          case round =>
            clear H'
            try clear c1
            try clear c2
            try clear p2
            try clear c3
            try clear c4
            try clear c7
            try clear c19
            try clear c20
            try clear c21
            try clear c22
            try clear c23
            try clear c24
            try clear c25
            try clear c25b0
            try clear c25b1
            try clear c26
            try clear c26b0
            try clear c26b1
            try clear c27
            try clear c27b0
            try clear c27b1
            try clear c27b2
            try clear c39
            try clear p2
            obtain ⟨x1_2, x2_2, x11_2, x12_2, x17_2, rfl, HA, HK2, HO_1, HO_2, HO_11, HO_12, HB⟩ := hrel
            have hl1_2 := (Kd.V_reads' HO_1.out).1
            rw [hl1_2] at HO_1
            (try simp only [hl1_2])
            (try simp only [hl1_2] at HO_2)
            (try simp only [hl1_2] at HO_11)
            (try simp only [hl1_2] at HO_12)
            have hl2_2 := (Kd.V_reads' HO_2.out).1
            rw [hl2_2] at HO_2
            (try simp only [hl2_2])
            (try simp only [hl2_2] at HO_1)
            (try simp only [hl2_2] at HO_11)
            (try simp only [hl2_2] at HO_12)
            cases gk with
            | zero => exact absurd HA.out (by simp [toruslaw04_ColumnMatches.l0])
            | succ k2 =>
              have H := HA.out
              clear HA
              simp only [toruslaw04_ColumnMatches.l0] at H
              by_cases c40 : x17_2 < 2
              · rw [if_pos c40] at H
                have c40b0 : decide (x17_2 < 2) = true := decide_eq_true c40
                clear c40
                replace H := Option.bind_eq_some_iff.mp H
                obtain ⟨⟨t351, t354⟩, A410, H⟩ := H
                replace H : ((torusref04_Add.f k2 a0 x1_2 a3 x2_2).bind fun bt355 => ((column_Scale.f k2 a0 x11_2 a3).bind fun bt359 => ((torusref04_Scale.f k2 a0 x1_2 a3).bind fun bt363 => ((torusref04_Same.f k2 t351 bt355.1).bind fun t367 => (if t367 = true then (if t354 = bt355.2 then ((torusref04_Same.f k2 bt359.1 bt363.1).bind fun t368 => (if t368 = true then (toruslaw04_ColumnMatches.j2 k2 a0 x1_2 x2_2 a3 x11_2 x12_2 x17_2 t351 bt359.1 (bt359.2 != bt363.2)) else (toruslaw04_ColumnMatches.j2 k2 a0 x1_2 x2_2 a3 x11_2 x12_2 x17_2 t351 bt359.1 true))) else (toruslaw04_ColumnMatches.j2 k2 a0 x1_2 x2_2 a3 x11_2 x12_2 x17_2 t351 bt359.1 true)) else (toruslaw04_ColumnMatches.j2 k2 a0 x1_2 x2_2 a3 x11_2 x12_2 x17_2 t351 bt359.1 true)))))) = some r := H
                have A41 := Aside0.mk A410
                clear A410
                replace H := Option.bind_eq_some_iff.mp H
                obtain ⟨⟨t355, t358⟩, A420, H⟩ := H
                replace H : ((column_Scale.f k2 a0 x11_2 a3).bind fun bt359 => ((torusref04_Scale.f k2 a0 x1_2 a3).bind fun bt363 => ((torusref04_Same.f k2 t351 t355).bind fun t367 => (if t367 = true then (if t354 = t358 then ((torusref04_Same.f k2 bt359.1 bt363.1).bind fun t368 => (if t368 = true then (toruslaw04_ColumnMatches.j2 k2 a0 x1_2 x2_2 a3 x11_2 x12_2 x17_2 t351 bt359.1 (bt359.2 != bt363.2)) else (toruslaw04_ColumnMatches.j2 k2 a0 x1_2 x2_2 a3 x11_2 x12_2 x17_2 t351 bt359.1 true))) else (toruslaw04_ColumnMatches.j2 k2 a0 x1_2 x2_2 a3 x11_2 x12_2 x17_2 t351 bt359.1 true)) else (toruslaw04_ColumnMatches.j2 k2 a0 x1_2 x2_2 a3 x11_2 x12_2 x17_2 t351 bt359.1 true))))) = some r := H
                have A42 := Aside0.mk A420
                clear A420
                replace H := Option.bind_eq_some_iff.mp H
                obtain ⟨⟨t359, t360⟩, A430, H⟩ := H
                replace H : ((torusref04_Scale.f k2 a0 x1_2 a3).bind fun bt363 => ((torusref04_Same.f k2 t351 t355).bind fun t367 => (if t367 = true then (if t354 = t358 then ((torusref04_Same.f k2 t359 bt363.1).bind fun t368 => (if t368 = true then (toruslaw04_ColumnMatches.j2 k2 a0 x1_2 x2_2 a3 x11_2 x12_2 x17_2 t351 t359 (t360 != bt363.2)) else (toruslaw04_ColumnMatches.j2 k2 a0 x1_2 x2_2 a3 x11_2 x12_2 x17_2 t351 t359 true))) else (toruslaw04_ColumnMatches.j2 k2 a0 x1_2 x2_2 a3 x11_2 x12_2 x17_2 t351 t359 true)) else (toruslaw04_ColumnMatches.j2 k2 a0 x1_2 x2_2 a3 x11_2 x12_2 x17_2 t351 t359 true)))) = some r := H
                have A43 := Aside0.mk A430
                clear A430
                replace H := Option.bind_eq_some_iff.mp H
                obtain ⟨⟨t363, t364⟩, A440, H⟩ := H
                replace H : ((torusref04_Same.f k2 t351 t355).bind fun t367 => (if t367 = true then (if t354 = t358 then ((torusref04_Same.f k2 t359 t363).bind fun t368 => (if t368 = true then (toruslaw04_ColumnMatches.j2 k2 a0 x1_2 x2_2 a3 x11_2 x12_2 x17_2 t351 t359 (t360 != t364)) else (toruslaw04_ColumnMatches.j2 k2 a0 x1_2 x2_2 a3 x11_2 x12_2 x17_2 t351 t359 true))) else (toruslaw04_ColumnMatches.j2 k2 a0 x1_2 x2_2 a3 x11_2 x12_2 x17_2 t351 t359 true)) else (toruslaw04_ColumnMatches.j2 k2 a0 x1_2 x2_2 a3 x11_2 x12_2 x17_2 t351 t359 true))) = some r := H
                have A44 := Aside0.mk A440
                clear A440
                have HC45 := Aside0.mk H
                clear H
                obtain ⟨Ao46, co46, eo46⟩ := Kd.R_slice HO_11.out
                subst eo46
                obtain ⟨Ao47, co47, eo47⟩ := Kd.R_slice HO_12.out
                subst eo47
                go_upto_region 15 with (first | ((with_reducible refine gate_callee (f := 28) rfl ?_); refine goesL_ (some 86) rfl rfl Try.func28 (by kernel_rfl) rfl #[.int .i64 a0, .slice Ao46 x11_2.length co46, .int .i64 a3, .slice Ao47 x12_2.length co47] rfl (by (try simp only [List.map_toArray, List.map_cons, List.map_nil]); first | done | rfl | (simp only [List.length_drop, List.length_take]; rfl)) ?_; (with_reducible refine (column_Add.calls k2 a0 (fun k_ => some k_ = (.slice Ao46 x11_2.length co46 : Value).ownBlock) _ _ x11_2 a3 (fun k_ => some k_ = (.slice Ao47 x12_2.length co47 : Value).ownBlock) _ _ x12_2 t351 t354 _ ?side1 ?side2 A41.out).mono ?_); (case side1 => exact Kd.R_V (Kd.R_tight rfl (HO_11.out))); (case side2 => exact Kd.R_V (Kd.R_tight rfl (HO_12.out))); rintro e w48 ⟨v352, rfl, ho0, hb⟩; refine ⟨_, rfl, ?_⟩; have n0_ := Aside0.mk (Kd.V_elder' (by (with_reducible repeat (first | apply Kd.V_alloc | apply Kd.V_drewN | apply Kd.V_drew)); exact HO_1.out) (Kd.R_base ho0) hb); have n1_ := Aside0.mk (Kd.V_elder' (by (with_reducible repeat (first | apply Kd.V_alloc | apply Kd.V_drewN | apply Kd.V_drew)); exact HO_2.out) (Kd.R_base ho0) hb); have n2_ := Aside0.mk (Kd.R_elder' (by (with_reducible repeat (first | apply Kd.R_alloc | apply Kd.R_drewN | apply Kd.R_drew)); exact HO_11.out) (Kd.R_base ho0) hb); have n3_ := Aside0.mk (Kd.R_elder' (by (with_reducible repeat (first | apply Kd.R_alloc | apply Kd.R_drewN | apply Kd.R_drew)); exact HO_12.out) (Kd.R_base ho0) hb); have n4_ := Aside0.mk (Kd.R_lower (Kd.R_new' (Kd.R_new' (Kd.R_newM (M := fun k_ => (w.heap.size ≤ k_)) (Kd.R_mono (ok' := fun k_ => True) ho0 (fun _ hk_ => trivial)) (below_size (by repeat (first | (with_reducible first | exact HB.out | apply below_alloc | apply pw_below_drewN | apply below_drew1) | exact HB.out))) (fun k_ h_ => h_)) (Kd.R_lt (by (with_reducible repeat (first | apply Kd.R_alloc | apply Kd.R_drewN | apply Kd.R_drew)); exact HO_11.out))) (Kd.R_lt (by (with_reducible repeat (first | apply Kd.R_alloc | apply Kd.R_drewN | apply Kd.R_drew)); exact HO_12.out))) (below_size (by repeat (first | (with_reducible first | exact HB.out | apply below_alloc | apply pw_below_drewN | apply below_drew1) | exact HB.out)))); have n5_ := Aside0.mk (below_step (by repeat (first | (with_reducible first | exact HB.out | apply below_alloc | apply pw_below_drewN | apply below_drew1) | exact HB.out)) hb); clear HO_1; clear HO_2; clear HO_11; clear HO_12; clear HB; have HO_1 := n0_; have HO_2 := n1_; have HO_11 := n2_; have HO_12 := n3_; have HO353 := n4_; have HB := n5_; clear n0_ n1_ n2_ n3_ n4_ n5_; (try clear hb); (try clear hb2); (try clear hk); (try clear hi); (try clear ho0)) | ((with_reducible refine gate_callee (f := 29) rfl ?_); refine goesL_ (some 94) rfl rfl Try.func29 (by kernel_rfl) rfl #[.int .i64 a0, .slice A1 x1_2.length c1, .int .i64 a3, .slice A2 x2_2.length c2] rfl (by (try simp only [List.map_toArray, List.map_cons, List.map_nil]); first | done | rfl | (simp only [List.length_drop, List.length_take]; rfl)) ?_; (with_reducible refine (torusref04_Add.calls k2 a0 (fun k_ => ((((P1_ k_ ∨ P2_ k_) ∨ w.heap.size ≤ k_) ∧ (some k_ ≠ (.slice Ao46 x11_2.length co46 : Value).ownBlock ∧ some k_ ≠ (.slice Ao47 x12_2.length co47 : Value).ownBlock)) ∧ some k_ ≠ (v352 : Value).ownBlock)) _ _ x1_2 a3 (fun k_ => ((((P1_ k_ ∨ P2_ k_) ∨ w.heap.size ≤ k_) ∧ (some k_ ≠ (.slice Ao46 x11_2.length co46 : Value).ownBlock ∧ some k_ ≠ (.slice Ao47 x12_2.length co47 : Value).ownBlock)) ∧ some k_ ≠ (v352 : Value).ownBlock)) _ _ x2_2 t355 t358 _ ?side1 ?side2 A42.out).mono ?_); (case side1 => exact HO_1.out); (case side2 => exact HO_2.out); rintro e w49 ⟨v356, rfl, ho0, hb⟩; refine ⟨_, rfl, ?_⟩; have n0_ := Aside0.mk (Kd.V_elder' (by (with_reducible repeat (first | apply Kd.V_alloc | apply Kd.V_drewN | apply Kd.V_drew)); exact HO_1.out) (Kd.R_base ho0) hb); have n1_ := Aside0.mk (Kd.V_elder' (by (with_reducible repeat (first | apply Kd.V_alloc | apply Kd.V_drewN | apply Kd.V_drew)); exact HO_2.out) (Kd.R_base ho0) hb); have n2_ := Aside0.mk (Kd.R_elder' (by (with_reducible repeat (first | apply Kd.R_alloc | apply Kd.R_drewN | apply Kd.R_drew)); exact HO_11.out) (Kd.R_base ho0) hb); have n3_ := Aside0.mk (Kd.R_elder' (by (with_reducible repeat (first | apply Kd.R_alloc | apply Kd.R_drewN | apply Kd.R_drew)); exact HO_12.out) (Kd.R_base ho0) hb); have n4_ := Aside0.mk (Kd.R_elder' (by (with_reducible repeat (first | apply Kd.R_alloc | apply Kd.R_drewN | apply Kd.R_drew)); exact HO353.out) (Kd.R_base ho0) hb); have n5_ := Aside0.mk (Kd.R_lower (Kd.R_new' (Kd.R_new' (Kd.R_new' (Kd.R_newM (M := fun k_ => (w.heap.size ≤ k_)) (Kd.R_mono (ok' := fun k_ => True) ho0 (fun _ hk_ => trivial)) (below_size (by repeat (first | (with_reducible first | exact HB.out | apply below_alloc | apply pw_below_drewN | apply below_drew1) | exact HB.out))) (fun k_ h_ => h_)) (Kd.R_lt (by (with_reducible repeat (first | apply Kd.R_alloc | apply Kd.R_drewN | apply Kd.R_drew)); exact HO_11.out))) (Kd.R_lt (by (with_reducible repeat (first | apply Kd.R_alloc | apply Kd.R_drewN | apply Kd.R_drew)); exact HO_12.out))) (Kd.R_lt (by (with_reducible repeat (first | apply Kd.R_alloc | apply Kd.R_drewN | apply Kd.R_drew)); exact HO353.out))) (below_size (by repeat (first | (with_reducible first | exact HB.out | apply below_alloc | apply pw_below_drewN | apply below_drew1) | exact HB.out)))); have n6_ := Aside0.mk (below_step (by repeat (first | (with_reducible first | exact HB.out | apply below_alloc | apply pw_below_drewN | apply below_drew1) | exact HB.out)) hb); clear HO_1; clear HO_2; clear HO_11; clear HO_12; clear HO353; clear HB; have HO_1 := n0_; have HO_2 := n1_; have HO_11 := n2_; have HO_12 := n3_; have HO353 := n4_; have HO357 := n5_; have HB := n6_; clear n0_ n1_ n2_ n3_ n4_ n5_ n6_; (try clear hb); (try clear hb2); (try clear hk); (try clear hi); (try clear ho0)) | ((with_reducible refine gate_callee (f := 17) rfl ?_); refine goesL_ (some 101) rfl rfl Try.func17 (by kernel_rfl) rfl #[.int .i64 a0, .slice Ao46 x11_2.length co46, .int .i64 a3] rfl (by (try simp only [List.map_toArray, List.map_cons, List.map_nil]); first | done | rfl | (simp only [List.length_drop, List.length_take]; rfl)) ?_; (with_reducible refine (column_Scale.calls k2 a0 _ _ x11_2 a3 t359 t360 _ ?side1 ?side2 A43.out).mono ?_); (case side1 => repeat (first | exact (Kd.R_reads' HO_11.out).2.2 | (with_reducible refine Kd.C_alloc ?_ _) | (with_reducible refine Kd.C_drewN ?_ _) | (with_reducible refine Kd.C_drew ?_))); (case side2 => exact (Kd.R_reads' HO_11.out).2.1); rintro e w50 ⟨v361, rfl, ho0, hb⟩; refine ⟨_, rfl, ?_⟩; have n0_ := Aside0.mk (Kd.V_elder' (by (with_reducible repeat (first | apply Kd.V_alloc | apply Kd.V_drewN | apply Kd.V_drew)); exact HO_1.out) (Kd.R_base ho0) hb); have n1_ := Aside0.mk (Kd.V_elder' (by (with_reducible repeat (first | apply Kd.V_alloc | apply Kd.V_drewN | apply Kd.V_drew)); exact HO_2.out) (Kd.R_base ho0) hb); have n2_ := Aside0.mk (Kd.R_elder' (by (with_reducible repeat (first | apply Kd.R_alloc | apply Kd.R_drewN | apply Kd.R_drew)); exact HO_11.out) (Kd.R_base ho0) hb); have n3_ := Aside0.mk (Kd.R_elder' (by (with_reducible repeat (first | apply Kd.R_alloc | apply Kd.R_drewN | apply Kd.R_drew)); exact HO_12.out) (Kd.R_base ho0) hb); have n4_ := Aside0.mk (Kd.R_elder' (by (with_reducible repeat (first | apply Kd.R_alloc | apply Kd.R_drewN | apply Kd.R_drew)); exact HO353.out) (Kd.R_base ho0) hb); have n5_ := Aside0.mk (Kd.R_elder' (by (with_reducible repeat (first | apply Kd.R_alloc | apply Kd.R_drewN | apply Kd.R_drew)); exact HO357.out) (Kd.R_base ho0) hb); have n6_ := Aside0.mk (Kd.R_lower (Kd.R_new' (Kd.R_new' (Kd.R_new' (Kd.R_new' (Kd.R_newM (M := fun k_ => (w.heap.size ≤ k_)) ho0 (below_size (by repeat (first | (with_reducible first | exact HB.out | apply below_alloc | apply pw_below_drewN | apply below_drew1) | exact HB.out))) (fun k_ h_ => h_)) (Kd.R_lt (by (with_reducible repeat (first | apply Kd.R_alloc | apply Kd.R_drewN | apply Kd.R_drew)); exact HO_11.out))) (Kd.R_lt (by (with_reducible repeat (first | apply Kd.R_alloc | apply Kd.R_drewN | apply Kd.R_drew)); exact HO_12.out))) (Kd.R_lt (by (with_reducible repeat (first | apply Kd.R_alloc | apply Kd.R_drewN | apply Kd.R_drew)); exact HO353.out))) (Kd.R_lt (by (with_reducible repeat (first | apply Kd.R_alloc | apply Kd.R_drewN | apply Kd.R_drew)); exact HO357.out))) (below_size (by repeat (first | (with_reducible first | exact HB.out | apply below_alloc | apply pw_below_drewN | apply below_drew1) | exact HB.out)))); have n7_ := Aside0.mk (below_step (by repeat (first | (with_reducible first | exact HB.out | apply below_alloc | apply pw_below_drewN | apply below_drew1) | exact HB.out)) hb); clear HO_1; clear HO_2; clear HO_11; clear HO_12; clear HO353; clear HO357; clear HB; have HO_1 := n0_; have HO_2 := n1_; have HO_11 := n2_; have HO_12 := n3_; have HO353 := n4_; have HO357 := n5_; have HO362 := n6_; have HB := n7_; clear n0_ n1_ n2_ n3_ n4_ n5_ n6_ n7_; (try clear hb); (try clear hb2); (try clear hk); (try clear hi); (try clear ho0)) | ((with_reducible refine gate_callee (f := 30) rfl ?_); refine goesL_ (some 108) rfl rfl Try.func30 (by kernel_rfl) rfl #[.int .i64 a0, .slice A1 x1_2.length c1, .int .i64 a3] rfl (by (try simp only [List.map_toArray, List.map_cons, List.map_nil]); first | done | rfl | (simp only [List.length_drop, List.length_take]; rfl)) ?_; (with_reducible refine (torusref04_Scale.calls k2 a0 _ _ x1_2 a3 t363 t364 _ ?side1 ?side2 A44.out).mono ?_); (case side1 => repeat (first | exact (Kd.V_reads' HO_1.out).2.2 | (with_reducible refine Kd.C_alloc ?_ _) | (with_reducible refine Kd.C_drewN ?_ _) | (with_reducible refine Kd.C_drew ?_))); (case side2 => exact (Kd.V_reads' HO_1.out).2.1); rintro e w51 ⟨v365, rfl, ho0, hb⟩; refine ⟨_, rfl, ?_⟩; have n0_ := Aside0.mk (Kd.V_elder' (by (with_reducible repeat (first | apply Kd.V_alloc | apply Kd.V_drewN | apply Kd.V_drew)); exact HO_1.out) (Kd.R_base ho0) hb); have n1_ := Aside0.mk (Kd.V_elder' (by (with_reducible repeat (first | apply Kd.V_alloc | apply Kd.V_drewN | apply Kd.V_drew)); exact HO_2.out) (Kd.R_base ho0) hb); have n2_ := Aside0.mk (Kd.R_elder' (by (with_reducible repeat (first | apply Kd.R_alloc | apply Kd.R_drewN | apply Kd.R_drew)); exact HO_11.out) (Kd.R_base ho0) hb); have n3_ := Aside0.mk (Kd.R_elder' (by (with_reducible repeat (first | apply Kd.R_alloc | apply Kd.R_drewN | apply Kd.R_drew)); exact HO_12.out) (Kd.R_base ho0) hb); have n4_ := Aside0.mk (Kd.R_elder' (by (with_reducible repeat (first | apply Kd.R_alloc | apply Kd.R_drewN | apply Kd.R_drew)); exact HO353.out) (Kd.R_base ho0) hb); have n5_ := Aside0.mk (Kd.R_elder' (by (with_reducible repeat (first | apply Kd.R_alloc | apply Kd.R_drewN | apply Kd.R_drew)); exact HO357.out) (Kd.R_base ho0) hb); have n6_ := Aside0.mk (Kd.R_elder' (by (with_reducible repeat (first | apply Kd.R_alloc | apply Kd.R_drewN | apply Kd.R_drew)); exact HO362.out) (Kd.R_base ho0) hb); have n7_ := Aside0.mk (Kd.R_lower (Kd.R_new' (Kd.R_new' (Kd.R_new' (Kd.R_new' (Kd.R_new' (Kd.R_newM (M := fun k_ => (w.heap.size ≤ k_)) ho0 (below_size (by repeat (first | (with_reducible first | exact HB.out | apply below_alloc | apply pw_below_drewN | apply below_drew1) | exact HB.out))) (fun k_ h_ => h_)) (Kd.R_lt (by (with_reducible repeat (first | apply Kd.R_alloc | apply Kd.R_drewN | apply Kd.R_drew)); exact HO_11.out))) (Kd.R_lt (by (with_reducible repeat (first | apply Kd.R_alloc | apply Kd.R_drewN | apply Kd.R_drew)); exact HO_12.out))) (Kd.R_lt (by (with_reducible repeat (first | apply Kd.R_alloc | apply Kd.R_drewN | apply Kd.R_drew)); exact HO353.out))) (Kd.R_lt (by (with_reducible repeat (first | apply Kd.R_alloc | apply Kd.R_drewN | apply Kd.R_drew)); exact HO357.out))) (Kd.R_lt (by (with_reducible repeat (first | apply Kd.R_alloc | apply Kd.R_drewN | apply Kd.R_drew)); exact HO362.out))) (below_size (by repeat (first | (with_reducible first | exact HB.out | apply below_alloc | apply pw_below_drewN | apply below_drew1) | exact HB.out)))); have n8_ := Aside0.mk (below_step (by repeat (first | (with_reducible first | exact HB.out | apply below_alloc | apply pw_below_drewN | apply below_drew1) | exact HB.out)) hb); clear HO_1; clear HO_2; clear HO_11; clear HO_12; clear HO353; clear HO357; clear HO362; clear HB; have HO_1 := n0_; have HO_2 := n1_; have HO_11 := n2_; have HO_12 := n3_; have HO353 := n4_; have HO357 := n5_; have HO362 := n6_; have HO366 := n7_; have HB := n8_; clear n0_ n1_ n2_ n3_ n4_ n5_ n6_ n7_ n8_; (try clear hb); (try clear hb2); (try clear hk); (try clear hi); (try clear ho0)))
                (try simp only [Act.put, List.setIfInBounds_toArray, List.set_cons_zero, List.set_cons_succ])
                go_cut [130] (fun v130 wc => ∃ (kq : Nat) (x130_44 : Bool), v130 = .bool x130_44 ∧ Aside0 (toruslaw04_ColumnMatches.j2 kq a0 x1_2 x2_2 a3 x11_2 x12_2 x17_2 t351 t359 x130_44 = some r) ∧ Aside0 (kq ≤ k2) ∧ Aside0 (Kd.V k45 45 wc w.heap.size (fun k_ => ((P1_ k_ ∨ P2_ k_) ∨ w.heap.size ≤ k_) ∧ some k_ ≠ ((.slice Ao46 x11_2.length co46) : Value).ownBlock ∧ some k_ ≠ ((.slice Ao47 x12_2.length co47) : Value).ownBlock ∧ some k_ ≠ (v352 : Value).ownBlock ∧ some k_ ≠ (v361 : Value).ownBlock) (.slice A1 x1_2.length c1) x1_2) ∧ Aside0 (Kd.V k45 45 wc w.heap.size (fun k_ => ((P1_ k_ ∨ P2_ k_) ∨ w.heap.size ≤ k_) ∧ some k_ ≠ ((.slice Ao46 x11_2.length co46) : Value).ownBlock ∧ some k_ ≠ ((.slice Ao47 x12_2.length co47) : Value).ownBlock ∧ some k_ ≠ (v352 : Value).ownBlock ∧ some k_ ≠ (v361 : Value).ownBlock) (.slice A2 x2_2.length c2) x2_2) ∧ Aside0 (Kd.R k45 45 wc w.heap.size (fun k_ => (w.heap.size ≤ k_) ∧ some k_ ≠ ((.slice Ao47 x12_2.length co47) : Value).ownBlock ∧ some k_ ≠ (v352 : Value).ownBlock ∧ some k_ ≠ (v361 : Value).ownBlock) (.slice Ao46 x11_2.length co46) x11_2) ∧ Aside0 (Kd.R k45 45 wc w.heap.size (fun k_ => (w.heap.size ≤ k_) ∧ some k_ ≠ ((.slice Ao46 x11_2.length co46) : Value).ownBlock ∧ some k_ ≠ (v352 : Value).ownBlock ∧ some k_ ≠ (v361 : Value).ownBlock) (.slice Ao47 x12_2.length co47) x12_2) ∧ Aside0 (Kd.R k45 45 wc w.heap.size (fun k_ => (w.heap.size ≤ k_) ∧ some k_ ≠ ((.slice Ao46 x11_2.length co46) : Value).ownBlock ∧ some k_ ≠ ((.slice Ao47 x12_2.length co47) : Value).ownBlock ∧ some k_ ≠ (v361 : Value).ownBlock) v352 t351) ∧ Aside0 (Kd.R k45 45 wc w.heap.size (fun k_ => (w.heap.size ≤ k_) ∧ some k_ ≠ ((.slice Ao46 x11_2.length co46) : Value).ownBlock ∧ some k_ ≠ ((.slice Ao47 x12_2.length co47) : Value).ownBlock ∧ some k_ ≠ (v352 : Value).ownBlock) v361 t359) ∧ Aside0 (Below w.heap.size w wc))
                case first =>
                  have H := HC45.out
                  clear HC45
                  replace H := Option.bind_eq_some_iff.mp H
                  obtain ⟨t367, A520, H⟩ := H
                  replace H : (if t367 = true then (if t354 = t358 then ((torusref04_Same.f k2 t359 t363).bind fun t368 => (if t368 = true then (toruslaw04_ColumnMatches.j2 k2 a0 x1_2 x2_2 a3 x11_2 x12_2 x17_2 t351 t359 (t360 != t364)) else (toruslaw04_ColumnMatches.j2 k2 a0 x1_2 x2_2 a3 x11_2 x12_2 x17_2 t351 t359 true))) else (toruslaw04_ColumnMatches.j2 k2 a0 x1_2 x2_2 a3 x11_2 x12_2 x17_2 t351 t359 true)) else (toruslaw04_ColumnMatches.j2 k2 a0 x1_2 x2_2 a3 x11_2 x12_2 x17_2 t351 t359 true)) = some r := H
                  have A52 := Aside0.mk A520
                  clear A520
                  by_cases c53 : t367 = true
                  · subst c53
                    have H1 : (if t354 = t358 then ((torusref04_Same.f k2 t359 t363).bind fun t368 => (if t368 = true then (toruslaw04_ColumnMatches.j2 k2 a0 x1_2 x2_2 a3 x11_2 x12_2 x17_2 t351 t359 (t360 != t364)) else (toruslaw04_ColumnMatches.j2 k2 a0 x1_2 x2_2 a3 x11_2 x12_2 x17_2 t351 t359 true))) else (toruslaw04_ColumnMatches.j2 k2 a0 x1_2 x2_2 a3 x11_2 x12_2 x17_2 t351 t359 true)) = some r := by rw [if_pos rfl] at H; exact H
                    clear H
                    have H := H1
                    clear H1
                    by_cases c54 : t354 = t358
                    · rw [if_pos c54] at H
                      have c54b0 : (t354 == t358) = true := beq_iff_eq.mpr c54
                      have c54b1 : (t354 != t358) = false := bne_eq_false_iff_eq.mpr c54
                      clear c54
                      (first | rw [c54b0] | (simp only [i64_w, i32_w]; rw [c54b0]) | skip)
                      replace H := Option.bind_eq_some_iff.mp H
                      obtain ⟨t368, A550, H⟩ := H
                      replace H : (if t368 = true then (toruslaw04_ColumnMatches.j2 k2 a0 x1_2 x2_2 a3 x11_2 x12_2 x17_2 t351 t359 (t360 != t364)) else (toruslaw04_ColumnMatches.j2 k2 a0 x1_2 x2_2 a3 x11_2 x12_2 x17_2 t351 t359 true)) = some r := H
                      have A55 := Aside0.mk A550
                      clear A550
                      by_cases c56 : t368 = true
                      · subst c56
                        have H1 : (toruslaw04_ColumnMatches.j2 k2 a0 x1_2 x2_2 a3 x11_2 x12_2 x17_2 t351 t359 (t360 != t364)) = some r := by rw [if_pos rfl] at H; exact H
                        clear H
                        have H := H1
                        clear H1
                        have H' := Aside0.mk H
                        clear H
                        obtain ⟨Ao57, co57, eo57⟩ := Kd.R_slice HO353.out
                        subst eo57
                        obtain ⟨Ao58, co58, eo58⟩ := Kd.R_slice HO357.out
                        subst eo58
                        go_wp2_with (first | ((with_reducible refine gate_callee (f := 15) rfl ?_); refine goesL_ (some 113) rfl rfl Try.func15 (by kernel_rfl) rfl #[.slice Ao57 t351.length co57, .slice Ao58 t355.length co58] rfl (by (try simp only [List.map_toArray, List.map_cons, List.map_nil]); first | done | rfl | (simp only [List.length_drop, List.length_take]; rfl)) ?_; (with_reducible refine (torusref04_Same.calls k2 _ _ t351 _ _ t355 true _ ?side1 ?side2 ?side3 ?side4 A52.out).mono ?_); (case side1 => repeat (first | exact (Kd.R_reads' HO353.out).2.2 | (with_reducible refine Kd.C_alloc ?_ _) | (with_reducible refine Kd.C_drewN ?_ _) | (with_reducible refine Kd.C_drew ?_))); (case side2 => exact (Kd.R_reads' HO353.out).2.1); (case side3 => repeat (first | exact (Kd.R_reads' HO357.out).2.2 | (with_reducible refine Kd.C_alloc ?_ _) | (with_reducible refine Kd.C_drewN ?_ _) | (with_reducible refine Kd.C_drew ?_))); (case side4 => exact (Kd.R_reads' HO357.out).2.1); rintro e w' ⟨rfl, ⟨nd, rfl⟩⟩; refine ⟨_, rfl, ?_⟩; obtain ⟨Ao59, co59, eo59⟩ := Kd.R_slice HO362.out; subst eo59; obtain ⟨Ao60, co60, eo60⟩ := Kd.R_slice HO366.out; subst eo60) | (go_at_call 15; (with_reducible refine (torusref04_Same.calls k2 _ _ t359 _ _ t363 true _ ?side1 ?side2 ?side3 ?side4 A55.out).mono ?_); (case side1 => repeat (first | exact (Kd.R_reads' HO362.out).2.2 | (with_reducible refine Kd.C_alloc ?_ _) | (with_reducible refine Kd.C_drewN ?_ _) | (with_reducible refine Kd.C_drew ?_))); (case side2 => exact (Kd.R_reads' HO362.out).2.1); (case side3 => repeat (first | exact (Kd.R_reads' HO366.out).2.2 | (with_reducible refine Kd.C_alloc ?_ _) | (with_reducible refine Kd.C_drewN ?_ _) | (with_reducible refine Kd.C_drew ?_))); (case side4 => exact (Kd.R_reads' HO366.out).2.1); rintro e w' ⟨rfl, ⟨nd, rfl⟩⟩))
                        go_meet
                        case rel => exact ⟨_, ((t360 != t364)), (by first | rfl | (simp; done) | (simp [*]; done)), H', ⟨by have := HJ16.out; have := HK2.out; first | omega | exact Nat.le_refl _⟩, ⟨by (try simp only [hl1_2]); (try simp only [hl2_2]); (with_reducible repeat (first | apply Kd.V_alloc | apply Kd.V_drewN | apply Kd.V_drew)); exact Kd.V_mono HO_1.out (fun _ hk => ⟨hk.1.1.1.1.1, ⟨hk.1.1.1.1.2.1, ⟨hk.1.1.1.1.2.2, ⟨hk.1.1.1.2, hk.1.2⟩⟩⟩⟩)⟩, ⟨by (try simp only [hl1_2]); (try simp only [hl2_2]); (with_reducible repeat (first | apply Kd.V_alloc | apply Kd.V_drewN | apply Kd.V_drew)); exact Kd.V_mono HO_2.out (fun _ hk => ⟨hk.1.1.1.1.1, ⟨hk.1.1.1.1.2.1, ⟨hk.1.1.1.1.2.2, ⟨hk.1.1.1.2, hk.1.2⟩⟩⟩⟩)⟩, ⟨by (try simp only [hl1_2]); (try simp only [hl2_2]); (with_reducible repeat (first | apply Kd.R_alloc | apply Kd.R_drewN | apply Kd.R_drew)); exact Kd.R_mono HO_11.out (fun _ hk => ⟨hk.1.1.1.1.1, ⟨hk.1.1.1.1.2, ⟨hk.1.1.1.2, hk.1.2⟩⟩⟩)⟩, ⟨by (try simp only [hl1_2]); (try simp only [hl2_2]); (with_reducible repeat (first | apply Kd.R_alloc | apply Kd.R_drewN | apply Kd.R_drew)); exact Kd.R_mono HO_12.out (fun _ hk => ⟨hk.1.1.1.1.1, ⟨hk.1.1.1.1.2, ⟨hk.1.1.1.2, hk.1.2⟩⟩⟩)⟩, ⟨by (try simp only [hl1_2]); (try simp only [hl2_2]); (with_reducible repeat (first | apply Kd.R_alloc | apply Kd.R_drewN | apply Kd.R_drew)); exact Kd.R_mono HO353.out (fun _ hk => ⟨hk.1.1.1.1.1.1, ⟨hk.1.1.1.1.2, ⟨hk.1.1.1.2, hk.1.2⟩⟩⟩)⟩, ⟨by (try simp only [hl1_2]); (try simp only [hl2_2]); (with_reducible repeat (first | apply Kd.R_alloc | apply Kd.R_drewN | apply Kd.R_drew)); exact Kd.R_mono HO362.out (fun _ hk => ⟨hk.1.1.1.1.1.1, ⟨hk.1.1.1.1.2, ⟨hk.1.1.1.2, hk.1.1.2⟩⟩⟩)⟩, ⟨by repeat (first | (with_reducible first | exact HB.out | apply below_alloc | apply pw_below_drewN | apply below_drew1) | exact HB.out)⟩⟩
                      · replace c56 := Bool.eq_false_iff.mpr c56
                        subst c56
                        have H1 : (toruslaw04_ColumnMatches.j2 k2 a0 x1_2 x2_2 a3 x11_2 x12_2 x17_2 t351 t359 true) = some r := by rw [if_neg (show ¬ (false = true) by decide)] at H; exact H
                        clear H
                        have H := H1
                        clear H1
                        exact absurd H (by rw [hrt]; exact toruslaw04_ColumnMatches.j2_dead _ _ _ _ _ _ _ _ _ _)
                    · rw [if_neg c54] at H
                      exact absurd H (by rw [hrt]; exact toruslaw04_ColumnMatches.j2_dead _ _ _ _ _ _ _ _ _ _)
                  · replace c53 := Bool.eq_false_iff.mpr c53
                    subst c53
                    have H1 : (toruslaw04_ColumnMatches.j2 k2 a0 x1_2 x2_2 a3 x11_2 x12_2 x17_2 t351 t359 true) = some r := by rw [if_neg (show ¬ (false = true) by decide)] at H; exact H
                    clear H
                    have H := H1
                    clear H1
                    exact absurd H (by rw [hrt]; exact toruslaw04_ColumnMatches.j2_dead _ _ _ _ _ _ _ _ _ _)
                case rest =>
                  clear HC45
                  try clear c1
                  try clear c2
                  try clear p2
                  try clear c3
                  try clear c4
                  try clear c5
                  try clear c7
                  try clear c15
                  try clear c17
                  try clear c19
                  try clear c20
                  try clear c21
                  try clear c22
                  try clear c23
                  try clear c24
                  try clear c25
                  try clear c25b0
                  try clear c25b1
                  try clear c26
                  try clear c26b0
                  try clear c26b1
                  try clear c27
                  try clear c27b0
                  try clear c27b1
                  try clear c27b2
                  try clear c28
                  try clear c29
                  try clear c30
                  try clear c39
                  try clear c40
                  try clear c40b0
                  try clear c53
                  try clear c54
                  try clear c54b0
                  try clear c54b1
                  try clear c56
                  try clear p2
                  obtain ⟨kq, x130_44, rfl, HA, HJ44, HO_1, HO_2, HO_11, HO_12, HO_18, HO_22, HB⟩ := hcut
                  cases kq with
                  | zero => exact absurd HA.out (by simp [toruslaw04_ColumnMatches.j2])
                  | succ kj44 =>
                    have H := HA.out
                    clear HA
                    simp only [toruslaw04_ColumnMatches.j2] at H
                    by_cases c69 : x130_44 = true
                    · subst c69
                      have H1 : (some false) = some r := by rw [if_pos rfl] at H; exact H
                      clear H
                      have H := H1
                      clear H1
                      exact absurd (Option.some.inj H) (by rw [hrt]; exact Bool.false_ne_true)
                    · replace c69 := Bool.eq_false_iff.mpr c69
                      subst c69
                      have H1 : (toruslaw04_ColumnMatches.l1 kj44 a0 x1_2 x2_2 a3 x11_2 x12_2 x17_2 t351 t359 0) = some r := by rw [if_neg (show ¬ (false = true) by decide)] at H; exact H
                      clear H
                      have H := H1
                      clear H1
                      have H' := Aside0.mk H
                      clear H
                      go_wp2
                      go_loopg [26] kj44 (fun kq v26 w' => ∃ (x18_4 : List (S45)) (x26_4 : Int), v26 = .int .i64 x26_4 ∧ Aside0 (toruslaw04_ColumnMatches.l1 kq a0 x1_2 x2_2 a3 x11_2 x12_2 x17_2 x18_4 t359 x26_4 = some r) ∧ Aside0 (kq ≤ kj44) ∧ Aside0 (Kd.V k45 45 w' w.heap.size (fun k_ => ((P1_ k_ ∨ P2_ k_) ∨ w.heap.size ≤ k_) ∧ some k_ ≠ ((.slice Ao46 x11_2.length co46) : Value).ownBlock ∧ some k_ ≠ ((.slice Ao47 x12_2.length co47) : Value).ownBlock ∧ some k_ ≠ (v352 : Value).ownBlock ∧ some k_ ≠ (v361 : Value).ownBlock) (.slice A1 x1_2.length c1) x1_2) ∧ Aside0 (Kd.V k45 45 w' w.heap.size (fun k_ => ((P1_ k_ ∨ P2_ k_) ∨ w.heap.size ≤ k_) ∧ some k_ ≠ ((.slice Ao46 x11_2.length co46) : Value).ownBlock ∧ some k_ ≠ ((.slice Ao47 x12_2.length co47) : Value).ownBlock ∧ some k_ ≠ (v352 : Value).ownBlock ∧ some k_ ≠ (v361 : Value).ownBlock) (.slice A2 x2_2.length c2) x2_2) ∧ Aside0 (Kd.R k45 45 w' w.heap.size (fun k_ => (w.heap.size ≤ k_) ∧ some k_ ≠ ((.slice Ao47 x12_2.length co47) : Value).ownBlock ∧ some k_ ≠ (v352 : Value).ownBlock ∧ some k_ ≠ (v361 : Value).ownBlock) (.slice Ao46 x11_2.length co46) x11_2) ∧ Aside0 (Kd.R k45 45 w' w.heap.size (fun k_ => (w.heap.size ≤ k_) ∧ some k_ ≠ ((.slice Ao46 x11_2.length co46) : Value).ownBlock ∧ some k_ ≠ (v352 : Value).ownBlock ∧ some k_ ≠ (v361 : Value).ownBlock) (.slice Ao47 x12_2.length co47) x12_2) ∧ Aside0 (Kd.R k45 45 w' w.heap.size (fun k_ => (w.heap.size ≤ k_) ∧ some k_ ≠ ((.slice Ao46 x11_2.length co46) : Value).ownBlock ∧ some k_ ≠ ((.slice Ao47 x12_2.length co47) : Value).ownBlock ∧ some k_ ≠ (v361 : Value).ownBlock) v352 x18_4) ∧ Aside0 (Kd.R k45 45 w' w.heap.size (fun k_ => (w.heap.size ≤ k_) ∧ some k_ ≠ ((.slice Ao46 x11_2.length co46) : Value).ownBlock ∧ some k_ ≠ ((.slice Ao47 x12_2.length co47) : Value).ownBlock ∧ some k_ ≠ (v352 : Value).ownBlock) v361 t359) ∧ Aside0 (Below w.heap.size w w'))
                      case atStart => exact ⟨(t351), (0), (by first | rfl | (simp; done) | (simp [*]; done)), H', ⟨Nat.le_refl _⟩, ⟨by (try simp only [hl1_2]); (try simp only [hl2_2]); (with_reducible repeat (first | apply Kd.V_alloc | apply Kd.V_drewN | apply Kd.V_drew)); exact HO_1.out⟩, ⟨by (try simp only [hl1_2]); (try simp only [hl2_2]); (with_reducible repeat (first | apply Kd.V_alloc | apply Kd.V_drewN | apply Kd.V_drew)); exact HO_2.out⟩, ⟨by (try simp only [hl1_2]); (try simp only [hl2_2]); (with_reducible repeat (first | apply Kd.R_alloc | apply Kd.R_drewN | apply Kd.R_drew)); exact HO_11.out⟩, ⟨by (try simp only [hl1_2]); (try simp only [hl2_2]); (with_reducible repeat (first | apply Kd.R_alloc | apply Kd.R_drewN | apply Kd.R_drew)); exact HO_12.out⟩, ⟨by (try simp only [hl1_2]); (try simp only [hl2_2]); (with_reducible repeat (first | apply Kd.R_alloc | apply Kd.R_drewN | apply Kd.R_drew)); exact HO_18.out⟩, ⟨by (try simp only [hl1_2]); (try simp only [hl2_2]); (with_reducible repeat (first | apply Kd.R_alloc | apply Kd.R_drewN | apply Kd.R_drew)); exact HO_22.out⟩, ⟨by repeat (first | (with_reducible first | exact HB.out | apply below_alloc | apply pw_below_drewN | apply below_drew1) | exact HB.out)⟩⟩
                      case round =>
                        clear H'
                        try clear c1
                        try clear c2
                        try clear p2
                        try clear c3
                        try clear c4
                        try clear c5
                        try clear c6
                        try clear c7
                        try clear c15
                        try clear c17
                        try clear c19
                        try clear c20
                        try clear c21
                        try clear c22
                        try clear c23
                        try clear c24
                        try clear c25
                        try clear c25b0
                        try clear c25b1
                        try clear c26
                        try clear c26b0
                        try clear c26b1
                        try clear c27
                        try clear c27b0
                        try clear c27b1
                        try clear c27b2
                        try clear c28
                        try clear c29
                        try clear c30
                        try clear c39
                        try clear c40
                        try clear c40b0
                        try clear c53
                        try clear c54
                        try clear c54b0
                        try clear c54b1
                        try clear c56
                        try clear c69
                        try clear p2
                        obtain ⟨x18_4, x26_4, rfl, HA, HK4, HO_1, HO_2, HO_11, HO_12, HO_18, HO_22, HB⟩ := hrel
                        cases gk with
                        | zero => exact absurd HA.out (by simp [toruslaw04_ColumnMatches.l1])
                        | succ k4 =>
                          have H := HA.out
                          clear HA
                          simp only [toruslaw04_ColumnMatches.l1] at H
                          by_cases c70 : x26_4 < (x18_4.length : Int)
                          · rw [if_pos c70] at H
                            have c70b0 : decide (x26_4 < (x18_4.length : Int)) = true := decide_eq_true c70
                            clear c70
                            by_cases c71 : 0 ≤ x26_4
                            · rw [if_pos c71] at H
                              have c71b0 : decide (0 ≤ x26_4) = true := decide_eq_true c71
                              clear c71
                              obtain ⟨y369, hy369⟩ : ∃ y_ : List (S45), y_ = (x18_4.set (x26_4 : Int).toNat (⟨(-7), (-7)⟩ : S45)) := ⟨_, rfl⟩
                              replace H : (toruslaw04_ColumnMatches.l1 k4 a0 x1_2 x2_2 a3 x11_2 x12_2 x17_2 y369 t359 (wrap64 (x26_4 + 1))) = some r := by first | (rw [hy369]; with_reducible exact H) | (have H2_ := (Option.bind_some _ _).symm.trans H; rw [hy369]; with_reducible exact H2_) | (have H2_ := (Option.bind_some _ _).symm.trans H; with_reducible exact H2_) | with_reducible exact H | (rw [hy369]; exact H) | exact H
                              have Ny369 := Aside0.mk hy369
                              clear hy369
                              have H' := Aside0.mk H
                              clear H
                              obtain ⟨Ao73, co73, eo73⟩ := Kd.R_slice HO_18.out
                              subst eo73
                              have p72 : 0 ≤ (x26_4 : Int) := of_decide_eq_true (by first | (with_reducible assumption) | assumption)
                              have q72 : (x26_4 : Int) < ((x18_4.length : Int) : Int) := of_decide_eq_true (by first | (with_reducible assumption) | assumption)
                              obtain ⟨go72, co72, eo72, gb72, gl72, cl72, HG72⟩ := Kd.R_form HO_18.out (by first | omega | (have e_ := (Kd.R_reads' HO_18.out).1; omega))
                              (first | cases eo72 | (injection eo72 with ea_ en_ ec_; (first | subst ea_ | (injection ea_ with ea_; subst ea_)); subst ec_; clear en_))
                              have GB72 := Aside0.mk gb72
                              have GG72 := Aside0.mk HG72
                              clear gb72 gl72 HG72
                              obtain ⟨ce72, hcl72, hM72, hcc72, hfr72⟩ := Kd.R_elem HO_18.out z45 (x26_4 : Int) p72 q72
                              obtain rfl := k45_openM hM72
                              have hx72_0 : wr.cell? ⟨go72, (x26_4 : Int).toNat * 2, none⟩ = some (.int .i64 ((rd_T45 x18_4 x26_4).f0)) := hcc72 0 _ rfl
                              have hx72_1 : wr.cell? ⟨go72, (x26_4 : Int).toNat * 2 + 1, none⟩ = some (.int .i64 ((rd_T45 x18_4 x26_4).f1)) := hcc72 1 _ rfl
                              have hf72_0 : wr.frozen? ⟨go72, (x26_4 : Int).toNat * 2, none⟩ = false := hfr72 0
                              have hf72_1 : wr.frozen? ⟨go72, (x26_4 : Int).toNat * 2 + 1, none⟩ = false := hfr72 1
                              clear hcl72 hcc72 hfr72 hM72
                              replace p72 := eq_true p72
                              replace q72 := eq_true q72
                              have HX74 := Aside0.mk (show Kd.R k45 45 wr w.heap.size (fun k_ => (w.heap.size ≤ k_) ∧ some k_ ≠ (.slice Ao46 x11_2.length co46 : Value).ownBlock ∧ some k_ ≠ (.slice Ao47 x12_2.length co47 : Value).ownBlock ∧ some k_ ≠ (v361 : Value).ownBlock) (.slice (some ⟨go72, 0, none⟩) x18_4.length co73) x18_4 from (by (with_reducible repeat (first | apply Kd.R_alloc | apply Kd.R_drewN | apply Kd.R_drew)); exact HO_18.out))
                              obtain ⟨ce74, hcl74, hM74, hcc74, hfr74⟩ := Kd.R_elem HX74.out z45 (x26_4 : Int) (of_decide_eq_true (by first | (with_reducible assumption) | assumption)) (by have h_ : (x26_4 : Int) < ((x18_4.length : Int) : Int) := of_decide_eq_true (by first | (with_reducible assumption) | assumption); first | exact h_ | (have e_ := (Kd.R_reads' HO_18.out).1; omega) | simpa using h_)
                              obtain rfl := k45_openM hM74
                              have HP74 := Kd.R_seg HX74.out (x26_4 : Int) (of_decide_eq_true (by first | (with_reducible assumption) | assumption)) (by have h_ : (x26_4 : Int) < ((x18_4.length : Int) : Int) := of_decide_eq_true (by first | (with_reducible assumption) | assumption); first | exact h_ | (have e_ := (Kd.R_reads' HO_18.out).1; omega) | simpa using h_) (seg := [.int .i64 (-7), .int .i64 (-7)]) (j := 0) hcl74 hcc74 (show 2 ≤ 2 from by decide) (x' := (⟨(-7), (-7)⟩ : S45)) (k45_mkM _ _ _ (⟨(-7), (-7)⟩ : S45) ) (fun _ hk => hk)
                              have hx74_0 := hcc74 0 _ rfl
                              (try simp only [show (k45).sz = 2 from rfl, Nat.mul_one, Nat.add_zero] at hx74_0)
                              have hf74_0 := hfr74 0
                              (try simp only [show (k45).sz = 2 from rfl, Nat.mul_one, Nat.add_zero] at hf74_0)
                              have hx74_1 := hcc74 1 _ rfl
                              (try simp only [show (k45).sz = 2 from rfl, Nat.mul_one, Nat.add_zero] at hx74_1)
                              have hf74_1 := hfr74 1
                              (try simp only [show (k45).sz = 2 from rfl, Nat.mul_one, Nat.add_zero] at hf74_1)
                              clear hcl74 hcc74 hfr74 hM74
                              go_wp2_with (first | ((with_reducible refine gate_store (t := 45) (p := 140) rfl ?_); refine store_event (t := 45) (p := 140) (v := ?vo_w75) (w1 := ((wr.setCell ⟨go72, (x26_4 : Int).toNat * 2, none⟩ (.int .i64 (-7))).setCell ⟨go72, (x26_4 : Int).toNat * 2 + 1, none⟩ (.int .i64 (-7)))) ?hg ?ho ?hn ?hr ?_; (case ho => rfl); (case hg => rfl); (case hn => rfl); (case hr => first | (go_simp; done) | (go_simp; rfl)); intro w75 hw; have hg : wr.grownBy w75 (some go72) := (by rw [hw]; exact HP74.2); have hp_ : Kd.R k45 45 w75 w.heap.size (fun k_ => (w.heap.size ≤ k_) ∧ some k_ ≠ (.slice Ao46 x11_2.length co46 : Value).ownBlock ∧ some k_ ≠ (.slice Ao47 x12_2.length co47 : Value).ownBlock ∧ some k_ ≠ (v361 : Value).ownBlock) (.slice (some ⟨go72, 0, none⟩) x18_4.length co73) y369 := (by rw [hw, Ny369.out]; exact HP74.1); clear HP74; have n0_ := Aside0.mk (Kd.V_afterv (v := (.slice (some ⟨go72, 0, none⟩) x18_4.length co73)) (v1 := (.slice (some ⟨go72, 0, none⟩) x18_4.length co73)) (ok := (fun k_ => ((P1_ k_ ∨ P2_ k_) ∨ w.heap.size ≤ k_) ∧ some k_ ≠ (.slice Ao46 x11_2.length co46 : Value).ownBlock ∧ some k_ ≠ (.slice Ao47 x12_2.length co47 : Value).ownBlock ∧ some k_ ≠ (v361 : Value).ownBlock)) (by (with_reducible repeat (first | apply Kd.V_alloc | apply Kd.V_drewN | apply Kd.V_drew)); exact Kd.V_mono HO_1.out (fun _ hk => ⟨⟨hk.1, ⟨hk.2.1, ⟨hk.2.2.1, hk.2.2.2.2⟩⟩⟩, hk.2.2.2.1⟩)) hg (.inl rfl)); have n1_ := Aside0.mk (Kd.V_afterv (v := (.slice (some ⟨go72, 0, none⟩) x18_4.length co73)) (v1 := (.slice (some ⟨go72, 0, none⟩) x18_4.length co73)) (ok := (fun k_ => ((P1_ k_ ∨ P2_ k_) ∨ w.heap.size ≤ k_) ∧ some k_ ≠ (.slice Ao46 x11_2.length co46 : Value).ownBlock ∧ some k_ ≠ (.slice Ao47 x12_2.length co47 : Value).ownBlock ∧ some k_ ≠ (v361 : Value).ownBlock)) (by (with_reducible repeat (first | apply Kd.V_alloc | apply Kd.V_drewN | apply Kd.V_drew)); exact Kd.V_mono HO_2.out (fun _ hk => ⟨⟨hk.1, ⟨hk.2.1, ⟨hk.2.2.1, hk.2.2.2.2⟩⟩⟩, hk.2.2.2.1⟩)) hg (.inl rfl)); have n2_ := Aside0.mk (Kd.R_after (v := (.slice (some ⟨go72, 0, none⟩) x18_4.length co73)) (v1 := (.slice (some ⟨go72, 0, none⟩) x18_4.length co73)) (ok := (fun k_ => (w.heap.size ≤ k_) ∧ some k_ ≠ (.slice Ao47 x12_2.length co47 : Value).ownBlock ∧ some k_ ≠ (v361 : Value).ownBlock)) (by (with_reducible repeat (first | apply Kd.R_alloc | apply Kd.R_drewN | apply Kd.R_drew)); exact Kd.R_mono HO_11.out (fun _ hk => ⟨⟨hk.1, ⟨hk.2.1, hk.2.2.2⟩⟩, hk.2.2.1⟩)) hg (.inl rfl)); have n3_ := Aside0.mk (Kd.R_after (v := (.slice (some ⟨go72, 0, none⟩) x18_4.length co73)) (v1 := (.slice (some ⟨go72, 0, none⟩) x18_4.length co73)) (ok := (fun k_ => (w.heap.size ≤ k_) ∧ some k_ ≠ (.slice Ao46 x11_2.length co46 : Value).ownBlock ∧ some k_ ≠ (v361 : Value).ownBlock)) (by (with_reducible repeat (first | apply Kd.R_alloc | apply Kd.R_drewN | apply Kd.R_drew)); exact Kd.R_mono HO_12.out (fun _ hk => ⟨⟨hk.1, ⟨hk.2.1, hk.2.2.2⟩⟩, hk.2.2.1⟩)) hg (.inl rfl)); have n4_ := Aside0.mk (hp_); have n5_ := Aside0.mk (Kd.R_after (v := (.slice (some ⟨go72, 0, none⟩) x18_4.length co73)) (v1 := (.slice (some ⟨go72, 0, none⟩) x18_4.length co73)) (ok := (fun k_ => (w.heap.size ≤ k_) ∧ some k_ ≠ (.slice Ao46 x11_2.length co46 : Value).ownBlock ∧ some k_ ≠ (.slice Ao47 x12_2.length co47 : Value).ownBlock)) (by (with_reducible repeat (first | apply Kd.R_alloc | apply Kd.R_drewN | apply Kd.R_drew)); exact Kd.R_mono HO_22.out (fun _ hk => ⟨⟨hk.1, ⟨hk.2.1, hk.2.2.1⟩⟩, hk.2.2.2⟩)) hg (.inl rfl)); have n6_ := Aside0.mk ((by rw [hw]; exact below_set (below_set (HB.out) GB72.out) GB72.out : Below w.heap.size w w75)); clear HO_1; clear HO_2; clear HO_11; clear HO_12; clear HO_18; clear HO_22; clear HB; have HO_1 := n0_; have HO_2 := n1_; have HO_11 := n2_; have HO_12 := n3_; have HO_18 := n4_; have HO_22 := n5_; have HB := n6_; clear n0_ n1_ n2_ n3_ n4_ n5_ n6_; clear hg hw hp_))
                              go_roundg k4
                              case measure => have := HJ16.out; have := HK2.out; have := HJ44.out; have := HK4.out; omega
                              case rel => exact ⟨(y369), (wrap64 (x26_4 + 1)), (by first | rfl | (simp; done) | (simp [*]; done)), H', ⟨by have := HJ16.out; have := HK2.out; have := HJ44.out; have := HK4.out; omega⟩, ⟨by (try simp only [hl1_2]); (try simp only [hl2_2]); (with_reducible repeat (first | apply Kd.V_alloc | apply Kd.V_drewN | apply Kd.V_drew)); exact Kd.V_mono HO_1.out (fun _ hk => ⟨hk.1.1, ⟨hk.1.2.1, ⟨hk.1.2.2.1, ⟨hk.2, hk.1.2.2.2⟩⟩⟩⟩)⟩, ⟨by (try simp only [hl1_2]); (try simp only [hl2_2]); (with_reducible repeat (first | apply Kd.V_alloc | apply Kd.V_drewN | apply Kd.V_drew)); exact Kd.V_mono HO_2.out (fun _ hk => ⟨hk.1.1, ⟨hk.1.2.1, ⟨hk.1.2.2.1, ⟨hk.2, hk.1.2.2.2⟩⟩⟩⟩)⟩, ⟨by (try simp only [hl1_2]); (try simp only [hl2_2]); (with_reducible repeat (first | apply Kd.R_alloc | apply Kd.R_drewN | apply Kd.R_drew)); exact Kd.R_mono HO_11.out (fun _ hk => ⟨hk.1.1, ⟨hk.1.2.1, ⟨hk.2, hk.1.2.2⟩⟩⟩)⟩, ⟨by (try simp only [hl1_2]); (try simp only [hl2_2]); (with_reducible repeat (first | apply Kd.R_alloc | apply Kd.R_drewN | apply Kd.R_drew)); exact Kd.R_mono HO_12.out (fun _ hk => ⟨hk.1.1, ⟨hk.1.2.1, ⟨hk.2, hk.1.2.2⟩⟩⟩)⟩, ⟨by (try simp only [hl1_2]); (try simp only [hl2_2]); (with_reducible repeat (first | apply Kd.R_alloc | apply Kd.R_drewN | apply Kd.R_drew)); exact HO_18.out⟩, ⟨by (try simp only [hl1_2]); (try simp only [hl2_2]); (with_reducible repeat (first | apply Kd.R_alloc | apply Kd.R_drewN | apply Kd.R_drew)); exact Kd.R_mono HO_22.out (fun _ hk => ⟨hk.1.1, ⟨hk.1.2.1, ⟨hk.1.2.2, hk.2⟩⟩⟩)⟩, ⟨by repeat (first | (with_reducible first | exact HB.out | apply below_alloc | apply pw_below_drewN | apply below_drew1) | exact HB.out)⟩⟩
                            · rw [if_neg c71] at H
                              exact absurd H (by simp)
                          · rw [if_neg c70] at H
                            have c70b0 : decide (x26_4 < (x18_4.length : Int)) = false := decide_eq_false c70
                            clear c70
                            have H' := Aside0.mk H
                            clear H
                            obtain ⟨Ao76, co76, eo76⟩ := Kd.R_slice HO_18.out
                            subst eo76
                            go_wp2
                            go_loopg [27] k4 (fun kq v27 w' => ∃ (x22_5 : List (S45)) (x27_5 : Int), v27 = .int .i64 x27_5 ∧ Aside0 (toruslaw04_ColumnMatches.l2 kq a0 x1_2 x2_2 a3 x11_2 x12_2 x17_2 x22_5 x27_5 = some r) ∧ Aside0 (kq ≤ k4) ∧ Aside0 (Kd.V k45 45 w' w.heap.size (fun k_ => ((P1_ k_ ∨ P2_ k_) ∨ w.heap.size ≤ k_) ∧ some k_ ≠ ((.slice Ao46 x11_2.length co46) : Value).ownBlock ∧ some k_ ≠ ((.slice Ao47 x12_2.length co47) : Value).ownBlock ∧ some k_ ≠ (v361 : Value).ownBlock) (.slice A1 x1_2.length c1) x1_2) ∧ Aside0 (Kd.V k45 45 w' w.heap.size (fun k_ => ((P1_ k_ ∨ P2_ k_) ∨ w.heap.size ≤ k_) ∧ some k_ ≠ ((.slice Ao46 x11_2.length co46) : Value).ownBlock ∧ some k_ ≠ ((.slice Ao47 x12_2.length co47) : Value).ownBlock ∧ some k_ ≠ (v361 : Value).ownBlock) (.slice A2 x2_2.length c2) x2_2) ∧ Aside0 (Kd.R k45 45 w' w.heap.size (fun k_ => (w.heap.size ≤ k_) ∧ some k_ ≠ ((.slice Ao47 x12_2.length co47) : Value).ownBlock ∧ some k_ ≠ (v361 : Value).ownBlock) (.slice Ao46 x11_2.length co46) x11_2) ∧ Aside0 (Kd.R k45 45 w' w.heap.size (fun k_ => (w.heap.size ≤ k_) ∧ some k_ ≠ ((.slice Ao46 x11_2.length co46) : Value).ownBlock ∧ some k_ ≠ (v361 : Value).ownBlock) (.slice Ao47 x12_2.length co47) x12_2) ∧ Aside0 (Kd.R k45 45 w' w.heap.size (fun k_ => (w.heap.size ≤ k_) ∧ some k_ ≠ ((.slice Ao46 x11_2.length co46) : Value).ownBlock ∧ some k_ ≠ ((.slice Ao47 x12_2.length co47) : Value).ownBlock) v361 x22_5) ∧ Aside0 (Below w.heap.size w w'))
                            case atStart => exact ⟨(t359), (0), (by first | rfl | (simp; done) | (simp [*]; done)), H', ⟨Nat.le_refl _⟩, ⟨by (try simp only [hl1_2]); (try simp only [hl2_2]); (with_reducible repeat (first | apply Kd.V_alloc | apply Kd.V_drewN | apply Kd.V_drew)); exact Kd.V_mono HO_1.out (fun _ hk => ⟨hk.1, ⟨hk.2.1, ⟨hk.2.2.1, hk.2.2.2.2⟩⟩⟩)⟩, ⟨by (try simp only [hl1_2]); (try simp only [hl2_2]); (with_reducible repeat (first | apply Kd.V_alloc | apply Kd.V_drewN | apply Kd.V_drew)); exact Kd.V_mono HO_2.out (fun _ hk => ⟨hk.1, ⟨hk.2.1, ⟨hk.2.2.1, hk.2.2.2.2⟩⟩⟩)⟩, ⟨by (try simp only [hl1_2]); (try simp only [hl2_2]); (with_reducible repeat (first | apply Kd.R_alloc | apply Kd.R_drewN | apply Kd.R_drew)); exact Kd.R_mono HO_11.out (fun _ hk => ⟨hk.1, ⟨hk.2.1, hk.2.2.2⟩⟩)⟩, ⟨by (try simp only [hl1_2]); (try simp only [hl2_2]); (with_reducible repeat (first | apply Kd.R_alloc | apply Kd.R_drewN | apply Kd.R_drew)); exact Kd.R_mono HO_12.out (fun _ hk => ⟨hk.1, ⟨hk.2.1, hk.2.2.2⟩⟩)⟩, ⟨by (try simp only [hl1_2]); (try simp only [hl2_2]); (with_reducible repeat (first | apply Kd.R_alloc | apply Kd.R_drewN | apply Kd.R_drew)); exact Kd.R_mono HO_22.out (fun _ hk => ⟨hk.1, ⟨hk.2.1, hk.2.2.1⟩⟩)⟩, ⟨by repeat (first | (with_reducible first | exact HB.out | apply below_alloc | apply pw_below_drewN | apply below_drew1) | exact HB.out)⟩⟩
                            case round =>
                              clear H'
                              try clear c1
                              try clear c2
                              try clear p2
                              try clear c3
                              try clear c4
                              try clear c5
                              try clear c6
                              try clear p6
                              try clear c7
                              try clear p7
                              try clear q7
                              try clear hx7
                              try clear hf7
                              try clear c15
                              try clear c17
                              try clear c19
                              try clear c20
                              try clear c21
                              try clear c22
                              try clear c23
                              try clear c24
                              try clear c25
                              try clear c25b0
                              try clear c25b1
                              try clear c26
                              try clear c26b0
                              try clear c26b1
                              try clear c27
                              try clear c27b0
                              try clear c27b1
                              try clear c27b2
                              try clear c28
                              try clear c29
                              try clear c30
                              try clear c39
                              try clear c40
                              try clear c40b0
                              try clear c53
                              try clear c54
                              try clear c54b0
                              try clear c54b1
                              try clear c56
                              try clear p64
                              try clear c69
                              try clear c70
                              try clear c70b0
                              try clear c71
                              try clear c71b0
                              try clear c72
                              try clear p72
                              try clear q72
                              try clear hx72
                              try clear hf72
                              try clear c74
                              try clear hx74
                              try clear hf74
                              try clear hx72_0
                              try clear hx72_1
                              try clear hx74_0
                              try clear hx74_1
                              try clear p2
                              try clear p72
                              try clear q72
                              obtain ⟨x22_5, x27_5, rfl, HA, HK5, HO_1, HO_2, HO_11, HO_12, HO_22, HB⟩ := hrel
                              cases gk with
                              | zero => exact absurd HA.out (by simp [toruslaw04_ColumnMatches.l2])
                              | succ k5 =>
                                have H := HA.out
                                clear HA
                                simp only [toruslaw04_ColumnMatches.l2] at H
                                by_cases c77 : x27_5 < (x22_5.length : Int)
                                · rw [if_pos c77] at H
                                  have c77b0 : decide (x27_5 < (x22_5.length : Int)) = true := decide_eq_true c77
                                  clear c77
                                  by_cases c78 : 0 ≤ x27_5
                                  · rw [if_pos c78] at H
                                    have c78b0 : decide (0 ≤ x27_5) = true := decide_eq_true c78
                                    clear c78
                                    obtain ⟨y370, hy370⟩ : ∃ y_ : List (S45), y_ = (x22_5.set (x27_5 : Int).toNat (⟨(-7), (-7)⟩ : S45)) := ⟨_, rfl⟩
                                    replace H : (toruslaw04_ColumnMatches.l2 k5 a0 x1_2 x2_2 a3 x11_2 x12_2 x17_2 y370 (wrap64 (x27_5 + 1))) = some r := by first | (rw [hy370]; with_reducible exact H) | (have H2_ := (Option.bind_some _ _).symm.trans H; rw [hy370]; with_reducible exact H2_) | (have H2_ := (Option.bind_some _ _).symm.trans H; with_reducible exact H2_) | with_reducible exact H | (rw [hy370]; exact H) | exact H
                                    have Ny370 := Aside0.mk hy370
                                    clear hy370
                                    have H' := Aside0.mk H
                                    clear H
                                    obtain ⟨Ao80, co80, eo80⟩ := Kd.R_slice HO_22.out
                                    subst eo80
                                    have p79 : 0 ≤ (x27_5 : Int) := of_decide_eq_true (by first | (with_reducible assumption) | assumption)
                                    have q79 : (x27_5 : Int) < ((x22_5.length : Int) : Int) := of_decide_eq_true (by first | (with_reducible assumption) | assumption)
                                    obtain ⟨go79, co79, eo79, gb79, gl79, cl79, HG79⟩ := Kd.R_form HO_22.out (by first | omega | (have e_ := (Kd.R_reads' HO_22.out).1; omega))
                                    (first | cases eo79 | (injection eo79 with ea_ en_ ec_; (first | subst ea_ | (injection ea_ with ea_; subst ea_)); subst ec_; clear en_))
                                    have GB79 := Aside0.mk gb79
                                    have GG79 := Aside0.mk HG79
                                    clear gb79 gl79 HG79
                                    obtain ⟨ce79, hcl79, hM79, hcc79, hfr79⟩ := Kd.R_elem HO_22.out z45 (x27_5 : Int) p79 q79
                                    obtain rfl := k45_openM hM79
                                    have hx79_0 : wr.cell? ⟨go79, (x27_5 : Int).toNat * 2, none⟩ = some (.int .i64 ((rd_T45 x22_5 x27_5).f0)) := hcc79 0 _ rfl
                                    have hx79_1 : wr.cell? ⟨go79, (x27_5 : Int).toNat * 2 + 1, none⟩ = some (.int .i64 ((rd_T45 x22_5 x27_5).f1)) := hcc79 1 _ rfl
                                    have hf79_0 : wr.frozen? ⟨go79, (x27_5 : Int).toNat * 2, none⟩ = false := hfr79 0
                                    have hf79_1 : wr.frozen? ⟨go79, (x27_5 : Int).toNat * 2 + 1, none⟩ = false := hfr79 1
                                    clear hcl79 hcc79 hfr79 hM79
                                    replace p79 := eq_true p79
                                    replace q79 := eq_true q79
                                    have HX81 := Aside0.mk (show Kd.R k45 45 wr w.heap.size (fun k_ => (w.heap.size ≤ k_) ∧ some k_ ≠ (.slice Ao46 x11_2.length co46 : Value).ownBlock ∧ some k_ ≠ (.slice Ao47 x12_2.length co47 : Value).ownBlock) (.slice (some ⟨go79, 0, none⟩) x22_5.length co80) x22_5 from (by (with_reducible repeat (first | apply Kd.R_alloc | apply Kd.R_drewN | apply Kd.R_drew)); exact HO_22.out))
                                    obtain ⟨ce81, hcl81, hM81, hcc81, hfr81⟩ := Kd.R_elem HX81.out z45 (x27_5 : Int) (of_decide_eq_true (by first | (with_reducible assumption) | assumption)) (by have h_ : (x27_5 : Int) < ((x22_5.length : Int) : Int) := of_decide_eq_true (by first | (with_reducible assumption) | assumption); first | exact h_ | (have e_ := (Kd.R_reads' HO_22.out).1; omega) | simpa using h_)
                                    obtain rfl := k45_openM hM81
                                    have HP81 := Kd.R_seg HX81.out (x27_5 : Int) (of_decide_eq_true (by first | (with_reducible assumption) | assumption)) (by have h_ : (x27_5 : Int) < ((x22_5.length : Int) : Int) := of_decide_eq_true (by first | (with_reducible assumption) | assumption); first | exact h_ | (have e_ := (Kd.R_reads' HO_22.out).1; omega) | simpa using h_) (seg := [.int .i64 (-7), .int .i64 (-7)]) (j := 0) hcl81 hcc81 (show 2 ≤ 2 from by decide) (x' := (⟨(-7), (-7)⟩ : S45)) (k45_mkM _ _ _ (⟨(-7), (-7)⟩ : S45) ) (fun _ hk => hk)
                                    have hx81_0 := hcc81 0 _ rfl
                                    (try simp only [show (k45).sz = 2 from rfl, Nat.mul_one, Nat.add_zero] at hx81_0)
                                    have hf81_0 := hfr81 0
                                    (try simp only [show (k45).sz = 2 from rfl, Nat.mul_one, Nat.add_zero] at hf81_0)
                                    have hx81_1 := hcc81 1 _ rfl
                                    (try simp only [show (k45).sz = 2 from rfl, Nat.mul_one, Nat.add_zero] at hx81_1)
                                    have hf81_1 := hfr81 1
                                    (try simp only [show (k45).sz = 2 from rfl, Nat.mul_one, Nat.add_zero] at hf81_1)
                                    clear hcl81 hcc81 hfr81 hM81
                                    go_wp2_with (first | ((with_reducible refine gate_store (t := 45) (p := 150) rfl ?_); refine store_event (t := 45) (p := 150) (v := ?vo_w82) (w1 := ((wr.setCell ⟨go79, (x27_5 : Int).toNat * 2, none⟩ (.int .i64 (-7))).setCell ⟨go79, (x27_5 : Int).toNat * 2 + 1, none⟩ (.int .i64 (-7)))) ?hg ?ho ?hn ?hr ?_; (case ho => rfl); (case hg => rfl); (case hn => rfl); (case hr => first | (go_simp; done) | (go_simp; rfl)); intro w82 hw; have hg : wr.grownBy w82 (some go79) := (by rw [hw]; exact HP81.2); have hp_ : Kd.R k45 45 w82 w.heap.size (fun k_ => (w.heap.size ≤ k_) ∧ some k_ ≠ (.slice Ao46 x11_2.length co46 : Value).ownBlock ∧ some k_ ≠ (.slice Ao47 x12_2.length co47 : Value).ownBlock) (.slice (some ⟨go79, 0, none⟩) x22_5.length co80) y370 := (by rw [hw, Ny370.out]; exact HP81.1); clear HP81; have n0_ := Aside0.mk (Kd.V_afterv (v := (.slice (some ⟨go79, 0, none⟩) x22_5.length co80)) (v1 := (.slice (some ⟨go79, 0, none⟩) x22_5.length co80)) (ok := (fun k_ => ((P1_ k_ ∨ P2_ k_) ∨ w.heap.size ≤ k_) ∧ some k_ ≠ (.slice Ao46 x11_2.length co46 : Value).ownBlock ∧ some k_ ≠ (.slice Ao47 x12_2.length co47 : Value).ownBlock)) (by (with_reducible repeat (first | apply Kd.V_alloc | apply Kd.V_drewN | apply Kd.V_drew)); exact Kd.V_mono HO_1.out (fun _ hk => ⟨⟨hk.1, ⟨hk.2.1, hk.2.2.1⟩⟩, hk.2.2.2⟩)) hg (.inl rfl)); have n1_ := Aside0.mk (Kd.V_afterv (v := (.slice (some ⟨go79, 0, none⟩) x22_5.length co80)) (v1 := (.slice (some ⟨go79, 0, none⟩) x22_5.length co80)) (ok := (fun k_ => ((P1_ k_ ∨ P2_ k_) ∨ w.heap.size ≤ k_) ∧ some k_ ≠ (.slice Ao46 x11_2.length co46 : Value).ownBlock ∧ some k_ ≠ (.slice Ao47 x12_2.length co47 : Value).ownBlock)) (by (with_reducible repeat (first | apply Kd.V_alloc | apply Kd.V_drewN | apply Kd.V_drew)); exact Kd.V_mono HO_2.out (fun _ hk => ⟨⟨hk.1, ⟨hk.2.1, hk.2.2.1⟩⟩, hk.2.2.2⟩)) hg (.inl rfl)); have n2_ := Aside0.mk (Kd.R_after (v := (.slice (some ⟨go79, 0, none⟩) x22_5.length co80)) (v1 := (.slice (some ⟨go79, 0, none⟩) x22_5.length co80)) (ok := (fun k_ => (w.heap.size ≤ k_) ∧ some k_ ≠ (.slice Ao47 x12_2.length co47 : Value).ownBlock)) (by (with_reducible repeat (first | apply Kd.R_alloc | apply Kd.R_drewN | apply Kd.R_drew)); exact Kd.R_mono HO_11.out (fun _ hk => ⟨⟨hk.1, hk.2.1⟩, hk.2.2⟩)) hg (.inl rfl)); have n3_ := Aside0.mk (Kd.R_after (v := (.slice (some ⟨go79, 0, none⟩) x22_5.length co80)) (v1 := (.slice (some ⟨go79, 0, none⟩) x22_5.length co80)) (ok := (fun k_ => (w.heap.size ≤ k_) ∧ some k_ ≠ (.slice Ao46 x11_2.length co46 : Value).ownBlock)) (by (with_reducible repeat (first | apply Kd.R_alloc | apply Kd.R_drewN | apply Kd.R_drew)); exact Kd.R_mono HO_12.out (fun _ hk => ⟨⟨hk.1, hk.2.1⟩, hk.2.2⟩)) hg (.inl rfl)); have n4_ := Aside0.mk (hp_); have n5_ := Aside0.mk ((by rw [hw]; exact below_set (below_set (HB.out) GB79.out) GB79.out : Below w.heap.size w w82)); clear HO_1; clear HO_2; clear HO_11; clear HO_12; clear HO_22; clear HB; have HO_1 := n0_; have HO_2 := n1_; have HO_11 := n2_; have HO_12 := n3_; have HO_22 := n4_; have HB := n5_; clear n0_ n1_ n2_ n3_ n4_ n5_; clear hg hw hp_))
                                    go_roundg k5
                                    case measure => have := HJ16.out; have := HK2.out; have := HJ44.out; have := HK4.out; have := HK5.out; omega
                                    case rel => exact ⟨(y370), (wrap64 (x27_5 + 1)), (by first | rfl | (simp; done) | (simp [*]; done)), H', ⟨by have := HJ16.out; have := HK2.out; have := HJ44.out; have := HK4.out; have := HK5.out; omega⟩, ⟨by (try simp only [hl1_2]); (try simp only [hl2_2]); (with_reducible repeat (first | apply Kd.V_alloc | apply Kd.V_drewN | apply Kd.V_drew)); exact Kd.V_mono HO_1.out (fun _ hk => ⟨hk.1.1, ⟨hk.1.2.1, ⟨hk.1.2.2, hk.2⟩⟩⟩)⟩, ⟨by (try simp only [hl1_2]); (try simp only [hl2_2]); (with_reducible repeat (first | apply Kd.V_alloc | apply Kd.V_drewN | apply Kd.V_drew)); exact Kd.V_mono HO_2.out (fun _ hk => ⟨hk.1.1, ⟨hk.1.2.1, ⟨hk.1.2.2, hk.2⟩⟩⟩)⟩, ⟨by (try simp only [hl1_2]); (try simp only [hl2_2]); (with_reducible repeat (first | apply Kd.R_alloc | apply Kd.R_drewN | apply Kd.R_drew)); exact Kd.R_mono HO_11.out (fun _ hk => ⟨hk.1.1, ⟨hk.1.2, hk.2⟩⟩)⟩, ⟨by (try simp only [hl1_2]); (try simp only [hl2_2]); (with_reducible repeat (first | apply Kd.R_alloc | apply Kd.R_drewN | apply Kd.R_drew)); exact Kd.R_mono HO_12.out (fun _ hk => ⟨hk.1.1, ⟨hk.1.2, hk.2⟩⟩)⟩, ⟨by (try simp only [hl1_2]); (try simp only [hl2_2]); (with_reducible repeat (first | apply Kd.R_alloc | apply Kd.R_drewN | apply Kd.R_drew)); exact HO_22.out⟩, ⟨by repeat (first | (with_reducible first | exact HB.out | apply below_alloc | apply pw_below_drewN | apply below_drew1) | exact HB.out)⟩⟩
                                  · rw [if_neg c78] at H
                                    exact absurd H (by simp)
                                · rw [if_neg c77] at H
                                  have c77b0 : decide (x27_5 < (x22_5.length : Int)) = false := decide_eq_false c77
                                  clear c77
                                  have H' := Aside0.mk H
                                  clear H
                                  obtain ⟨Ao83, co83, eo83⟩ := Kd.R_slice HO_22.out
                                  subst eo83
                                  go_wp2
                                  (try simp only [← hl1_2, ← hl2_2])
                                  go_roundg k5
                                  case measure => have := HJ16.out; have := HK2.out; have := HJ44.out; have := HK4.out; have := HK5.out; omega
                                  case rel => exact ⟨(x1_2), (x2_2), (x11_2), (x12_2), (wrap64 (x17_2 + 1)), (by first | rfl | (simp; done) | (simp [*]; done)), H', ⟨by have := HJ16.out; have := HK2.out; have := HJ44.out; have := HK4.out; have := HK5.out; omega⟩, ⟨by (try simp only [hl1_2]); (try simp only [hl2_2]); (with_reducible repeat (first | apply Kd.V_alloc | apply Kd.V_drewN | apply Kd.V_drew)); exact Kd.V_mono HO_1.out (fun _ hk => ⟨hk.1, ⟨hk.2.1, hk.2.2.1⟩⟩)⟩, ⟨by (try simp only [hl1_2]); (try simp only [hl2_2]); (with_reducible repeat (first | apply Kd.V_alloc | apply Kd.V_drewN | apply Kd.V_drew)); exact Kd.V_mono HO_2.out (fun _ hk => ⟨hk.1, ⟨hk.2.1, hk.2.2.1⟩⟩)⟩, ⟨by (try simp only [hl1_2]); (try simp only [hl2_2]); (with_reducible repeat (first | apply Kd.R_alloc | apply Kd.R_drewN | apply Kd.R_drew)); exact Kd.R_mono HO_11.out (fun _ hk => ⟨hk.1, hk.2.1⟩)⟩, ⟨by (try simp only [hl1_2]); (try simp only [hl2_2]); (with_reducible repeat (first | apply Kd.R_alloc | apply Kd.R_drewN | apply Kd.R_drew)); exact Kd.R_mono HO_12.out (fun _ hk => ⟨hk.1, hk.2.1⟩)⟩, ⟨by repeat (first | (with_reducible first | exact HB.out | apply below_alloc | apply pw_below_drewN | apply below_drew1) | exact HB.out)⟩⟩
              · rw [if_neg c40] at H
                have c40b0 : decide (x17_2 < 2) = false := decide_eq_false c40
                clear c40
                replace H := Option.bind_eq_some_iff.mp H
                obtain ⟨⟨t371, t372⟩, A840, H⟩ := H
                replace H : ((torusref04_Dot.f k2 a0 x1_2 x2_2).bind fun bt373 => (if t371 = bt373.1 then (if t372 = bt373.2 then ((torusref04_Same.f k2 x11_2 x1_2).bind fun t375 => (if t375 = true then ((torusref04_Same.f k2 x12_2 x2_2).bind fun t376 => (if t376 = true then ((toruslaw04_awake.f).bind fun t377 => (some t377)) else (some false))) else (some false))) else (some false)) else (some false))) = some r := H
                have A84 := Aside0.mk A840
                clear A840
                replace H := Option.bind_eq_some_iff.mp H
                obtain ⟨⟨t373, t374⟩, A850, H⟩ := H
                replace H : (if t371 = t373 then (if t372 = t374 then ((torusref04_Same.f k2 x11_2 x1_2).bind fun t375 => (if t375 = true then ((torusref04_Same.f k2 x12_2 x2_2).bind fun t376 => (if t376 = true then ((toruslaw04_awake.f).bind fun t377 => (some t377)) else (some false))) else (some false))) else (some false)) else (some false)) = some r := H
                have A85 := Aside0.mk A850
                clear A850
                by_cases c86 : t371 = t373
                · rw [if_pos c86] at H
                  have c86b0 : (t371 == t373) = true := beq_iff_eq.mpr c86
                  have c86b1 : (t371 != t373) = false := bne_eq_false_iff_eq.mpr c86
                  clear c86
                  by_cases c87 : t372 = t374
                  · rw [if_pos c87] at H
                    have c87b0 : (t372 == t374) = true := beq_iff_eq.mpr c87
                    have c87b1 : (t372 != t374) = false := bne_eq_false_iff_eq.mpr c87
                    clear c87
                    replace H := Option.bind_eq_some_iff.mp H
                    obtain ⟨t375, A880, H⟩ := H
                    replace H : (if t375 = true then ((torusref04_Same.f k2 x12_2 x2_2).bind fun t376 => (if t376 = true then ((toruslaw04_awake.f).bind fun t377 => (some t377)) else (some false))) else (some false)) = some r := H
                    have A88 := Aside0.mk A880
                    clear A880
                    by_cases c89 : t375 = true
                    · subst c89
                      have H1 : ((torusref04_Same.f k2 x12_2 x2_2).bind fun t376 => (if t376 = true then ((toruslaw04_awake.f).bind fun t377 => (some t377)) else (some false))) = some r := by rw [if_pos rfl] at H; exact H
                      clear H
                      have H := H1
                      clear H1
                      replace H := Option.bind_eq_some_iff.mp H
                      obtain ⟨t376, A900, H⟩ := H
                      replace H : (if t376 = true then ((toruslaw04_awake.f).bind fun t377 => (some t377)) else (some false)) = some r := H
                      have A90 := Aside0.mk A900
                      clear A900
                      by_cases c91 : t376 = true
                      · subst c91
                        have H1 : ((toruslaw04_awake.f).bind fun t377 => (some t377)) = some r := by rw [if_pos rfl] at H; exact H
                        clear H
                        have H := H1
                        clear H1
                        replace H := Option.bind_eq_some_iff.mp H
                        obtain ⟨t377, A920, H⟩ := H
                        replace H : (some t377) = some r := H
                        have A92 := Aside0.mk A920
                        clear A920
                        obtain rfl := Option.some.inj H
                        obtain ⟨Ao93, co93, eo93⟩ := Kd.R_slice HO_11.out
                        subst eo93
                        obtain ⟨Ao94, co94, eo94⟩ := Kd.R_slice HO_12.out
                        subst eo94
                        go_wp2_with (first | ((with_reducible refine gate_callee (f := 18) rfl ?_); refine goesL_ (some 155) rfl rfl Try.func18 (by kernel_rfl) rfl #[.int .i64 a0, .slice Ao93 x11_2.length co93, .slice Ao94 x12_2.length co94] rfl (by (try simp only [List.map_toArray, List.map_cons, List.map_nil]); first | done | rfl | (simp only [List.length_drop, List.length_take]; rfl)) ?_; (with_reducible refine (column_Dot.calls k2 a0 _ _ x11_2 _ _ x12_2 t371 t372 _ ?side1 ?side2 ?side3 ?side4 A84.out).mono ?_); (case side1 => repeat (first | exact (Kd.R_reads' HO_11.out).2.2 | (with_reducible refine Kd.C_alloc ?_ _) | (with_reducible refine Kd.C_drewN ?_ _) | (with_reducible refine Kd.C_drew ?_))); (case side2 => exact (Kd.R_reads' HO_11.out).2.1); (case side3 => repeat (first | exact (Kd.R_reads' HO_12.out).2.2 | (with_reducible refine Kd.C_alloc ?_ _) | (with_reducible refine Kd.C_drewN ?_ _) | (with_reducible refine Kd.C_drew ?_))); (case side4 => exact (Kd.R_reads' HO_12.out).2.1); rintro e w95 ⟨rfl, hb⟩; refine ⟨_, rfl, ?_⟩; have n0_ := Aside0.mk (Kd.V_below (by (with_reducible repeat (first | apply Kd.V_alloc | apply Kd.V_drewN | apply Kd.V_drew)); exact HO_1.out) hb); have n1_ := Aside0.mk (Kd.V_below (by (with_reducible repeat (first | apply Kd.V_alloc | apply Kd.V_drewN | apply Kd.V_drew)); exact HO_2.out) hb); have n2_ := Aside0.mk (Kd.R_below (by (with_reducible repeat (first | apply Kd.R_alloc | apply Kd.R_drewN | apply Kd.R_drew)); exact HO_11.out) hb); have n3_ := Aside0.mk (Kd.R_below (by (with_reducible repeat (first | apply Kd.R_alloc | apply Kd.R_drewN | apply Kd.R_drew)); exact HO_12.out) hb); have n4_ := Aside0.mk (below_step (by repeat (first | (with_reducible first | exact HB.out | apply below_alloc | apply pw_below_drewN | apply below_drew1) | exact HB.out)) hb); clear HO_1; clear HO_2; clear HO_11; clear HO_12; clear HB; have HO_1 := n0_; have HO_2 := n1_; have HO_11 := n2_; have HO_12 := n3_; have HB := n4_; clear n0_ n1_ n2_ n3_ n4_; (try clear hb); (try clear hb2); (try clear hk); (try clear hi)) | ((with_reducible refine gate_callee (f := 31) rfl ?_); refine goesL_ (some 162) rfl rfl Try.func31 (by kernel_rfl) rfl #[.int .i64 a0, .slice A1 x1_2.length c1, .slice A2 x2_2.length c2] rfl (by (try simp only [List.map_toArray, List.map_cons, List.map_nil]); first | done | rfl | (simp only [List.length_drop, List.length_take]; rfl)) ?_; (with_reducible refine (torusref04_Dot.calls k2 a0 (fun k_ => (((P1_ k_ ∨ P2_ k_) ∨ w.heap.size ≤ k_) ∧ (some k_ ≠ (.slice Ao93 x11_2.length co93 : Value).ownBlock ∧ some k_ ≠ (.slice Ao94 x12_2.length co94 : Value).ownBlock))) _ _ x1_2 (fun k_ => (((P1_ k_ ∨ P2_ k_) ∨ w.heap.size ≤ k_) ∧ (some k_ ≠ (.slice Ao93 x11_2.length co93 : Value).ownBlock ∧ some k_ ≠ (.slice Ao94 x12_2.length co94 : Value).ownBlock))) _ _ x2_2 t373 t374 _ ?side1 ?side2 A85.out).mono ?_); (case side1 => exact HO_1.out); (case side2 => exact HO_2.out); rintro e w96 ⟨rfl, hb⟩; refine ⟨_, rfl, ?_⟩; have n0_ := Aside0.mk (Kd.V_below (by (with_reducible repeat (first | apply Kd.V_alloc | apply Kd.V_drewN | apply Kd.V_drew)); exact HO_1.out) hb); have n1_ := Aside0.mk (Kd.V_below (by (with_reducible repeat (first | apply Kd.V_alloc | apply Kd.V_drewN | apply Kd.V_drew)); exact HO_2.out) hb); have n2_ := Aside0.mk (Kd.R_below (by (with_reducible repeat (first | apply Kd.R_alloc | apply Kd.R_drewN | apply Kd.R_drew)); exact HO_11.out) hb); have n3_ := Aside0.mk (Kd.R_below (by (with_reducible repeat (first | apply Kd.R_alloc | apply Kd.R_drewN | apply Kd.R_drew)); exact HO_12.out) hb); have n4_ := Aside0.mk (below_step (by repeat (first | (with_reducible first | exact HB.out | apply below_alloc | apply pw_below_drewN | apply below_drew1) | exact HB.out)) hb); clear HO_1; clear HO_2; clear HO_11; clear HO_12; clear HB; have HO_1 := n0_; have HO_2 := n1_; have HO_11 := n2_; have HO_12 := n3_; have HB := n4_; clear n0_ n1_ n2_ n3_ n4_; (try clear hb); (try clear hb2); (try clear hk); (try clear hi)) | (go_at_call 15; (with_reducible refine (torusref04_Same.calls k2 _ _ x11_2 _ _ x1_2 true _ ?side1 ?side2 ?side3 ?side4 A88.out).mono ?_); (case side1 => repeat (first | exact (Kd.R_reads' HO_11.out).2.2 | (with_reducible refine Kd.C_alloc ?_ _) | (with_reducible refine Kd.C_drewN ?_ _) | (with_reducible refine Kd.C_drew ?_))); (case side2 => exact (Kd.R_reads' HO_11.out).2.1); (case side3 => repeat (first | exact (Kd.V_reads' HO_1.out).2.2 | (with_reducible refine Kd.C_alloc ?_ _) | (with_reducible refine Kd.C_drewN ?_ _) | (with_reducible refine Kd.C_drew ?_))); (case side4 => exact (Kd.V_reads' HO_1.out).2.1); rintro e w' ⟨rfl, ⟨nd, rfl⟩⟩) | (go_at_call 15; (with_reducible refine (torusref04_Same.calls k2 _ _ x12_2 _ _ x2_2 true _ ?side1 ?side2 ?side3 ?side4 A90.out).mono ?_); (case side1 => repeat (first | exact (Kd.R_reads' HO_12.out).2.2 | (with_reducible refine Kd.C_alloc ?_ _) | (with_reducible refine Kd.C_drewN ?_ _) | (with_reducible refine Kd.C_drew ?_))); (case side2 => exact (Kd.R_reads' HO_12.out).2.1); (case side3 => repeat (first | exact (Kd.V_reads' HO_2.out).2.2 | (with_reducible refine Kd.C_alloc ?_ _) | (with_reducible refine Kd.C_drewN ?_ _) | (with_reducible refine Kd.C_drew ?_))); (case side4 => exact (Kd.V_reads' HO_2.out).2.1); rintro e w' ⟨rfl, ⟨nd, rfl⟩⟩) | (go_at_call 19; (with_reducible refine (toruslaw04_awake.calls  t377 _ A92.out).mono ?_); rintro e w97 ⟨rfl, hb⟩; have n0_ := Aside0.mk (Kd.V_below (by (with_reducible repeat (first | apply Kd.V_alloc | apply Kd.V_drewN | apply Kd.V_drew)); exact HO_1.out) hb); have n1_ := Aside0.mk (Kd.V_below (by (with_reducible repeat (first | apply Kd.V_alloc | apply Kd.V_drewN | apply Kd.V_drew)); exact HO_2.out) hb); have n2_ := Aside0.mk (Kd.R_below (by (with_reducible repeat (first | apply Kd.R_alloc | apply Kd.R_drewN | apply Kd.R_drew)); exact HO_11.out) hb); have n3_ := Aside0.mk (Kd.R_below (by (with_reducible repeat (first | apply Kd.R_alloc | apply Kd.R_drewN | apply Kd.R_drew)); exact HO_12.out) hb); have n4_ := Aside0.mk (below_step (by repeat (first | (with_reducible first | exact HB.out | apply below_alloc | apply pw_below_drewN | apply below_drew1) | exact HB.out)) hb); clear HO_1; clear HO_2; clear HO_11; clear HO_12; clear HB; have HO_1 := n0_; have HO_2 := n1_; have HO_11 := n2_; have HO_12 := n3_; have HB := n4_; clear n0_ n1_ n2_ n3_ n4_; (try clear hb); (try clear hb2); (try clear hk); (try clear hi)))
                        go_ret
                        exact ⟨by first | rfl | (simp [errW_none, errW_some] <;> rfl) | (simp [*, errW_none, errW_some] <;> rfl), by repeat (first | (with_reducible first | exact HB.out | apply below_alloc | apply pw_below_drewN | apply below_drew1) | exact HB.out)⟩
                      · replace c91 := Bool.eq_false_iff.mpr c91
                        subst c91
                        have H1 : (some false) = some r := by rw [if_neg (show ¬ (false = true) by decide)] at H; exact H
                        clear H
                        have H := H1
                        clear H1
                        exact absurd (Option.some.inj H) (by rw [hrt]; exact Bool.false_ne_true)
                    · replace c89 := Bool.eq_false_iff.mpr c89
                      subst c89
                      have H1 : (some false) = some r := by rw [if_neg (show ¬ (false = true) by decide)] at H; exact H
                      clear H
                      have H := H1
                      clear H1
                      exact absurd (Option.some.inj H) (by rw [hrt]; exact Bool.false_ne_true)
                  · rw [if_neg c87] at H
                    exact absurd (Option.some.inj H) (by rw [hrt]; exact Bool.false_ne_true)
                · rw [if_neg c86] at H
                  exact absurd (Option.some.inj H) (by rw [hrt]; exact Bool.false_ne_true)
end Go.Proofs.Ytojnnfhalpefmaa.M
