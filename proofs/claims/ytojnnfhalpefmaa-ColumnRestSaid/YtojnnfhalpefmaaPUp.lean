/- Columns that are checked go up. -/
import Derived.Test.YtojnnfhalpefmaaPCols
set_option linter.unusedVariables false
namespace Go.Proofs.Ytojnnfhalpefmaa.P
open Go.RowKit Go.Proofs.YtojnnfhalpefmaaW.PrintWords Go.Proofs.Ytojnnfhalpefmaa.M
theorem checkB_up {p : Int} {c : List S45} (h : checkB p c = 0) : primeB p = true ∧ Up p (-1) c := by
  unfold checkB at h
  by_cases hp : primeB p = true
  · rw [if_pos hp] at h
    exact ⟨hp, (chkS_up (Int.le_refl _)).1 h⟩
  · rw [if_neg hp] at h
    cases h
end Go.Proofs.Ytojnnfhalpefmaa.P
