/- plus and Dot of package column in the form in which the printed texts ask for them. -/
import Derived.Test.YtojnnfhalpefmaaKDot
set_option linter.unusedVariables false
namespace Go.Proofs.Ytojnnfhalpefmaa.M
open Go.RowKit Go.Proofs.YtojnnfhalpefmaaW.PrintWords
def column_plus.f (a0 : Int) (l1 : List S45) (a2 : Int) (l3 : List S45) : Option (List S45) := if a0 = 0 then none else if l1.length + l3.length < 8796093022208 then some (H.plusL a0 a2 (H.merge l1 l3)) else none
theorem column_plus.calls (a0 : Int) (A1 : Option Addr) (c1 : Nat) (l1 : List (S45)) (a2 : Int) (A3 : Option Addr) (c3 : Nat) (l3 : List (S45)) (r : List (S45)) (w : World) (hr1 : Kd.C k45 w A1 l1.length l1) (hc1 : l1.length ≤ c1) (hr3 : Kd.C k45 w A3 l3.length l3) (hc3 : l3.length ≤ c3) (h : column_plus.f a0 l1 a2 l3 = some r) :
    Calls Try.prog 57 #[.int .i64 a0, .slice A1 l1.length c1, .int .i64 a2, .slice A3 l3.length c3] w fun e w' => ∃ v0_ : Value, e = .returned v0_ ∧ Kd.R k45 45 w' w.heap.size (fun _ => True) v0_ r ∧ Below w.heap.size w w' := by
  unfold column_plus.f at h
  by_cases hp : a0 = 0
  · rw [if_pos hp] at h; cases h
  · rw [if_neg hp] at h
    by_cases hl : l1.length + l3.length < 8796093022208
    · rw [if_pos hl] at h
      cases h
      refine (callsIn_wide (n := 6)).1 ((H.plus_calls a0 a2 l1 l3 A1 A3 c1 c3 w hr1 hc1 hr3 hc3 hp hl).mono ?_)
      rintro e W' ⟨v, rfl, hown, hB⟩
      exact ⟨v, rfl, ⟨fun _ _ => trivial, _, hown, H.flatT_reps _ _ _ _⟩, hB⟩
    · rw [if_neg hl] at h; cases h
def column_Dot.f (k : Nat) (a0 : Int) (l1 : List S45) (l2 : List S45) : Option (Int × Int) := H.dotF k a0 l1 l2
theorem column_Dot.mono : ∀ a0 a1 a2 k, LeO (column_Dot.f k a0 a1 a2) (column_Dot.f (k + 1) a0 a1 a2) := by
  intro a0 a1 a2 k
  unfold column_Dot.f H.dotF
  exact LeO.bind (column_checkAll.mono _ _ _) (fun _ => LeO.refl _)
theorem column_Dot.calls (k : Nat) (a0 : Int) (A1 : Option Addr) (c1 : Nat) (l1 : List (S45)) (A2 : Option Addr) (c2 : Nat) (l2 : List (S45)) (r1 : Int) (r2 : Int) (w : World) (hr1 : Kd.C k45 w A1 l1.length l1) (hc1 : l1.length ≤ c1) (hr2 : Kd.C k45 w A2 l2.length l2) (hc2 : l2.length ≤ c2) (h : column_Dot.f k a0 l1 l2 = some (r1, r2)) :
    Calls Try.prog 18 #[.int .i64 a0, .slice A1 l1.length c1, .slice A2 l2.length c2] w fun e w' => e = .returned (.tuple #[.int .i64 r1, .int .i64 r2]) ∧ Below w.heap.size w w' :=
  (callsIn_wide (n := 6)).1 (H.dot_calls k a0 l1 l2 A1 A2 c1 c2 w hr1 hc1 hr2 hc2 r1 r2 h)
end Go.Proofs.Ytojnnfhalpefmaa.M
