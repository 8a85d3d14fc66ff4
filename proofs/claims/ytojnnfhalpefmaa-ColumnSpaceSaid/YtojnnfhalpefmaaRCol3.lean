/- Three columns that come in as an array. -/
import Derived.Test.YtojnnfhalpefmaaRCol
import Derived.Laws.IdiomArrays
namespace Go.Proofs.Ytojnnfhalpefmaa.RCol
open Go.ChangeShapes Go.WideShapes Go.ChangeAt Go.RowKit Go.Proofs.YtojnnfhalpefmaaW.PrintWords Go.Proofs.Ytojnnfhalpefmaa.M
set_option linter.unusedVariables false
set_option maxRecDepth 100000
theorem cells23 : Try.prog.cellsOf 23 = 3 := by kernel_rfl
theorem open_three {H : Type} {enc : TypeId × Value → H} {W : World} {sp : Nat → Bool} {held : Bool} {r : Reach} {b0 : Nat} {v : Value} {d : DataW H} {p : List MemPlace}
    (hv : Value.okWide Try.prog W r b0 23 v) (h : DataW.Trod enc Try.prog W 0 sp held 23 v d p) (hw : ∀ n ∈ d.weights Try.prog 23, n ≤ reachBytes) :
    ∃ (A0 A1 A2 : Option Addr) (c0 c1 c2 : Nat) (E0 E1 E2 : List S45), v = .agg #[.slice A0 E0.length c0, .slice A1 E1.length c1, .slice A2 E2.length c2] ∧
      (E0.length ≤ c0 ∧ Kd.C k45 W A0 E0.length E0 ∧ E0.length < 8796093022208) ∧ (E1.length ≤ c1 ∧ Kd.C k45 W A1 E1.length E1 ∧ E1.length < 8796093022208) ∧ (E2.length ≤ c2 ∧ Kd.C k45 W A2 E2.length E2 ∧ E2.length < 8796093022208) := by
  unfold Value.okWide at hv
  rw [Try.underlying23] at hv
  obtain ⟨cs, rfl, hsz, _⟩ := hv
  obtain ⟨v0, v1, v2, rfl⟩ := Go.Joins.array3 (hsz.trans cells23)
  obtain ⟨fuel, hf⟩ := h
  have hf' : DataW.trod enc Try.prog W 0 sp held fuel 23 [v0, v1, v2] = some (d, p) := hf
  obtain ⟨y0, y1, y2, n, hx, h0, h1, h2⟩ := trod_array3 Try.underlying23 cells22 hf'
  cases hx
  have key : ∀ y, y ∈ [y0.1, y1.1, y2.1] → ∀ x ∈ DataW.weights Try.prog 22 y, x ≤ reachBytes := fun y hy x hx => hw x (by
    simp only [DataW.weights, Try.underlying23]
    exact weightsAll_mem hy hx)
  obtain ⟨A0, c0, E0, rfl, q0⟩ := open_terms h0 (key _ (by simp))
  obtain ⟨A1, c1, E1, rfl, q1⟩ := open_terms h1 (key _ (by simp))
  obtain ⟨A2, c2, E2, rfl, q2⟩ := open_terms h2 (key _ (by simp))
  exact ⟨A0, A1, A2, c0, c1, c2, E0, E1, E2, rfl, q0, q1, q2⟩
end Go.Proofs.Ytojnnfhalpefmaa.RCol
