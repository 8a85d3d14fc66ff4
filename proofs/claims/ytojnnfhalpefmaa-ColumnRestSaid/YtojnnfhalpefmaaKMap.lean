/- Maps from int to int: what a look-up answers, what a store does. -/
import Derived.Test.YtojnnfhalpefmaaMx0
import Derived.Maps.OwnSet
import Derived.Maps.Views
import Derived.KernelRfl
set_option linter.unusedVariables false
namespace Go.Proofs.Ytojnnfhalpefmaa.H
open Go.Maps Go.RowKit Go.Proofs.YtojnnfhalpefmaaW.PrintWords
/-- Block b is a map from ints to ints that answers M, of at most n entries. -/
def IMap (w : World) (b n : Nat) (M : Int → Option Int) : Prop :=
  ∃ D : DataW Unit, w.ownsMap Try.prog 3 (plainElem Try.prog 3) b n D ∧ ∀ x : Int, (Lit.int .i64 x).wf = true → ∀ z, D.atKey (.int .i64 x) z = match M x with | some v => .lit (.int .i64 v) | none => z
theorem zeroI (w : World) : (zeroValue 3).run Try.prog w = .ok (.int .i64 0) w := by kernel_rfl
theorem keyed3 : Keyed Try.prog 3 := int_keyed Try.underlying3
theorem key3 {x : Int} (h : (Lit.int .i64 x).wf = true) : keyOf Try.prog 3 (.int .i64 x) = some (.int .i64 x) := keyOf_int_mk Try.underlying3 h
theorem IMap.made (w : World) : IMap (w.alloc (.map #[] 0)) w.heap.size 0 (fun _ => none) :=
  ⟨.map [], World.ownsMap_made _ _ _ _, fun x hx z => rfl⟩
theorem IMap.look {w : World} {b n : Nat} {M : Int → Option Int} (h : IMap w b n M) {x : Int} (hx : (Lit.int .i64 x).wf = true) :
    (Instr.lookup 85 (.map (some b)) (.int .i64 x) true).run Try.prog w = .ok (.tuple #[.int .i64 ((M x).getD 0), .bool (M x).isSome]) w := by
  obtain ⟨D, hD, hM⟩ := h
  obtain ⟨v, ps, hrun, hv⟩ := hD.look_ok keyed3 Try.underlying85 (zeroI w) (plainElem_int Try.underlying3 (by decide)) (key3 hx)
  rw [hM x hx] at hv
  rw [hrun]
  cases hm : M x with
  | none =>
    rw [hm] at hv
    obtain ⟨c, rfl, hc, _⟩ := plainElem_int_inv Try.underlying3 hv
    have hc' : c = 0 := by simpa using (congrArg Prod.fst hc).symm
    rw [has_false_of_atKey (D := D) (k := .int .i64 x) (fun z => by rw [hM x hx, hm])]
    simp [hc']
  | some y =>
    rw [hm] at hv
    obtain ⟨c, rfl, hc, _⟩ := plainElem_int_inv Try.underlying3 hv
    have hc' : c = y := by simpa using (congrArg Prod.fst hc).symm
    rw [has_true_of_atKey (D := D) (k := .int .i64 x) (y := .lit (.int .i64 y)) (fun z => by rw [hM x hx, hm])]
    simp [hc']
theorem IMap.store {w : World} {b n : Nat} {M : Int → Option Int} (h : IMap w b n M) (hn : n < maxLen) {x v : Int} (hx : (Lit.int .i64 x).wf = true) (hv : (Lit.int .i64 v).wf = true) :
    ∃ w', (Instr.mapUpdate 85 (.map (some b)) (.int .i64 x) (.int .i64 v)).run Try.prog w = .ok () w' ∧ IMap w' b (n + 1) (fun y => if y = x then some v else M y) ∧ w.grownBy w' (some b) := by
  obtain ⟨D, hD, hM⟩ := h
  obtain ⟨w', hr, h1, h2⟩ := hD.update keyed3 Try.underlying85 hn (key3 hx) (plainElem_int Try.underlying3 hv)
  refine ⟨w', hr, ⟨_, h1, fun y hy z => ?_⟩, h2⟩
  by_cases e : y = x
  · subst e
    rw [atKey_put_same hD.isMap (keyed3.key (key3 hx))]
    simp
  · have ne : (Lit.int .i64 y) ≠ .int .i64 x := fun e2 => by cases e2; exact e rfl
    rw [atKey_put_other ne, hM y hy]
    simp [e]
theorem IMap.kept {w w' : World} {b n : Nat} {M : Int → Option Int} {row : Option Nat} (h : IMap w b n M) (hg : w.grownBy w' row) (hne : some b ≠ row) : IMap w' b n M := by
  obtain ⟨D, h1, h2⟩ := h
  exact ⟨D, h1.kept hg hne, h2⟩
theorem IMap.same {w w' : World} {b n : Nat} {M : Int → Option Int} (h : IMap w b n M) (he : w'.heap[b]? = w.heap[b]?) : IMap w' b n M := by
  obtain ⟨D, ⟨es, clock, hb, h1⟩, h2⟩ := h
  exact ⟨D, ⟨es, clock, he.trans hb, h1⟩, h2⟩
theorem IMap.lt {w : World} {b n : Nat} {M : Int → Option Int} (h : IMap w b n M) : b < w.heap.size := by
  obtain ⟨D, ⟨es, clock, hb, h1⟩, h2⟩ := h
  exact (Array.getElem?_eq_some_iff.1 hb).1
end Go.Proofs.Ytojnnfhalpefmaa.H
