/- Sets of keys kept as maps to bool: what a look-up answers, what a store does. -/
import Derived.Test.YtlleokhmgblfnaaChecked
import Derived.Maps.OwnSet
import Derived.Maps.Views
import Derived.DeepKeys5
import Derived.KernelRfl
set_option linter.unusedVariables false
namespace Go.Proofs.Ytlleokhmgblfnaa.H
open Go.Maps
theorem plainElem_bool_inv {P : Program} {e : TypeId} (he : P.underlying e = some .bool) {v : Value} {x : Bool} {ps : List MemPlace} (h : plainElem (H := Unit) P e v = some (.lit (.bool x), ps)) : v = .bool x := by
  cases v <;> simp_all [plainElem]
/-- Block b is a map from keys of the type k to bools that answers S, of at most n entries. -/
def SetMap {α : Type} (enc : α → Value) (w : World) (k : TypeId) (b n : Nat) (S : α → Bool) : Prop :=
  ∃ D : DataW Unit, w.ownsMap Try.prog k (plainElem Try.prog 4) b n D ∧ ∀ key kl, keyOf Try.prog k (enc key) = some kl → D.atKey kl (.lit (.bool false)) = .lit (.bool (S key))
theorem zeroB (w : World) : (zeroValue 4).run Try.prog w = .ok (.bool false) w := by kernel_rfl
theorem SetMap.made {α : Type} (enc : α → Value) (w : World) (k : TypeId) : SetMap enc (w.alloc (.map #[] 0)) k w.heap.size 0 (fun _ => false) :=
  ⟨.map [], World.ownsMap_made _ _ _ _, fun key kl _ => rfl⟩
theorem SetMap.look {w : World} {k t : TypeId} {b n : Nat} {α : Type} {enc : α → Value} {S : α → Bool} (h : SetMap enc w k b n S) (K : Keyed Try.prog k) (ht : Try.prog.underlying t = some (.map k 4)) {key : α} {kl : Lit} (hk : keyOf Try.prog k (enc key) = some kl) :
    (Instr.lookup t (.map (some b)) (enc key) false).run Try.prog w = .ok (.bool (S key)) w := by
  obtain ⟨D, hD, hS⟩ := h
  obtain ⟨v, ps, hr, hv⟩ := hD.lookup K ht (zeroB w) (plainElem_bool Try.underlying4 false) hk
  rw [hS key kl hk] at hv
  rw [hr, plainElem_bool_inv Try.underlying4 hv]
theorem SetMap.store {w : World} {k t : TypeId} {b n : Nat} {α : Type} [DecidableEq α] {enc : α → Value} {S : α → Bool} (inj : ∀ x y, enc x = enc y → x = y) (h : SetMap enc w k b n S) (K : Keyed Try.prog k) (ht : Try.prog.underlying t = some (.map k 4)) (hn : n < maxLen) {key : α} {kl : Lit} (hk : keyOf Try.prog k (enc key) = some kl) :
    ∃ w', (Instr.mapUpdate t (.map (some b)) (enc key) (.bool true)).run Try.prog w = .ok () w' ∧ SetMap enc w' k b (n + 1) (fun x => S x || decide (x = key)) ∧ w.grownBy w' (some b) := by
  obtain ⟨D, hD, hS⟩ := h
  obtain ⟨w', hr, h1, h2⟩ := hD.update K ht hn hk (plainElem_bool Try.underlying4 true)
  refine ⟨w', hr, ⟨_, h1, fun x xl hx => ?_⟩, h2⟩
  by_cases e : x = key
  · subst e
    have : xl = kl := by rw [hk] at hx; exact (Option.some.inj hx).symm
    subst this
    rw [atKey_put_same hD.isMap (K.key hk)]
    simp
  · have ne : xl ≠ kl := fun e2 => by subst e2; exact e (inj _ _ (K.inj hx hk))
    rw [atKey_put_other ne, hS x xl hx]
    simp [e]
theorem SetMap.mono {w : World} {k : TypeId} {b n n' : Nat} {α : Type} {enc : α → Value} {S : α → Bool} (h : SetMap enc w k b n S) (hn : n ≤ n') : SetMap enc w k b n' S := by
  obtain ⟨D, h1, h2⟩ := h
  exact ⟨D, h1.mono hn, h2⟩
theorem SetMap.kept {w w' : World} {k : TypeId} {b n : Nat} {α : Type} {enc : α → Value} {S : α → Bool} {row : Option Nat} (h : SetMap enc w k b n S) (hg : w.grownBy w' row) (hne : some b ≠ row) : SetMap enc w' k b n S := by
  obtain ⟨D, h1, h2⟩ := h
  exact ⟨D, h1.kept hg hne, h2⟩
theorem SetMap.alloc {w : World} {k : TypeId} {b n : Nat} {α : Type} {enc : α → Value} {S : α → Bool} (h : SetMap enc w k b n S) (o : Obj) : SetMap enc (w.alloc o) k b n S := by
  obtain ⟨D, h1, h2⟩ := h
  exact ⟨D, h1.alloc o, h2⟩
theorem SetMap.drew {w : World} {k : TypeId} {b n : Nat} {α : Type} {enc : α → Value} {S : α → Bool} (h : SetMap enc w k b n S) : SetMap enc w.drew k b n S := by
  obtain ⟨D, h1, h2⟩ := h
  exact ⟨D, h1.drew, h2⟩
theorem SetMap.setCell {w : World} {k : TypeId} {b n : Nat} {α : Type} {enc : α → Value} {S : α → Bool} (h : SetMap enc w k b n S) {a : Addr} (ha : b ≠ a.block) (u : Value) : SetMap enc (w.setCell a u) k b n S := by
  obtain ⟨D, h1, h2⟩ := h
  exact ⟨D, h1.setCell ha u, h2⟩
theorem keyed3 : Keyed Try.prog 3 := int_keyed Try.underlying3
theorem keyed40 : Keyed Try.prog 40 := Keyed.of_law (deep_law_gate (by kernel_rfl) (by decide +kernel) (by decide +kernel) (by kernel_rfl) (by rw [Try.underlying40]))
theorem key3 {x : Int} (h : (Lit.int .i64 x).wf = true) : keyOf Try.prog 3 (.int .i64 x) = some (.int .i64 x) := keyOf_int_mk Try.underlying3 h
theorem kt40 : Try.prog.keyType 40 = true := by decide +kernel
theorem ce40 : Try.prog.cellsOf 40 = 2 := by kernel_rfl
theorem ce3 : Try.prog.cellsOf 3 = 1 := by kernel_rfl
def encP (x : Int × Int) : Value := .agg #[.int .i64 x.1, .int .i64 x.2]
theorem encP_inj (x y : Int × Int) (h : encP x = encP y) : x = y := by
  simp [encP] at h
  exact Prod.ext h.1 h.2
def encI (x : Int) : Value := .int .i64 x
theorem encI_inj (x y : Int) (h : encI x = encI y) : x = y := by simpa [encI] using h
theorem lits3 (m : Nat) {a : Int} (ha : (Lit.int .i64 a).wf = true) : Try.prog.keyLits (m + 1) 3 [.int .i64 a] = some [.int .i64 a] := by
  unfold Program.keyLits
  rw [Try.underlying3]
  simp [ha]
theorem key40 {x : Int × Int} (ha : (Lit.int .i64 x.1).wf = true) (hb : (Lit.int .i64 x.2).wf = true) : ∃ kl, keyOf Try.prog 40 (encP x) = some kl := by
  obtain ⟨m, hm⟩ : ∃ m, Try.prog.types.size = m + 1 := ⟨Try.prog.types.size - 1, by decide +kernel⟩
  unfold keyOf encP
  rw [Try.underlying40]
  simp only [kt40, Value.formed, Try.underlying40, ce40, hm]
  unfold Program.keyLits
  rw [Try.underlying40]
  simp [ce40, ce3, Value.cells, List.range, List.range.loop, lits3 m ha, lits3 m hb]
end Go.Proofs.Ytlleokhmgblfnaa.H
