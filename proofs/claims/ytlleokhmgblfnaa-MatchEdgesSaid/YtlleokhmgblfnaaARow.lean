/- A block that holds a list of numbers and nothing else: read, written, kept. -/
import Derived.Test.YtlleokhmgblfnaaABase
set_option linter.unusedVariables false
namespace Go.Proofs.Ytlleokhmgblfnaa.H
open Go.RowKit Go.Proofs.YtlleokhmgblfnaaW.PrintWords

/-- Block g holds the numbers xs. -/
def Row (w : World) (g : Nat) (xs : List Int) : Prop := w.heap[g]? = some (.cells (xs.map (Value.int .i64)).toArray 3 (0, 0))
section
variable {w w1 : World} {g : Nat} {xs : List Int}
theorem Row.lt (h : Row w g xs) : g < w.heap.size := blk_lt h
theorem Row.cell (h : Row w g xs) (i : Int) (h0 : 0 ≤ i) (h1 : i < xs.length) : w.cell? ⟨g, i.toNat, none⟩ = some (.int .i64 (rd xs i)) := by
  rw [blk_cell h]
  simp [rd, show i.toNat < xs.length by omega]
theorem Row.frozen (h : Row w g xs) (i : Int) : w.frozen? ⟨g, i.toNat, none⟩ = false := blk_frozen h _
theorem Row.set (h : Row w g xs) (i x : Int) : Row (w.setCell ⟨g, i.toNat, none⟩ (.int .i64 x)) g (xs.set i.toNat x) := by
  have := blk_set h i.toNat (.int .i64 x)
  unfold Row
  rw [this]
  simp [List.map_set]
theorem Row.ne (h : Row w g xs) {g' t : Nat} {cs : Array Value} (hb : w.heap[g']? = some (.cells cs t (0, 0))) (ht : t ≠ 3) : g' ≠ g := blk_ne hb h ht
theorem Row.far (h : Row w g xs) {p : Addr} (hp : g ≠ p.block) (u : Value) : Row (w.setCell p u) g xs := blk_far h hp u
theorem Row.move (h : Row w g xs) (hm : w1.heap[g]? = w.heap[g]?) : Row w1 g xs := hm.trans h
theorem Row.alloc (h : Row w g xs) (o : Obj) : Row (w.alloc o) g xs := blk_alloc h o
theorem Row.drewN (h : Row w g xs) (n : Nat) : Row (w.drewN n) g xs := h
/-- It reads as a slice of numbers. -/
theorem Row.reads (h : Row w g xs) (hm : xs.length ≤ 9223372036854775807) : Kd.C (Kd.int .i64) w (some ⟨g, 0, none⟩) xs.length xs := by
  refine Kd.C_of_reads (d := (0 : Int)) ⟨rfl, hm, fun _ => ⟨_, rfl, fun j hj => ?_⟩⟩
  rw [add_plain]
  have := h.cell j (by omega) (by omega)
  simpa [rd, rdOf] using this
end
end Go.Proofs.Ytlleokhmgblfnaa.H
