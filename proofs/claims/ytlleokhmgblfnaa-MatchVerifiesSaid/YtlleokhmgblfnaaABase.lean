/- The words that the walks of this seat share: the kind of an edge, how an edge of a slice of edges is read. -/
import Derived.Test.YtlleokhmgblfnaaProg
import Derived.Below
import Derived.Deep.Draws
import Derived.Deep.AppendLies
import Derived.Maps.AppendAt
import Derived.OwnWalk
import Derived.Laws.BytesArg
import Derived.Laws.MakeOwn
import Derived.Laws.OwnMore
import Derived.Deep.OwnRows
import Derived.Tactics
import Derived.Lib.ConvBytes
import Derived.Laws.Slices
import Derived.WalkKit
import Derived.KernelRfl
import Derived.RowKit3
import Derived.Deep.LoopGhost
import Derived.Deep.QuietTactic
import Derived.BigQuiet
import Derived.WideLaws
import Derived.Deep.DeepCutAuto
import Derived.Deep.CutBlock
import Derived.Deep.RegionHeld3
import Derived.Laws.Rows
import Derived.Lib.AppendStr
import Derived.ArgAppend
import Derived.Laws.IdiomCopy
import Derived.OrdersHeld
import Derived.Laws.BitsLemmas
import Derived.RowKit
import Derived.Outline
import Derived.Laws.StructEq
import Derived.Test.YtlleokhmgblfnaaWWords
import Derived.Test.YtlleokhmgblfnaaWLast
import Derived.Test.YtlleokhmgblfnaaWMore
set_option linter.unusedVariables false
namespace Go.Proofs.Ytlleokhmgblfnaa.H
open Go.RowKit Go.Proofs.YtlleokhmgblfnaaW.PrintWords

theorem info3 : (Try.prog.info? 3).map (fun i => (i.zero, i.size, i.bytes)) = some (some (.int .i64 0), 1, 8) := by kernel_rfl
theorem info4 : (Try.prog.info? 4).map (fun i => (i.zero, i.size, i.bytes)) = some (some (.bool false), 1, 1) := by kernel_rfl
theorem info29 : (Try.prog.info? 29).map (fun i => (i.zero, i.size, i.bytes)) = some (some (.slice none 0 0), 1, 24) := by kernel_rfl
theorem info40 : (Try.prog.info? 40).map (fun i => (i.zero, i.size, i.bytes)) = some (some (.agg #[.int .i64 0, .int .i64 0]), 2, 16) := by kernel_rfl

/-- An edge: two numbers in line. -/
def kE : Kd (Int × Int) := Kd.pair (Kd.int .i64) (Kd.int .i64)
theorem kE_sz : kE.sz = 2 := rfl
def rdE (xs : List (Int × Int)) (i : Int) : Int × Int := xs.getD i.toNat (0, 0)
/-- The two cells of an edge that is read. -/
theorem at_E {w : World} {A : Option Addr} {n : Nat} {xs : List (Int × Int)} (h : kE.C w A n xs) (i : Int) (h0 : 0 ≤ i) (h1 : i < n) :
    ∃ ad, A = some ad ∧ w.cell? (ad.add (i.toNat * 2)) = some (.int .i64 (rdE xs i).1) ∧ w.cell? ⟨(ad.add (i.toNat * 2)).block, (ad.add (i.toNat * 2)).off + 1, none⟩ = some (.int .i64 (rdE xs i).2) := by
  obtain ⟨ad, c, e, _, ⟨c0, c1, rfl, h0', h1'⟩, hc⟩ := Kd.C_get h ((0, 0) : Int × Int) i h0 h1
  have e0 : c0 = [.int .i64 (rdE xs i).1] := h0'
  have e1 : c1 = [.int .i64 (rdE xs i).2] := h1'
  subst e0 e1
  refine ⟨ad, e, ?_, ?_⟩
  · simpa [kE_sz] using hc 0 _ rfl
  · rw [← add_field ad _ 1 (by omega)]; simpa [kE_sz] using hc 1 _ rfl
theorem drop_E (xs : List (Int × Int)) (i : Int) (h0 : 0 ≤ i) (h1 : i < xs.length) : xs.drop i.toNat = rdE xs i :: xs.drop (i.toNat + 1) := by
  rw [List.drop_eq_getElem_cons (by omega)]
  simp [rdE, show i.toNat < xs.length by omega]
theorem eqE_d (n : Nat) (w : World) (a b c d : Int) : (Op.equalIn (n + 2) 40 (.agg #[.int .i64 a, .int .i64 b]) (.agg #[.int .i64 c, .int .i64 d])).run Try.prog w = .ok (a == c && b == d) w := by
  have hs : (sizeOf 3).run Try.prog w = .ok 1 w := by kernel_rfl
  have p0 : ∀ x y : Int, (part 3 #[.int .i64 x, .int .i64 y] 0).run Try.prog w = .ok (.int .i64 x) w := fun x y => by go_simp
  have p1 : ∀ x y : Int, (part 3 #[.int .i64 x, .int .i64 y] 1).run Try.prog w = .ok (.int .i64 y) w := fun x y => by go_simp
  have e0 : ∀ x y : Int, (Op.equalIn (n + 1) 3 (.int .i64 x) (.int .i64 y)).run Try.prog w = .ok (x == y) w := fun x y => run_equalIn_int w n 3 .i64 .i64 x y Try.underlying3
  rw [Op.equalIn]
  simp only [Sem.run_bind, run_underlying Try.underlying40, Result.andThen_ok, hs]
  simp [Std.Legacy.Range.forIn_eq_forIn_range', List.range', p0, p1, e0]
  cases h1 : a == c <;> cases h2 : b == d <;> simp_all
theorem eqE (w : World) (a b c d : Int) : (Op.equalIn 10000 40 (.agg #[.int .i64 a, .int .i64 b]) (.agg #[.int .i64 c, .int .i64 d])).run Try.prog w = .ok (a == c && b == d) w := eqE_d 9998 w a b c d
end Go.Proofs.Ytlleokhmgblfnaa.H
