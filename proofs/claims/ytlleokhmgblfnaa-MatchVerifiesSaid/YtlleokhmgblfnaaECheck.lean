/- match.Check in the form in which the printed texts ask for it. -/
import Derived.Test.YtlleokhmgblfnaaMx0
import Derived.Test.YtlleokhmgblfnaaEGreat
import Derived.Test.YtlleokhmgblfnaaACheck
set_option linter.unusedVariables false
namespace Go.Proofs.Ytlleokhmgblfnaa.M
open Go.RowKit Go.Proofs.YtlleokhmgblfnaaW.PrintWords
def prE (x : S40) : Int × Int := (x.f0, x.f1)
def match_Check.f (a0_0 : Int) (a0_1 : Int) (l0_2 : List S40) : Option Int := some (H.chk a0_0 a0_1 (l0_2.map prE))
theorem match_Check.calls (a0_0 : Int) (a0_1 : Int) (A0_2 : Option Addr) (c0_2 : Nat) (l0_2 : List (S40)) (r : Int) (w : World) (hr0_2 : Kd.C k40 w A0_2 l0_2.length l0_2) (hc0_2 : l0_2.length ≤ c0_2) (h : match_Check.f a0_0 a0_1 l0_2 = some r) :
    Calls Try.prog 23 #[.agg #[.int .i64 a0_0, .int .i64 a0_1, .slice A0_2 l0_2.length c0_2]] w fun e w' => e = .returned (.int .i64 r) ∧ Below w.heap.size w w' := by
  have hk : H.kE.C w A0_2 l0_2.length (l0_2.map prE) := H.C_iso hr0_2
  have hl : (l0_2.map prE).length = l0_2.length := by simp
  rw [← hl] at hk hc0_2 ⊢
  have := H.check_any a0_0 a0_1 (l0_2.map prE) A0_2 c0_2 w hk hc0_2
  rw [show H.chk a0_0 a0_1 (l0_2.map prE) = r from Option.some.inj h] at this
  exact this
end Go.Proofs.Ytlleokhmgblfnaa.M
