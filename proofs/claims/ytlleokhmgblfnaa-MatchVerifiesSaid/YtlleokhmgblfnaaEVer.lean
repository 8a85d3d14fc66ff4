/- match.Verify in the form in which the printed texts ask for it. -/
import Derived.Test.YtlleokhmgblfnaaECheck
import Derived.Test.YtlleokhmgblfnaaAVer
set_option linter.unusedVariables false
namespace Go.Proofs.Ytlleokhmgblfnaa.M
open Go.RowKit Go.Proofs.YtlleokhmgblfnaaW.PrintWords
def match_Verify.f (a0_0 : Int) (a0_1 : Int) (l0_2 : List S40) (l1 : List Int) : Option (Bool × Int) := if l1.all (fun x => (Lit.int .i64 x).wf) = true then some (H.verF a0_0 a0_1 (l0_2.map prE) l1) else none
theorem match_Verify.calls (a0_0 : Int) (a0_1 : Int) (A0_2 : Option Addr) (c0_2 : Nat) (l0_2 : List (S40)) (A1 : Option Addr) (c1 : Nat) (l1 : List Int) (r1 : Bool) (r2 : Int) (w : World) (hr0_2 : Kd.C k40 w A0_2 l0_2.length l0_2) (hc0_2 : l0_2.length ≤ c0_2) (hr1 : Kd.C (Kd.int .i64) w A1 l1.length l1) (hc1 : l1.length ≤ c1) (h : match_Verify.f a0_0 a0_1 l0_2 l1 = some (r1, r2)) :
    Calls Try.prog 33 #[.agg #[.int .i64 a0_0, .int .i64 a0_1, .slice A0_2 l0_2.length c0_2], .slice A1 l1.length c1] w fun e w' => e = .returned (.tuple #[.bool r1, .int .i64 r2]) ∧ Below w.heap.size w w' := by
  unfold match_Verify.f at h
  split at h
  · rename_i hw
    have h := Option.some.inj h
    have hk : H.kE.C w A0_2 l0_2.length (l0_2.map prE) := H.C_iso hr0_2
    have hl : (l0_2.map prE).length = l0_2.length := by simp
    rw [← hl] at hk hc0_2 ⊢
    have := H.ver_any a0_0 a0_1 (l0_2.map prE) A0_2 c0_2 l1 A1 c1 w hk hc0_2 hr1 hc1 (fun x hx => List.all_eq_true.1 hw x hx)
    rw [h] at this
    exact this
  · cases h
end Go.Proofs.Ytlleokhmgblfnaa.M
