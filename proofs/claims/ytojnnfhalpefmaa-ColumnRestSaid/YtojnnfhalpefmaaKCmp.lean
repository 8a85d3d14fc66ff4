/- The comparison of tidy: the last rows of two columns. -/
import Derived.Test.YtojnnfhalpefmaaKStay
set_option linter.unusedVariables false
set_option linter.unusedSimpArgs false
namespace Go.Proofs.Ytojnnfhalpefmaa.H
open Go.RowKit Go.Proofs.YtojnnfhalpefmaaW.PrintWords Go.Proofs.YtojnnfhalpefmaaW.PrintLast Go.Proofs.YtojnnfhalpefmaaW.PrintMore Go.Proofs.Ytojnnfhalpefmaa.M
theorem wrap_pred {n : Nat} (h : 0 < n) (hn : n ≤ 9223372036854775807) : IntKind.i64.wrap ((n : Int) - 1) = (n : Int) - 1 := by
  rw [i64_w]
  unfold wrap64
  omega
theorem pred_toNat {n : Nat} (h : 0 < n) : ((n : Int) - 1).toNat = n - 1 := by omega
set_option maxHeartbeats 4000000 in
set_option maxRecDepth 100000 in
theorem cmp2_calls (A B : Option Addr) (ca cb : Nat) (a b : List S45) (w : World) (hA : k45.C w A a.length a) (hB : k45.C w B b.length b) (ha : 0 < a.length) (hb : 0 < b.length) :
    Calls Try.prog 81 #[.slice A a.length ca, .slice B b.length cb] w fun e w' => e = .returned (.int .i64 (wrap64 (lastR a - lastR b))) ∧ ∃ m, w' = w.drewN m := by
  obtain ⟨d1, e1, x0, x1⟩ := at_T45 hA ((a.length : Int) - 1) (by omega) (by omega)
  obtain ⟨d2, e2, y0, y1⟩ := at_T45 hB ((b.length : Int) - 1) (by omega) (by omega)
  subst e1
  subst e2
  rw [pred_toNat ha] at x0 x1
  rw [pred_toNat hb] at y0 y1
  have ma := Kd.C_max hA
  have mb := Kd.C_max hB
  have wa := wrap_pred ha ma
  have wb := wrap_pred hb mb
  have ja : (1 : Int) ≤ (a.length : Int) := by omega
  have jb : (1 : Int) ≤ (b.length : Int) := by omega
  unfold lastR
  obtain ⟨s, hs⟩ : ∃ s, rd_T45 a ((a.length : Int) - 1) = s := ⟨_, rfl⟩
  obtain ⟨t, ht⟩ : ∃ t, rd_T45 b ((b.length : Int) - 1) = t := ⟨_, rfl⟩
  rw [hs] at x0 x1 ⊢
  rw [ht] at y0 y1 ⊢
  go_enter Try.func81, Try.ntmps81
  go_wp2
  go_quiet (fail)
  go_wp2
  go_ret
  exact ⟨by first | rfl | (rw [i64_w]) | (simp only [i64_w]; done) | (congr 2; done), _, rfl⟩
end Go.Proofs.Ytojnnfhalpefmaa.H
