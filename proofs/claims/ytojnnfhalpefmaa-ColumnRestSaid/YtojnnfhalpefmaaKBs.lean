/- slices.BinarySearchFunc at columns, with the comparison of clear. -/
import Derived.Test.YtojnnfhalpefmaaMx0
namespace Go.Proofs.Ytojnnfhalpefmaa.H
open Go.RowKit Go.Proofs.YtojnnfhalpefmaaW.PrintWords Go.Proofs.YtojnnfhalpefmaaW.PrintLast Go.Proofs.YtojnnfhalpefmaaW.PrintMore Go.Proofs.Ytojnnfhalpefmaa.M
set_option linter.unusedVariables false
set_option linter.unusedSimpArgs false
/-- The first place whose row is not below. -/
def bsL (l : List S45) (row : Int) (i j : Nat) : Nat :=
  if h : i < j then (if wrap64 ((rd_T45 l (((i + j) / 2 : Nat) : Int)).f0 - row) < 0 then bsL l row ((i + j) / 2 + 1) j else bsL l row i ((i + j) / 2)) else i
termination_by j - i
decreasing_by all_goals omega
theorem bsL_lt {l : List S45} {row : Int} {i j : Nat} (h : i < j) (hc : wrap64 ((rd_T45 l (((i + j) / 2 : Nat) : Int)).f0 - row) < 0) : bsL l row i j = bsL l row ((i + j) / 2 + 1) j := by
  rw [bsL, dif_pos h, if_pos hc]
theorem bsL_ge {l : List S45} {row : Int} {i j : Nat} (h : i < j) (hc : ¬ wrap64 ((rd_T45 l (((i + j) / 2 : Nat) : Int)).f0 - row) < 0) : bsL l row i j = bsL l row i ((i + j) / 2) := by
  rw [bsL, dif_pos h, if_neg hc]
theorem bsL_end {l : List S45} {row : Int} {i j : Nat} (h : ¬ i < j) : bsL l row i j = i := by rw [bsL, dif_neg h]
set_option maxHeartbeats 4000000 in
set_option maxRecDepth 100000 in
theorem cmp_calls (t : S45) (row : Int) (w : World) :
    Calls Try.prog 85 #[.agg #[.int .i64 t.f0, .int .i64 t.f1], .int .i64 row] w fun e w' => e = .returned (.int .i64 (wrap64 (t.f0 - row))) ∧ Below w.heap.size w w' := by
  go_enter Try.func85, Try.ntmps85
  go_wp2
  go_ret
  exact ⟨rfl, (Below.refl _ w).alloc (Nat.le_refl _) _⟩
set_option maxHeartbeats 4000000 in
set_option maxRecDepth 100000 in
theorem bs_calls (A : Option Addr) (c : Nat) (l : List S45) (row : Int) (w : World) (hC : k45.C w A l.length l) (hc : l.length ≤ c) (hl : l.length < 8796093022208) :
    Calls Try.prog 84 #[.slice A l.length c, .int .i64 row, .func (.func 85) #[] #[]] w fun e w' => ∃ f : Bool, e = .returned (.tuple #[.int .i64 (bsL l row 0 l.length), .bool f]) ∧ Below w.heap.size w w' := by
  go_enter Try.func84, Try.ntmps84
  go_wp2
  go_loopg [9, 10] l.length (fun k v9 v10 wr => ∃ i j : Nat, v9 = .int .i64 i ∧ v10 = .int .i64 j ∧ i ≤ j ∧ j ≤ l.length ∧ k = j - i ∧ Aside0 (bsL l row 0 l.length = bsL l row i j) ∧ Below w.heap.size w wr)
  case atStart => exact ⟨0, l.length, rfl, rfl, Nat.zero_le _, Nat.le_refl _, by omega, ⟨rfl⟩, Below.refl _ _⟩
  case round =>
    obtain ⟨i, j, rfl, rfl, hij, hj, hk, hb, hB⟩ := hrel
    by_cases hlt : i < j
    · have hltb : decide ((i : Int) < (j : Int)) = true := decide_eq_true (by omega)
      obtain ⟨ad, eA, h0, h1⟩ := at_T45 (Kd.C_below hC hB) (((i + j) / 2 : Nat) : Int) (by omega) (by omega)
      subst eA
      rw [Int.toNat_natCast] at h0 h1
      by_cases hcm : wrap64 ((rd_T45 l (((i + j) / 2 : Nat) : Int)).f0 - row) < 0
      · have hcb : decide (wrap64 ((rd_T45 l (((i + j) / 2 : Nat) : Int)).f0 - row) < 0) = true := decide_eq_true hcm
        have HN := Aside0.mk (bsL_lt hlt hcm)
        obtain ⟨t, ht⟩ : ∃ t, rd_T45 l (((i + j) / 2 : Nat) : Int) = t := ⟨_, rfl⟩
        rw [ht] at h0 h1 hcb hcm
        go_wp2_with (go_at_call 85; refine (cmp_calls t row _).mono ?_; rintro e w' ⟨rfl, hb'⟩)
        go_roundg (j - ((i + j) / 2 + 1))
        case measure => omega
        case rel => exact ⟨(i + j) / 2 + 1, j, by rw [show ((((i + j) / 2 + 1 : Nat) : Int)) = ((i : Int) + j) / 2 + 1 by omega], rfl, by omega, hj, rfl, ⟨hb.out.trans HN.out⟩, hB.trans (hb'.mono hB.size)⟩
      · have hcb : decide (wrap64 ((rd_T45 l (((i + j) / 2 : Nat) : Int)).f0 - row) < 0) = false := decide_eq_false hcm
        have HN := Aside0.mk (bsL_ge hlt hcm)
        obtain ⟨t, ht⟩ : ∃ t, rd_T45 l (((i + j) / 2 : Nat) : Int) = t := ⟨_, rfl⟩
        rw [ht] at h0 h1 hcb
        clear hcm
        go_wp2_with (go_at_call 85; refine (cmp_calls t row _).mono ?_; rintro e w' ⟨rfl, hb'⟩)
        go_roundg ((i + j) / 2 - i)
        case measure => omega
        case rel => exact ⟨i, (i + j) / 2, rfl, by rw [show ((((i + j) / 2 : Nat) : Int)) = ((i : Int) + j) / 2 by omega], by omega, by omega, rfl, ⟨hb.out.trans HN.out⟩, hB.trans (hb'.mono hB.size)⟩
    · have hltb : decide ((i : Int) < (j : Int)) = false := decide_eq_false (by omega)
      have HN := Aside0.mk (hb.out.trans (bsL_end hlt))
      by_cases hil : i < l.length
      · have hilb : decide ((i : Int) < (l.length : Int)) = true := decide_eq_true (by omega)
        obtain ⟨ad, eA, h0, h1⟩ := at_T45 (Kd.C_below hC hB) (i : Int) (by omega) (by omega)
        subst eA
        rw [Int.toNat_natCast] at h0 h1
        obtain ⟨t, ht⟩ : ∃ t, rd_T45 l (i : Int) = t := ⟨_, rfl⟩
        rw [ht] at h0 h1
        go_wp2_with (go_at_call 85; refine (cmp_calls t row _).mono ?_; rintro e w' ⟨rfl, hb'⟩)
        go_ret2
        exact ⟨_, by rw [HN.out]; rfl, hB.trans (hb'.mono hB.size)⟩
      · have hilb : decide ((i : Int) < (l.length : Int)) = false := decide_eq_false (by omega)
        go_wp2
        go_ret2
        exact ⟨_, by rw [HN.out]; rfl, hB⟩
end Go.Proofs.Ytojnnfhalpefmaa.H
