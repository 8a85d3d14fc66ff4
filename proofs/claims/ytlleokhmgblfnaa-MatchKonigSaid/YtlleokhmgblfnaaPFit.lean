/- Fit makes graphs that Check accepts. -/
import Derived.Test.YtlleokhmgblfnaaPCore
set_option linter.unusedVariables false
namespace Go.Proofs.Ytlleokhmgblfnaa.P
open Go.RowKit Go.Proofs.YtlleokhmgblfnaaW.PrintWords Go.Proofs.Ytlleokhmgblfnaa.H Go.Proofs.Ytlleokhmgblfnaa.M

structure FitI (L R v w : Int) (E : List S40) : Prop where
  go : chkGo L R none (E.map prE) = 0
  lex : ∀ y ∈ E.map prE, lexB y (v, w)
  len : E.length ≤ v * 12 + w
theorem fit_l1 (bits : List Int) (L R v : Int) (hL : L ≤ 12) (hR : R ≤ 12) (hv0 : 0 ≤ v) (hv1 : v < L) :
    ∀ (d : Nat) (w : Int) (E : List S40), R = w + d → 0 ≤ w → FitI L R v w E →
      ∃ E', (∀ G s, (∀ k, G ≤ k → torusref30_Fit.l0 k bits (v + 1) L R E' = some s) → ∀ k, G + d < k → torusref30_Fit.l1 k bits v w L R E = some s) ∧ FitI L R (v + 1) 0 E' := by
  intro d
  induction d with
  | zero =>
    intro w E hd hw hI
    refine ⟨E, fun G s hG k hk => ?_, hI.go, fun y hy => ?_, ?_⟩
    · obtain ⟨k, rfl⟩ := fuel hk
      rw [torusref30_Fit.l1, if_neg (by omega), w64 (by omega) (by omega)]
      exact hG k (by omega)
    · have := hI.lex y hy
      unfold lexB at *
      simp only at *
      omega
    · have := hI.len; omega
  | succ d ih =>
    intro w E hd hw hI
    have hvr0 : 0 ≤ v * R := Int.mul_nonneg hv0 (by omega)
    have hvr1 : v * R ≤ 12 * 12 := Int.mul_le_mul (by omega) hR (by omega) (by omega)
    have e1 : wrap64 (wrap64 (v * R) + w) = v * R + w := by rw [w64 (x := v * R) (by omega) (by omega), w64 (by omega) (by omega)]
    have q0 : 0 ≤ Int.tdiv (v * R + w) 8 := Int.tdiv_nonneg (by omega) (by omega)
    have q1 : Int.tdiv (v * R + w) 8 ≤ v * R + w := Int.tdiv_le_self _ (by omega)
    have e2 : wrap64 (Int.tdiv (v * R + w) 8) = Int.tdiv (v * R + w) 8 := w64 (by omega) (by omega)
    have q2 : 0 ≤ Int.tmod (v * R + w) 8 := Int.tmod_nonneg _ (by omega)
    have hlen := hI.len
    have keep : FitI L R v (w + 1) E := ⟨hI.go, fun y hy => by
      have := hI.lex y hy
      unfold lexB at *
      simp only at *
      omega, by omega⟩
    have put : FitI L R v (w + 1) (E ++ [⟨v, w⟩]) := by
      refine ⟨?_, fun y hy => ?_, by simp; omega⟩
      · rw [List.map_append]
        exact chkGo_snoc L R (v, w) hv0 hv1 hw (by simp only; omega) _ none hI.go hI.lex (fun q h => by cases h)
      · rw [List.map_append] at hy
        rcases List.mem_append.1 hy with hy | hy
        · exact keep.lex y hy
        · simp only [List.map_cons, List.map_nil, List.mem_singleton, prE] at hy
          subst hy
          exact .inr ⟨rfl, show w < w + 1 by omega⟩
    have fin : ∀ E1, FitI L R v (w + 1) E1 → (∀ k s, torusref30_Fit.l1 k bits v (wrap64 (w + 1)) L R E1 = some s → torusref30_Fit.l1 (k + 1) bits v w L R E = some s) →
        ∃ E', (∀ G s, (∀ k, G ≤ k → torusref30_Fit.l0 k bits (v + 1) L R E' = some s) → ∀ k, G + (d + 1) < k → torusref30_Fit.l1 k bits v w L R E = some s) ∧ FitI L R (v + 1) 0 E' := by
      intro E1 h1 h2
      obtain ⟨E', h3, h4⟩ := ih (w + 1) E1 (by omega) (by omega) h1
      refine ⟨E', fun G s hG k hk => ?_, h4⟩
      obtain ⟨k, rfl⟩ : ∃ k', k = k' + 1 := ⟨k - 1, by omega⟩
      refine h2 k s ?_
      rw [w64 (by omega) (by omega)]
      exact h3 G s hG k (by omega)
    by_cases h1 : Int.tdiv (v * R + w) 8 < bits.length
    · by_cases h2 : Go.bits .and .u8 (shr .u8 (rd bits (Int.tdiv (v * R + w) 8)) (Int.tmod (v * R + w) 8)) 1 = 1
      · refine fin _ put (fun k s hk => ?_)
        rw [torusref30_Fit.l1, e1, e2, if_pos (by omega), if_pos h1, if_pos q0, if_pos q2, if_pos h2, if_pos (by omega)]
        exact hk
      · refine fin _ keep (fun k s hk => ?_)
        rw [torusref30_Fit.l1, e1, e2, if_pos (by omega), if_pos h1, if_pos q0, if_pos q2, if_neg h2]
        exact hk
    · refine fin _ keep (fun k s hk => ?_)
      rw [torusref30_Fit.l1, e1, e2, if_pos (by omega), if_neg h1]
      exact hk
theorem fit_l0 (bits : List Int) (L R : Int) (hL : L ≤ 12) (hR0 : 0 ≤ R) (hR : R ≤ 12) :
    ∀ (d : Nat) (v : Int) (E : List S40), L = v + d → 0 ≤ v → FitI L R v 0 E → ∃ K E', (∀ k, K ≤ k → torusref30_Fit.l0 k bits v L R E = some (L, R, E')) ∧ FitI L R L 0 E' := by
  intro d
  induction d with
  | zero =>
    intro v E hd hv hI
    have : v = L := by omega
    subst this
    refine ⟨1, E, fun k hk => ?_, hI⟩
    obtain ⟨k, rfl⟩ : ∃ k', k = k' + 1 := ⟨k - 1, by omega⟩
    rw [torusref30_Fit.l0, if_neg (by omega)]
  | succ d ih =>
    intro v E hd hv hI
    obtain ⟨E1, h1, hI1⟩ := fit_l1 bits L R v hL hR hv (by omega) R.toNat 0 E (by omega) (by omega) hI
    obtain ⟨K, E', hK, hI2⟩ := ih (v + 1) E1 (by omega) (by omega) hI1
    refine ⟨K + R.toNat + 2, E', fun k hk => ?_, hI2⟩
    obtain ⟨k, rfl⟩ : ∃ k', k = k' + 1 := ⟨k - 1, by omega⟩
    rw [torusref30_Fit.l0, if_pos (by omega)]
    exact h1 K _ hK k (by omega)
theorem fit_spec (a0 a1 : Int) (bits : List Int) (ha0 : 0 ≤ a0) (ha0' : a0 ≤ 255) (ha1 : 0 ≤ a1) (ha1' : a1 ≤ 255) :
    ∃ (K L R : Nat) (E : List S40), (∀ k, K ≤ k → toruslaw30_fit.f k a0 a1 bits = some ((L : Int), (R : Int), E)) ∧ L ≤ 12 ∧ R ≤ 12 ∧ chk L R (E.map prE) = 0 ∧ GOK L R E ∧ E.length ≤ 144 := by
  have l0 : 0 ≤ Int.tmod a0 13 := Int.tmod_nonneg _ ha0
  have l1 : Int.tmod a0 13 < 13 := Int.tmod_lt_of_pos _ (by omega)
  have r0 : 0 ≤ Int.tmod a1 13 := Int.tmod_nonneg _ ha1
  have r1 : Int.tmod a1 13 < 13 := Int.tmod_lt_of_pos _ (by omega)
  obtain ⟨K, E, hK, hI⟩ := fit_l0 bits (Int.tmod a0 13) (Int.tmod a1 13) (by omega) r0 (by omega) (Int.tmod a0 13).toNat 0 [] (by omega) (by omega) ⟨rfl, (fun y hy => by cases hy), by simp⟩
  have hlen := hI.len
  have hc : chk (Int.tmod a0 13) (Int.tmod a1 13) (E.map prE) = 0 := by
    unfold chk
    rw [if_neg (by omega), if_neg (by simp; omega)]
    exact hI.go
  obtain ⟨Ln, Rn, e1, e2, g⟩ := chk_gok hc
  refine ⟨K, Ln, Rn, E, fun k hk => ?_, by omega, by omega, e1 ▸ e2 ▸ hc, g, by omega⟩
  have e3 : wrap64 (12 + 1) = 13 := w64 (by omega) (by omega)
  unfold toruslaw30_fit.f torusref30_Fit.f
  rw [e3, if_neg (by omega), w64 (by omega) (by omega), w64 (by omega) (by omega), hK k hk, e1, e2]
  rfl

end Go.Proofs.Ytlleokhmgblfnaa.P
