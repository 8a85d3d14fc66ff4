/- Inverses and quotients. -/
import Derived.Test.YtojnnfhalpefmaaPBase
import Derived.Test.YtojnnfhalpefmaaMx4
set_option linter.unusedVariables false
namespace Go.Proofs.Ytojnnfhalpefmaa.P
open Go.RowKit Go.Proofs.YtojnnfhalpefmaaW.PrintWords Go.Proofs.Ytojnnfhalpefmaa.M
def invOk (q a : Nat) : Bool := match modp_Inv.f 30 (q : Int) (a : Int) with | some (t, e) => e == 0 && (decide (0 ≤ t) && (decide (t < (q : Int)) && (t * (a : Int)) % (q : Int) == 1)) | none => false
theorem inv_all : ((List.range 252).all fun q => !primeB (q : Int) || (List.range q).all fun a => a == 0 || invOk q a) = true := by decide +kernel
theorem ed (x p : Int) : ∃ q, x % p = x - p * q := ⟨x / p, by have := Int.mul_ediv_add_emod x p; omega⟩
theorem em {x y p : Int} (t : Int) (h : x - y = p * t) : x % p = y % p := by
  rw [show x = y + p * t by omega, Int.add_mul_emod_self_left]
theorem inv_spec {p : Int} (hp : primeB p = true) {a : Int} (h0 : 1 ≤ a) (h1 : a < p) : ∃ t, 0 ≤ t ∧ t < p ∧ (t * a) % p = 1 ∧ ∀ k, 30 ≤ k → modp_Inv.f k p a = some (t, 0) := by
  obtain ⟨hp1, hp2⟩ := primeB_ge hp
  obtain ⟨q, rfl⟩ : ∃ q : Nat, p = (q : Int) := ⟨p.toNat, by omega⟩
  obtain ⟨b, rfl⟩ : ∃ b : Nat, a = (b : Int) := ⟨a.toNat, by omega⟩
  have h := List.all_eq_true.1 inv_all q (List.mem_range.2 (by omega))
  rw [hp] at h
  simp only [Bool.not_true, Bool.false_or] at h
  have h2 := List.all_eq_true.1 h b (List.mem_range.2 (by omega))
  have hb : (b == 0) = false := by simp; omega
  rw [hb, Bool.false_or] at h2
  unfold invOk at h2
  cases hm : modp_Inv.f 30 (q : Int) (b : Int) with
  | none => rw [hm] at h2; cases h2
  | some r =>
    obtain ⟨t, e⟩ := r
    rw [hm] at h2
    simp only [Bool.and_eq_true, decide_eq_true_eq, beq_iff_eq] at h2
    obtain ⟨rfl, h3, h4, h5⟩ := h2
    exact ⟨t, h3, h4, h5, fun k hk => at_rounds (fun k => modp_Inv.mono _ _ k) hk hm⟩
theorem mul_b {a b : Int} (h0 : 0 ≤ a) (h1 : a ≤ 251) (h2 : 0 ≤ b) (h3 : b ≤ 251) : 0 ≤ a * b ∧ a * b ≤ 63001 :=
  ⟨Int.mul_nonneg h0 h2, Int.le_trans (Int.mul_le_mul h1 h3 h2 (by omega)) (by omega)⟩
theorem div_spec {p : Int} (hp : primeB p = true) {a b : Int} (ha : 0 ≤ a) (ha2 : a < p) (h0 : 1 ≤ b) (h1 : b < p) : ∃ q, 0 ≤ q ∧ q < p ∧ (q * b) % p = a ∧ ∀ k, 30 ≤ k → modp_Div.f k p a b = some (q, 0) := by
  obtain ⟨hp1, hp2⟩ := primeB_ge hp
  obtain ⟨t, t0, t1, t2, t3⟩ := inv_spec hp h0 h1
  have hm := mul_b ha (by omega) t0 (by omega)
  refine ⟨(a * t) % p, Int.emod_nonneg _ (by omega), Int.emod_lt_of_pos _ (by omega), ?_, fun k hk => ?_⟩
  · obtain ⟨q1, e1⟩ := ed (a * t) p
    obtain ⟨q2, e2⟩ := ed (t * b) p
    rw [t2] at e2
    rw [e1]
    have : (a * t - p * q1) * b % p = a % p := em (a * q2 - q1 * b) (by grind)
    rw [this, Int.emod_eq_of_lt ha ha2]
  · unfold modp_Div.f
    rw [bind_of (t3 k hk)]
    refine (if_pos rfl).trans ?_
    have hmul : modp_Mul.f k p a t = some ((a * t) % p, 0) := by
      unfold modp_Mul.f
      rw [bind_of (of_modp p k (by omega)), if_pos hp]
      refine (if_pos rfl).trans ?_
      refine (bind_of (rest_modp hp1 hp2 a)).trans ?_
      refine (bind_of (rest_modp hp1 hp2 t)).trans ?_
      rw [Int.emod_eq_of_lt ha ha2, Int.emod_eq_of_lt t0 t1, w64 (by omega) (by omega)]
      exact bind_of (rest_modp hp1 hp2 (a * t))
    exact bind_of hmul
end Go.Proofs.Ytojnnfhalpefmaa.P
