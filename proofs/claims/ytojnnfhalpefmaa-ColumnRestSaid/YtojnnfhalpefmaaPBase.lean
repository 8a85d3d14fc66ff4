/- Primes, residues, columns: what the program's functions and the reference's compute. -/
import Derived.Test.YtojnnfhalpefmaaMx2
import Derived.Test.YtojnnfhalpefmaaMx3
import Derived.Test.YtojnnfhalpefmaaMx5
set_option linter.unusedVariables false
namespace Go.Proofs.Ytojnnfhalpefmaa.P
open Go.RowKit Go.Proofs.YtojnnfhalpefmaaW.PrintWords Go.Proofs.Ytojnnfhalpefmaa.M
theorem w64 {x : Int} (h1 : -9223372036854775808 ≤ x) (h2 : x ≤ 9223372036854775807) : wrap64 x = x := by unfold wrap64; omega
theorem bind_of {α β : Type} {x : Option α} {a : α} {f : α → Option β} (h : x = some a) : x.bind f = f a := by rw [h]; rfl
theorem rd_nat {l : List Int} {i : Nat} (h : i < l.length) : rd l (i : Int) = l[i] := by simp [rd, h]
theorem rdT_nat {l : List S45} {i : Nat} (h : i < l.length) : rd_T45 l (i : Int) = l[i] := by simp [rd_T45, h]
theorem rdL_nat {l : List (List S45)} {i : Nat} (h : i < l.length) : rd_L2 l (i : Int) = l[i] := by simp [rd_L2, h]
/-! ### primes -/
def primeB (p : Int) : Bool := decide (2 ≤ p) && (decide (p ≤ 251) && ((torusref01_Prime.f 300 p) == some true))
theorem primeB_ge {p : Int} (h : primeB p = true) : 2 ≤ p ∧ p ≤ 251 := by
  simp only [primeB, Bool.and_eq_true, decide_eq_true_eq] at h
  exact ⟨h.1, h.2.1⟩
theorem all_primes : ∀ n : Fin 250, (torusref01_Prime.f 300 ((n : Nat) + 2 : Int)).isSome = true ∧ modp_Prime.f 20 ((n : Nat) + 2 : Int) = torusref01_Prime.f 300 ((n : Nat) + 2 : Int) := by decide +kernel
theorem prime_in {p : Int} (h1 : 2 ≤ p) (h2 : p ≤ 251) : torusref01_Prime.f 300 p = some (primeB p) ∧ modp_Prime.f 20 p = some (primeB p) := by
  obtain ⟨n, rfl⟩ : ∃ n : Nat, p = (n : Int) + 2 := ⟨(p - 2).toNat, by omega⟩
  obtain ⟨a, b⟩ := all_primes ⟨n, by omega⟩
  simp only at a b
  obtain ⟨t, ht⟩ := Option.isSome_iff_exists.1 a
  have : primeB ((n : Int) + 2) = t := by
    unfold primeB
    rw [decide_eq_true h1, decide_eq_true h2, ht]
    cases t <;> rfl
  rw [this, b]
  exact ⟨ht, ht⟩
theorem primeB_out {p : Int} (h : p < 2 ∨ 251 < p) : primeB p = false := by
  unfold primeB
  rcases h with h | h
  · rw [decide_eq_false (by omega)]; rfl
  · rw [decide_eq_false (show ¬ p ≤ 251 by omega)]; simp
theorem prime_ref (p : Int) (k : Nat) (hk : 300 ≤ k) : torusref01_Prime.f k p = some (primeB p) := by
  by_cases h1 : 2 ≤ p
  · by_cases h2 : p ≤ 251
    · exact at_rounds (fun k => torusref01_Prime.mono p k) hk (prime_in h1 h2).1
    · rw [primeB_out (by omega)]
      obtain ⟨k, rfl⟩ : ∃ j, k = j + 1 := ⟨k - 1, by omega⟩
      unfold torusref01_Prime.f
      rw [if_neg (by omega), decide_eq_true (by omega), torusref01_Prime.j0, if_pos rfl]
  · rw [primeB_out (by omega)]
    obtain ⟨k, rfl⟩ : ∃ j, k = j + 1 := ⟨k - 1, by omega⟩
    unfold torusref01_Prime.f
    rw [if_pos (by omega), torusref01_Prime.j0, if_pos rfl]
theorem modp_out {p : Int} (h : p < 2 ∨ 251 < p) : ∀ (n : Nat) (d : Int) (k : Nat), 0 ≤ d → d = 16 - (n : Int) → n + 1 ≤ k → modp_Prime.l0 k p d = some false
  | 0, d, k, h0, hd, hk => by
    obtain ⟨k, rfl⟩ : ∃ j, k = j + 1 := ⟨k - 1, by omega⟩
    rw [modp_Prime.l0, if_neg (by omega)]
    by_cases h1 : p > 1
    · rw [if_pos h1, decide_eq_false (by omega)]
    · rw [if_neg h1]
  | n + 1, d, k, h0, hd, hk => by
    obtain ⟨k, rfl⟩ : ∃ j, k = j + 1 := ⟨k - 1, by omega⟩
    rw [modp_Prime.l0, if_pos (by omega)]
    have ih := modp_out h n (d + 1) k (by omega) (by omega) (by omega)
    rw [w64 (by omega) (by omega)]
    by_cases h1 : d > 1
    · rw [if_pos h1, if_neg (by omega)]
      split
      · split
        · exact ih
        · rfl
      · exact ih
    · rw [if_neg h1]; exact ih
theorem prime_modp (p : Int) (k : Nat) (hk : 20 ≤ k) : modp_Prime.f k p = some (primeB p) := by
  by_cases h1 : 2 ≤ p ∧ p ≤ 251
  · exact at_rounds (fun k => modp_Prime.mono p k) hk (prime_in h1.1 h1.2).2
  · rw [primeB_out (by omega)]
    exact modp_out (by omega) 16 0 k (Int.le_refl _) rfl (by omega)
/-! ### residues -/
def modB (p a : Int) : Int := if primeB p = true then a % p else 0
theorem tmod_pos {a p : Int} (hp : 0 < p) : (Int.tmod a p < 0 → Int.tmod a p + p = a % p) ∧ (¬ Int.tmod a p < 0 → Int.tmod a p = a % p) := by
  have h1 := Int.emod_nonneg a (show p ≠ 0 by omega)
  have h2 := Int.emod_lt_of_pos a hp
  rw [Int.tmod_eq_emod]
  have hab : ((p.natAbs : Nat) : Int) = p := by omega
  split <;> omega
theorem tmod_range (a : Int) {p : Int} (hp : 0 < p) : -p < Int.tmod a p ∧ Int.tmod a p < p := by
  have h1 := Int.emod_nonneg a (show p ≠ 0 by omega)
  have h2 := Int.emod_lt_of_pos a hp
  rw [Int.tmod_eq_emod]
  have hab : ((p.natAbs : Nat) : Int) = p := by omega
  split <;> omega
theorem mod_ref (p a : Int) (k : Nat) (hk : 300 ≤ k) : torusref01_Mod.f k p a = some (modB p a) := by
  unfold torusref01_Mod.f modB
  rw [bind_of (prime_ref p k hk)]
  by_cases h : primeB p = true
  · obtain ⟨h1, h2⟩ := primeB_ge h
    rw [if_pos h, if_pos h, if_neg (by omega)]
    have hr := tmod_range a (show 0 < p by omega)
    by_cases hn : Int.tmod a p < 0
    · rw [if_pos hn, w64 (by omega) (by omega), (tmod_pos (by omega)).1 hn]
    · rw [if_neg hn, (tmod_pos (by omega)).2 hn]
  · rw [if_neg h, if_neg h]
theorem rest_modp {p : Int} (h1 : 2 ≤ p) (h2 : p ≤ 251) (a : Int) : modp_field_rest.f p a = some (a % p) := by
  unfold modp_field_rest.f
  have hr := tmod_range a (show 0 < p by omega)
  rw [if_neg (by omega), w64 (by omega) (by omega)]
  have : Int.tmod (Int.tmod a p + p) p = a % p := by
    rw [Int.tmod_eq_emod_of_nonneg (by omega)]
    by_cases hn : Int.tmod a p < 0
    · rw [Int.emod_eq_of_lt (by omega) (by omega), (tmod_pos (by omega)).1 hn]
    · rw [Int.add_emod_right, Int.emod_eq_of_lt (by omega) (by omega), (tmod_pos (by omega)).2 hn]
  rw [this]
theorem of_modp (p : Int) (k : Nat) (hk : 20 ≤ k) : modp_of.f k p = some (if primeB p = true then (p, 0) else (0, 8)) := by
  unfold modp_of.f
  rw [bind_of (prime_modp p k hk)]
  split <;> rfl
theorem mod_modp (p a : Int) (k : Nat) (hk : 20 ≤ k) : modp_Mod.f k p a = some (modB p a) := by
  unfold modp_Mod.f modB
  rw [bind_of (of_modp p k hk)]
  by_cases h : primeB p = true
  · obtain ⟨h1, h2⟩ := primeB_ge h
    rw [if_pos h, if_pos h]
    exact (if_pos rfl).trans (bind_of (rest_modp h1 h2 a))
  · rw [if_neg h, if_neg h]
    exact if_neg (by decide)
end Go.Proofs.Ytojnnfhalpefmaa.P
