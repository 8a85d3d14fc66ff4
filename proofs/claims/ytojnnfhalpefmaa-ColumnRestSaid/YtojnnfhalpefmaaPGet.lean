/- Entries of a dense list, Coef: what both hands compute. -/
import Derived.Test.YtojnnfhalpefmaaPSpec
import Derived.Test.YtojnnfhalpefmaaPDen
set_option linter.unusedVariables false
namespace Go.Proofs.Ytojnnfhalpefmaa.P
open Go.RowKit Go.Proofs.YtojnnfhalpefmaaW.PrintWords Go.Proofs.Ytojnnfhalpefmaa.M Go.Proofs.Ytojnnfhalpefmaa.H
theorem denS_get2 {p : Int} : ∀ (l : List S45) (v : List Int) (last : Int) (r : Nat), Up p last l → -1 ≤ last → (∀ t ∈ l, t.f0 < (v.length : Int)) → r < v.length → (denS l v).getD r 0 = if cf l r = 0 then v.getD r 0 else cf l r
  | [], v, last, r, hu, h0, hv, hr => by simp [denS, cf]
  | t :: l, v, last, r, hu, h0, hv, hr => by
    obtain ⟨h1, h2, h3, h4, h5⟩ := hu
    have hlt := hv t (by simp)
    rw [denS, denS_get2 l _ t.f0 r h5 (by omega) (fun s hs => by rw [List.length_set]; exact hv s (by simp [hs])) (by rw [List.length_set]; exact hr)]
    by_cases e : t.f0 = (r : Int)
    · rw [cf_low h5 (by omega), if_pos rfl, cf_here e, if_neg (by omega)]
      have : t.f0.toNat = r := by omega
      rw [this, List.getD_eq_getElem?_getD, List.getElem?_set_self (by omega)]
      rfl
    · rw [cf_there e]
      have : ¬ t.f0.toNat = r := by omega
      rw [List.getD_eq_getElem?_getD, List.getElem?_set_ne this, ← List.getD_eq_getElem?_getD]
theorem coef_col_l02 (l : List S45) (hl : l.length < 4611686018427387904) (r : Int) : ∀ (n i : Nat) (k : Nat), i + n = l.length → n + 1 ≤ k → column_Coef.l0 k r l (l.length : Int) i = some (cf (l.drop i) r)
  | 0, i, k, hi, hk => by
    obtain ⟨k, rfl, _⟩ := ex_succ (show 0 + 1 ≤ k by omega)
    rw [column_Coef.l0, if_neg (by omega), List.drop_of_length_le (by omega), cf]
  | n + 1, i, k, hi, hk => by
    obtain ⟨k, rfl, _⟩ := ex_succ (show 0 + 1 ≤ k by omega)
    have hlt : i < l.length := by omega
    have hw : wrap64 ((i : Int) + 1) = ((i + 1 : Nat) : Int) := by rw [w64 (by omega) (by omega)]; omega
    rw [column_Coef.l0, if_pos (by omega), if_pos (by omega), if_pos (by omega), rdT_nat hlt, List.drop_eq_getElem_cons hlt, cf, hw]
    by_cases h : l[i].f0 = r
    · rw [if_pos h, if_pos h]
    · rw [if_neg h, if_neg h]
      exact coef_col_l02 l hl r n (i + 1) k (by omega) (by omega)
theorem coef_col2 (l : List S45) (hl : l.length < 4611686018427387904) (r : Int) (k : Nat) (hk : l.length + 1 ≤ k) : column_Coef.f k l r = some (cf l r) := by
  unfold column_Coef.f
  exact coef_col_l02 l hl r l.length 0 k (by omega) hk
theorem last_mem2 {l : List S45} (h : 0 < l.length) : rd_T45 l ((l.length : Int) - 1) ∈ l := by
  rw [show (l.length : Int) - 1 = ((l.length - 1 : Nat) : Int) by omega, rdT_nat (by omega)]
  exact List.getElem_mem _
theorem dense_get2 {p n : Int} {a : List S45} (h : Col p n a) (r : Nat) (hr : r < n.toNat) : (denS a (List.replicate n.toNat 0)).getD r 0 = cf a r := by
  rw [denS_get2 a _ (-1) r h.up (Int.le_refl _) (fun t ht => by have := h.lt t ht; rw [List.length_replicate]; omega) (by rw [List.length_replicate]; exact hr)]
  split
  · rename_i e
    rw [e]
    simp [List.getD_eq_getElem?_getD, hr]
  · rfl
end Go.Proofs.Ytojnnfhalpefmaa.P
