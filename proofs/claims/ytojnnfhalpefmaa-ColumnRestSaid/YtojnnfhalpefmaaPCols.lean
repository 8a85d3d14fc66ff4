/- Columns: checks, entries, sparse and dense forms. -/
import Derived.Test.YtojnnfhalpefmaaPBase
import Derived.Test.YtojnnfhalpefmaaMx6
import Derived.Test.YtojnnfhalpefmaaMx7
import Derived.Test.YtojnnfhalpefmaaMx8
set_option linter.unusedVariables false
namespace Go.Proofs.Ytojnnfhalpefmaa.P
open Go.RowKit Go.Proofs.YtojnnfhalpefmaaW.PrintWords Go.Proofs.Ytojnnfhalpefmaa.M
theorem ex_succ {k n : Nat} (h : n + 1 ≤ k) : ∃ j, k = j + 1 ∧ n ≤ j := ⟨k - 1, by omega, by omega⟩
/-! ### Check -/
def chkS (p : Int) : Int → List S45 → Int
  | _, [] => 0
  | last, t :: l => if t.f0 < 0 ∨ t.f0 ≥ 1024 ∨ t.f1 < 1 ∨ t.f1 ≥ p then 1 else if t.f0 ≤ last then 6 else chkS p t.f0 l
def checkB (p : Int) (l : List S45) : Int := if primeB p = true then chkS p (-1) l else 8
theorem check_ref_l0 (p : Int) (l : List S45) (hl : l.length < 4611686018427387904) : ∀ (n i : Nat) (last : Int) (k : Nat), i + n = l.length → 2 * n + 2 ≤ k → torusref04_Check.l0 k p l last i = some (chkS p last (l.drop i))
  | 0, i, last, k, hi, hk => by
    obtain ⟨k, rfl, _⟩ := ex_succ (show 0 + 1 ≤ k by omega)
    rw [torusref04_Check.l0, if_neg (by omega), List.drop_of_length_le (by omega), chkS]
  | n + 1, i, last, k, hi, hk => by
    obtain ⟨k, rfl, _⟩ := ex_succ (show 0 + 1 ≤ k by omega)
    obtain ⟨k, rfl, _⟩ := ex_succ (show 0 + 1 ≤ k by omega)
    have hlt : i < l.length := by omega
    rw [torusref04_Check.l0, if_pos (by omega), if_pos (by omega), List.drop_eq_getElem_cons hlt, chkS, rdT_nat hlt]
    have ih := check_ref_l0 p l hl n (i + 1) l[i].f0 k (by omega) (by omega)
    have hw : wrap64 ((i : Int) + 1) = ((i + 1 : Nat) : Int) := by rw [w64 (by omega) (by omega)]; omega
    by_cases c1 : l[i].f0 < 0
    · rw [if_pos c1, if_pos (.inl c1), torusref04_Check.j1, if_pos rfl]
    · rw [if_neg c1]
      by_cases c2 : l[i].f0 ≥ 1024
      · rw [if_pos c2, if_pos (.inr (.inl c2)), torusref04_Check.j1, if_pos rfl]
      · rw [if_neg c2]
        by_cases c3 : l[i].f1 < 1
        · rw [if_pos c3, if_pos (.inr (.inr (.inl c3))), torusref04_Check.j1, if_pos rfl]
        · rw [if_neg c3]
          by_cases c4 : l[i].f1 ≥ p
          · rw [decide_eq_true c4, if_pos (.inr (.inr (.inr c4))), torusref04_Check.j1, if_pos rfl]
          · rw [decide_eq_false c4, if_neg (by omega), torusref04_Check.j1, if_neg (by decide), if_pos (by omega), if_pos (by omega), rdT_nat hlt]
            by_cases c5 : l[i].f0 ≤ last
            · rw [if_pos c5, if_pos c5]
            · rw [if_neg c5, if_neg c5, hw]
              exact ih
theorem check_ref (p : Int) (l : List S45) (hl : l.length < 4611686018427387904) (k : Nat) (hk : 2 * l.length + 300 ≤ k) : torusref04_Check.f k p l = some (checkB p l) := by
  unfold torusref04_Check.f checkB
  rw [bind_of (prime_ref p k (by omega))]
  split
  · exact check_ref_l0 p l hl l.length 0 (-1) k (by omega) (by omega)
  · rfl
theorem check_col_l0 (p : Int) (l : List S45) (hl : l.length < 4611686018427387904) : ∀ (n i : Nat) (last : Int) (k : Nat), i + n = l.length → (i = 0 → last = -1) → (∀ h : 0 < i, last = (rd_T45 l ((i : Int) - 1)).f0) → 2 * n + 2 ≤ k → column_Check.l0 k p l l (l.length : Int) i = some (chkS p last (l.drop i))
  | 0, i, last, k, hi, h0, h1, hk => by
    obtain ⟨k, rfl, _⟩ := ex_succ (show 0 + 1 ≤ k by omega)
    rw [column_Check.l0, if_neg (by omega), List.drop_of_length_le (by omega), chkS]
  | n + 1, i, last, k, hi, h0, h1, hk => by
    obtain ⟨k, rfl, _⟩ := ex_succ (show 0 + 1 ≤ k by omega)
    obtain ⟨k, rfl, _⟩ := ex_succ (show 0 + 1 ≤ k by omega)
    have hlt : i < l.length := by omega
    rw [column_Check.l0, if_pos (by omega), if_pos (by omega), if_pos (by omega), List.drop_eq_getElem_cons hlt, chkS, rdT_nat hlt]
    have ih := check_col_l0 p l hl n (i + 1) l[i].f0 k (by omega) (by omega) (fun _ => by rw [show (((i + 1 : Nat) : Int) - 1) = (i : Int) by omega, rdT_nat hlt]) (by omega)
    have hw : wrap64 ((i : Int) + 1) = ((i + 1 : Nat) : Int) := by rw [w64 (by omega) (by omega)]; omega
    by_cases c1 : l[i].f0 < 0
    · rw [if_pos c1, if_pos (.inl c1), column_Check.j1, if_pos rfl]
    · rw [if_neg c1]
      by_cases c2 : l[i].f0 ≥ 1024
      · rw [if_pos c2, if_pos (.inr (.inl c2)), column_Check.j1, if_pos rfl]
      · rw [if_neg c2]
        by_cases c3 : l[i].f1 < 1
        · rw [if_pos c3, if_pos (.inr (.inr (.inl c3))), column_Check.j1, if_pos rfl]
        · rw [if_neg c3]
          by_cases c4 : l[i].f1 ≥ p
          · rw [decide_eq_true c4, if_pos (.inr (.inr (.inr c4))), column_Check.j1, if_pos rfl]
          · rw [decide_eq_false c4, if_neg (by omega), column_Check.j1, if_neg (by decide)]
            by_cases hz : i = 0
            · rw [if_neg (by omega), hw, if_neg (by rw [h0 hz]; omega)]
              exact ih
            · rw [if_pos (by omega), w64 (by omega) (by omega), if_pos (by omega), if_pos (by omega), h1 (by omega)]
              by_cases c5 : l[i].f0 ≤ (rd_T45 l ((i : Int) - 1)).f0
              · rw [if_pos c5, if_pos c5]
              · rw [if_neg c5, if_neg c5, hw]
                exact ih
theorem check_col (p : Int) (l : List S45) (hl : l.length < 4611686018427387904) (k : Nat) (hk : 2 * l.length + 300 ≤ k) : column_Check.f k p l = some (checkB p l) := by
  unfold column_Check.f checkB
  rw [bind_of (prime_modp p k (by omega))]
  split
  · exact check_col_l0 p l hl l.length 0 (-1) k (by omega) (fun _ => rfl) (fun h => absurd h (by omega)) (by omega)
  · rfl
/-! ### valid columns -/
/-- The rows go up from 'last', below 1024; the coefficients are residues, none 0. -/
def Up (p : Int) : Int → List S45 → Prop
  | _, [] => True
  | last, t :: l => last < t.f0 ∧ t.f0 < 1024 ∧ 1 ≤ t.f1 ∧ t.f1 < p ∧ Up p t.f0 l
theorem chkS_up {p : Int} : ∀ {last : Int} {l : List S45}, -1 ≤ last → (chkS p last l = 0 ↔ Up p last l)
  | last, [], _ => by simp [chkS, Up]
  | last, t :: l, hl => by
    unfold chkS Up
    by_cases c : t.f0 < 0 ∨ t.f0 ≥ 1024 ∨ t.f1 < 1 ∨ t.f1 ≥ p
    · rw [if_pos c]
      constructor
      · intro h; cases h
      · intro h; omega
    · rw [if_neg c]
      by_cases c2 : t.f0 ≤ last
      · rw [if_pos c2]
        constructor
        · intro h; cases h
        · intro h; omega
      · rw [if_neg c2, chkS_up (by omega)]
        constructor
        · intro h; exact ⟨by omega, by omega, by omega, by omega, h⟩
        · intro h; exact h.2.2.2.2
/-! ### Low -/
theorem low_col (l : List S45) (hl : l.length < 4611686018427387904) : column_Low.f l = some (if l.length = 0 then (0, false) else ((rd_T45 l ((l.length : Int) - 1)).f0, true)) := by
  unfold column_Low.f
  by_cases h : l.length = 0
  · rw [if_pos (by omega), if_pos h]
  · rw [if_neg (by omega), if_neg h, w64 (by omega) (by omega), if_pos (by omega), if_pos (by omega)]
theorem low_ref (l : List S45) (hl : l.length < 4611686018427387904) : torusref04_Low.f l = some (if l.length = 0 then (0, false) else ((rd_T45 l ((l.length : Int) - 1)).f0, true)) := by
  unfold torusref04_Low.f
  by_cases h : l.length = 0
  · rw [if_pos (by omega), if_pos h]
  · rw [if_neg (by omega), if_neg h, w64 (by omega) (by omega), if_pos (by omega), if_pos (by omega)]
/-! ### equal columns -/
theorem same_self (l : List S45) (hl : l.length < 4611686018427387904) : ∀ (n i : Nat) (k : Nat), i + n = l.length → n + 1 ≤ k → torusref04_Same.l0 k l l i = some true
  | 0, i, k, hi, hk => by
    obtain ⟨k, rfl, _⟩ := ex_succ (show 0 + 1 ≤ k by omega)
    rw [torusref04_Same.l0, if_neg (by omega)]
  | n + 1, i, k, hi, hk => by
    obtain ⟨k, rfl, _⟩ := ex_succ (show 0 + 1 ≤ k by omega)
    rw [torusref04_Same.l0, if_pos (by omega), if_pos (by omega), if_pos (by omega), if_neg (by simp), w64 (by omega) (by omega)]
    exact same_self l hl n (i + 1) k (by omega) (by omega)
theorem same_refl (l : List S45) (hl : l.length < 4611686018427387904) (k : Nat) (hk : l.length + 1 ≤ k) : torusref04_Same.f k l l = some true := by
  unfold torusref04_Same.f
  rw [if_pos rfl]
  exact same_self l hl l.length 0 k (by omega) hk
theorem sameI_self (l : List Int) (hl : l.length < 4611686018427387904) : ∀ (n i : Nat) (k : Nat), i + n = l.length → n + 1 ≤ k → torusref01_Same.l0 k l l i = some true
  | 0, i, k, hi, hk => by
    obtain ⟨k, rfl, _⟩ := ex_succ (show 0 + 1 ≤ k by omega)
    rw [torusref01_Same.l0, if_neg (by omega)]
  | n + 1, i, k, hi, hk => by
    obtain ⟨k, rfl, _⟩ := ex_succ (show 0 + 1 ≤ k by omega)
    rw [torusref01_Same.l0, if_pos (by omega), if_pos (by omega), if_pos (by omega), if_pos rfl, w64 (by omega) (by omega)]
    exact sameI_self l hl n (i + 1) k (by omega) (by omega)
theorem sameI_refl (l : List Int) (hl : l.length < 4611686018427387904) (k : Nat) (hk : l.length + 1 ≤ k) : torusref01_Same.f k l l = some true := by
  unfold torusref01_Same.f
  rw [if_pos rfl]
  exact sameI_self l hl l.length 0 k (by omega) hk
/-! ### sparse forms -/
def spS : Nat → List Int → List S45
  | _, [] => []
  | i, x :: v => if x = 0 then spS (i + 1) v else ⟨i, x⟩ :: spS (i + 1) v
theorem spS_len : ∀ (i : Nat) (v : List Int), (spS i v).length ≤ v.length
  | _, [] => Nat.le_refl _
  | i, x :: v => by
    have := spS_len (i + 1) v
    unfold spS
    split
    · simp only [List.length_cons]; omega
    · simp only [List.length_cons]; omega
theorem sparse_l0 (v : List Int) (hv : v.length ≤ 1000000) : ∀ (n i : Nat) (acc : List S45) (k : Nat), i + n = v.length → acc.length ≤ i → n + 1 ≤ k → torusref04_Sparse.l0 k v acc i = some (acc ++ spS i (v.drop i))
  | 0, i, acc, k, hi, ha, hk => by
    obtain ⟨k, rfl, _⟩ := ex_succ (show 0 + 1 ≤ k by omega)
    rw [torusref04_Sparse.l0, if_neg (by omega), List.drop_of_length_le (by omega), spS, List.append_nil]
  | n + 1, i, acc, k, hi, ha, hk => by
    obtain ⟨k, rfl, _⟩ := ex_succ (show 0 + 1 ≤ k by omega)
    have hlt : i < v.length := by omega
    have hw : wrap64 ((i : Int) + 1) = ((i + 1 : Nat) : Int) := by rw [w64 (by omega) (by omega)]; omega
    rw [torusref04_Sparse.l0, if_pos (by omega), if_pos (by omega), List.drop_eq_getElem_cons hlt, spS, rd_nat hlt, hw]
    by_cases h : v[i] = 0
    · rw [if_pos h, if_pos h]
      exact sparse_l0 v hv n (i + 1) acc k (by omega) (by omega) (by omega)
    · rw [if_neg h, if_neg h, if_pos (by omega), sparse_l0 v hv n (i + 1) _ k (by omega) (by simp; omega) (by omega), List.append_assoc]
      rfl
theorem sparse_ref (v : List Int) (hv : v.length ≤ 1000000) (k : Nat) (hk : v.length + 1 ≤ k) : torusref04_Sparse.f k v = some (spS 0 v) := by
  unfold torusref04_Sparse.f
  exact sparse_l0 v hv v.length 0 [] k (by omega) (by simp) hk
/-! ### Of -/
def ofB (p : Int) (v : List Int) : List S45 × Int := if primeB p = true then (if v.length > 1024 then ([], 3) else (spS 0 (v.map (modB p)), 0)) else ([], 8)
theorem of_col_l0 (p : Int) (v : List Int) (hv : v.length ≤ 1024) : ∀ (n i : Nat) (acc : List S45) (k : Nat), i + n = v.length → acc.length ≤ i → n + 40 ≤ k → column_Of.l0 k p acc v (v.length : Int) i = some (acc ++ spS i ((v.drop i).map (modB p)), 0)
  | 0, i, acc, k, hi, ha, hk => by
    obtain ⟨k, rfl, _⟩ := ex_succ (show 0 + 1 ≤ k by omega)
    rw [column_Of.l0, if_neg (by omega), List.drop_of_length_le (by omega), List.map_nil, spS, List.append_nil]
  | n + 1, i, acc, k, hi, ha, hk => by
    obtain ⟨k, rfl, _⟩ := ex_succ (show 0 + 1 ≤ k by omega)
    have hlt : i < v.length := by omega
    have hw : wrap64 ((i : Int) + 1) = ((i + 1 : Nat) : Int) := by rw [w64 (by omega) (by omega)]; omega
    rw [column_Of.l0, if_pos (by omega), if_pos (by omega), if_pos (by omega), List.drop_eq_getElem_cons hlt, List.map_cons, spS, bind_of (mod_modp p _ k (by omega)), rd_nat hlt, hw]
    by_cases h : modB p v[i] = 0
    · rw [if_pos h, if_pos h]
      exact of_col_l0 p v hv n (i + 1) acc k (by omega) (by omega) (by omega)
    · rw [if_neg h, if_neg h, if_pos (by omega), of_col_l0 p v hv n (i + 1) _ k (by omega) (by simp; omega) (by omega), List.append_assoc]
      rfl
theorem of_col (p : Int) (v : List Int) (k : Nat) (hk : v.length + 40 ≤ k) : column_Of.f k p v = some (ofB p v) := by
  unfold column_Of.f ofB
  rw [bind_of (prime_modp p k (by omega))]
  split
  · by_cases h : v.length > 1024
    · rw [if_pos (by omega), if_pos h]
    · rw [if_neg (by omega), if_neg h]
      have := of_col_l0 p v (by omega) v.length 0 [] k (by omega) (by simp) (by omega)
      exact this
  · rfl
theorem of_ref_l0 (p : Int) (v : List Int) (hv : v.length ≤ 1024) : ∀ (n i : Nat) (acc : List Int) (k : Nat), i + n = v.length → acc.length = v.length → acc.take i = (v.take i).map (modB p) → n + v.length + 300 ≤ k → torusref04_Of.l0 k p v acc i = some (spS 0 (v.map (modB p)), 0)
  | 0, i, acc, k, hi, hl, ha, hk => by
    obtain ⟨k, rfl, _⟩ := ex_succ (show 0 + 1 ≤ k by omega)
    have : acc = v.map (modB p) := by
      rw [List.take_of_length_le (by omega), List.take_of_length_le (by omega)] at ha
      exact ha
    rw [torusref04_Of.l0, if_neg (by omega), bind_of (sparse_ref acc (by omega) k (by omega)), this]
  | n + 1, i, acc, k, hi, hl, ha, hk => by
    obtain ⟨k, rfl, _⟩ := ex_succ (show 0 + 1 ≤ k by omega)
    have hlt : i < v.length := by omega
    have hw : wrap64 ((i : Int) + 1) = ((i + 1 : Nat) : Int) := by rw [w64 (by omega) (by omega)]; omega
    rw [torusref04_Of.l0, if_pos (by omega), if_pos (by omega), bind_of (mod_ref p _ k (by omega)), if_pos (by omega), rd_nat hlt, hw, Int.toNat_natCast]
    refine of_ref_l0 p v hv n (i + 1) _ k (by omega) (by simpa using hl) ?_ (by omega)
    rw [List.take_succ_eq_append_getElem (by simp; omega), List.take_succ_eq_append_getElem hlt, List.map_append, List.take_set, List.getElem_set_self, ← ha]
    rw [List.set_eq_of_length_le (by simp; omega)]
    rfl
theorem of_ref (p : Int) (v : List Int) (k : Nat) (hk : 2 * v.length + 300 ≤ k) : torusref04_Of.f k p v = some (ofB p v) := by
  unfold torusref04_Of.f ofB
  rw [bind_of (prime_ref p k (by omega))]
  split
  · by_cases h : v.length > 1024
    · rw [if_pos (by omega), if_pos h]
    · rw [if_neg (by omega), if_neg h, if_pos (by omega), if_pos (by omega)]
      exact of_ref_l0 p v (by omega) v.length 0 _ k (by omega) (by simp) rfl (by omega)
  · rfl
/-! ### Dense -/
def denS : List S45 → List Int → List Int
  | [], v => v
  | t :: l, v => denS l (v.set t.f0.toNat t.f1)
end Go.Proofs.Ytojnnfhalpefmaa.P
