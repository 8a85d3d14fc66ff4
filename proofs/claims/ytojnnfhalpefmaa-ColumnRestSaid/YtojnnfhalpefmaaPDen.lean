/- Columns: dense forms; the law ColumnDenseMatches on what its functions compute. -/
import Derived.Test.YtojnnfhalpefmaaPCols
import Derived.Test.YtojnnfhalpefmaaPUp
import Derived.Test.YtojnnfhalpefmaaMx22
set_option linter.unusedVariables false
namespace Go.Proofs.Ytojnnfhalpefmaa.P
open Go.RowKit Go.Proofs.YtojnnfhalpefmaaW.PrintWords Go.Proofs.Ytojnnfhalpefmaa.M
theorem denS_len : ∀ (l : List S45) (v : List Int), (denS l v).length = v.length
  | [], _ => rfl
  | t :: l, v => by rw [denS, denS_len l, List.length_set]
theorem up_last {p : Int} : ∀ {last : Int} {l : List S45}, Up p last l → ∀ t ∈ l, last < t.f0 ∧ t.f0 ≤ (rd_T45 l ((l.length : Int) - 1)).f0
  | last, [], _, t, h => by cases h
  | last, a :: l, hu, t, h => by
    obtain ⟨h1, h2, h3, h4, h5⟩ := hu
    have hl : rd_T45 (a :: l) (((a :: l).length : Int) - 1) = if l.length = 0 then a else rd_T45 l ((l.length : Int) - 1) := by
      have e : (((a :: l).length : Int) - 1) = (l.length : Int) := by simp
      rw [e, rdT_nat (by simp)]
      cases l with
      | nil => rfl
      | cons b l =>
        rw [if_neg (by simp)]
        have e2 : (((b :: l).length : Int) - 1) = (l.length : Int) := by simp
        rw [e2, rdT_nat (by simp)]
        rfl
    rw [hl]
    rcases List.mem_cons.1 h with rfl | h
    · refine ⟨h1, ?_⟩
      cases l with
      | nil => exact Int.le_refl _
      | cons b l =>
        rw [if_neg (by simp)]
        have := up_last h5 b (by simp)
        omega
    · have := up_last h5 t h
      cases l with
      | nil => cases h
      | cons b l =>
        rw [if_neg (by simp)]
        exact ⟨by omega, this.2⟩
theorem dense_col_l0 (l : List S45) (hl : l.length < 4611686018427387904) : ∀ (n i : Nat) (v : List Int) (k : Nat), i + n = l.length → (∀ t ∈ l, 0 ≤ t.f0 ∧ t.f0 < (v.length : Int)) → n + 1 ≤ k → column_Dense.l0 k v l (l.length : Int) i = some (denS (l.drop i) v, 0)
  | 0, i, v, k, hi, ha, hk => by
    obtain ⟨k, rfl, _⟩ := ex_succ (show 0 + 1 ≤ k by omega)
    rw [column_Dense.l0, if_neg (by omega), List.drop_of_length_le (by omega), denS]
  | n + 1, i, v, k, hi, ha, hk => by
    obtain ⟨k, rfl, _⟩ := ex_succ (show 0 + 1 ≤ k by omega)
    have hlt : i < l.length := by omega
    have hw : wrap64 ((i : Int) + 1) = ((i + 1 : Nat) : Int) := by rw [w64 (by omega) (by omega)]; omega
    obtain ⟨a1, a2⟩ := ha _ (List.getElem_mem hlt)
    rw [column_Dense.l0, if_pos (by omega), if_pos (by omega), if_pos (by omega), List.drop_eq_getElem_cons hlt, denS, rdT_nat hlt, hw, if_pos a1, if_pos a2]
    exact dense_col_l0 l hl n (i + 1) _ k (by omega) (by simpa using ha) (by omega)
theorem vector_l0 (l : List S45) (hl : l.length < 4611686018427387904) : ∀ (n i : Nat) (v : List Int) (k : Nat), i + n = l.length → (∀ t ∈ l, 0 ≤ t.f0 ∧ t.f0 < (v.length : Int)) → n + 1 ≤ k → torusref04_Vector.l0 k l v i = some (denS (l.drop i) v)
  | 0, i, v, k, hi, ha, hk => by
    obtain ⟨k, rfl, _⟩ := ex_succ (show 0 + 1 ≤ k by omega)
    rw [torusref04_Vector.l0, if_neg (by omega), List.drop_of_length_le (by omega), denS]
  | n + 1, i, v, k, hi, ha, hk => by
    obtain ⟨k, rfl, _⟩ := ex_succ (show 0 + 1 ≤ k by omega)
    have hlt : i < l.length := by omega
    have hw : wrap64 ((i : Int) + 1) = ((i + 1 : Nat) : Int) := by rw [w64 (by omega) (by omega)]; omega
    obtain ⟨a1, a2⟩ := ha _ (List.getElem_mem hlt)
    rw [torusref04_Vector.l0, if_pos (by omega), if_pos (by omega), List.drop_eq_getElem_cons hlt, denS, rdT_nat hlt, hw, if_pos a1, if_pos a2]
    exact vector_l0 l hl n (i + 1) _ k (by omega) (by simpa using ha) (by omega)
theorem vector_ref (l : List S45) (hl : l.length < 4611686018427387904) (n : Nat) (hn : n ≤ 1000000) (ha : ∀ t ∈ l, 0 ≤ t.f0 ∧ t.f0 < (n : Int)) (k : Nat) (hk : l.length + 1 ≤ k) : torusref04_Vector.f k l n = some (denS l (List.replicate n 0)) := by
  unfold torusref04_Vector.f
  rw [if_pos (by omega), if_pos (by omega), Int.toNat_natCast]
  exact vector_l0 l hl l.length 0 _ k (by omega) (by simpa using ha) hk
def denseB (p : Int) (c : List S45) (n : Int) : List Int × Int :=
  if checkB p c = 0 then (if n < 0 ∨ n > 1024 ∨ (0 < c.length ∧ (rd_T45 c ((c.length : Int) - 1)).f0 ≥ n) then ([], 10) else (denS c (List.replicate n.toNat 0), 0)) else ([], checkB p c)
theorem rows_in {p : Int} {c : List S45} (h : checkB p c = 0) {n : Int} (hn : ¬ (0 < c.length ∧ (rd_T45 c ((c.length : Int) - 1)).f0 ≥ n)) : ∀ t ∈ c, 0 ≤ t.f0 ∧ t.f0 < n := by
  intro t ht
  have := up_last (checkB_up h).2 t ht
  have hp : 0 < c.length := List.length_pos_of_mem ht
  omega
theorem dense_col (p : Int) (c : List S45) (hl : c.length < 4611686018427387904) (n : Int) (k : Nat) (hk : 2 * c.length + 302 ≤ k) : column_Dense.f k p c n = some (denseB p c n) := by
  unfold column_Dense.f denseB
  rw [bind_of (check_col p c hl k (by omega))]
  by_cases hc : checkB p c = 0
  · rw [if_pos hc, if_pos hc, bind_of (low_col c hl)]
    obtain ⟨k, rfl, _⟩ := ex_succ (show 0 + 1 ≤ k by omega)
    by_cases h1 : n < 0
    · rw [if_pos h1, if_pos (.inl h1), column_Dense.j0, if_pos rfl]
    · rw [if_neg h1]
      by_cases h2 : n > 1024
      · rw [if_pos h2, if_pos (.inr (.inl h2)), column_Dense.j0, if_pos rfl]
      · rw [if_neg h2]
        obtain ⟨m, rfl⟩ : ∃ m : Nat, n = (m : Int) := ⟨n.toNat, by omega⟩
        have fin (hr : ¬ (0 < c.length ∧ (rd_T45 c ((c.length : Int) - 1)).f0 ≥ (m : Int))) : column_Dense.l0 k (List.replicate ((m : Int)).toNat 0) c (c.length : Int) 0 = some (denS c (List.replicate ((m : Int)).toNat 0), 0) := by
          have := dense_col_l0 c hl c.length 0 (List.replicate ((m : Int)).toNat 0) k (by omega) (by have := rows_in hc hr; simpa using this) (by omega)
          exact this
        by_cases h3 : c.length = 0
        · rw [if_pos h3, if_neg (by decide), column_Dense.j0, if_neg (by decide), if_pos (by omega), if_pos (by omega), if_neg (by omega)]
          exact fin (by omega)
        · rw [if_neg h3, if_pos rfl]
          by_cases h4 : (rd_T45 c ((c.length : Int) - 1)).f0 ≥ (m : Int)
          · rw [decide_eq_true h4, if_pos (.inr (.inr ⟨by omega, h4⟩)), column_Dense.j0, if_pos rfl]
          · rw [decide_eq_false h4, column_Dense.j0, if_neg (by decide), if_pos (by omega), if_pos (by omega), if_neg (by omega)]
            exact fin (by omega)
  · rw [if_neg hc, if_neg hc]
theorem dense_ref (p : Int) (c : List S45) (hl : c.length < 4611686018427387904) (n : Int) (k : Nat) (hk : 2 * c.length + 302 ≤ k) : torusref04_Dense.f k p c n = some (denseB p c n) := by
  unfold torusref04_Dense.f denseB
  rw [bind_of (check_ref p c hl k (by omega))]
  by_cases hc : checkB p c = 0
  · rw [if_pos hc, if_pos hc]
    by_cases h1 : n < 0
    · rw [if_pos h1, if_pos (.inl h1)]
    · rw [if_neg h1]
      by_cases h2 : n > 1024
      · rw [if_pos h2, if_pos (.inr (.inl h2))]
      · rw [if_neg h2]
        obtain ⟨m, rfl⟩ : ∃ m : Nat, n = (m : Int) := ⟨n.toNat, by omega⟩
        have fin (hr : ¬ (0 < c.length ∧ (rd_T45 c ((c.length : Int) - 1)).f0 ≥ (m : Int))) : torusref04_Vector.f k c m = some (denS c (List.replicate m 0)) := vector_ref c hl m (by omega) (rows_in hc hr) k (by omega)
        by_cases h3 : c.length = 0
        · rw [if_neg (by omega), if_neg (by omega), bind_of (fin (by omega)), Int.toNat_natCast]
        · rw [if_pos (by omega), w64 (by omega) (by omega), if_pos (by omega), if_pos (by omega)]
          by_cases h4 : (rd_T45 c ((c.length : Int) - 1)).f0 ≥ (m : Int)
          · rw [if_pos h4, if_pos (.inr (.inr ⟨by omega, h4⟩))]
          · rw [if_neg h4, if_neg (by omega), bind_of (fin (by omega)), Int.toNat_natCast]
  · rw [if_neg hc, if_neg hc]
theorem ofB_len (p : Int) (v : List Int) : (ofB p v).1.length ≤ v.length := by
  unfold ofB
  split
  · split
    · simp
    · have := spS_len 0 (v.map (modB p))
      simpa using this
  · simp
theorem denseB_len (p : Int) (c : List S45) (n : Int) : (denseB p c n).1.length ≤ 1024 := by
  unfold denseB
  split
  · split
    · simp
    · simp only [denS_len, List.length_replicate]; omega
  · simp
theorem denseMatches_true (p : Int) (v : List Int) (hv : v.length < 100000000000000000) (c : List S45) (hc : c.length < 100000000000000000) (n : Int) : ∃ k, toruslaw04_ColumnDenseMatches.f k p v c n = some true := by
  have haw : toruslaw04_awake.f = some true := rfl
  refine ⟨2 * v.length + 2 * c.length + 4000, ?_⟩
  obtain ⟨k, hk⟩ : ∃ k, k = 2 * v.length + 2 * c.length + 3999 := ⟨_, rfl⟩
  rw [show 2 * v.length + 2 * c.length + 4000 = k + 1 by omega]
  have ho := ofB_len p v
  have hd := denseB_len p c n
  have main : ∀ b, toruslaw04_ColumnDenseMatches.j0 (k + 1) p v c n b = some true := by
    intro b
    rw [toruslaw04_ColumnDenseMatches.j0]
    split
    · rw [bind_of haw]
    · rw [bind_of (of_col p v k (by omega)), bind_of (of_ref p v k (by omega)), bind_of (dense_col p c (by omega) n k (by omega)), bind_of (dense_ref p c (by omega) n k (by omega)),
        bind_of (same_refl (ofB p v).1 (by omega) k (by omega)), if_pos rfl, if_pos rfl, bind_of (sameI_refl (denseB p c n).1 (by omega) k (by omega)), if_pos rfl, if_pos rfl, bind_of haw]
  unfold toruslaw04_ColumnDenseMatches.f
  split
  · split
    · exact main _
    · exact main _
  · exact main _
end Go.Proofs.Ytojnnfhalpefmaa.P
