/- The law ColumnMatches on what its functions compute. -/
import Derived.Test.YtojnnfhalpefmaaPRefC
import Derived.Test.YtojnnfhalpefmaaMx26
set_option linter.unusedVariables false
namespace Go.Proofs.Ytojnnfhalpefmaa.P
open Go.RowKit Go.Proofs.YtojnnfhalpefmaaW.PrintWords Go.Proofs.Ytojnnfhalpefmaa.M Go.Proofs.Ytojnnfhalpefmaa.H
theorem wn {i : Nat} (h : i < 1000000) : wrap64 ((i : Int) + 1) = ((i + 1 : Nat) : Int) := by rw [w64 (by omega) (by omega)]; omega
theorem long_two (l1 l2 : List S45) (k : Nat) (hk : 10 ≤ k) : toruslaw04_long.f k [l1, l2] = some (decide (l1.length > 30 ∨ l2.length > 30)) := by
  obtain ⟨k, rfl⟩ : ∃ k', k = k' + 3 := ⟨k - 3, by omega⟩
  have e0 : rd_L2 [l1, l2] 0 = l1 := rdL_nat (l := [l1, l2]) (i := 0) (by simp)
  have e1 : rd_L2 [l1, l2] 1 = l2 := rdL_nat (l := [l1, l2]) (i := 1) (by simp)
  have w0 : wrap64 ((0 : Int) + 1) = 1 := by rw [w64 (by omega) (by omega)]; rfl
  have w1 : wrap64 ((1 : Int) + 1) = 2 := by rw [w64 (by omega) (by omega)]; rfl
  unfold toruslaw04_long.f
  rw [if_neg (by simp), toruslaw04_long.l0, if_pos (by simp), if_pos (by omega), e0]
  by_cases h1 : l1.length > 30
  · rw [if_pos (by omega), decide_eq_true (.inl h1)]
  · rw [if_neg (by omega)]
    rw [w0, toruslaw04_long.l0, if_pos (by simp), if_pos (by omega), e1]
    by_cases h2 : l2.length > 30
    · rw [if_pos (by omega), decide_eq_true (.inr h2)]
    · rw [if_neg (by omega)]
      rw [w1, toruslaw04_long.l0, if_neg (by simp), decide_eq_false (by omega)]
theorem copy_ref (l : List S45) (h : l.length < 8796093022208) : torusref04_Copy.f l = some l := by
  unfold torusref04_Copy.f
  rw [bind_of rfl, if_pos (by simpa using h), List.nil_append]
section
variable (a0 : Int) (l1 l2 : List S45) (a3 : Int) (x11 x12 : List S45)
theorem over_l2 (x17 : Int) : ∀ (n i : Nat) (v : List S45) (k : Nat), v.length < 100000 → i + n = v.length → toruslaw04_ColumnMatches.l2 (k + n + 1) a0 l1 l2 a3 x11 x12 x17 v i = toruslaw04_ColumnMatches.l0 k a0 l1 l2 a3 x11 x12 (wrap64 (x17 + 1))
  | 0, i, v, k, hv, hi => by rw [toruslaw04_ColumnMatches.l2, if_neg (by omega)]
  | n + 1, i, v, k, hv, hi => by
    rw [toruslaw04_ColumnMatches.l2, if_pos (by omega), if_pos (by omega), wn (by omega)]
    exact over_l2 x17 n (i + 1) _ k (by simpa using hv) (by simp; omega)
theorem over_l1 (x17 : Int) (x22 : List S45) : ∀ (n i : Nat) (v : List S45) (k : Nat), v.length < 100000 → i + n = v.length → toruslaw04_ColumnMatches.l1 (k + n + 1) a0 l1 l2 a3 x11 x12 x17 v x22 i = toruslaw04_ColumnMatches.l2 k a0 l1 l2 a3 x11 x12 x17 x22 0
  | 0, i, v, k, hv, hi => by rw [toruslaw04_ColumnMatches.l1, if_neg (by omega)]
  | n + 1, i, v, k, hv, hi => by
    rw [toruslaw04_ColumnMatches.l1, if_pos (by omega), if_pos (by omega), wn (by omega)]
    exact over_l1 x17 x22 n (i + 1) _ k (by simpa using hv) (by simp; omega)
end
theorem addB_len (p : Int) (a : List S45) (m : Int) (b : List S45) : (addB p a m b).1.length ≤ a.length + b.length := by
  unfold addB
  split
  · exact colAdd_len p _ a b
  · exact Nat.zero_le _
theorem scaleB_len (p : Int) (a : List S45) (m : Int) : (scaleB p a m).1.length ≤ a.length := by
  unfold scaleB
  split
  · have := colAdd_len p (modB p m) [] a
    simpa using this
  · exact Nat.zero_le _
theorem round_two (a0 : Int) (l1 l2 : List S45) (a3 : Int) (h1 : l1.length ≤ 30) (h2 : l2.length ≤ 30) (i : Nat) (hi : i < 2) (k : Nat) (hk : 4000 ≤ k) :
    toruslaw04_ColumnMatches.l0 (((k + (scaleB a0 l1 a3).1.length + 1) + (addB a0 l1 a3 l2).1.length + 1) + 1 + 1) a0 l1 l2 a3 l1 l2 i = toruslaw04_ColumnMatches.l0 k a0 l1 l2 a3 l1 l2 ((i + 1 : Nat) : Int) := by
  have la := addB_len a0 l1 a3 l2
  have ls := scaleB_len a0 l1 a3
  rw [toruslaw04_ColumnMatches.l0, if_pos (by omega), bind_of (add_col a0 l1 a3 l2 (by omega) _ (by omega)), bind_of (add_ref a0 l1 a3 l2 (by omega) _ (by omega)), bind_of (scale_col a0 l1 a3 (by omega) _ (by omega)), bind_of (scale_ref a0 l1 a3 (by omega) _ (by omega)), bind_of (same_refl _ (by omega) _ (by omega)), if_pos rfl, if_pos rfl, bind_of (same_refl _ (by omega) _ (by omega)), if_pos rfl, bne_self_eq_false, toruslaw04_ColumnMatches.j2, if_neg Bool.false_ne_true]
  rw [show (0 : Int) = ((0 : Nat) : Int) from rfl, over_l1 a0 l1 l2 a3 l1 l2 i _ _ 0 _ _ (by omega) (by omega)]
  rw [show (0 : Int) = ((0 : Nat) : Int) from rfl, over_l2 a0 l1 l2 a3 l1 l2 i _ 0 _ _ (by omega) (by omega), wn (by omega)]
theorem matches_true (a0 : Int) (l1 : List S45) (h1 : l1.length < 10000000000000) (l2 : List S45) (h2 : l2.length < 10000000000000) (a3 a4 : Int) : ∃ k, toruslaw04_ColumnMatches.f k a0 l1 l2 a3 a4 = some true := by
  have haw : toruslaw04_awake.f = some true := rfl
  by_cases hl : l1.length > 30 ∨ l2.length > 30
  · refine ⟨10, ?_⟩
    unfold toruslaw04_ColumnMatches.f
    rw [bind_of (long_two l1 l2 10 (by omega)), if_pos (decide_eq_true hl), bind_of haw]
  · have la := addB_len a0 l1 a3 l2
    have ls := scaleB_len a0 l1 a3
    obtain ⟨n1, e1⟩ : ∃ n, n = (addB a0 l1 a3 l2).1.length := ⟨_, rfl⟩
    obtain ⟨n2, e2⟩ : ∃ n, n = (scaleB a0 l1 a3).1.length := ⟨_, rfl⟩
    have r0 := round_two a0 l1 l2 a3 (by omega) (by omega) 0 (by decide) (((5000 + n2 + 1) + n1 + 1) + 1 + 1) (by omega)
    have r1 := round_two a0 l1 l2 a3 (by omega) (by omega) 1 (by decide) 5000 (by omega)
    rw [← e1, ← e2] at r0 r1
    obtain ⟨k, hk⟩ : ∃ k, k = ((((((5000 + n2 + 1) + n1 + 1) + 1 + 1) + n2 + 1) + n1 + 1) + 1 + 1) := ⟨_, rfl⟩
    rw [← hk] at r0
    refine ⟨k + 1, ?_⟩
    unfold toruslaw04_ColumnMatches.f
    rw [bind_of (long_two l1 l2 _ (by omega)), decide_eq_false hl, if_neg Bool.false_ne_true, bind_of (copy_ref l1 (by omega)), bind_of (copy_ref l2 (by omega)), bind_of (low_col l1 (by omega)), bind_of (low_ref l1 (by omega)), bind_of (check_col a0 l1 (by omega) _ (by omega)), bind_of (check_ref a0 l1 (by omega) _ (by omega)), if_pos rfl, if_pos rfl, bne_self_eq_false, if_neg Bool.false_ne_true, bind_of (coef_col2 l1 (by omega) a4 _ (by omega)), bind_of (coef_ref l1 (by omega) a4 _ (by omega)), bne_self_eq_false, toruslaw04_ColumnMatches.j0, if_neg Bool.false_ne_true]
    refine r0.trans (r1.trans ?_)
    show toruslaw04_ColumnMatches.l0 (4999 + 1) a0 l1 l2 a3 l1 l2 2 = _
    rw [toruslaw04_ColumnMatches.l0, if_neg (by omega), bind_of (dot_col a0 l1 l2 (by omega) _ (by omega)), bind_of (dot_ref a0 l1 l2 (by omega) _ (by omega)), if_pos rfl, if_pos rfl, bind_of (same_refl l1 (by omega) _ (by omega)), if_pos rfl, bind_of (same_refl l2 (by omega) _ (by omega)), if_pos rfl, bind_of haw]
end Go.Proofs.Ytojnnfhalpefmaa.P
