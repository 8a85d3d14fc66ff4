/- clear of package column: what it computes. -/
import Derived.Test.YtojnnfhalpefmaaPSpec
import Derived.Test.YtojnnfhalpefmaaPInv
import Derived.Test.YtojnnfhalpefmaaKTid
set_option linter.unusedVariables false
namespace Go.Proofs.Ytojnnfhalpefmaa.P
open Go.RowKit Go.Proofs.YtojnnfhalpefmaaW.PrintWords Go.Proofs.Ytojnnfhalpefmaa.M Go.Proofs.Ytojnnfhalpefmaa.H
theorem up_nil (p : Int) : Up p (-1) ([] : List S45) := trivial
theorem checkB_of {p : Int} (hp : primeB p = true) {x : List S45} (hx : Up p (-1) x) : checkB p x = 0 := (if_pos hp).trans ((chkS_up (Int.le_refl _)).2 hx)
theorem up_len {p : Int} {c : List S45} (h : Up p (-1) c) : c.length ≤ 1024 := by
  have := (Col.mk (n := 1024) h (fun t ht => (up_mem h t ht).2.1)).len (by decide)
  omega
/-- How many rows are below B. -/
def cnt : List S45 → Int → Nat
  | [], _ => 0
  | t :: l, B => if t.f0 < B then cnt l B + 1 else 0
theorem cnt_le : ∀ (l : List S45) (B : Int), cnt l B ≤ l.length
  | [], _ => Nat.le_refl _
  | t :: l, B => by
    have := cnt_le l B
    rw [cnt]
    split
    · simp only [List.length_cons]; omega
    · simp only [List.length_cons]; omega
theorem cnt_iff {p : Int} : ∀ {last : Int} {l : List S45} (B : Int) (i : Nat) (hi : i < l.length), Up p last l → (i < cnt l B ↔ l[i].f0 < B)
  | last, t :: l, B, 0, hi, h => by
    rw [cnt]
    show (0 < if t.f0 < B then cnt l B + 1 else 0) ↔ t.f0 < B
    split
    · rename_i q; exact ⟨fun _ => q, fun _ => by omega⟩
    · rename_i q; exact ⟨fun q2 => absurd q2 (by omega), fun q2 => absurd q2 q⟩
  | last, t :: l, B, i + 1, hi, h => by
    have hi' : i < l.length := by simpa using hi
    have I := cnt_iff B i hi' h.2.2.2.2
    rw [cnt, List.getElem_cons_succ]
    split
    · rename_i q
      rw [← I]
      omega
    · rename_i q
      have := up_mem h.2.2.2.2 _ (List.getElem_mem hi')
      exact ⟨fun q2 => absurd q2 (by omega), fun q2 => absurd q2 (by omega)⟩
theorem cnt_all {p : Int} {l : List S45} (h : Up p (-1) l) : cnt l 1024 = l.length := by
  rcases Nat.eq_zero_or_pos l.length with h0 | h0
  · have := cnt_le l 1024
    omega
  · have h1 := (cnt_iff 1024 (l.length - 1) (by omega) h).2 (up_mem h _ (List.getElem_mem _)).2.1
    have := cnt_le l 1024
    omega
theorem bsL_cnt {p : Int} {l : List S45} (hu : Up p (-1) l) {row : Int} (h0 : 0 ≤ row) (h1 : row < 1024) : ∀ (n i j : Nat), j - i = n → i ≤ cnt l row → cnt l row ≤ j → j ≤ l.length → bsL l row i j = cnt l row := by
  intro n
  induction n using Nat.strongRecOn with
  | _ n ih =>
    intro i j hn hi hj hl
    by_cases hij : i < j
    · have hm : (i + j) / 2 < l.length := by omega
      have hmem := up_mem hu _ (List.getElem_mem hm)
      have hiff := cnt_iff row ((i + j) / 2) hm hu
      have hw : wrap64 ((rd_T45 l (((i + j) / 2 : Nat) : Int)).f0 - row) = l[(i + j) / 2].f0 - row := by
        rw [rdT_nat hm, w64 (by omega) (by omega)]
      by_cases hc : l[(i + j) / 2].f0 < row
      · rw [bsL_lt hij (by rw [hw]; omega)]
        have := hiff.2 hc
        exact ih (j - ((i + j) / 2 + 1)) (by omega) _ _ rfl (by omega) hj hl
      · rw [bsL_ge hij (by rw [hw]; omega)]
        have : ¬ (i + j) / 2 < cnt l row := fun q => hc (hiff.1 q)
        exact ih ((i + j) / 2 - i) (by omega) _ _ rfl hi (by omega) (by omega)
    · rw [bsL_end hij]
      omega
/-- The pivots: columns by their low rows. -/
structure Piv (p : Int) (mp : Int → Option Int) (L : List (List S45)) : Prop where
  up : ∀ c ∈ L, Up p (-1) c ∧ 0 < c.length
  at_ : ∀ y j, mp y = some j → 0 ≤ j ∧ j < (L.length : Int) ∧ lastR (rd_L2 L j) = y
  all : ∀ c ∈ L, (mp (lastR c)).isSome = true
/-- Multiples of pivots are added. -/
inductive Adds (p : Int) (L U : List (List S45)) : List S45 → List S45 → List S45 → List S45 → Prop
  | refl (c x : List S45) : Adds p L U c x c x
  | step {c x c' x' : List S45} (j : Nat) (k : Int) (hj : j < L.length) (h0 : 0 ≤ k) (h1 : k < p) (h : Adds p L U (colAdd p k c (L.getD j [])) (colAdd p k x (U.getD j [])) c' x') : Adds p L U c x c' x'
theorem last_cf {p : Int} {c : List S45} (hu : Up p (-1) c) (hl : 0 < c.length) : 0 ≤ lastR c ∧ lastR c < 1024 ∧ 1 ≤ cf c (lastR c) ∧ cf c (lastR c) < p ∧ (rd_T45 c ((c.length : Int) - 1)).f1 = cf c (lastR c) := by
  have hm : rd_T45 c ((c.length : Int) - 1) ∈ c := by
    rw [show (c.length : Int) - 1 = ((c.length - 1 : Nat) : Int) by omega, rdT_nat (by omega)]
    exact List.getElem_mem _
  have h1 := up_mem hu _ hm
  have h2 := cf_mem hu _ hm
  unfold lastR
  rw [h2]
  exact ⟨by omega, h1.2.1, h1.2.2.1, h1.2.2.2, rfl⟩
theorem up_le_last {p : Int} : ∀ {last : Int} {l : List S45}, Up p last l → ∀ t ∈ l, t.f0 ≤ lastR l
  | last, [], _, t, h => by cases h
  | last, a :: l, hu, t, h => by
    have hl : lastR (a :: l) = if l.length = 0 then a.f0 else lastR l := by
      unfold lastR
      have e : (((a :: l).length : Int) - 1) = (l.length : Int) := by simp
      rw [e, rdT_nat (by simp)]
      cases l with
      | nil => rfl
      | cons b l =>
        rw [if_neg (by simp)]
        have e2 : (((b :: l).length : Int) - 1) = (l.length : Int) := by simp
        rw [e2, rdT_nat (by simp)]
        rfl
    rw [hl]
    rcases List.mem_cons.1 h with rfl | h
    · cases l with
      | nil => exact Int.le_refl _
      | cons b l =>
        rw [if_neg (by simp)]
        have h1 := up_le_last hu.2.2.2.2 b (by simp)
        have h2 := hu.2.2.2.2.1
        omega
    · have := up_le_last hu.2.2.2.2 t h
      cases l with
      | nil => cases h
      | cons b l => rw [if_neg (by simp)]; exact this
theorem cf_above {p last : Int} {c : List S45} (hu : Up p last c) {y : Int} (hy : lastR c < y) : cf c y = 0 := by
  by_cases h : cf c y = 0
  · exact h
  · obtain ⟨t, ht, e⟩ := cf_pos h
    have := up_le_last hu t ht
    omega
section
variable {p : Int} (hp : primeB p = true) {mp : Int → Option Int} {L U : List (List S45)} (hP : Piv p mp L) (hU : U.length = L.length) (hUu : ∀ x ∈ U, Up p (-1) x)
include hp hP hU hUu
theorem clear_spec : ∀ (B : Nat), B ≤ 1024 → ∀ (c x : List S45), Up p (-1) c → Up p (-1) x → (∀ y, (B : Int) ≤ y → (mp y).isSome = true → cf c y = 0) →
    ∃ c' x', (∀ k, B + 40 ≤ k → clearL p mp L U k c x ((cnt c B : Int) - 1) = some (c', x')) ∧ Up p (-1) c' ∧ Up p (-1) x' ∧ (∀ y, (mp y).isSome = true → cf c' y = 0) ∧ Adds p L U c x c' x' := by
  obtain ⟨hp1, hp2⟩ := primeB_ge hp
  intro B
  induction B using Nat.strongRecOn with
  | _ B ih =>
    intro hB c x hc hx hcl
    have hlen := up_len hc
    rcases Nat.eq_zero_or_pos (cnt c B) with h0 | h0
    · refine ⟨c, x, fun k hk => ?_, hc, hx, fun y hy => ?_, .refl _ _⟩
      · obtain ⟨k, rfl, _⟩ := ex_succ (show 0 + 1 ≤ k by omega)
        rw [clearL, if_neg (by omega)]
      · by_cases hyB : (B : Int) ≤ y
        · exact hcl y hyB hy
        · by_cases hz : cf c y = 0
          · exact hz
          · obtain ⟨t, ht, e⟩ := cf_pos hz
            obtain ⟨i, hi, rfl⟩ := List.mem_iff_getElem.1 ht
            have := (cnt_iff (B : Int) i hi hc).2 (by omega)
            omega
    · have hcnt := cnt_le c B
      obtain ⟨i, hi⟩ : ∃ i, cnt c B = i + 1 := ⟨cnt c B - 1, by omega⟩
      have hil : i < c.length := by omega
      obtain ⟨t, ht⟩ : ∃ t, c[i] = t := ⟨_, rfl⟩
      have htm : t ∈ c := by rw [← ht]; exact List.getElem_mem _
      have htu := up_mem hc t htm
      have htB : t.f0 < B := by rw [← ht]; exact (cnt_iff (B : Int) i hil hc).1 (by omega)
      have htc := cf_mem hc t htm
      -- between the row and B there is nothing
      have between : ∀ y, t.f0 < y → (mp y).isSome = true → cf c y = 0 := fun y hy hs => by
        by_cases hyB : (B : Int) ≤ y
        · exact hcl y hyB hs
        · by_cases hz : cf c y = 0
          · exact hz
          · obtain ⟨s, hsm, e⟩ := cf_pos hz
            obtain ⟨j, hj, rfl⟩ := List.mem_iff_getElem.1 hsm
            have h1 := (cnt_iff (B : Int) j hj hc).2 (by omega)
            have h2 := (cnt_iff c[j].f0 i hil hc).2 (by rw [ht]; omega)
            have h3 : ¬ j < cnt c c[j].f0 := fun q => by have := (cnt_iff c[j].f0 j hj hc).1 q; omega
            omega
      have hrow : rowOk t.f0 := ⟨by omega, by omega⟩
      have hcast : ((cnt c B : Int) - 1) = (i : Int) := by omega
      obtain ⟨R, hR⟩ : ∃ R : Nat, t.f0 = (R : Int) := ⟨t.f0.toNat, by omega⟩
      cases hm : mp t.f0 with
      | none =>
        obtain ⟨c', x', e1, e2, e3, e4, e5⟩ := ih R (by omega) (by omega) c x hc hx (fun y hy hs => by
          by_cases hyr : y = t.f0
          · rw [hyr, hm] at hs; cases hs
          · exact between y (by omega) hs)
        refine ⟨c', x', fun k hk => ?_, e2, e3, e4, e5⟩
        obtain ⟨k, rfl, _⟩ := ex_succ (show 0 + 1 ≤ k by omega)
        rw [clearL, hcast, if_pos (by omega), rdT_nat hil, ht, if_pos ⟨by omega, by omega, hrow⟩, hm]
        simp only
        rw [bsL_cnt hc (row := t.f0) (by omega) (by omega) _ 0 c.length rfl (Nat.zero_le _) (cnt_le _ _) (Nat.le_refl _), w64 (by omega) (by have := cnt_le c t.f0; omega), hR]
        exact e1 k (by omega)
      | some j =>
        obtain ⟨j0, j1, jl⟩ := hP.at_ _ _ hm
        obtain ⟨m, rfl⟩ : ∃ m : Nat, j = (m : Int) := ⟨j.toNat, by omega⟩
        have hml : m < L.length := by omega
        have hmu : m < U.length := by omega
        have eL : rd_L2 L (m : Int) = L.getD m [] := by simp [rd_L2]
        have eU : rd_L2 U (m : Int) = U.getD m [] := by simp [rd_L2]
        obtain ⟨low, hlow⟩ : ∃ low, L.getD m [] = low := ⟨_, rfl⟩
        obtain ⟨uj, huj⟩ : ∃ uj, U.getD m [] = uj := ⟨_, rfl⟩
        have hlm : low ∈ L := by rw [← hlow, List.getD_eq_getElem?_getD, List.getElem?_eq_getElem hml]; exact List.getElem_mem _
        have hum : uj ∈ U := by rw [← huj, List.getD_eq_getElem?_getD, List.getElem?_eq_getElem hmu]; exact List.getElem_mem _
        obtain ⟨lu, ll⟩ := hP.up low hlm
        have luj := hUu uj hum
        rw [eL, hlow] at jl
        obtain ⟨b0, b1, b2, b3, b4⟩ := last_cf lu ll
        rw [jl] at b2 b3 b4
        obtain ⟨q, q0, q1, q2, q3⟩ := div_spec hp (a := t.f1) (b := cf low t.f0) (by omega) (by omega) b2 b3
        have qne : q ≠ 0 := by
          rintro rfl
          rw [Int.zero_mul, Int.zero_emod] at q2
          omega
        have hk0 : 0 ≤ p - q := by omega
        have hk1 : p - q < p := by omega
        have hc' := colAdd_up hp1 hp2 hk0 hk1 hc lu
        have hx' := colAdd_up hp1 hp2 hk0 hk1 hx luj
        have hcf := fun r => colAdd_cf hp1 hp2 hk0 hk1 hc lu r
        have ll2 := up_len lu
        have lj2 := up_len luj
        have lx2 := up_len hx
        have lc' := up_len hc'
        obtain ⟨c', x', e1, e2, e3, e4, e5⟩ := ih R (by omega) (by omega) _ _ hc' hx' (fun y hy hs => by
          rw [hcf]
          by_cases hyr : y = t.f0
          · rw [hyr, htc]
            obtain ⟨d, hd⟩ := ed (q * cf low t.f0) p
            rw [q2] at hd
            rw [em (y := 0) (cf low t.f0 - d) (by rw [hd]; grind), Int.zero_emod]
          · rw [between y (by omega) hs, cf_above lu (by omega)]
            simp)
        refine ⟨c', x', fun k hk => ?_, e2, e3, e4, .step m (p - q) hml hk0 hk1 (by rw [hlow, huj]; exact e5)⟩
        obtain ⟨k, rfl, _⟩ := ex_succ (show 0 + 1 ≤ k by omega)
        rw [clearL, hcast, if_pos (by omega), rdT_nat hil, ht, if_pos ⟨by omega, by omega, hrow⟩, hm]
        simp only
        rw [eL, eU, hlow, huj, b4]
        refine (if_pos ⟨by omega, by omega, by omega, ll⟩).trans ?_
        refine (bind_of (q3 k (by omega))).trans ?_
        have hw : wrap64 (p - q) = p - q := w64 (by omega) (by omega)
        rw [hw]
        refine (bind_of (plus_col (by omega) (by omega))).trans ?_
        refine (bind_of (plus_col (by omega) (by omega))).trans ?_
        refine (if_pos (by omega)).trans ?_
        rw [bsL_cnt hc' (row := t.f0) (by omega) (by omega) _ 0 _ rfl (Nat.zero_le _) (cnt_le _ _) (Nat.le_refl _), w64 (by omega) (by have := cnt_le (colAdd p (p - q) c low) t.f0; omega), hR]
        exact e1 k (by omega)
/-- clear, from the last term on. -/
theorem clear_all (c x : List S45) (hc : Up p (-1) c) (hx : Up p (-1) x) (hrow : ∀ y, 1024 ≤ y → mp y = none) :
    ∃ c' x', (∀ k, 1064 ≤ k → clearL p mp L U k c x (wrap64 ((c.length : Int) - 1)) = some (c', x')) ∧ Up p (-1) c' ∧ Up p (-1) x' ∧ (∀ y, (mp y).isSome = true → cf c' y = 0) ∧ Adds p L U c x c' x' := by
  have hl := up_len hc
  obtain ⟨c', x', e1, e2⟩ := clear_spec hp hP hU hUu 1024 (Nat.le_refl _) c x hc hx (fun y hy hs => by rw [hrow y (by omega)] at hs; cases hs)
  refine ⟨c', x', fun k hk => ?_, e2⟩
  have := e1 k (by omega)
  rw [show ((1024 : Nat) : Int) = 1024 from rfl, cnt_all hc] at this
  rw [w64 (by omega) (by omega)]
  exact this
end
end Go.Proofs.Ytojnnfhalpefmaa.P
