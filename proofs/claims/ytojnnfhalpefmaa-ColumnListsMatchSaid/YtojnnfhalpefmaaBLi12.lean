/- A part of the proof: texts of this seat joined (printed and by hand), without what is not used. -/
import Derived.Test.YtojnnfhalpefmaaBLi11
set_option linter.unusedVariables false
set_option linter.unusedSimpArgs false
set_option linter.unusedSectionVars false
section
namespace Go.Proofs.Ytojnnfhalpefmaa.P
open Go.RowKit Go.Proofs.YtojnnfhalpefmaaW.PrintWords Go.Proofs.Ytojnnfhalpefmaa.M
def invOk (q a : Nat) : Bool := match modp_Inv.f 30 (q : Int) (a : Int) with | some (t, e) => e == 0 && (decide (0 ≤ t) && (decide (t < (q : Int)) && (t * (a : Int)) % (q : Int) == 1)) | none => false
theorem inv_all : ((List.range 252).all fun q => !primeB (q : Int) || (List.range q).all fun a => a == 0 || invOk q a) = true := by decide +kernel
theorem ed (x p : Int) : ∃ q, x % p = x - p * q := ⟨x / p, by have := Int.mul_ediv_add_emod x p; omega⟩
theorem em {x y p : Int} (t : Int) (h : x - y = p * t) : x % p = y % p := by
  rw [show x = y + p * t by omega, Int.add_mul_emod_self_left]
theorem inv_spec {p : Int} (hp : primeB p = true) {a : Int} (h0 : 1 ≤ a) (h1 : a < p) : ∃ t, 0 ≤ t ∧ t < p ∧ (t * a) % p = 1 ∧ ∀ k, 30 ≤ k → modp_Inv.f k p a = some (t, 0) := by
  obtain ⟨hp1, hp2⟩ := primeB_ge hp
  obtain ⟨q, rfl⟩ : ∃ q : Nat, p = (q : Int) := ⟨p.toNat, by omega⟩
  obtain ⟨b, rfl⟩ : ∃ b : Nat, a = (b : Int) := ⟨a.toNat, by omega⟩
  have h := List.all_eq_true.1 inv_all q (List.mem_range.2 (by omega))
  rw [hp] at h
  simp only [Bool.not_true, Bool.false_or] at h
  have h2 := List.all_eq_true.1 h b (List.mem_range.2 (by omega))
  have hb : (b == 0) = false := by simp; omega
  rw [hb, Bool.false_or] at h2
  unfold invOk at h2
  cases hm : modp_Inv.f 30 (q : Int) (b : Int) with
  | none => rw [hm] at h2; cases h2
  | some r =>
    obtain ⟨t, e⟩ := r
    rw [hm] at h2
    simp only [Bool.and_eq_true, decide_eq_true_eq, beq_iff_eq] at h2
    obtain ⟨rfl, h3, h4, h5⟩ := h2
    exact ⟨t, h3, h4, h5, fun k hk => at_rounds (fun k => modp_Inv.mono _ _ k) hk hm⟩
theorem mul_b {a b : Int} (h0 : 0 ≤ a) (h1 : a ≤ 251) (h2 : 0 ≤ b) (h3 : b ≤ 251) : 0 ≤ a * b ∧ a * b ≤ 63001 :=
  ⟨Int.mul_nonneg h0 h2, Int.le_trans (Int.mul_le_mul h1 h3 h2 (by omega)) (by omega)⟩
theorem div_spec {p : Int} (hp : primeB p = true) {a b : Int} (ha : 0 ≤ a) (ha2 : a < p) (h0 : 1 ≤ b) (h1 : b < p) : ∃ q, 0 ≤ q ∧ q < p ∧ (q * b) % p = a ∧ ∀ k, 30 ≤ k → modp_Div.f k p a b = some (q, 0) := by
  obtain ⟨hp1, hp2⟩ := primeB_ge hp
  obtain ⟨t, t0, t1, t2, t3⟩ := inv_spec hp h0 h1
  have hm := mul_b ha (by omega) t0 (by omega)
  refine ⟨(a * t) % p, Int.emod_nonneg _ (by omega), Int.emod_lt_of_pos _ (by omega), ?_, fun k hk => ?_⟩
  · obtain ⟨q1, e1⟩ := ed (a * t) p
    obtain ⟨q2, e2⟩ := ed (t * b) p
    rw [t2] at e2
    rw [e1]
    have : (a * t - p * q1) * b % p = a % p := em (a * q2 - q1 * b) (by grind)
    rw [this, Int.emod_eq_of_lt ha ha2]
  · unfold modp_Div.f
    rw [bind_of (t3 k hk)]
    refine (if_pos rfl).trans ?_
    have hmul : modp_Mul.f k p a t = some ((a * t) % p, 0) := by
      unfold modp_Mul.f
      rw [bind_of (of_modp p k (by omega)), if_pos hp]
      refine (if_pos rfl).trans ?_
      refine (bind_of (rest_modp hp1 hp2 a)).trans ?_
      refine (bind_of (rest_modp hp1 hp2 t)).trans ?_
      rw [Int.emod_eq_of_lt ha ha2, Int.emod_eq_of_lt t0 t1, w64 (by omega) (by omega)]
      exact bind_of (rest_modp hp1 hp2 (a * t))
    exact bind_of hmul
end Go.Proofs.Ytojnnfhalpefmaa.P
end

section
namespace Go.Proofs.Ytojnnfhalpefmaa.P
open Go.RowKit Go.Proofs.YtojnnfhalpefmaaW.PrintWords Go.Proofs.Ytojnnfhalpefmaa.M Go.Proofs.Ytojnnfhalpefmaa.H
theorem up_nil (p : Int) : Up p (-1) ([] : List S45) := trivial
theorem checkB_of {p : Int} (hp : primeB p = true) {x : List S45} (hx : Up p (-1) x) : checkB p x = 0 := (if_pos hp).trans ((chkS_up (Int.le_refl _)).2 hx)
theorem up_len {p : Int} {c : List S45} (h : Up p (-1) c) : c.length ≤ 1024 := by
  have := (Col.mk (n := 1024) h (fun t ht => (up_mem h t ht).2.1)).len (by decide)
  omega
def cnt : List S45 → Int → Nat
  | [], _ => 0
  | t :: l, B => if t.f0 < B then cnt l B + 1 else 0
theorem cnt_le : ∀ (l : List S45) (B : Int), cnt l B ≤ l.length
  | [], _ => Nat.le_refl _
  | t :: l, B => by
    have := cnt_le l B
    rw [cnt]
    split
    · simp only [List.length_cons]; omega
    · simp only [List.length_cons]; omega
theorem cnt_iff {p : Int} : ∀ {last : Int} {l : List S45} (B : Int) (i : Nat) (hi : i < l.length), Up p last l → (i < cnt l B ↔ l[i].f0 < B)
  | last, t :: l, B, 0, hi, h => by
    rw [cnt]
    show (0 < if t.f0 < B then cnt l B + 1 else 0) ↔ t.f0 < B
    split
    · rename_i q; exact ⟨fun _ => q, fun _ => by omega⟩
    · rename_i q; exact ⟨fun q2 => absurd q2 (by omega), fun q2 => absurd q2 q⟩
  | last, t :: l, B, i + 1, hi, h => by
    have hi' : i < l.length := by simpa using hi
    have I := cnt_iff B i hi' h.2.2.2.2
    rw [cnt, List.getElem_cons_succ]
    split
    · rename_i q
      rw [← I]
      omega
    · rename_i q
      have := up_mem h.2.2.2.2 _ (List.getElem_mem hi')
      exact ⟨fun q2 => absurd q2 (by omega), fun q2 => absurd q2 (by omega)⟩
theorem cnt_all {p : Int} {l : List S45} (h : Up p (-1) l) : cnt l 1024 = l.length := by
  rcases Nat.eq_zero_or_pos l.length with h0 | h0
  · have := cnt_le l 1024
    omega
  · have h1 := (cnt_iff 1024 (l.length - 1) (by omega) h).2 (up_mem h _ (List.getElem_mem _)).2.1
    have := cnt_le l 1024
    omega
theorem bsL_cnt {p : Int} {l : List S45} (hu : Up p (-1) l) {row : Int} (h0 : 0 ≤ row) (h1 : row < 1024) : ∀ (n i j : Nat), j - i = n → i ≤ cnt l row → cnt l row ≤ j → j ≤ l.length → bsL l row i j = cnt l row := by
  intro n
  induction n using Nat.strongRecOn with
  | _ n ih =>
    intro i j hn hi hj hl
    by_cases hij : i < j
    · have hm : (i + j) / 2 < l.length := by omega
      have hmem := up_mem hu _ (List.getElem_mem hm)
      have hiff := cnt_iff row ((i + j) / 2) hm hu
      have hw : wrap64 ((rd_T45 l (((i + j) / 2 : Nat) : Int)).f0 - row) = l[(i + j) / 2].f0 - row := by
        rw [rdT_nat hm, w64 (by omega) (by omega)]
      by_cases hc : l[(i + j) / 2].f0 < row
      · rw [bsL_lt hij (by rw [hw]; omega)]
        have := hiff.2 hc
        exact ih (j - ((i + j) / 2 + 1)) (by omega) _ _ rfl (by omega) hj hl
      · rw [bsL_ge hij (by rw [hw]; omega)]
        have : ¬ (i + j) / 2 < cnt l row := fun q => hc (hiff.1 q)
        exact ih ((i + j) / 2 - i) (by omega) _ _ rfl hi (by omega) (by omega)
    · rw [bsL_end hij]
      omega
structure Piv (p : Int) (mp : Int → Option Int) (L : List (List S45)) : Prop where
  up : ∀ c ∈ L, Up p (-1) c ∧ 0 < c.length
  at_ : ∀ y j, mp y = some j → 0 ≤ j ∧ j < (L.length : Int) ∧ lastR (rd_L2 L j) = y
  all : ∀ c ∈ L, (mp (lastR c)).isSome = true
inductive Adds (p : Int) (L U : List (List S45)) : List S45 → List S45 → List S45 → List S45 → Prop
  | refl (c x : List S45) : Adds p L U c x c x
  | step {c x c' x' : List S45} (j : Nat) (k : Int) (hj : j < L.length) (h0 : 0 ≤ k) (h1 : k < p) (h : Adds p L U (colAdd p k c (L.getD j [])) (colAdd p k x (U.getD j [])) c' x') : Adds p L U c x c' x'
theorem last_cf {p : Int} {c : List S45} (hu : Up p (-1) c) (hl : 0 < c.length) : 0 ≤ lastR c ∧ lastR c < 1024 ∧ 1 ≤ cf c (lastR c) ∧ cf c (lastR c) < p ∧ (rd_T45 c ((c.length : Int) - 1)).f1 = cf c (lastR c) := by
  have hm : rd_T45 c ((c.length : Int) - 1) ∈ c := by
    rw [show (c.length : Int) - 1 = ((c.length - 1 : Nat) : Int) by omega, rdT_nat (by omega)]
    exact List.getElem_mem _
  have h1 := up_mem hu _ hm
  have h2 := cf_mem hu _ hm
  unfold lastR
  rw [h2]
  exact ⟨by omega, h1.2.1, h1.2.2.1, h1.2.2.2, rfl⟩
theorem up_le_last {p : Int} : ∀ {last : Int} {l : List S45}, Up p last l → ∀ t ∈ l, t.f0 ≤ lastR l
  | last, [], _, t, h => by cases h
  | last, a :: l, hu, t, h => by
    have hl : lastR (a :: l) = if l.length = 0 then a.f0 else lastR l := by
      unfold lastR
      have e : (((a :: l).length : Int) - 1) = (l.length : Int) := by simp
      rw [e, rdT_nat (by simp)]
      cases l with
      | nil => rfl
      | cons b l =>
        rw [if_neg (by simp)]
        have e2 : (((b :: l).length : Int) - 1) = (l.length : Int) := by simp
        rw [e2, rdT_nat (by simp)]
        rfl
    rw [hl]
    rcases List.mem_cons.1 h with rfl | h
    · cases l with
      | nil => exact Int.le_refl _
      | cons b l =>
        rw [if_neg (by simp)]
        have h1 := up_le_last hu.2.2.2.2 b (by simp)
        have h2 := hu.2.2.2.2.1
        omega
    · have := up_le_last hu.2.2.2.2 t h
      cases l with
      | nil => cases h
      | cons b l => rw [if_neg (by simp)]; exact this
theorem cf_above {p last : Int} {c : List S45} (hu : Up p last c) {y : Int} (hy : lastR c < y) : cf c y = 0 := by
  by_cases h : cf c y = 0
  · exact h
  · obtain ⟨t, ht, e⟩ := cf_pos h
    have := up_le_last hu t ht
    omega
section
variable {p : Int} (hp : primeB p = true) {mp : Int → Option Int} {L U : List (List S45)} (hP : Piv p mp L) (hU : U.length = L.length) (hUu : ∀ x ∈ U, Up p (-1) x)
include hp hP hU hUu
theorem clear_spec : ∀ (B : Nat), B ≤ 1024 → ∀ (c x : List S45), Up p (-1) c → Up p (-1) x → (∀ y, (B : Int) ≤ y → (mp y).isSome = true → cf c y = 0) →
    ∃ c' x', (∀ k, B + 40 ≤ k → clearL p mp L U k c x ((cnt c B : Int) - 1) = some (c', x')) ∧ Up p (-1) c' ∧ Up p (-1) x' ∧ (∀ y, (mp y).isSome = true → cf c' y = 0) ∧ Adds p L U c x c' x' := by
  obtain ⟨hp1, hp2⟩ := primeB_ge hp
  intro B
  induction B using Nat.strongRecOn with
  | _ B ih =>
    intro hB c x hc hx hcl
    have hlen := up_len hc
    rcases Nat.eq_zero_or_pos (cnt c B) with h0 | h0
    · refine ⟨c, x, fun k hk => ?_, hc, hx, fun y hy => ?_, .refl _ _⟩
      · obtain ⟨k, rfl, _⟩ := ex_succ (show 0 + 1 ≤ k by omega)
        rw [clearL, if_neg (by omega)]
      · by_cases hyB : (B : Int) ≤ y
        · exact hcl y hyB hy
        · by_cases hz : cf c y = 0
          · exact hz
          · obtain ⟨t, ht, e⟩ := cf_pos hz
            obtain ⟨i, hi, rfl⟩ := List.mem_iff_getElem.1 ht
            have := (cnt_iff (B : Int) i hi hc).2 (by omega)
            omega
    · have hcnt := cnt_le c B
      obtain ⟨i, hi⟩ : ∃ i, cnt c B = i + 1 := ⟨cnt c B - 1, by omega⟩
      have hil : i < c.length := by omega
      obtain ⟨t, ht⟩ : ∃ t, c[i] = t := ⟨_, rfl⟩
      have htm : t ∈ c := by rw [← ht]; exact List.getElem_mem _
      have htu := up_mem hc t htm
      have htB : t.f0 < B := by rw [← ht]; exact (cnt_iff (B : Int) i hil hc).1 (by omega)
      have htc := cf_mem hc t htm
      -- between the row and B there is nothing
      have between : ∀ y, t.f0 < y → (mp y).isSome = true → cf c y = 0 := fun y hy hs => by
        by_cases hyB : (B : Int) ≤ y
        · exact hcl y hyB hs
        · by_cases hz : cf c y = 0
          · exact hz
          · obtain ⟨s, hsm, e⟩ := cf_pos hz
            obtain ⟨j, hj, rfl⟩ := List.mem_iff_getElem.1 hsm
            have h1 := (cnt_iff (B : Int) j hj hc).2 (by omega)
            have h2 := (cnt_iff c[j].f0 i hil hc).2 (by rw [ht]; omega)
            have h3 : ¬ j < cnt c c[j].f0 := fun q => by have := (cnt_iff c[j].f0 j hj hc).1 q; omega
            omega
      have hrow : rowOk t.f0 := ⟨by omega, by omega⟩
      have hcast : ((cnt c B : Int) - 1) = (i : Int) := by omega
      obtain ⟨R, hR⟩ : ∃ R : Nat, t.f0 = (R : Int) := ⟨t.f0.toNat, by omega⟩
      cases hm : mp t.f0 with
      | none =>
        obtain ⟨c', x', e1, e2, e3, e4, e5⟩ := ih R (by omega) (by omega) c x hc hx (fun y hy hs => by
          by_cases hyr : y = t.f0
          · rw [hyr, hm] at hs; cases hs
          · exact between y (by omega) hs)
        refine ⟨c', x', fun k hk => ?_, e2, e3, e4, e5⟩
        obtain ⟨k, rfl, _⟩ := ex_succ (show 0 + 1 ≤ k by omega)
        rw [clearL, hcast, if_pos (by omega), rdT_nat hil, ht, if_pos ⟨by omega, by omega, hrow⟩, hm]
        simp only
        rw [bsL_cnt hc (row := t.f0) (by omega) (by omega) _ 0 c.length rfl (Nat.zero_le _) (cnt_le _ _) (Nat.le_refl _), w64 (by omega) (by have := cnt_le c t.f0; omega), hR]
        exact e1 k (by omega)
      | some j =>
        obtain ⟨j0, j1, jl⟩ := hP.at_ _ _ hm
        obtain ⟨m, rfl⟩ : ∃ m : Nat, j = (m : Int) := ⟨j.toNat, by omega⟩
        have hml : m < L.length := by omega
        have hmu : m < U.length := by omega
        have eL : rd_L2 L (m : Int) = L.getD m [] := by simp [rd_L2]
        have eU : rd_L2 U (m : Int) = U.getD m [] := by simp [rd_L2]
        obtain ⟨low, hlow⟩ : ∃ low, L.getD m [] = low := ⟨_, rfl⟩
        obtain ⟨uj, huj⟩ : ∃ uj, U.getD m [] = uj := ⟨_, rfl⟩
        have hlm : low ∈ L := by rw [← hlow, List.getD_eq_getElem?_getD, List.getElem?_eq_getElem hml]; exact List.getElem_mem _
        have hum : uj ∈ U := by rw [← huj, List.getD_eq_getElem?_getD, List.getElem?_eq_getElem hmu]; exact List.getElem_mem _
        obtain ⟨lu, ll⟩ := hP.up low hlm
        have luj := hUu uj hum
        rw [eL, hlow] at jl
        obtain ⟨b0, b1, b2, b3, b4⟩ := last_cf lu ll
        rw [jl] at b2 b3 b4
        obtain ⟨q, q0, q1, q2, q3⟩ := div_spec hp (a := t.f1) (b := cf low t.f0) (by omega) (by omega) b2 b3
        have qne : q ≠ 0 := by
          rintro rfl
          rw [Int.zero_mul, Int.zero_emod] at q2
          omega
        have hk0 : 0 ≤ p - q := by omega
        have hk1 : p - q < p := by omega
        have hc' := colAdd_up hp1 hp2 hk0 hk1 hc lu
        have hx' := colAdd_up hp1 hp2 hk0 hk1 hx luj
        have hcf := fun r => colAdd_cf hp1 hp2 hk0 hk1 hc lu r
        have ll2 := up_len lu
        have lj2 := up_len luj
        have lx2 := up_len hx
        have lc' := up_len hc'
        obtain ⟨c', x', e1, e2, e3, e4, e5⟩ := ih R (by omega) (by omega) _ _ hc' hx' (fun y hy hs => by
          rw [hcf]
          by_cases hyr : y = t.f0
          · rw [hyr, htc]
            obtain ⟨d, hd⟩ := ed (q * cf low t.f0) p
            rw [q2] at hd
            rw [em (y := 0) (cf low t.f0 - d) (by rw [hd]; grind), Int.zero_emod]
          · rw [between y (by omega) hs, cf_above lu (by omega)]
            simp)
        refine ⟨c', x', fun k hk => ?_, e2, e3, e4, .step m (p - q) hml hk0 hk1 (by rw [hlow, huj]; exact e5)⟩
        obtain ⟨k, rfl, _⟩ := ex_succ (show 0 + 1 ≤ k by omega)
        rw [clearL, hcast, if_pos (by omega), rdT_nat hil, ht, if_pos ⟨by omega, by omega, hrow⟩, hm]
        simp only
        rw [eL, eU, hlow, huj, b4]
        refine (if_pos ⟨by omega, by omega, by omega, ll⟩).trans ?_
        refine (bind_of (q3 k (by omega))).trans ?_
        have hw : wrap64 (p - q) = p - q := w64 (by omega) (by omega)
        rw [hw]
        refine (bind_of (plus_col (by omega) (by omega))).trans ?_
        refine (bind_of (plus_col (by omega) (by omega))).trans ?_
        refine (if_pos (by omega)).trans ?_
        rw [bsL_cnt hc' (row := t.f0) (by omega) (by omega) _ 0 _ rfl (Nat.zero_le _) (cnt_le _ _) (Nat.le_refl _), w64 (by omega) (by have := cnt_le (colAdd p (p - q) c low) t.f0; omega), hR]
        exact e1 k (by omega)
theorem clear_all (c x : List S45) (hc : Up p (-1) c) (hx : Up p (-1) x) (hrow : ∀ y, 1024 ≤ y → mp y = none) :
    ∃ c' x', (∀ k, 1064 ≤ k → clearL p mp L U k c x (wrap64 ((c.length : Int) - 1)) = some (c', x')) ∧ Up p (-1) c' ∧ Up p (-1) x' ∧ (∀ y, (mp y).isSome = true → cf c' y = 0) ∧ Adds p L U c x c' x' := by
  have hl := up_len hc
  obtain ⟨c', x', e1, e2⟩ := clear_spec hp hP hU hUu 1024 (Nat.le_refl _) c x hc hx (fun y hy hs => by rw [hrow y (by omega)] at hs; cases hs)
  refine ⟨c', x', fun k hk => ?_, e2⟩
  have := e1 k (by omega)
  rw [show ((1024 : Nat) : Int) = 1024 from rfl, cnt_all hc] at this
  rw [w64 (by omega) (by omega)]
  exact this
end
end Go.Proofs.Ytojnnfhalpefmaa.P
end

section
namespace Go.Proofs.Ytojnnfhalpefmaa.P
open Go.RowKit Go.Proofs.YtojnnfhalpefmaaW.PrintWords Go.Proofs.Ytojnnfhalpefmaa.M Go.Proofs.Ytojnnfhalpefmaa.H
def sumN : Nat → (Nat → Int) → Int
  | 0, _ => 0
  | n + 1, f => sumN n f + f n
theorem sumN_congr {f g : Nat → Int} : ∀ (n : Nat), (∀ i, i < n → f i = g i) → sumN n f = sumN n g
  | 0, _ => rfl
  | n + 1, h => by rw [sumN, sumN, sumN_congr n (fun i hi => h i (by omega)), h n (by omega)]
theorem sumN_zero : ∀ (n : Nat), sumN n (fun _ => 0) = 0
  | 0 => rfl
  | n + 1 => by rw [sumN, sumN_zero n]; rfl
theorem sumN_add {f g : Nat → Int} : ∀ (n : Nat), sumN n (fun i => f i + g i) = sumN n f + sumN n g
  | 0 => rfl
  | n + 1 => by rw [sumN, sumN, sumN, sumN_add n]; omega
theorem sumN_one {m : Nat} {v : Int} : ∀ (n : Nat), sumN n (fun i => if i = m then v else 0) = if m < n then v else 0
  | 0 => by simp [sumN]
  | n + 1 => by
    rw [sumN, sumN_one n]
    by_cases h : n = m
    · subst h; rw [if_neg (by omega), if_pos rfl, if_pos (by omega)]; omega
    · rw [if_neg h]
      by_cases h2 : m < n
      · rw [if_pos h2, if_pos (by omega)]; omega
      · rw [if_neg h2, if_neg (by omega)]; rfl
theorem sumN_dvd {p k : Int} {f g h : Nat → Int} : ∀ (n : Nat), (∀ i, i < n → ∃ q, f i = g i + k * h i - p * q) → ∃ q, sumN n f = sumN n g + k * sumN n h - p * q
  | 0, _ => ⟨0, by simp [sumN]⟩
  | n + 1, hh => by
    obtain ⟨q1, h1⟩ := sumN_dvd n (fun i hi => hh i (by omega))
    obtain ⟨q2, h2⟩ := hh n (by omega)
    exact ⟨q1 + q2, by rw [sumN, sumN, sumN, h1, h2]; grind⟩
def dotG (g : Int → Int) : List S45 → Int
  | [] => 0
  | t :: l => t.f1 * g t.f0 + dotG g l
theorem dotG_congr {g g' : Int → Int} : ∀ (l : List S45), (∀ t ∈ l, g t.f0 = g' t.f0) → dotG g l = dotG g' l
  | [], _ => rfl
  | t :: l, h => by rw [dotG, dotG, h t (by simp), dotG_congr l (fun s hs => h s (by simp [hs]))]
theorem dotG_sum {p : Int} (g : Int → Int) : ∀ {last : Int} (l : List S45), -1 ≤ last → Up p last l → dotG g l = sumN 1024 (fun i => cf l (i : Int) * g (i : Int))
  | last, [], _, _ => by
    rw [dotG, ← sumN_zero 1024]
    exact sumN_congr _ (fun i _ => by simp [cf])
  | last, t :: l, h0, h => by
    obtain ⟨h1, h2, h3, h4, h5⟩ := h
    rw [dotG, dotG_sum g l (last := t.f0) (by omega) h5]
    obtain ⟨m, hm⟩ : ∃ m : Nat, t.f0 = (m : Int) := ⟨t.f0.toNat, by omega⟩
    have : sumN 1024 (fun i => cf (t :: l) (i : Int) * g (i : Int)) = sumN 1024 (fun i => (if i = m then t.f1 * g t.f0 else 0) + cf l (i : Int) * g (i : Int)) := sumN_congr _ (fun i hi => by
      by_cases e : i = m
      · subst e
        rw [if_pos rfl, cf_here hm, ← hm, cf_low h5 (Int.le_refl _)]
        simp
      · rw [if_neg e, cf_there (by omega)]
        simp)
    rw [this, sumN_add, sumN_one, if_pos (by omega)]
theorem dotG_add {p k : Int} (hp : 2 ≤ p) (hp2 : p ≤ 251) (hk : 0 ≤ k) (hk2 : k < p) (g : Int → Int) {a b : List S45} (ha : Up p (-1) a) (hb : Up p (-1) b) : ∃ q, dotG g (colAdd p k a b) = dotG g a + k * dotG g b - p * q := by
  rw [dotG_sum g _ (Int.le_refl _) (colAdd_up hp hp2 hk hk2 ha hb), dotG_sum g _ (Int.le_refl _) ha, dotG_sum g _ (Int.le_refl _) hb]
  refine sumN_dvd 1024 (fun i hi => ?_)
  rw [colAdd_cf hp hp2 hk hk2 ha hb]
  obtain ⟨q, hq⟩ := ed (cf a i + k * cf b i) p
  exact ⟨q * g i, by rw [hq]; grind⟩
inductive Sp (p : Int) (L : List (List S45)) : (Int → Int) → Prop
  | zero {v : Int → Int} (h : ∀ r, ∃ q, v r = p * q) : Sp p L v
  | add {u v : Int → Int} (c : List S45) (k : Int) (hc : c ∈ L) (hu : Sp p L u) (h : ∀ r, ∃ q, v r = u r + k * cf c r + p * q) : Sp p L v
theorem Sp.congr {p : Int} {L : List (List S45)} {v w : Int → Int} (h : Sp p L v) (e : ∀ r, ∃ q, w r = v r + p * q) : Sp p L w := by
  cases h with
  | zero h => exact .zero (fun r => by obtain ⟨q, hq⟩ := h r; obtain ⟨q', hq'⟩ := e r; exact ⟨q + q', by grind⟩)
  | add c k hc hu h => exact .add c k hc hu (fun r => by obtain ⟨q, hq⟩ := h r; obtain ⟨q', hq'⟩ := e r; exact ⟨q + q', by grind⟩)
theorem Sp.plus {p : Int} {L : List (List S45)} {u v : Int → Int} (hu : Sp p L u) (hv : Sp p L v) : Sp p L (fun r => u r + v r) := by
  induction hv with
  | zero h => exact hu.congr (fun r => by obtain ⟨q, hq⟩ := h r; exact ⟨q, by grind⟩)
  | add c k hc _ h ih => exact .add c k hc ih (fun r => by obtain ⟨q, hq⟩ := h r; exact ⟨q, by grind⟩)
theorem Sp.smul {p : Int} {L : List (List S45)} {v : Int → Int} (m : Int) (hv : Sp p L v) : Sp p L (fun r => m * v r) := by
  induction hv with
  | zero h => exact .zero (fun r => by obtain ⟨q, hq⟩ := h r; exact ⟨m * q, by grind⟩)
  | add c k hc _ h ih => exact .add c (m * k) hc ih (fun r => by obtain ⟨q, hq⟩ := h r; exact ⟨m * q, by grind⟩)
theorem Sp.mem {p : Int} {L : List (List S45)} {c : List S45} (hc : c ∈ L) : Sp p L (cf c) := .add c 1 hc (.zero (v := fun _ => 0) (fun _ => ⟨0, by simp⟩)) (fun r => ⟨0, by simp⟩)
theorem Sp.trans {p : Int} {L L' : List (List S45)} {v : Int → Int} (h : Sp p L v) (hl : ∀ c ∈ L, Sp p L' (cf c)) : Sp p L' v := by
  induction h with
  | zero h => exact .zero h
  | add c k hc _ h ih => exact (ih.plus ((hl c hc).smul k)).congr h
theorem Sp.mono {p : Int} {L L' : List (List S45)} {v : Int → Int} (h : Sp p L v) (hl : ∀ c ∈ L, c ∈ L') : Sp p L' v := h.trans (fun c hc => .mem (hl c hc))
theorem Sp.minus {p : Int} {L : List (List S45)} {u v : Int → Int} (hu : Sp p L u) (hv : Sp p L v) : Sp p L (fun r => u r - v r) := (hu.plus (hv.smul (-1))).congr (fun r => ⟨0, by grind⟩)
theorem getD_mem {L : List (List S45)} {j : Nat} (h : j < L.length) : L.getD j [] ∈ L := by
  rw [List.getD_eq_getElem?_getD, List.getElem?_eq_getElem h]; exact List.getElem_mem _
section
variable {p : Int} (hp : primeB p = true) {L U : List (List S45)} (hL : ∀ c ∈ L, Up p (-1) c) (hU : U.length = L.length) (hUu : ∀ x ∈ U, Up p (-1) x)
include hp hL hU hUu
theorem adds_sp {c x c' x' : List S45} (h : Adds p L U c x c' x') : Up p (-1) c → Up p (-1) x → Sp p L (fun r => cf c r - cf c' r) := by
  obtain ⟨hp1, hp2⟩ := primeB_ge hp
  induction h with
  | refl c x => intro _ _; exact .zero (fun r => ⟨0, by simp⟩)
  | step j k hj h0 h1 _ ih =>
    intro hc hx
    have hl := hL _ (getD_mem hj)
    have hu := hUu _ (getD_mem (L := U) (j := j) (by omega))
    have I := ih (colAdd_up hp1 hp2 h0 h1 hc hl) (colAdd_up hp1 hp2 h0 h1 hx hu)
    exact .add _ (-k) (getD_mem hj) I (fun r => by
      rw [colAdd_cf hp1 hp2 h0 h1 hc hl]
      obtain ⟨q, hq⟩ := ed (cf _ r + k * cf (L.getD j []) r) p
      exact ⟨q, by rw [hq]; grind⟩)
theorem adds_comb {g : Int → Int → Int} (hg : ∀ j, j < L.length → ∀ r, ∃ q, cf (L.getD j []) r = dotG (g r) (U.getD j []) + p * q) {c x c' x' : List S45} (h : Adds p L U c x c' x') :
    Up p (-1) c → Up p (-1) x → (∀ r, ∃ q, cf c r = dotG (g r) x + p * q) → ∀ r, ∃ q, cf c' r = dotG (g r) x' + p * q := by
  obtain ⟨hp1, hp2⟩ := primeB_ge hp
  induction h with
  | refl c x => intro _ _ h; exact h
  | step j k hj h0 h1 _ ih =>
    intro hc hx hq
    have hl := hL _ (getD_mem hj)
    have hu := hUu _ (getD_mem (L := U) (j := j) (by omega))
    refine ih (colAdd_up hp1 hp2 h0 h1 hc hl) (colAdd_up hp1 hp2 h0 h1 hx hu) (fun r => ?_)
    rw [colAdd_cf hp1 hp2 h0 h1 hc hl]
    obtain ⟨q1, e1⟩ := ed (cf _ r + k * cf (L.getD j []) r) p
    obtain ⟨q2, e2⟩ := dotG_add hp1 hp2 h0 h1 (g r) hx hu
    obtain ⟨q3, e3⟩ := hq r
    obtain ⟨q4, e4⟩ := hg j hj r
    exact ⟨q3 + k * q4 - q1 + q2, by rw [e1, e2, e3, e4]; grind⟩
theorem adds_top {c x c' x' : List S45} (h : Adds p L U c x c' x') {y : Int} (hy : ∀ u ∈ U, ∀ r, y ≤ r → cf u r = 0) : Up p (-1) c → Up p (-1) x → (∀ r, y ≤ r → cf x' r = cf x r) := by
  obtain ⟨hp1, hp2⟩ := primeB_ge hp
  induction h with
  | refl c x => intro _ _ r _; rfl
  | @step c x _ _ j k hj h0 h1 _ ih =>
    intro hc hx r hr
    have hl := hL _ (getD_mem hj)
    have hum := getD_mem (L := U) (j := j) (by omega)
    have hu := hUu _ hum
    rw [ih (colAdd_up hp1 hp2 h0 h1 hc hl) (colAdd_up hp1 hp2 h0 h1 hx hu) r hr, colAdd_cf hp1 hp2 h0 h1 hx hu, hy _ hum r hr, Int.mul_zero, Int.add_zero]
    have := cf_range (show 0 < p by omega) r hx
    exact Int.emod_eq_of_lt this.1 this.2
theorem adds_topL {c x c' x' : List S45} (h : Adds p L U c x c' x') {y : Int} (hy : ∀ u ∈ L, ∀ r, y ≤ r → cf u r = 0) : Up p (-1) c → Up p (-1) x → (∀ r, y ≤ r → cf c' r = cf c r) := by
  obtain ⟨hp1, hp2⟩ := primeB_ge hp
  induction h with
  | refl c x => intro _ _ r _; rfl
  | @step c x _ _ j k hj h0 h1 _ ih =>
    intro hc hx r hr
    have hlm := getD_mem hj
    have hl := hL _ hlm
    have hu := hUu _ (getD_mem (L := U) (j := j) (by omega))
    rw [ih (colAdd_up hp1 hp2 h0 h1 hc hl) (colAdd_up hp1 hp2 h0 h1 hx hu) r hr, colAdd_cf hp1 hp2 h0 h1 hc hl, hy _ hlm r hr, Int.mul_zero, Int.add_zero]
    have := cf_range (show 0 < p by omega) r hc
    exact Int.emod_eq_of_lt this.1 this.2
end
theorem lastR_eq {p : Int} {c : List S45} (hc : Up p (-1) c) {y : Int} (h1 : cf c y ≠ 0) (h2 : ∀ r, y < r → cf c r = 0) : 0 < c.length ∧ lastR c = y := by
  obtain ⟨t, ht, e⟩ := cf_pos h1
  have hl : 0 < c.length := List.length_pos_of_mem ht
  obtain ⟨a1, a2, a3, a4, _⟩ := last_cf hc hl
  refine ⟨hl, ?_⟩
  have h3 := up_le_last hc t ht
  by_cases h4 : y < lastR c
  · have := h2 _ h4
    omega
  · omega
structure EInv (p : Int) (P : List (List S45)) (s : St) : Prop where
  piv : Piv p s.mp s.L
  ulen : s.U.length = s.L.length
  uup : ∀ x ∈ s.U, Up p (-1) x
  ulow : ∀ x ∈ s.U, ∀ r, (P.length : Int) ≤ r → cf x r = 0
  comb : ∀ j, j < s.L.length → ∀ r, ∃ q, cf (s.L.getD j []) r = dotG (fun t => cf (P.getD t.toNat []) r) (s.U.getD j []) + p * q
  zup : ∀ x ∈ s.Z, Up p (-1) x ∧ 0 < x.length ∧ lastR x < (P.length : Int) ∧ cf x (lastR x) = 1
  zcomb : ∀ x ∈ s.Z, ∀ r, ∃ q, dotG (fun t => cf (P.getD t.toNat []) r) x = p * q
  zasc : s.Z.Pairwise (fun a b => lastR a < lastR b)
  ldist : s.L.Pairwise (fun a b => lastR a ≠ lastR b)
  count : s.L.length + s.Z.length = P.length
  span1 : ∀ c ∈ P, Sp p s.L (cf c)
  span2 : ∀ c ∈ s.L, Sp p P (cf c)
theorem piv_none {p : Int} {mp : Int → Option Int} {L : List (List S45)} (h : Piv p mp L) : ∀ y, 1024 ≤ y → mp y = none := fun y hy => by
  cases hm : mp y with
  | none => rfl
  | some j =>
    obtain ⟨j0, j1, jl⟩ := h.at_ _ _ hm
    have hmem : rd_L2 L j ∈ L := by
      obtain ⟨m, rfl⟩ : ∃ m : Nat, j = (m : Int) := ⟨j.toNat, by omega⟩
      rw [rdL_nat (by omega)]
      exact List.getElem_mem _
    obtain ⟨hu, hl⟩ := h.up _ hmem
    have := last_cf hu hl
    omega
theorem piv_put {p : Int} {mp : Int → Option Int} {L : List (List S45)} (h : Piv p mp L) {c : List S45} (hc : Up p (-1) c) (hl : 0 < c.length) : Piv p (fun y => if y = lastR c then some (L.length : Int) else mp y) (L ++ [c]) := by
  refine ⟨fun d hd => ?_, fun y j hj => ?_, fun d hd => ?_⟩
  · rcases List.mem_append.1 hd with hd | hd
    · exact h.up d hd
    · rw [List.mem_singleton.1 hd]; exact ⟨hc, hl⟩
  · replace hj : (if y = lastR c then some (L.length : Int) else mp y) = some j := hj
    by_cases e : y = lastR c
    · rw [if_pos e] at hj
      cases hj
      refine ⟨by omega, by rw [List.length_append, List.length_singleton]; omega, ?_⟩
      rw [rdL_nat (by simp)]
      simp [e]
    · rw [if_neg e] at hj
      obtain ⟨j0, j1, jl⟩ := h.at_ _ _ hj
      refine ⟨j0, by simp; omega, ?_⟩
      obtain ⟨m, rfl⟩ : ∃ m : Nat, j = (m : Int) := ⟨j.toNat, by omega⟩
      rw [rdL_nat (by omega)] at jl
      rw [rdL_nat (by simp; omega), List.getElem_append_left (by omega)]
      exact jl
  · show (if lastR d = lastR c then some (L.length : Int) else mp (lastR d)).isSome = true
    rcases List.mem_append.1 hd with hd | hd
    · split
      · rfl
      · exact h.all d hd
    · rw [List.mem_singleton.1 hd, if_pos rfl]; rfl
theorem getD_app {L : List (List S45)} {c : List S45} {j : Nat} (h : j < L.length) : (L ++ [c]).getD j [] = L.getD j [] := by
  rw [List.getD_eq_getElem?_getD, List.getElem?_append_left h, ← List.getD_eq_getElem?_getD]
theorem getD_new (L : List (List S45)) (c : List S45) : (L ++ [c]).getD L.length [] = c := by simp [List.getD_eq_getElem?_getD]
theorem comb_app {P : List (List S45)} {c0 : List S45} {r : Int} {x : List S45} {p : Int} (hx : Up p (-1) x) (hlow : ∀ r, (P.length : Int) ≤ r → cf x r = 0) :
    dotG (fun t => cf ((P ++ [c0]).getD t.toNat []) r) x = dotG (fun t => cf (P.getD t.toNat []) r) x := dotG_congr x (fun t ht => by
  have h1 := cf_mem hx t ht
  have h2 := up_mem hx t ht
  have : t.f0 < (P.length : Int) := by
    by_cases h : t.f0 < (P.length : Int)
    · exact h
    · have := hlow t.f0 (by omega)
      omega
  rw [getD_app (by omega)])
theorem elim_step {p : Int} (hp : primeB p = true) {P : List (List S45)} {s : St} (h : EInv p P s) {c : List S45} (hc : Up p (-1) c) (hn : P.length < 1000) :
    ∃ c' x', (∀ k, 1064 ≤ k → clearL p s.mp s.L s.U k c [⟨(P.length : Int), 1⟩] (wrap64 ((c.length : Int) - 1)) = some (c', x')) ∧ Up p (-1) c' ∧
      (c'.length = 0 → EInv p (P ++ [c]) (s.zero x')) ∧ (0 < c'.length → rowOk (lastR c') ∧ EInv p (P ++ [c]) (s.put c' x')) := by
  obtain ⟨hp1, hp2⟩ := primeB_ge hp
  have hx0 : Up p (-1) [⟨(P.length : Int), 1⟩] := ⟨by simp only; omega, by simp only; omega, Int.le_refl 1, by simp only; omega, trivial⟩
  obtain ⟨c', x', e1, e2, e3, e4, e5⟩ := clear_all hp h.piv h.ulen h.uup c _ hc hx0 (piv_none h.piv)
  have hLu : ∀ d ∈ s.L, Up p (-1) d := fun d hd => (h.piv.up d hd).1
  have hsp := adds_sp hp hLu h.ulen h.uup e5 hc hx0
  have hcomb' : ∀ j, j < s.L.length → ∀ r, ∃ q, cf (s.L.getD j []) r = dotG (fun t => cf ((P ++ [c]).getD t.toNat []) r) (s.U.getD j []) + p * q := fun j hj r => by
    have hum := getD_mem (L := s.U) (j := j) (by rw [h.ulen]; exact hj)
    rw [comb_app (h.uup _ hum) (h.ulow _ hum)]
    exact h.comb j hj r
  have hnew := adds_comb hp hLu h.ulen h.uup hcomb' e5 hc hx0 (fun r => ⟨0, by
    rw [dotG, dotG]
    simp⟩)
  have htop := adds_top hp hLu h.ulen h.uup e5 (y := (P.length : Int)) h.ulow hc hx0
  have hx1 : cf x' (P.length : Int) = 1 := by rw [htop _ (Int.le_refl _), cf_here rfl]
  have hx2 : ∀ r, (P.length : Int) < r → cf x' r = 0 := fun r hr => by rw [htop r (by omega), cf_there (by simp only; omega), cf]
  obtain ⟨xl, xr⟩ := lastR_eq e3 (y := (P.length : Int)) (by omega) hx2
  have uapp : ∀ x ∈ s.U, ∀ r, ((P ++ [c]).length : Int) ≤ r → cf x r = 0 := fun x hx r hr => h.ulow x hx r (by simp at hr; omega)
  refine ⟨c', x', e1, e2, fun hz => ?_, fun hz => ?_⟩
  · have hc0 : c' = [] := List.eq_nil_of_length_eq_zero hz
    subst hc0
    refine ⟨h.piv, h.ulen, h.uup, uapp, hcomb', fun x hx => ?_, fun x hx r => ?_, ?_, h.ldist, ?_, fun d hd => ?_, fun d hd => ?_⟩
    · rcases List.mem_append.1 hx with hx | hx
      · obtain ⟨a, b, d, e⟩ := h.zup x hx
        exact ⟨a, b, by simp; omega, e⟩
      · rw [List.mem_singleton.1 hx]
        exact ⟨e3, xl, by simp; omega, by rw [xr]; exact hx1⟩
    · rcases List.mem_append.1 hx with hx | hx
      · obtain ⟨a, b, d, e⟩ := h.zup x hx
        rw [comb_app a (fun r hr => cf_above a (by omega))]
        exact h.zcomb x hx r
      · rw [List.mem_singleton.1 hx]
        obtain ⟨q, hq⟩ := hnew r
        rw [cf] at hq
        exact ⟨-q, by grind⟩
    · show (s.Z ++ [x']).Pairwise _
      rw [List.pairwise_append]
      refine ⟨h.zasc, List.pairwise_singleton _ _, fun a ha b hb => ?_⟩
      rw [List.mem_singleton.1 hb, xr]
      exact (h.zup a ha).2.2.1
    · show s.L.length + (s.Z ++ [x']).length = (P ++ [c]).length
      have := h.count
      simp only [List.length_append, List.length_singleton]
      omega
    · rcases List.mem_append.1 hd with hd | hd
      · exact h.span1 d hd
      · rw [List.mem_singleton.1 hd]
        exact hsp.congr (fun r => ⟨0, by rw [cf]; simp⟩)
    · exact (h.span2 d hd).mono (fun a ha => by simp [ha])
  · obtain ⟨b0, b1, b2, b3, _⟩ := last_cf e2 hz
    refine ⟨⟨by omega, by omega⟩, ?_⟩
    have hne : ∀ d ∈ s.L, lastR d ≠ lastR c' := fun d hd e => by
      have := e4 _ (h.piv.all d hd)
      rw [e] at this
      omega
    refine ⟨piv_put h.piv e2 hz, ?_, fun x hx => ?_, fun x hx r hr => ?_, fun j hj r => ?_, fun x hx => ?_, fun x hx r => ?_, h.zasc, ?_, ?_, fun d hd => ?_, fun d hd => ?_⟩
    · show (s.U ++ [x']).length = (s.L ++ [c']).length
      simp [h.ulen]
    · rcases List.mem_append.1 hx with hx | hx
      · exact h.uup x hx
      · rw [List.mem_singleton.1 hx]; exact e3
    · rcases List.mem_append.1 hx with hx | hx
      · exact uapp x hx r hr
      · rw [List.mem_singleton.1 hx]
        exact hx2 r (by simp at hr; omega)
    · show ∃ q, cf ((s.L ++ [c']).getD j []) r = dotG _ ((s.U ++ [x']).getD j []) + p * q
      have hj2 : j < s.L.length + 1 := by have : j < (s.L ++ [c']).length := hj; simpa using this
      by_cases e : j < s.L.length
      · rw [getD_app e, getD_app (by rw [h.ulen]; exact e)]
        exact hcomb' j e r
      · have : j = s.L.length := by omega
        subst this
        rw [getD_new, ← h.ulen, getD_new]
        exact hnew r
    · obtain ⟨a, b, d, e⟩ := h.zup x hx
      exact ⟨a, b, by simp; omega, e⟩
    · obtain ⟨a, b, d, e⟩ := h.zup x hx
      rw [comb_app a (fun r hr => cf_above a (by omega))]
      exact h.zcomb x hx r
    · show (s.L ++ [c']).Pairwise _
      rw [List.pairwise_append]
      refine ⟨h.ldist, List.pairwise_singleton _ _, fun a ha b hb => ?_⟩
      rw [List.mem_singleton.1 hb]
      exact hne a ha
    · show (s.L ++ [c']).length + s.Z.length = (P ++ [c]).length
      have := h.count
      simp only [List.length_append, List.length_singleton]
      omega
    · show Sp p (s.L ++ [c']) (cf d)
      rcases List.mem_append.1 hd with hd | hd
      · exact (h.span1 d hd).mono (fun a ha => by simp [ha])
      · rw [List.mem_singleton.1 hd]
        exact ((hsp.mono (L' := s.L ++ [c']) (fun a ha => by simp [ha])).plus (Sp.mem (c := c') (by simp))).congr (fun r => ⟨0, by simp⟩)
    · rcases List.mem_append.1 hd with hd | hd
      · exact (h.span2 d hd).mono (fun a ha => by simp [ha])
      · rw [List.mem_singleton.1 hd]
        have q1 : Sp p (P ++ [c]) (fun r => cf c r - cf c' r) := hsp.trans (fun a ha => (h.span2 a ha).mono (fun b hb => by simp [hb]))
        exact ((Sp.mem (c := c) (L := P ++ [c]) (by simp)).minus q1).congr (fun r => ⟨0, by grind⟩)
theorem elim_spec {p : Int} (hp : primeB p = true) : ∀ (l P : List (List S45)) (s : St), EInv p P s → (∀ c ∈ l, Up p (-1) c) → P.length + l.length ≤ 1000 →
    ∃ s', (∀ k, 1064 ≤ k → elimL p k l (P.length : Int) s = some s') ∧ EInv p (P ++ l) s'
  | [], P, s, h, _, _ => ⟨s, fun k _ => by rw [elimL], by simpa using h⟩
  | c :: l, P, s, h, hl, hn => by
    have hc := hl c (by simp)
    simp only [List.length_cons] at hn
    obtain ⟨c', x', e1, e2, e3, e4⟩ := elim_step hp h hc (by omega)
    have hcnt := h.count
    have hul := h.ulen
    have hlen := up_len hc
    have hsm : c.length < 8796093022208 ∧ s.small := ⟨by omega, by unfold St.small; omega⟩
    rcases Nat.eq_zero_or_pos c'.length with hz | hz
    · obtain ⟨s', f1, f2⟩ := elim_spec hp l (P ++ [c]) (s.zero x') (e3 hz) (fun d hd => hl d (by simp [hd])) (by simp; omega)
      refine ⟨s', fun k hk => ?_, by simpa using f2⟩
      rw [elimL, if_pos hsm, bind_of (e1 k hk), if_pos hz]
      have := f1 k hk
      rw [List.length_append, List.length_singleton] at this
      exact this
    · obtain ⟨g1, g2⟩ := e4 hz
      obtain ⟨s', f1, f2⟩ := elim_spec hp l (P ++ [c]) (s.put c' x') g2 (fun d hd => hl d (by simp [hd])) (by simp; omega)
      refine ⟨s', fun k hk => ?_, by simpa using f2⟩
      rw [elimL, if_pos hsm, bind_of (e1 k hk), if_neg (Nat.ne_of_gt hz), if_pos g1]
      have := f1 k hk
      rw [List.length_append, List.length_singleton] at this
      exact this
theorem einv0 (p : Int) : EInv p [] st0 :=
  ⟨⟨fun c hc => (by cases hc), fun y j hj => (by cases hj), fun c hc => (by cases hc)⟩, rfl, fun x hx => (by cases hx), fun x hx => (by cases hx), fun j hj => absurd hj (by simp [st0]), fun x hx => (by cases hx), fun x hx => (by cases hx), List.Pairwise.nil, List.Pairwise.nil, rfl, fun c hc => (by cases hc), fun c hc => (by cases hc)⟩
theorem elim_list {p : Int} (hp : primeB p = true) (l : List (List S45)) (hl : ∀ c ∈ l, Up p (-1) c) (hn : l.length ≤ 1000) : ∃ s, (∀ k, 1064 ≤ k → elimL p k l 0 st0 = some s) ∧ EInv p l s := by
  obtain ⟨s, h1, h2⟩ := elim_spec hp l [] st0 (einv0 p) hl (by simpa using hn)
  exact ⟨s, h1, by simpa using h2⟩
end Go.Proofs.Ytojnnfhalpefmaa.P
end

section
namespace Go.Proofs.Ytojnnfhalpefmaa.P
open Go.RowKit Go.Proofs.YtojnnfhalpefmaaW.PrintWords Go.Proofs.Ytojnnfhalpefmaa.M Go.Proofs.Ytojnnfhalpefmaa.H
abbrev nth (L : List (List S45)) (i : Nat) : List S45 := L.getD i []
theorem nth_lt {L : List (List S45)} {i : Nat} (h : i < L.length) : nth L i = L[i] := by simp [nth, List.getD_eq_getElem?_getD, h]
theorem nth_swap {L : List (List S45)} {j i : Nat} (hj : j + 1 < L.length) (hi : i < L.length) : nth (swapL L (j + 1)) i = if i = j then nth L (j + 1) else if i = j + 1 then nth L j else nth L i := by
  unfold nth swapL
  rw [H.getD_set _ _ _ _ _ (by rw [List.length_set]; exact hi), H.getD_set _ _ _ _ _ hi, Nat.add_sub_cancel]
  by_cases h1 : i = j
  · rw [if_pos h1.symm, if_pos h1]
  · rw [if_neg (fun e => h1 e.symm), if_neg h1]
    by_cases h2 : i = j + 1
    · rw [if_pos h2.symm, if_pos h2]
    · rw [if_neg (fun e => h2 e.symm), if_neg h2]
def LowOk (L : List (List S45)) : Prop := ∀ c ∈ L, 0 ≤ lastR c ∧ lastR c < 1024
theorem nth_mem {L : List (List S45)} {i : Nat} (h : i < L.length) : nth L i ∈ L := getD_mem h
theorem insIn_spec : ∀ (j : Nat) (L : List (List S45)), j < L.length → LowOk L → (∀ a b, a < b → b < j → lastR (nth L a) < lastR (nth L b)) → (∀ a b, a < b → b ≤ j → lastR (nth L a) ≠ lastR (nth L b)) →
    (∀ i, j < i → nth (insIn j L) i = nth L i) ∧ (∀ i, i ≤ j → ∃ i', i' ≤ j ∧ nth (insIn j L) i = nth L i') ∧ (∀ i, i ≤ j → ∃ i', i' ≤ j ∧ nth L i = nth (insIn j L) i') ∧ (∀ a b, a < b → b ≤ j → lastR (nth (insIn j L) a) < lastR (nth (insIn j L) b))
  | 0, L, hj, ho, hs, hd => ⟨fun i _ => rfl, fun i hi => ⟨i, hi, rfl⟩, fun i hi => ⟨i, hi, rfl⟩, fun a b h1 h2 => absurd h2 (by omega)⟩
  | j + 1, L, hj, ho, hs, hd => by
    have o1 := ho _ (nth_mem hj)
    have o2 := ho _ (nth_mem (show j < L.length by omega))
    have hw : wrap64 (lastR (L.getD (j + 1) []) - lastR (L.getD j [])) = lastR (nth L (j + 1)) - lastR (nth L j) := by
      have e1 : lastR (L.getD (j + 1) []) = lastR (nth L (j + 1)) := rfl
      have e2 : lastR (L.getD j []) = lastR (nth L j) := rfl
      rw [w64 (by omega) (by omega)]
    by_cases hc : lastR (nth L (j + 1)) < lastR (nth L j)
    · rw [insIn_lt (by rw [hw]; omega)]
      have hsl := swapL_len L (j + 1)
      have sw := fun i (hi : i < L.length) => nth_swap (L := L) (j := j) hj hi
      obtain ⟨r1, r2, r3, r4⟩ := insIn_spec j (swapL L (j + 1)) (by omega) (fun c hc => ho c (swapL_mem hj hc))
        (fun a b h1 h2 => by
          rw [sw a (by omega), sw b (by omega), if_neg (by omega), if_neg (by omega), if_neg (by omega), if_neg (by omega)]
          exact hs a b h1 (by omega))
        (fun a b h1 h2 => by
          rw [sw a (by omega), sw b (by omega), if_neg (by omega), if_neg (by omega)]
          by_cases e : b = j
          · rw [if_pos e]
            exact hd a (j + 1) (by omega) (Nat.le_refl _)
          · rw [if_neg e, if_neg (by omega)]
            exact hd a b h1 (by omega))
      refine ⟨fun i hi => ?_, fun i hi => ?_, fun i hi => ?_, fun a b h1 h2 => ?_⟩
      · rw [r1 i (by omega)]
        by_cases hil : i < L.length
        · rw [sw i hil, if_neg (by omega), if_neg (by omega)]
        · simp [nth, List.getD_eq_getElem?_getD, List.getElem?_eq_none (show (swapL L (j + 1)).length ≤ i by omega), List.getElem?_eq_none (show L.length ≤ i by omega)]
      · by_cases e : i = j + 1
        · subst e
          refine ⟨j, by omega, ?_⟩
          rw [r1 (j + 1) (by omega), sw (j + 1) hj, if_neg (by omega), if_pos rfl]
        · obtain ⟨i', h1, h2⟩ := r2 i (by omega)
          rw [h2, sw i' (by omega)]
          by_cases e2 : i' = j
          · rw [if_pos e2]; exact ⟨j + 1, Nat.le_refl _, rfl⟩
          · rw [if_neg e2, if_neg (by omega)]; exact ⟨i', by omega, rfl⟩
      · by_cases e : i = j + 1
        · subst e
          obtain ⟨i', h1, h2⟩ := r3 j (Nat.le_refl _)
          rw [sw j (by omega), if_pos rfl] at h2
          exact ⟨i', by omega, h2⟩
        · by_cases e2 : i = j
          · subst e2
            refine ⟨i + 1, Nat.le_refl _, ?_⟩
            rw [r1 (i + 1) (by omega), sw (i + 1) hj, if_neg (by omega), if_pos rfl]
          · obtain ⟨i', h1, h2⟩ := r3 i (by omega)
            rw [sw i (by omega), if_neg e2, if_neg e] at h2
            exact ⟨i', by omega, h2⟩
      · by_cases e : b = j + 1
        · subst e
          rw [r1 (j + 1) (by omega), sw (j + 1) hj, if_neg (by omega), if_pos rfl]
          obtain ⟨i', q1, q2⟩ := r2 a (by omega)
          rw [q2, sw i' (by omega)]
          by_cases e2 : i' = j
          · rw [if_pos e2]; exact hc
          · rw [if_neg e2, if_neg (by omega)]
            exact hs i' j (by omega) (by omega)
        · exact r4 a b h1 (by omega)
    · rw [insIn_ge (by rw [hw]; omega)]
      refine ⟨fun i _ => rfl, fun i hi => ⟨i, hi, rfl⟩, fun i hi => ⟨i, hi, rfl⟩, fun a b h1 h2 => ?_⟩
      have hne := hd j (j + 1) (by omega) (Nat.le_refl _)
      by_cases e : b = j + 1
      · subst e
        by_cases e2 : a = j
        · subst e2; omega
        · have := hs a j (by omega) (by omega)
          omega
      · exact hs a b h1 (by omega)
theorem insOut_spec : ∀ (k i : Nat) (L : List (List S45)), i + k = L.length → 1 ≤ i → LowOk L → (∀ a b, a < b → b < i → lastR (nth L a) < lastR (nth L b)) → (∀ a b, a < b → b < L.length → lastR (nth L a) ≠ lastR (nth L b)) →
    (∀ c, c ∈ insOut k i L ↔ c ∈ L) ∧ (∀ a b, a < b → b < L.length → lastR (nth (insOut k i L) a) < lastR (nth (insOut k i L) b))
  | 0, i, L, hi, h1, ho, hs, hd => ⟨fun c => Iff.rfl, fun a b h1 h2 => hs a b h1 (by omega)⟩
  | k + 1, i, L, hi, h1, ho, hs, hd => by
    have hil : i < L.length := by omega
    obtain ⟨r1, r2, r3, r4⟩ := insIn_spec i L hil ho hs (fun a b q1 q2 => hd a b q1 (by omega))
    have hlen := insIn_len i L
    have hmem : ∀ c, c ∈ insIn i L ↔ c ∈ L := fun c => by
      constructor
      · exact insIn_mem hil
      · intro hc
        obtain ⟨m, hm, rfl⟩ := List.mem_iff_getElem.1 hc
        rw [← nth_lt hm]
        by_cases e : m ≤ i
        · obtain ⟨m', q1, q2⟩ := r3 m e
          rw [q2]
          exact nth_mem (by omega)
        · rw [← r1 m (by omega)]
          exact nth_mem (by omega)
    -- the low rows stay distinct
    have hdist : ∀ a b, a < b → b < (insIn i L).length → lastR (nth (insIn i L) a) ≠ lastR (nth (insIn i L) b) := fun a b q1 q2 => by
      by_cases e : b ≤ i
      · have := r4 a b q1 e
        omega
      · rw [r1 b (by omega)]
        by_cases e2 : a ≤ i
        · obtain ⟨a', q3, q4⟩ := r2 a e2
          rw [q4]
          exact hd a' b (by omega) (by omega)
        · rw [r1 a (by omega)]
          exact hd a b q1 (by omega)
    obtain ⟨s1, s2⟩ := insOut_spec k (i + 1) (insIn i L) (by omega) (by omega) (fun c hc => ho c ((hmem c).1 hc)) (fun a b q1 q2 => r4 a b q1 (by omega)) hdist
    rw [insOut]
    exact ⟨fun c => (s1 c).trans (hmem c), fun a b q1 q2 => s2 a b q1 (by omega)⟩
theorem sort_spec {L : List (List S45)} (ho : LowOk L) (hd : L.Pairwise (fun a b => lastR a ≠ lastR b)) : (∀ c, c ∈ sortL L ↔ c ∈ L) ∧ (sortL L).Pairwise (fun a b => lastR a < lastR b) := by
  have hlen := sortL_len L
  rcases Nat.eq_zero_or_pos L.length with h0 | h0
  · have : L = [] := List.eq_nil_of_length_eq_zero h0
    subst this
    exact ⟨fun c => Iff.rfl, List.Pairwise.nil⟩
  · obtain ⟨r1, r2⟩ := insOut_spec (L.length - 1) 1 L (by omega) (Nat.le_refl _) ho (fun a b h1 h2 => absurd h2 (by omega)) (fun a b h1 h2 => by
      rw [nth_lt (by omega), nth_lt h2]
      exact List.pairwise_iff_getElem.1 hd a b (by omega) h2 h1)
    refine ⟨r1, List.pairwise_iff_getElem.2 (fun a b ha hb hab => ?_)⟩
    have := r2 a b hab (by omega)
    have e : insOut (L.length - 1) 1 L = sortL L := rfl
    rw [e, nth_lt ha, nth_lt hb] at this
    exact this
structure Red (p : Int) (K : List (List S45)) : Prop where
  up : ∀ c ∈ K, Up p (-1) c ∧ 0 < c.length ∧ cf c (lastR c) = 1
  asc : K.Pairwise (fun a b => lastR a < lastR b)
  cross : ∀ c ∈ K, ∀ d ∈ K, lastR c ≠ lastR d → cf c (lastR d) = 0
theorem asc_ne {K : List (List S45)} (h : K.Pairwise (fun a b => lastR a < lastR b)) : K.Pairwise (fun a b => lastR a ≠ lastR b) := h.imp (fun h e => by omega)
structure TInv (p : Int) (P : List (List S45)) (s : St) : Prop where
  piv : Piv p s.mp s.L
  ulen : s.U.length = s.L.length
  uup : ∀ x ∈ s.U, Up p (-1) x
  red : Red p s.L
  lows : s.L.map lastR = P.map lastR
  zed : s.Z = []
  span1 : ∀ c ∈ P, Sp p s.L (cf c)
  span2 : ∀ c ∈ s.L, Sp p P (cf c)
theorem tidy_step {p : Int} (hp : primeB p = true) {P : List (List S45)} {s : St} (h : TInv p P s) {c : List S45} (hc : Up p (-1) c) (hl : 0 < c.length) (hP : ∀ d ∈ P, lastR d < lastR c) :
    ∃ c' x' t d, (∀ k, 1064 ≤ k → clearL p s.mp s.L s.U k c [] (wrap64 ((c.length : Int) - 1)) = some (c', x')) ∧ 0 < c'.length ∧ (∀ k, 30 ≤ k → modp_Inv.f k p (rd_T45 c' ((c'.length : Int) - 1)).f1 = some (t, 0)) ∧
      column_plus.f p [] t c' = some d ∧ 0 < d.length ∧ rowOk (lastR d) ∧ TInv p (P ++ [c]) (s.put d []) := by
  obtain ⟨hp1, hp2⟩ := primeB_ge hp
  obtain ⟨c', x', e1, e2, e3, e4, e5⟩ := clear_all hp h.piv h.ulen h.uup c [] hc (up_nil p) (piv_none h.piv)
  have hLu : ∀ d ∈ s.L, Up p (-1) d := fun d hd => (h.piv.up d hd).1
  have hsp := adds_sp hp hLu h.ulen h.uup e5 hc (up_nil p)
  have hlow : ∀ d ∈ s.L, lastR d < lastR c := fun d hd => by
    have : lastR d ∈ P.map lastR := by rw [← h.lows]; exact List.mem_map_of_mem hd
    obtain ⟨a, ha, e⟩ := List.mem_map.1 this
    rw [← e]
    exact hP a ha
  have htop := adds_topL hp hLu h.ulen h.uup e5 (y := lastR c) (fun u hu r hr => cf_above (hLu u hu) (by have := hlow u hu; omega)) hc (up_nil p)
  obtain ⟨b0, b1, b2, b3, _⟩ := last_cf hc hl
  obtain ⟨cl, cr⟩ := lastR_eq e2 (y := lastR c) (by rw [htop _ (Int.le_refl _)]; omega) (fun r hr => by rw [htop r (by omega)]; exact cf_above hc hr)
  obtain ⟨d0, d1, d2, d3, d4⟩ := last_cf e2 cl
  obtain ⟨t, t0, t1, t2, t3⟩ := inv_spec hp d2 d3
  have hd := colAdd_up hp1 hp2 t0 t1 (up_nil p) e2
  have hdc := fun r => colAdd_cf hp1 hp2 t0 t1 (up_nil p) e2 r
  have hcl := up_len e2
  have hd1 : cf (colAdd p t [] c') (lastR c) = 1 := by
    rw [hdc, cf, ← cr, Int.zero_add]
    exact t2
  obtain ⟨dl, dr⟩ := lastR_eq hd (y := lastR c) (by omega) (fun r hr => by
    rw [hdc, cf, cf_above e2 (by omega)]; simp)
  have hd0 : ∀ y, (s.mp y).isSome = true → cf (colAdd p t [] c') y = 0 := fun y hy => by rw [hdc, e4 y hy, cf]; simp
  refine ⟨c', x', t, colAdd p t [] c', e1, cl, fun k hk => by rw [d4]; exact t3 k hk, plus_col (by omega) (by simp; omega), dl, ⟨by omega, by omega⟩, ?_⟩
  have hspd : Sp p (s.L ++ [colAdd p t [] c']) (cf c') := by
    -- c' = lowcoef * d
    refine ((Sp.mem (p := p) (c := colAdd p t [] c') (L := s.L ++ [colAdd p t [] c']) (by simp)).smul (cf c' (lastR c'))).congr (fun r => ?_)
    rw [hdc, cf]
    obtain ⟨q1, h1⟩ := ed (0 + t * cf c' r) p
    obtain ⟨q2, h2⟩ := ed (t * cf c' (lastR c')) p
    rw [t2] at h2
    exact ⟨cf c' (lastR c') * q1 - q2 * cf c' r, by rw [h1]; grind⟩
  refine ⟨piv_put h.piv hd dl, ?_, fun x hx => ?_, ⟨fun a ha => ?_, ?_, fun a ha b hb hne => ?_⟩, ?_, ?_, fun a ha => ?_, fun a ha => ?_⟩
  · show (s.U ++ [[]]).length = (s.L ++ [_]).length
    simp [h.ulen]
  · rcases List.mem_append.1 hx with hx | hx
    · exact h.uup x hx
    · rw [List.mem_singleton.1 hx]; exact up_nil p
  · rcases List.mem_append.1 ha with ha | ha
    · exact h.red.up a ha
    · rw [List.mem_singleton.1 ha]
      exact ⟨hd, dl, by rw [dr]; exact hd1⟩
  · show (s.L ++ [_]).Pairwise _
    rw [List.pairwise_append]
    refine ⟨h.red.asc, List.pairwise_singleton _ _, fun a ha b hb => ?_⟩
    rw [List.mem_singleton.1 hb, dr]
    exact hlow a ha
  · rcases List.mem_append.1 ha with ha | ha
    · rcases List.mem_append.1 hb with hb | hb
      · exact h.red.cross a ha b hb hne
      · rw [List.mem_singleton.1 hb, dr]
        exact cf_above (hLu a ha) (hlow a ha)
    · rw [List.mem_singleton.1 ha] at hne ⊢
      rcases List.mem_append.1 hb with hb | hb
      · exact hd0 _ (h.piv.all b hb)
      · rw [List.mem_singleton.1 hb] at hne
        exact absurd rfl hne
  · show (s.L ++ [_]).map lastR = (P ++ [c]).map lastR
    rw [List.map_append, List.map_append, h.lows, List.map_singleton, List.map_singleton, dr]
  · exact h.zed
  · show Sp p (s.L ++ [_]) (cf a)
    rcases List.mem_append.1 ha with ha | ha
    · exact (h.span1 a ha).mono (fun b hb => by simp [hb])
    · rw [List.mem_singleton.1 ha]
      exact ((hsp.mono (L' := s.L ++ [colAdd p t [] c']) (fun b hb => by simp [hb])).plus hspd).congr (fun r => ⟨0, by simp⟩)
  · rcases List.mem_append.1 ha with ha | ha
    · exact (h.span2 a ha).mono (fun b hb => by simp [hb])
    · rw [List.mem_singleton.1 ha]
      have q1 : Sp p (P ++ [c]) (fun r => cf c r - cf c' r) := hsp.trans (fun a ha => (h.span2 a ha).mono (fun b hb => by simp [hb]))
      have q2 : Sp p (P ++ [c]) (cf c') := ((Sp.mem (c := c) (L := P ++ [c]) (by simp)).minus q1).congr (fun r => ⟨0, by grind⟩)
      refine (q2.smul t).congr (fun r => ?_)
      rw [hdc, cf]
      obtain ⟨q, hq⟩ := ed (0 + t * cf c' r) p
      exact ⟨-q, by rw [hq]; grind⟩
theorem tidyL_spec {p : Int} (hp : primeB p = true) : ∀ (l P : List (List S45)) (s : St), TInv p P s → (∀ c ∈ l, Up p (-1) c ∧ 0 < c.length) → (∀ a ∈ P, ∀ b ∈ l, lastR a < lastR b) → l.Pairwise (fun a b => lastR a < lastR b) → P.length + l.length ≤ 1000 →
    ∃ s', (∀ k, 1064 ≤ k → tidyL p k l s = some s'.L) ∧ TInv p (P ++ l) s'
  | [], P, s, h, _, _, _, _ => ⟨s, fun k _ => by rw [tidyL], by simpa using h⟩
  | c :: l, P, s, h, hl, hPl, hasc, hn => by
    obtain ⟨hc, hcl⟩ := hl c (by simp)
    obtain ⟨ha1, ha2⟩ := List.pairwise_cons.1 hasc
    simp only [List.length_cons] at hn
    obtain ⟨c', x', t, d, e1, e2, e3, e4, e5, e6, e7⟩ := tidy_step hp h hc hcl (fun a ha => hPl a ha c (by simp))
    have hlen := up_len hc
    have h1 : s.L.length = P.length := by
      have := congrArg List.length h.lows
      simpa using this
    have hul := h.ulen
    have hz : s.Z.length = 0 := by rw [h.zed]; rfl
    obtain ⟨s', f1, f2⟩ := tidyL_spec hp l (P ++ [c]) (s.put d []) e7 (fun b hb => hl b (by simp [hb])) (fun a ha b hb => by
      rcases List.mem_append.1 ha with ha | ha
      · exact hPl a ha b (by simp [hb])
      · rw [List.mem_singleton.1 ha]; exact ha1 b hb) ha2 (by simp; omega)
    refine ⟨s', fun k hk => ?_, by simpa using f2⟩
    rw [tidyL, if_pos ⟨by omega, by unfold St.small; omega⟩, bind_of (e1 k hk), if_pos e2, bind_of (e3 k (by omega)), bind_of e4, if_pos ⟨e5, e6⟩]
    exact f1 k hk
theorem tinv0 (p : Int) : TInv p [] st0 :=
  ⟨⟨fun c hc => (by cases hc), fun y j hj => (by cases hj), fun c hc => (by cases hc)⟩, rfl, fun x hx => (by cases hx), ⟨fun c hc => (by cases hc), List.Pairwise.nil, fun c hc => (by cases hc)⟩, rfl, rfl, fun c hc => (by cases hc), fun c hc => (by cases hc)⟩
theorem tidy_spec {p : Int} (hp : primeB p = true) (l : List (List S45)) (hl : ∀ c ∈ l, Up p (-1) c ∧ 0 < c.length) (hd : l.Pairwise (fun a b => lastR a ≠ lastR b)) (hn : l.length ≤ 12) :
    ∃ K, (∀ k, 1064 ≤ k → tidyF p k l = some K) ∧ Red p K ∧ K.length = l.length ∧ (∀ c ∈ K, ∃ d ∈ l, lastR d = lastR c) ∧ (∀ c ∈ l, Sp p K (cf c)) ∧ (∀ c ∈ K, Sp p l (cf c)) := by
  obtain ⟨s1, s2⟩ := sort_spec (L := l) (fun c hc => by
    obtain ⟨a, b⟩ := hl c hc
    have := last_cf a b
    exact ⟨this.1, this.2.1⟩) hd
  have hsl := sortL_len l
  obtain ⟨s', f1, f2⟩ := tidyL_spec hp (sortL l) [] st0 (tinv0 p) (fun c hc => hl c ((s1 c).1 hc)) (fun a ha => by cases ha) s2 (by simp; omega)
  rw [List.nil_append] at f2
  refine ⟨s'.L, fun k hk => ?_, f2.red, ?_, fun c hc => ?_, fun c hc => f2.span1 c ((s1 c).2 hc), fun c hc => (f2.span2 c hc).mono (fun d hd => (s1 d).1 hd)⟩
  · unfold tidyF
    rw [if_pos ⟨hn, fun c hc => (hl c hc).2⟩]
    exact f1 k hk
  · have := congrArg List.length f2.lows
    simp only [List.length_map] at this
    omega
  · have : lastR c ∈ (sortL l).map lastR := by rw [← f2.lows]; exact List.mem_map_of_mem hc
    obtain ⟨d, hd, e⟩ := List.mem_map.1 this
    exact ⟨d, (s1 d).1 hd, e⟩
def sumK (v : Int → Int) (r : Int) : List (List S45) → Int
  | [] => 0
  | c :: K => v (lastR c) * cf c r + sumK v r K
theorem sumK_lin {p k : Int} {v u w : Int → Int} (r : Int) (h : ∀ y, ∃ q, v y = u y + k * w y + p * q) : ∀ (K : List (List S45)), ∃ q, sumK v r K = sumK u r K + k * sumK w r K + p * q
  | [] => ⟨0, by simp [sumK]⟩
  | c :: K => by
    obtain ⟨q1, h1⟩ := sumK_lin r h K
    obtain ⟨q2, h2⟩ := h (lastR c)
    exact ⟨q1 + q2 * cf c r, by rw [sumK, sumK, sumK, h1, h2]; grind⟩
theorem sumK_zero {p : Int} {v : Int → Int} (r : Int) : ∀ (K : List (List S45)), (∀ c ∈ K, ∃ q, v (lastR c) = p * q) → ∃ q, sumK v r K = p * q
  | [], _ => ⟨0, by simp [sumK]⟩
  | c :: K, h => by
    obtain ⟨q1, h1⟩ := sumK_zero r K (fun d hd => h d (by simp [hd]))
    obtain ⟨q2, h2⟩ := h c (by simp)
    exact ⟨q1 + q2 * cf c r, by rw [sumK, h1, h2]; grind⟩
theorem low_inj {K : List (List S45)} (h : K.Pairwise (fun a b => lastR a < lastR b)) {c d : List S45} (hc : c ∈ K) (hd : d ∈ K) (e : lastR c = lastR d) : c = d := by
  obtain ⟨i, hi, rfl⟩ := List.mem_iff_getElem.1 hc
  obtain ⟨j, hj, rfl⟩ := List.mem_iff_getElem.1 hd
  have h' := List.pairwise_iff_getElem.1 h
  rcases Nat.lt_trichotomy i j with q | q | q
  · have := h' i j hi hj q; omega
  · subst q; rfl
  · have := h' j i hj hi q; omega
theorem sumK_self {p : Int} {K : List (List S45)} (h : Red p K) {c : List S45} (hc : c ∈ K) (r : Int) : ∀ (M : List (List S45)), (∀ d ∈ M, d ∈ K) → M.Pairwise (fun a b => lastR a < lastR b) → (c ∈ M → sumK (cf c) r M = cf c r) ∧ (¬ c ∈ M → sumK (cf c) r M = 0)
  | [], _, _ => ⟨fun q => (by cases q), fun _ => rfl⟩
  | d :: M, hM, hp => by
    obtain ⟨h1, h2⟩ := List.pairwise_cons.1 hp
    obtain ⟨I1, I2⟩ := sumK_self h hc r M (fun a ha => hM a (by simp [ha])) h2
    rw [sumK]
    by_cases e : lastR c = lastR d
    · have : c = d := low_inj h.asc hc (hM d (by simp)) e
      subst this
      have hn : ¬ c ∈ M := fun q => by have := h1 c q; omega
      rw [I2 hn, (h.up c hc).2.2]
      exact ⟨fun _ => by omega, fun q => absurd (by simp) q⟩
    · rw [h.cross c hc d (hM d (by simp)) e]
      have hne : c ≠ d := fun q => e (by rw [q])
      refine ⟨fun q => ?_, fun q => ?_⟩
      · rcases List.mem_cons.1 q with q | q
        · exact absurd q hne
        · rw [I1 q]; omega
      · rw [I2 (fun q2 => q (by simp [q2]))]; omega
theorem span_told {p : Int} {K : List (List S45)} (h : Red p K) {v : Int → Int} (hv : Sp p K v) : ∀ r, ∃ q, v r = sumK v r K + p * q := by
  induction hv with
  | zero h0 =>
    intro r
    obtain ⟨q1, e1⟩ := sumK_zero (p := p) r K (fun c _ => h0 (lastR c))
    obtain ⟨q2, e2⟩ := h0 r
    exact ⟨q2 - q1, by grind⟩
  | add c k hc _ hv ih =>
    intro r
    obtain ⟨q1, e1⟩ := sumK_lin (p := p) r hv K
    obtain ⟨q2, e2⟩ := ih r
    obtain ⟨q3, e3⟩ := hv r
    rw [(sumK_self h hc r K (fun d hd => hd) h.asc).1 hc] at e1
    exact ⟨q2 + q3 - q1, by grind⟩
theorem span_zero {p : Int} {K : List (List S45)} (h : Red p K) {v : Int → Int} (hv : Sp p K v) (h0 : ∀ c ∈ K, ∃ q, v (lastR c) = p * q) : ∀ r, ∃ q, v r = p * q := fun r => by
  obtain ⟨q1, e1⟩ := span_told h hv r
  obtain ⟨q2, e2⟩ := sumK_zero r K h0
  exact ⟨q1 + q2, by grind⟩
theorem sumK_none {v : Int → Int} {r : Int} : ∀ (K : List (List S45)), (∀ c ∈ K, v (lastR c) * cf c r = 0) → sumK v r K = 0
  | [], _ => rfl
  | c :: K, h => by rw [sumK, h c (by simp), sumK_none K (fun d hd => h d (by simp [hd]))]; rfl
theorem low_in {p : Int} (hp : primeB p = true) {K' : List (List S45)} (h' : Red p K') {c : List S45} (hc : Up p (-1) c ∧ 0 < c.length ∧ cf c (lastR c) = 1) (hs : Sp p K' (cf c)) : ∃ d ∈ K', lastR d = lastR c := by
  obtain ⟨hp1, hp2⟩ := primeB_ge hp
  by_cases hex : ∃ d ∈ K', lastR d = lastR c
  · exact hex
  · obtain ⟨q, hq⟩ := span_told h' hs (lastR c)
    rw [sumK_none K' (fun d hd => by
      by_cases e : lastR d < lastR c
      · rw [cf_above (h'.up d hd).1 e]; simp
      · rw [cf_above hc.1 (by have : lastR d ≠ lastR c := fun q => hex ⟨d, hd, q⟩; omega)]; simp), hc.2.2] at hq
    have h1 : (1 : Int) % p = 0 := by rw [hq, Int.zero_add, Int.mul_emod_right]
    rw [Int.emod_eq_of_lt (by omega) (by omega)] at h1
    omega
theorem sorted_ext : ∀ {K K' : List (List S45)}, K.Pairwise (fun a b => lastR a < lastR b) → K'.Pairwise (fun a b => lastR a < lastR b) → (∀ c, c ∈ K ↔ c ∈ K') → K = K'
  | [], [], _, _, _ => rfl
  | [], b :: K', _, _, h => by have := (h b).2 (by simp); cases this
  | a :: K, [], _, _, h => by have := (h a).1 (by simp); cases this
  | a :: K, b :: K', h1, h2, h => by
    obtain ⟨a1, a2⟩ := List.pairwise_cons.1 h1
    obtain ⟨b1, b2⟩ := List.pairwise_cons.1 h2
    have hab : a = b := by
      rcases List.mem_cons.1 ((h a).1 (by simp)) with e | e
      · exact e
      · rcases List.mem_cons.1 ((h b).2 (by simp)) with e2 | e2
        · exact e2.symm
        · have := a1 b e2
          have := b1 a e
          omega
    subst hab
    rw [sorted_ext a2 b2 (fun c => ?_)]
    constructor
    · intro hc
      rcases List.mem_cons.1 ((h c).1 (by simp [hc])) with e | e
      · subst e; have := a1 _ hc; omega
      · exact e
    · intro hc
      rcases List.mem_cons.1 ((h c).2 (by simp [hc])) with e | e
      · subst e; have := b1 _ hc; omega
      · exact e
theorem red_sub {p : Int} (hp : primeB p = true) {K K' : List (List S45)} (h : Red p K) (h' : Red p K') (s : ∀ c ∈ K, Sp p K' (cf c)) (s' : ∀ c ∈ K', Sp p K (cf c)) {c : List S45} (hc : c ∈ K) : c ∈ K' := by
  obtain ⟨hp1, hp2⟩ := primeB_ge hp
  obtain ⟨d, hd, e⟩ := low_in hp h' (h.up c hc) (s c hc)
  have hz := span_zero h ((Sp.mem (p := p) hc).minus (s' d hd)) (fun a ha => by
    by_cases e1 : lastR a = lastR c
    · rw [e1, (h.up c hc).2.2, ← e, (h'.up d hd).2.2]
      exact ⟨0, by simp⟩
    · obtain ⟨a', ha', e2⟩ := low_in hp h' (h.up a ha) (s a ha)
      rw [h.cross c hc a ha (fun q => e1 q.symm), ← e2, h'.cross d hd a' ha' (by rw [e, e2]; exact fun q => e1 q.symm)]
      exact ⟨0, by simp⟩)
  have : c = d := up_ext (h.up c hc).1 (h'.up d hd).1 (fun r => by
    obtain ⟨q, hq⟩ := hz r
    have r1 := cf_range (show 0 < p by omega) r (h.up c hc).1
    have r2 := cf_range (show 0 < p by omega) r (h'.up d hd).1
    have h1 : cf c r % p = cf d r % p := em q hq
    rw [Int.emod_eq_of_lt r1.1 r1.2, Int.emod_eq_of_lt r2.1 r2.2] at h1
    exact h1)
  rw [this]
  exact hd
theorem red_unique {p : Int} (hp : primeB p = true) {K K' : List (List S45)} (h : Red p K) (h' : Red p K') (s : ∀ c ∈ K, Sp p K' (cf c)) (s' : ∀ c ∈ K', Sp p K (cf c)) : K = K' :=
  sorted_ext h.asc h'.asc (fun c => ⟨red_sub hp h h' s s', red_sub hp h' h s' s⟩)
end Go.Proofs.Ytojnnfhalpefmaa.P
end

section
namespace Go.Proofs.Ytojnnfhalpefmaa.P
open Go.RowKit Go.Proofs.YtojnnfhalpefmaaW.PrintWords Go.Proofs.Ytojnnfhalpefmaa.M Go.Proofs.Ytojnnfhalpefmaa.H
theorem wnat {i : Nat} (h : i < 4611686018427387904) : wrap64 ((i : Int) + 1) = ((i + 1 : Nat) : Int) := by rw [w64 (by omega) (by omega)]; omega
theorem longest_le {n : Nat} : ∀ {L : List (List S45)}, (∀ c ∈ L, c.length ≤ n) → longest L ≤ n
  | [], _ => Nat.zero_le _
  | c :: L, h => by
    have := longest_le (L := L) (fun d hd => h d (by simp [hd]))
    have := h c (by simp)
    rw [longest]
    omega
theorem checkAllB_ok {p : Int} (hp : primeB p = true) : ∀ {L : List (List S45)}, (∀ c ∈ L, Up p (-1) c) → checkAllB p L = 0
  | [], _ => rfl
  | c :: L, h => by
    rw [checkAllB, if_pos (checkB_of hp (h c (by simp)))]
    exact checkAllB_ok hp (fun d hd => h d (by simp [hd]))
theorem checkAll_ok {p : Int} (hp : primeB p = true) {L : List (List S45)} (h : ∀ c ∈ L, Up p (-1) c) (hL : L.length ≤ 1024) (k : Nat) (hk : 3400 ≤ k) : column_checkAll.f k p L = some 0 := by
  have hll : longest L ≤ 1024 := longest_le (fun c hc => up_len (h c hc))
  rw [checkAll_col p L (by omega) (fun c hc => by have := up_len (h c hc); omega) k (by omega), checkAllB_ok hp h]
theorem begin_ok {p : Int} (hp : primeB p = true) {L : List (List S45)} (h : ∀ c ∈ L, Up p (-1) c) (hL : L.length ≤ 1024) (k : Nat) (hk : 3400 ≤ k) : column_begin.f k p L = some 0 := by
  unfold column_begin.f
  rw [if_neg (by omega), bind_of (prime_modp p k (by omega)), if_pos hp, bind_of (checkAll_ok hp h hL k hk)]
theorem cf_zero {p : Int} (hp : primeB p = true) {c : List S45} (hc : Up p (-1) c) {r : Int} (h : ∃ q, cf c r = p * q) : cf c r = 0 := by
  obtain ⟨hp1, hp2⟩ := primeB_ge hp
  obtain ⟨q, hq⟩ := h
  have h1 := cf_range (show 0 < p by omega) r hc
  have : cf c r % p = 0 := by rw [hq, Int.mul_emod_right]
  rw [Int.emod_eq_of_lt h1.1 h1.2] at this
  exact this
theorem combine_l0 {p : Int} (hp : primeB p = true) {l : List (List S45)} (h : ∀ c ∈ l, Up p (-1) c) (x : List S45) (hx : Up p (-1) x) (hlow : ∀ t ∈ x, t.f0 < (l.length : Int)) : ∀ (m i : Nat) (acc : List S45), i + m = x.length → Up p (-1) acc →
    ∃ c, (∀ k, m + 1 ≤ k → column_Combine.l0 k p l acc x (x.length : Int) i = some (c, 0)) ∧ Up p (-1) c ∧ ∀ r, ∃ q, cf c r = cf acc r + dotG (fun t => cf (l.getD t.toNat []) r) (x.drop i) + p * q
  | 0, i, acc, hi, ha => by
    refine ⟨acc, fun k hk => ?_, ha, fun r => ⟨0, by rw [List.drop_of_length_le (by omega), dotG]; simp⟩⟩
    obtain ⟨k, rfl, _⟩ := ex_succ (show 0 + 1 ≤ k by omega)
    rw [column_Combine.l0, if_neg (by omega)]
  | m + 1, i, acc, hi, ha => by
    obtain ⟨hp1, hp2⟩ := primeB_ge hp
    have hlt : i < x.length := by omega
    have hxl := up_len hx
    have htm := List.getElem_mem hlt
    have htu := up_mem hx _ htm
    have hti := hlow _ htm
    obtain ⟨j, hj⟩ : ∃ j : Nat, x[i].f0 = (j : Int) := ⟨x[i].f0.toNat, by omega⟩
    have hjl : j < l.length := by omega
    have hcm : l[j] ∈ l := List.getElem_mem hjl
    have hcu := h _ hcm
    have h1 := up_len ha
    have h2 := up_len hcu
    have hup := colAdd_up hp1 hp2 (show 0 ≤ x[i].f1 by omega) htu.2.2.2 ha hcu
    obtain ⟨c, e1, e2, e3⟩ := combine_l0 hp h x hx hlow m (i + 1) (colAdd p x[i].f1 acc l[j]) (by omega) hup
    have hi2 : i < 4611686018427387904 := by omega
    refine ⟨c, fun k hk => ?_, e2, fun r => ?_⟩
    · obtain ⟨k, rfl, _⟩ := ex_succ (show 0 + 1 ≤ k by omega)
      have hpl : column_plus.f p acc x[i].f1 l[j] = some (colAdd p x[i].f1 acc l[j]) := plus_col (by omega) (by omega)
      have hk1 := e1 k (by omega)
      have c1 : (i : Int) < (x.length : Int) := by omega
      have c2 : (0 : Int) ≤ (i : Int) := by omega
      have c3 : (0 : Int) ≤ (j : Int) := by omega
      have c4 : (j : Int) < (l.length : Int) := by omega
      rw [column_Combine.l0, if_pos c1, if_pos c2, if_pos c1, rdT_nat hlt, hj, if_pos c3, if_pos c4, rdL_nat hjl, hpl, wnat hi2]
      exact hk1
    · obtain ⟨q, hq⟩ := e3 r
      rw [colAdd_cf hp1 hp2 (by omega) htu.2.2.2 ha hcu] at hq
      obtain ⟨q2, hq2⟩ := ed (cf acc r + x[i].f1 * cf l[j] r) p
      have hd : cf (l.getD x[i].f0.toNat []) r = cf l[j] r := by
        rw [hj, Int.toNat_natCast, List.getD_eq_getElem?_getD, List.getElem?_eq_getElem hjl]
        rfl
      rw [List.drop_eq_getElem_cons hlt, dotG, hd]
      exact ⟨q - q2, by rw [hq, hq2]; grind⟩
theorem combine_spec {p : Int} (hp : primeB p = true) {l : List (List S45)} (h : ∀ c ∈ l, Up p (-1) c) (hl : l.length ≤ 1024) {x : List S45} (hx : Up p (-1) x) (hlow : ∀ t ∈ x, t.f0 < (l.length : Int)) :
    ∃ c, (∀ k, 3400 ≤ k → column_Combine.f k p l x = some (c, 0)) ∧ Up p (-1) c ∧ ∀ r, ∃ q, cf c r = dotG (fun t => cf (l.getD t.toNat []) r) x + p * q := by
  obtain ⟨c, e1, e2, e3⟩ := combine_l0 hp h x hx hlow x.length 0 [] (by omega) (up_nil p)
  have hxl := up_len hx
  refine ⟨c, fun k hk => ?_, e2, fun r => by obtain ⟨q, hq⟩ := e3 r; exact ⟨q, by rw [hq, cf, List.drop_zero]; omega⟩⟩
  obtain ⟨k, rfl, _⟩ := ex_succ (show 0 + 1 ≤ k by omega)
  unfold column_Combine.f
  have h0 : column_Combine.l0 k p l [] x (x.length : Int) 0 = some (c, 0) := e1 k (by omega)
  rw [if_neg (by omega), bind_of (checkAll_ok hp h hl (k + 1) (by omega)), if_pos rfl, bind_of (check_col p x (by omega) (k + 1) (by omega)), if_pos (checkB_of hp hx), bind_of (low_col x (by omega))]
  by_cases hz : x.length = 0
  · rw [if_pos hz, if_neg (by decide), column_Combine.j0, if_neg (by decide)]
    exact h0
  · have hm : rd_T45 x ((x.length : Int) - 1) ∈ x := by
      rw [show (x.length : Int) - 1 = ((x.length - 1 : Nat) : Int) by omega, rdT_nat (by omega)]
      exact List.getElem_mem _
    have := hlow _ hm
    rw [if_neg hz, if_pos rfl, decide_eq_false (by omega), column_Combine.j0, if_neg (by decide)]
    exact h0
theorem sameList_self (L : List (List S45)) (hL : L.length < 1000000) (hl : ∀ c ∈ L, c.length ≤ 1024) : ∀ (m i : Nat) (k : Nat), i + m = L.length → m + 1100 ≤ k → torusref04_SameList.l0 k L L i = some true
  | 0, i, k, hi, hk => by
    obtain ⟨k, rfl, _⟩ := ex_succ (show 0 + 1 ≤ k by omega)
    rw [torusref04_SameList.l0, if_neg (by omega)]
  | m + 1, i, k, hi, hk => by
    obtain ⟨k, rfl, _⟩ := ex_succ (show 0 + 1 ≤ k by omega)
    have hlt : i < L.length := by omega
    have := hl _ (List.getElem_mem hlt)
    rw [torusref04_SameList.l0, if_pos (by omega), if_pos (by omega), if_pos (by omega), rdL_nat hlt, bind_of (same_refl L[i] (by omega) k (by omega)), if_pos rfl, w64 (by omega) (by omega)]
    exact sameList_self L hL hl m (i + 1) k (by omega) (by omega)
theorem sameList_refl (L : List (List S45)) (hL : L.length < 1000000) (hl : ∀ c ∈ L, c.length ≤ 1024) (k : Nat) (hk : L.length + 1100 ≤ k) : torusref04_SameList.f k L L = some true := by
  unfold torusref04_SameList.f
  rw [if_pos rfl]
  exact sameList_self L hL hl L.length 0 k (by omega) hk
end Go.Proofs.Ytojnnfhalpefmaa.P
end

section
namespace Go.Proofs.Ytojnnfhalpefmaa.P
open Go.RowKit Go.Proofs.YtojnnfhalpefmaaW.PrintWords Go.Proofs.Ytojnnfhalpefmaa.M Go.Proofs.Ytojnnfhalpefmaa.H
theorem dist_zero2 {p : Int} (hp : primeB p = true) {M : List (List S45)} (hu : ∀ c ∈ M, Up p (-1) c ∧ 0 < c.length) (hd : M.Pairwise (fun a b => lastR a ≠ lastR b)) (hn : M.length ≤ 12) {v : Int → Int} (hv : Sp p M v) (h0 : ∀ c ∈ M, ∃ q, v (lastR c) = p * q) : ∀ r, ∃ q, v r = p * q := by
  obtain ⟨K, _, k2, _, k4, k5, _⟩ := tidy_spec hp M hu hd hn
  refine span_zero k2 (hv.trans k5) (fun c hc => ?_)
  obtain ⟨d, hd, e⟩ := k4 c hc
  rw [← e]
  exact h0 d hd
def Gen (p : Int) (P : List (List S45)) (s : St) : Prop := ∀ t (ht : t < P.length), (∃ x ∈ s.Z, lastR x = (t : Int)) ∨ ¬ Sp p (P.take t) (cf P[t])
theorem gen_app {p : Int} {P : List (List S45)} {s s' : St} {c : List S45} (h : Gen p P s) (hz : ∀ x ∈ s.Z, x ∈ s'.Z) (hc : (∃ x ∈ s'.Z, lastR x = (P.length : Int)) ∨ ¬ Sp p P (cf c)) : Gen p (P ++ [c]) s' := fun t ht => by
  rw [List.length_append, List.length_singleton] at ht
  rcases Nat.lt_or_ge t P.length with hlt | hge
  · rw [List.take_append_of_le_length (by omega), List.getElem_append_left hlt]
    rcases h t hlt with ⟨x, hx, e⟩ | h2
    · exact .inl ⟨x, hz x hx, e⟩
    · exact .inr h2
  · obtain rfl : t = P.length := by omega
    rw [List.take_append_of_le_length (Nat.le_refl _), List.take_of_length_le (Nat.le_refl _), List.getElem_append_right (Nat.le_refl _)]
    simpa using hc
theorem gen_spec {p : Int} (hp : primeB p = true) : ∀ (l P : List (List S45)) (s : St), EInv p P s → Gen p P s → (∀ c ∈ l, Up p (-1) c) → P.length + l.length ≤ 12 →
    ∃ s', (∀ k, 1064 ≤ k → elimL p k l (P.length : Int) s = some s') ∧ EInv p (P ++ l) s' ∧ Gen p (P ++ l) s'
  | [], P, s, h, hg, _, _ => ⟨s, fun k _ => by rw [elimL], by simpa using h, by simpa using hg⟩
  | c :: l, P, s, h, hg, hl, hn => by
    obtain ⟨hp1, hp2⟩ := primeB_ge hp
    have hc := hl c (by simp)
    simp only [List.length_cons] at hn
    obtain ⟨c', x', e1, e2, e3, e4⟩ := elim_step hp h hc (by omega)
    have hx0 : Up p (-1) [⟨(P.length : Int), 1⟩] := ⟨by simp only; omega, by simp only; omega, Int.le_refl 1, by simp only; omega, trivial⟩
    obtain ⟨c2, x2, g1, g2, g3, g4, g5⟩ := clear_all hp h.piv h.ulen h.uup c _ hc hx0 (piv_none h.piv)
    have he := (e1 1064 (Nat.le_refl _)).symm.trans (g1 1064 (Nat.le_refl _))
    obtain ⟨rfl, rfl⟩ : c' = c2 ∧ x' = x2 := by simpa using he
    have hLu : ∀ d ∈ s.L, Up p (-1) d := fun d hd => (h.piv.up d hd).1
    have hsp := adds_sp hp hLu h.ulen h.uup g5 hc hx0
    have htop := adds_top hp hLu h.ulen h.uup g5 (y := (P.length : Int)) h.ulow hc hx0
    have hcnt := h.count
    have hul := h.ulen
    have hlen := up_len hc
    have hsm : c.length < 8796093022208 ∧ s.small := ⟨by omega, by unfold St.small; omega⟩
    rcases Nat.eq_zero_or_pos c'.length with hz | hz
    · have hx1 : cf x' (P.length : Int) = 1 := by rw [htop _ (Int.le_refl _), cf_here rfl]
      have hx2 : ∀ r, (P.length : Int) < r → cf x' r = 0 := fun r hr => by rw [htop r (by omega), cf_there (by simp only; omega), cf]
      obtain ⟨xl, xr⟩ := lastR_eq g3 (y := (P.length : Int)) (by omega) hx2
      have hg' : Gen p (P ++ [c]) (s.zero x') := gen_app hg (fun x hx => List.mem_append_left _ hx) (.inl ⟨x', List.mem_append_right _ (by simp), xr⟩)
      obtain ⟨s', f1, f2, f3⟩ := gen_spec hp l (P ++ [c]) (s.zero x') (e3 hz) hg' (fun d hd => hl d (by simp [hd])) (by simp; omega)
      refine ⟨s', fun k hk => ?_, by simpa using f2, by simpa using f3⟩
      rw [elimL, if_pos hsm, bind_of (e1 k hk), if_pos hz]
      have := f1 k hk
      rw [List.length_append, List.length_singleton] at this
      exact this
    · obtain ⟨i1, i2⟩ := e4 hz
      have hns : ¬ Sp p P (cf c) := fun hs => by
        have h1 : Sp p s.L (cf c') := ((hs.trans h.span1).minus hsp).congr (fun r => ⟨0, by grind⟩)
        have h2 := dist_zero2 hp h.piv.up h.ldist (by omega) h1 (fun d hd => ⟨0, by rw [g4 _ (h.piv.all d hd)]; simp⟩)
        have h3 := cf_zero hp e2 (h2 (lastR c'))
        have := (last_cf e2 hz).2.2.1
        omega
      have hg' : Gen p (P ++ [c]) (s.put c' x') := gen_app hg (fun x hx => hx) (.inr hns)
      obtain ⟨s', f1, f2, f3⟩ := gen_spec hp l (P ++ [c]) (s.put c' x') i2 hg' (fun d hd => hl d (by simp [hd])) (by simp; omega)
      refine ⟨s', fun k hk => ?_, by simpa using f2, by simpa using f3⟩
      rw [elimL, if_pos hsm, bind_of (e1 k hk), if_neg (Nat.ne_of_gt hz), if_pos i1]
      have := f1 k hk
      rw [List.length_append, List.length_singleton] at this
      exact this
theorem sumN_cut {p : Int} {f : Nat → Int} (a : Nat) (h : ∀ i, a ≤ i → ∃ q, f i = p * q) : ∀ (N : Nat), a ≤ N → ∃ q, sumN N f = sumN a f + p * q
  | 0, hN => ⟨0, by rw [show a = 0 by omega]; simp⟩
  | N + 1, hN => by
    rcases Nat.lt_or_ge N a with hlt | hge
    · exact ⟨0, by rw [show a = N + 1 by omega]; simp⟩
    · obtain ⟨q1, h1⟩ := sumN_cut a h N hge
      obtain ⟨q2, h2⟩ := h N hge
      exact ⟨q1 + q2, by rw [sumN, h1, h2]; grind⟩
theorem sp_sum {p : Int} {P : List (List S45)} (v : Int → Int) : ∀ (n : Nat), n ≤ P.length → ∀ {K : List (List S45)}, (∀ c ∈ P.take n, c ∈ K) → Sp p K (fun r => sumN n (fun i => v (i : Int) * cf (P.getD i []) r))
  | 0, _, K, _ => .zero (fun r => ⟨0, by simp [sumN]⟩)
  | n + 1, hn, K, hK => by
    have I := sp_sum (p := p) (P := P) v n (by omega) (K := K) (fun c hc => hK c (by
      rw [List.take_succ_eq_append_getElem (by omega)]; exact List.mem_append_left _ hc))
    refine .add (P[n]'(by omega)) (v (n : Int)) (hK _ (by rw [List.take_succ_eq_append_getElem (by omega)]; exact List.mem_append_right _ (List.mem_singleton_self _))) I (fun r => ⟨0, ?_⟩)
    rw [sumN, List.getD_eq_getElem?_getD (l := P) (i := n), List.getElem?_eq_getElem (show n < P.length by omega)]
    simp
theorem complete {p : Int} (hp : primeB p = true) {P : List (List S45)} {s : St} (h : EInv p P s) (hg : Gen p P s) (hP : P.length ≤ 12) : ∀ (n : Nat), n ≤ P.length → ∀ (v : Int → Int), (∀ i : Int, i < 0 ∨ (n : Int) ≤ i → ∃ q, v i = p * q) → (∀ r, ∃ q, sumN 1024 (fun i => v (i : Int) * cf (P.getD i []) r) = p * q) → Sp p s.Z v := by
  intro n
  induction n with
  | zero => exact fun _ v hv _ => .zero (fun r => hv r (by omega))
  | succ n ih =>
    intro hn v hv hcomb
    obtain ⟨hp1, hp2⟩ := primeB_ge hp
    by_cases hz : ∃ q, v (n : Int) = p * q
    · exact ih (by omega) v (fun i hi => by
        by_cases e : i = (n : Int)
        · rw [e]; exact hz
        · exact hv i (by omega)) hcomb
    · rcases hg n (by omega) with ⟨x, hx, hxl⟩ | hns
      · obtain ⟨u1, u2, u3, u4⟩ := h.zup x hx
        have hc1 : cf x (n : Int) = 1 := by rw [← hxl]; exact u4
        have hsp : Sp p s.Z (fun i => v i + (-(v (n : Int))) * cf x i) := ih (by omega) _ (fun i hi => by
          by_cases e : i = (n : Int)
          · subst e
            exact ⟨0, by rw [hc1]; grind⟩
          · by_cases e2 : i < 0
            · rw [cf_low u1 (by omega)]
              obtain ⟨q, hq⟩ := hv i (.inl e2)
              exact ⟨q, by rw [hq]; simp⟩
            · rw [cf_above u1 (by omega)]
              obtain ⟨q, hq⟩ := hv i (by omega)
              exact ⟨q, by rw [hq]; simp⟩) (fun r => by
          obtain ⟨q1, g1⟩ := hcomb r
          obtain ⟨q2, g2⟩ := h.zcomb x hx r
          rw [dotG_sum (fun t => cf (P.getD t.toNat []) r) x (Int.le_refl _) u1] at g2
          obtain ⟨q3, g3⟩ := sumN_dvd (p := p) (k := -(v (n : Int))) (f := fun i => (v (i : Int) + (-(v (n : Int))) * cf x (i : Int)) * cf (P.getD i []) r) (g := fun i => v (i : Int) * cf (P.getD i []) r) (h := fun i => cf x (i : Int) * cf (P.getD ((i : Int)).toNat []) r) 1024 (fun i _ => ⟨0, by simp only [Int.toNat_natCast]; grind⟩)
          exact ⟨q1 - v (n : Int) * q2 - q3, by rw [g3, g1, g2]; grind⟩)
        exact .add x (v (n : Int)) hx hsp (fun r => ⟨0, by grind⟩)
      · refine absurd ?_ hns
        have hlt : n < P.length := by omega
        obtain ⟨a, ha⟩ : ∃ a, v (n : Int) % p = a := ⟨_, rfl⟩
        have a0 : 0 ≤ a := by rw [← ha]; exact Int.emod_nonneg _ (by omega)
        have a1 : a < p := by rw [← ha]; exact Int.emod_lt_of_pos _ (by omega)
        have hvp := Int.mul_ediv_add_emod (v (n : Int)) p
        have a2 : 1 ≤ a := by
          rcases Int.lt_or_le a 1 with h1 | h1
          · exact absurd ⟨v (n : Int) / p, by omega⟩ hz
          · exact h1
        obtain ⟨t, t0, t1, t2, _⟩ := inv_spec hp a2 a1
        obtain ⟨w, hw⟩ := ed (t * a) p
        rw [t2] at hw
        refine ((sp_sum (p := p) (P := P) v n (by omega) (K := P.take n) (fun c hc => hc)).smul (-t)).congr (fun r => ?_)
        obtain ⟨q1, g1⟩ := hcomb r
        obtain ⟨q2, g2⟩ := sumN_cut (p := p) (f := fun i => v (i : Int) * cf (P.getD i []) r) (n + 1) (fun i hi => by
          obtain ⟨q, hq⟩ := hv (i : Int) (by omega)
          exact ⟨q * cf (P.getD i []) r, by rw [hq]; grind⟩) 1024 (by omega)
        rw [g1, sumN] at g2
        have hgd : P.getD n [] = P[n] := by rw [List.getD_eq_getElem?_getD, List.getElem?_eq_getElem hlt]; rfl
        rw [hgd] at g2
        obtain ⟨S, hS⟩ : ∃ S, sumN n (fun i => v (i : Int) * cf (P.getD i []) r) = S := ⟨_, rfl⟩
        rw [hS] at g2
        obtain ⟨z, hz2⟩ : ∃ z, cf P[n] r = z := ⟨_, rfl⟩
        rw [hz2] at g2
        have e1 : v (n : Int) = a + p * (v (n : Int) / p) := by omega
        obtain ⟨d, hd⟩ : ∃ d, v (n : Int) / p = d := ⟨_, rfl⟩
        rw [hd] at e1
        rw [e1] at g2
        refine ⟨t * (q1 - q2 - d * z) - w * z, ?_⟩
        show cf P[n] r = -t * sumN n (fun i => v (i : Int) * cf (P.getD i []) r) + p * (t * (q1 - q2 - d * z) - w * z)
        rw [hS, hz2]
        have e2 : t * a = 1 + p * w := by omega
        have e3 : S = p * q1 - p * q2 - a * z - p * d * z := by grind
        rw [e3]
        have e4 : t * (a * z) = z + p * w * z := by rw [← Int.mul_assoc, e2]; grind
        grind
theorem kernel_spec2 {p : Int} (hp : primeB p = true) {l : List (List S45)} (h : ∀ c ∈ l, Up p (-1) c) (hl : l.length ≤ 12) :
    ∃ K, (∀ k, 3400 ≤ k → column_Kernel.f k p l = some (K, 0)) ∧ Red p K ∧ (∀ x ∈ K, ∀ t ∈ x, t.f0 < (l.length : Int)) ∧ K.length ≤ 12 ∧
      (∀ x ∈ K, ∀ r, ∃ q, dotG (fun t => cf (l.getD t.toNat []) r) x = p * q) ∧
      ∀ v : Int → Int, (∀ i : Int, i < 0 ∨ (l.length : Int) ≤ i → ∃ q, v i = p * q) → (∀ r, ∃ q, sumN 1024 (fun i => v (i : Int) * cf (l.getD i []) r) = p * q) → Sp p K v := by
  obtain ⟨s, e1, e2, e3⟩ := gen_spec hp l [] st0 (einv0 p) (fun t ht => absurd ht (by simp)) h (by simpa using hl)
  rw [List.nil_append] at e2 e3
  have hcnt := e2.count
  obtain ⟨K, f1, f2, f3, f4, f5, f6⟩ := tidy_spec hp s.Z (fun x hx => ⟨(e2.zup x hx).1, (e2.zup x hx).2.1⟩) (asc_ne e2.zasc) (by omega)
  refine ⟨K, fun k hk => ?_, f2, fun c hc t ht => ?_, by omega, fun x hx r => ?_, fun v hv hc => (complete hp e2 e3 hl l.length (Nat.le_refl _) v hv hc).trans f5⟩
  · unfold column_Kernel.f kernelF
    rw [bind_of (begin_ok hp h (by omega) k hk)]
    refine (if_pos rfl).trans ?_
    refine (bind_of (e1 k (by omega))).trans ?_
    exact bind_of (f1 k (by omega))
  · obtain ⟨d, hd, e⟩ := f4 c hc
    have h1 := up_le_last (f2.up c hc).1 t ht
    have h2 := (e2.zup d hd).2.2.1
    omega
  · have key : ∀ {v : Int → Int}, Sp p s.Z v → ∃ q, sumN 1024 (fun i => v (i : Int) * cf (l.getD i []) r) = p * q := by
      intro v hv
      induction hv with
      | @zero v h0 =>
        obtain ⟨q, hq⟩ := sumN_dvd (p := p) (k := 0) (f := fun i => v (i : Int) * cf (l.getD i []) r) (g := fun _ => 0) (h := fun _ => 0) 1024 (fun i _ => by
          obtain ⟨q, hq⟩ := h0 (i : Int)
          exact ⟨-(q * cf (l.getD i []) r), by rw [hq]; grind⟩)
        rw [sumN_zero] at hq
        exact ⟨-q, by rw [hq]; grind⟩
      | @add u v c k hc _ hv ih =>
        obtain ⟨q1, g1⟩ := sumN_dvd (p := p) (k := k) (f := fun i => v (i : Int) * cf (l.getD i []) r) (g := fun i => u (i : Int) * cf (l.getD i []) r) (h := fun i => cf c (i : Int) * cf (l.getD ((i : Int)).toNat []) r) 1024 (fun i _ => by
          obtain ⟨q, hq⟩ := hv (i : Int)
          exact ⟨-(q * cf (l.getD i []) r), by simp only [Int.toNat_natCast]; rw [hq]; grind⟩)
        obtain ⟨q2, g2⟩ := ih
        obtain ⟨q3, g3⟩ := e2.zcomb c hc r
        rw [dotG_sum (fun t => cf (l.getD t.toNat []) r) c (Int.le_refl _) (e2.zup c hc).1] at g3
        exact ⟨q2 + k * q3 - q1, by rw [g1, g2, g3]; grind⟩
    obtain ⟨q, hq⟩ := key (f6 x hx)
    rw [dotG_sum _ x (Int.le_refl _) (f2.up x hx).1]
    refine ⟨q, ?_⟩
    rw [← hq]
    exact sumN_congr _ (fun i _ => by simp only [Int.toNat_natCast])
end Go.Proofs.Ytojnnfhalpefmaa.P
end

section
namespace Go.Proofs.Ytojnnfhalpefmaa.P
open Go.RowKit Go.Proofs.YtojnnfhalpefmaaW.PrintWords Go.Proofs.Ytojnnfhalpefmaa.M Go.Proofs.Ytojnnfhalpefmaa.H
theorem modB_id {p : Int} (hp : primeB p = true) {a : Int} (h0 : 0 ≤ a) (h1 : a < p) : modB p a = a := by
  rw [modB, if_pos hp]; exact Int.emod_eq_of_lt h0 h1
theorem inv_ref_l0 {p : Int} (hp : primeB p = true) {a t : Int} (h0 : 1 ≤ a) (h1 : a < p) (t1 : t < p) (ht : (t * a) % p = 1) : ∀ (n : Nat) (x : Int), x + n = t → 1 ≤ x → ∃ y, 1 ≤ y ∧ y < p ∧ (y * a) % p = 1 ∧ ∀ k, 301 + n ≤ k → torusref01_Inv.l0 k p a x = some (y, 0)
  | n, x, hx, h2 => by
    obtain ⟨hp1, hp2⟩ := primeB_ge hp
    have hm := modB_id hp (by omega) h1
    have hb := mul_b (a := x) (b := a) (by omega) (by omega) (by omega) (by omega)
    have hv : Int.tmod (wrap64 (x * a)) p = (x * a) % p := by rw [w64 (by omega) (by omega), Int.tmod_eq_emod_of_nonneg hb.1]
    by_cases e : (x * a) % p = 1
    · refine ⟨x, h2, by omega, e, fun k hk => ?_⟩
      obtain ⟨k, rfl, hk2⟩ := ex_succ (show 0 + 1 ≤ k by omega)
      rw [torusref01_Inv.l0, if_pos (by omega), bind_of (mod_ref p a k (by omega)), if_neg (by omega), hm, hv, if_pos e]
    · cases n with
      | zero => exact absurd (by rw [show x = t by omega]; exact ht) e
      | succ n =>
        obtain ⟨y, y1, y2, y3, y4⟩ := inv_ref_l0 hp h0 h1 t1 ht n (x + 1) (by omega) (by omega)
        refine ⟨y, y1, y2, y3, fun k hk => ?_⟩
        obtain ⟨k, rfl, hk2⟩ := ex_succ (show 0 + 1 ≤ k by omega)
        rw [torusref01_Inv.l0, if_pos (by omega), bind_of (mod_ref p a k (by omega)), if_neg (by omega), hm, hv, if_neg e, w64 (by omega) (by omega)]
        exact y4 k (by omega)
theorem inv_ref {p : Int} (hp : primeB p = true) {a : Int} (h0 : 1 ≤ a) (h1 : a < p) : ∃ y, 1 ≤ y ∧ y < p ∧ (y * a) % p = 1 ∧ ∀ k, 600 ≤ k → torusref01_Inv.f k p a = some (y, 0) := by
  obtain ⟨hp1, hp2⟩ := primeB_ge hp
  obtain ⟨t, t0, t1, t2, _⟩ := inv_spec hp h0 h1
  have tp : 1 ≤ t := by
    rcases Int.lt_or_le t 1 with h | h
    · rw [show t = 0 by omega, Int.zero_mul, Int.zero_emod] at t2; omega
    · exact h
  obtain ⟨y, y1, y2, y3, y4⟩ := inv_ref_l0 hp h0 h1 t1 t2 (t - 1).toNat 1 (by omega) (by omega)
  refine ⟨y, y1, y2, y3, fun k hk => ?_⟩
  unfold torusref01_Inv.f
  rw [bind_of (prime_ref p k (by omega)), if_pos hp]
  exact y4 k (by omega)
theorem div_ref {p : Int} (hp : primeB p = true) {a b : Int} (ha : 0 ≤ a) (ha2 : a < p) (h0 : 1 ≤ b) (h1 : b < p) : ∃ q, 0 ≤ q ∧ q < p ∧ (q * b) % p = a ∧ ∀ k, 600 ≤ k → torusref01_Div.f k p a b = some (q, 0) := by
  obtain ⟨hp1, hp2⟩ := primeB_ge hp
  obtain ⟨y, y1, y2, y3, y4⟩ := inv_ref hp h0 h1
  have hb := mul_b (a := a) (b := y) ha (by omega) (by omega) (by omega)
  refine ⟨(a * y) % p, Int.emod_nonneg _ (by omega), Int.emod_lt_of_pos _ (by omega), ?_, fun k hk => ?_⟩
  · obtain ⟨s, hs⟩ := ed (y * b) p
    obtain ⟨q, hq⟩ := ed (a * y) p
    rw [hq, em (x := (a * y - p * q) * b) (y := a) (p := p) (a * s - q * b) (by rw [y3] at hs; grind)]
    exact Int.emod_eq_of_lt ha ha2
  · unfold torusref01_Div.f torusref01_Mul.f
    rw [bind_of (y4 k hk)]
    show (if (0 : Int) = 0 then _ else _) = _
    rw [if_pos rfl, bind_of (a := ((a * y) % p, 0)) ?_]
    rw [bind_of (prime_ref p k (by omega)), if_pos hp, bind_of (mod_ref p a k (by omega)), bind_of (mod_ref p y k (by omega)), modB_id hp ha ha2, modB_id hp (by omega) y2, w64 (by omega) (by omega), bind_of (mod_ref p _ k (by omega)), modB, if_pos hp]
end Go.Proofs.Ytojnnfhalpefmaa.P
end

section
namespace Go.Proofs.Ytojnnfhalpefmaa.P
open Go.RowKit Go.Proofs.YtojnnfhalpefmaaW.PrintWords Go.Proofs.Ytojnnfhalpefmaa.M Go.Proofs.Ytojnnfhalpefmaa.H
def DV (r : List Int) (x : Int) : Int := cf (spS 0 r) x
def Vc (p : Int) (n : Nat) (r : List Int) : Prop := r.length = n ∧ ∀ x ∈ r, 0 ≤ x ∧ x < p
theorem spS_ge : ∀ (v : List Int) (i : Nat) (t : S45), t ∈ spS i v → (i : Int) ≤ t.f0
  | [], i, t, h => by cases h
  | x :: v, i, t, h => by
    rw [spS] at h
    split at h
    · have := spS_ge v (i + 1) t h; omega
    · rcases List.mem_cons.1 h with rfl | h
      · exact Int.le_refl _
      · have := spS_ge v (i + 1) t h; omega
theorem DV_nat (r : List Int) (i : Nat) : DV r (i : Int) = r.getD i 0 := by
  rw [DV, cf_spS, if_pos (Nat.zero_le _), Nat.sub_zero]
theorem DV_neg (r : List Int) {x : Int} (h : x < 0) : DV r x = 0 := by
  by_cases h0 : cf (spS 0 r) x = 0
  · exact h0
  · obtain ⟨t, ht, e⟩ := cf_pos h0
    have := spS_ge r 0 t ht
    omega
theorem DV_high {p : Int} {n : Nat} {r : List Int} (h : Vc p n r) {x : Int} (hx : (n : Int) ≤ x) : DV r x = 0 := by
  obtain ⟨i, rfl⟩ := Int.eq_ofNat_of_zero_le (show 0 ≤ x by omega)
  rw [DV_nat, List.getD_eq_getElem?_getD, List.getElem?_eq_none (by have := h.1; omega), Option.getD_none]
theorem DV_range {p : Int} (hp : 0 < p) {n : Nat} {r : List Int} (h : Vc p n r) (x : Int) : 0 ≤ DV r x ∧ DV r x < p := by
  rcases Int.lt_or_le x 0 with hx | hx
  · rw [DV_neg r hx]; omega
  · rcases Int.lt_or_le x n with hn | hn
    · obtain ⟨i, rfl⟩ := Int.eq_ofNat_of_zero_le hx
      have hi : i < r.length := by have := h.1; omega
      rw [DV_nat, List.getD_eq_getElem?_getD, List.getElem?_eq_getElem hi, Option.getD_some]
      exact h.2 _ (List.getElem_mem hi)
    · rw [DV_high h hn]; omega
theorem sum_vc {p : Int} (hp : primeB p = true) {m : Int} (hm : 0 ≤ m) (hm2 : m < p) {n : Nat} {u v : List Int} (hu : Vc p n u) (hv : Vc p n v) : Vc p n (sumL p m u v) ∧ ∀ x, DV (sumL p m u v) x = (DV u x + m * DV v x) % p := by
  obtain ⟨hp1, hp2⟩ := primeB_ge hp
  have hl : (sumL p m u v).length = n := by rw [sumL_len (by rw [hu.1, hv.1]), hu.1]
  have hg (i : Nat) (hi : i < n) : (sumL p m u v).getD i 0 = (DV u i + m * DV v i) % p := by
    have e1 : i < u.length := by have := hu.1; omega
    have e2 : i < v.length := by have := hv.1; omega
    rw [DV_nat, DV_nat, List.getD_eq_getElem?_getD, List.getD_eq_getElem?_getD, List.getD_eq_getElem?_getD, List.getElem?_eq_getElem (by omega), List.getElem?_eq_getElem e1, List.getElem?_eq_getElem e2]
    simp only [Option.getD_some, sumL, List.getElem_zipWith]
    have r1 := hu.2 _ (List.getElem_mem e1)
    have r2 := hv.2 _ (List.getElem_mem e2)
    exact step_val hp1 hp2 hm hm2 r1.1 r1.2 r2.1 r2.2
  have hvc : Vc p n (sumL p m u v) := by
    refine ⟨hl, fun x hx => ?_⟩
    obtain ⟨i, hi, rfl⟩ := List.getElem_of_mem hx
    have h := hg i (by omega)
    rw [List.getD_eq_getElem?_getD, List.getElem?_eq_getElem hi, Option.getD_some] at h
    rw [h]
    exact ⟨Int.emod_nonneg _ (by omega), Int.emod_lt_of_pos _ (by omega)⟩
  refine ⟨hvc, fun x => ?_⟩
  rcases Int.lt_or_le x 0 with hx | hx
  · rw [DV_neg _ hx, DV_neg _ hx, DV_neg _ hx]; simp
  · rcases Int.lt_or_le x n with hn | hn
    · obtain ⟨i, rfl⟩ := Int.eq_ofNat_of_zero_le hx
      rw [DV_nat, hg i (by omega)]
    · rw [DV_high hvc hn, DV_high hu hn, DV_high hv hn]; simp
theorem zero_vc {p : Int} (hp : 0 < p) (n : Nat) : Vc p n (List.replicate n 0) ∧ ∀ x, DV (List.replicate n 0) x = 0 := by
  refine ⟨⟨by simp, fun x hx => ?_⟩, fun x => ?_⟩
  · have := List.eq_of_mem_replicate hx; omega
  · rcases Int.lt_or_le x 0 with hx | hx
    · exact DV_neg _ hx
    · obtain ⟨i, rfl⟩ := Int.eq_ofNat_of_zero_le hx
      rw [DV_nat, List.getD_eq_getElem?_getD, List.getElem?_replicate]
      split <;> rfl
theorem rd_DV (r : List Int) (row : Nat) : rd r (row : Int) = DV r row := by rw [DV_nat]; rfl
theorem sub_vc {p : Int} (hp : primeB p = true) {n row : Nat} {v r : List Int} (hv : Vc p n v) (hr : Vc p n r) : Vc p n (subV p row v r) ∧ ∀ x, DV (subV p row v r) x = (DV r x + (-(DV r row)) % p * DV v x) % p := by
  obtain ⟨hp1, hp2⟩ := primeB_ge hp
  have hd := DV_range (show 0 < p by omega) hr row
  have hm : modB p (wrap64 (-(rd r row))) = (-(DV r row)) % p := by
    rw [rd_DV, w64 (by omega) (by omega), modB, if_pos hp]
  rw [subV, hm]
  exact sum_vc hp (Int.emod_nonneg _ (by omega)) (Int.emod_lt_of_pos _ (by omega)) hr hv
theorem piv_vc {p : Int} (hp : primeB p = true) {n : Nat} {y : Int} (hy : 1 ≤ y) (hy2 : y < p) {a : List Int} (ha : Vc p n a) : Vc p n (pivV p y n a) ∧ ∀ x, DV (pivV p y n a) x = (y * DV a x) % p := by
  obtain ⟨hp1, hp2⟩ := primeB_ge hp
  obtain ⟨z1, z2⟩ := zero_vc (show 0 < p by omega) n
  rw [pivV, modB_id hp (by omega) hy2]
  obtain ⟨h1, h2⟩ := sum_vc hp (m := y) (by omega) hy2 z1 ha
  exact ⟨h1, fun x => by rw [h2, z2, Int.zero_add]⟩
theorem atI_spec (row : Nat) (l : List (List Int)) : ∀ (i : Nat), i ≤ l.length → (atI row i l < 0 → ∀ j, j < i → rd (l.getD j []) row = 0) ∧ (0 ≤ atI row i l → (atI row i l).toNat < l.length ∧ rd (l.getD (atI row i l).toNat []) row ≠ 0)
  | 0, _ => ⟨fun _ j hj => absurd hj (by omega), fun h => by simp [atI] at h⟩
  | i + 1, hi => by
    obtain ⟨I1, I2⟩ := atI_spec row l i (by omega)
    rw [atI]
    by_cases h : rd (l.getD i []) row ≠ 0
    · rw [if_pos h]
      exact ⟨fun h2 => absurd h2 (by omega), fun _ => ⟨by rw [Int.toNat_natCast]; omega, by simpa using h⟩⟩
    · rw [if_neg h]
      refine ⟨fun h2 j hj => ?_, I2⟩
      rcases Nat.lt_or_ge j i with h3 | h3
      · exact I1 h2 j h3
      · obtain rfl : j = i := by omega
        exact Classical.byContradiction h
structure EchV (p : Int) (n row : Nat) (L : List (Nat × List Int)) : Prop where
  vc : ∀ a ∈ L, Vc p n a.2
  asc : L.Pairwise (fun a b => a.1 < b.1)
  ge : ∀ a ∈ L, row ≤ a.1 ∧ a.1 < n
  one : ∀ a ∈ L, DV a.2 a.1 = 1
  top : ∀ a ∈ L, ∀ x, (a.1 : Int) < x → DV a.2 x = 0
  cross : ∀ a ∈ L, ∀ b ∈ L, a.1 ≠ b.1 → DV a.2 b.1 = 0
structure RInvV (p : Int) (n row : Nat) (l : List (List Int)) (L : List (Nat × List Int)) (O : List (List Int)) : Prop where
  vl : ∀ r ∈ l, Vc p n r
  lz : ∀ r ∈ l, ∀ x, (row : Int) ≤ x → DV r x = 0
  ech : EchV p n row L
  span1 : ∀ r ∈ O, Sp p ((l ++ L.map Prod.snd).map (spS 0)) (DV r)
  span2 : ∀ r ∈ l ++ L.map Prod.snd, Sp p (O.map (spS 0)) (DV r)
theorem mem_erase_or {l : List (List Int)} {t : Nat} (ht : t < l.length) {r : List Int} (h : r ∈ l) : r = l[t] ∨ r ∈ l.eraseIdx t := by
  rw [List.eraseIdx_eq_take_drop_succ]
  rw [← List.take_append_drop t l, List.drop_eq_getElem_cons ht] at h
  rcases List.mem_append.1 h with h | h
  · exact .inr (List.mem_append_left _ h)
  · rcases List.mem_cons.1 h with h | h
    · exact .inl h
    · exact .inr (List.mem_append_right _ h)
theorem Sp.memV {p : Int} {L : List (List Int)} {r : List Int} (h : r ∈ L) : Sp p (L.map (spS 0)) (DV r) := Sp.mem (List.mem_map_of_mem h)
theorem Sp.transV {p : Int} {L : List (List Int)} {K : List (List S45)} {v : Int → Int} (h : Sp p (L.map (spS 0)) v) (hl : ∀ r ∈ L, Sp p K (DV r)) : Sp p K v := h.trans (fun c hc => by
  obtain ⟨r, hr, rfl⟩ := List.mem_map.1 hc
  exact hl r hr)
theorem redv_step {p : Int} (hp : primeB p = true) {n row : Nat} (hrow : row < n) {l O : List (List Int)} {L : List (Nat × List Int)} (h : RInvV p n (row + 1) l L O) {t : Nat} (ht : t < l.length) {y : Int} (y1 : 1 ≤ y) (y2 : y < p) (hy : (y * DV l[t] row) % p = 1) :
    RInvV p n row ((l.eraseIdx t).map (subV p row (pivV p y n l[t]))) ((row, pivV p y n l[t]) :: L.map (fun b => (b.1, subV p row (pivV p y n l[t]) b.2))) O := by
  obtain ⟨hp1, hp2⟩ := primeB_ge hp
  have ha := List.getElem_mem ht
  obtain ⟨vv, vd⟩ := piv_vc hp y1 y2 (h.vl _ ha)
  obtain ⟨a, hae⟩ : ∃ a, l[t] = a := ⟨_, rfl⟩
  rw [hae] at ha vv vd hy
  obtain ⟨v, hve⟩ : ∃ v, pivV p y n a = v := ⟨_, rfl⟩
  rw [hae, hve]
  rw [hve] at vv vd
  have v1 : DV v row = 1 := by rw [vd, hy]
  have v0 : ∀ x, (row : Int) < x → DV v x = 0 := fun x hx => by rw [vd, h.lz a ha x (by omega)]; simp
  have he : ∀ r ∈ l.eraseIdx t, r ∈ l := fun r hr => List.mem_of_mem_eraseIdx hr
  have sd : ∀ r, Vc p n r → Vc p n (subV p row v r) ∧ ∀ x, DV (subV p row v r) x = (DV r x + (-(DV r row)) % p * DV v x) % p := fun r hr => sub_vc hp vv hr
  have s0 : ∀ r, Vc p n r → DV (subV p row v r) row = 0 := fun r hr => by
    rw [(sd r hr).2, v1, Int.mul_one]
    obtain ⟨q, hq⟩ := ed (-(DV r row)) p
    rw [hq, show DV r row + (-(DV r row) - p * q) = p * (-q) by grind, Int.mul_emod_right]
  have s1 : ∀ r, Vc p n r → ∀ x, (row : Int) < x → DV (subV p row v r) x = DV r x := fun r hr x hx => by
    rw [(sd r hr).2, v0 x hx, Int.mul_zero, Int.add_zero]
    have := DV_range (show 0 < p by omega) hr x
    exact Int.emod_eq_of_lt this.1 this.2
  have sdq : ∀ r, Vc p n r → ∃ m, ∀ x, ∃ q, DV (subV p row v r) x = DV r x + m * DV v x + p * q := fun r hr => ⟨(-(DV r row)) % p, fun x => by
    obtain ⟨q, hq⟩ := ed (DV r x + (-(DV r row)) % p * DV v x) p
    exact ⟨-q, by rw [(sd r hr).2, hq]; grind⟩⟩
  have vin : Sp p (O.map (spS 0)) (DV v) := ((h.span2 a (List.mem_append_left _ ha)).smul y).congr (fun x => by
    obtain ⟨q, hq⟩ := ed (y * DV a x) p
    exact ⟨-q, by rw [vd, hq]; grind⟩)
  have sin : ∀ r, Vc p n r → Sp p (O.map (spS 0)) (DV r) → Sp p (O.map (spS 0)) (DV (subV p row v r)) := fun r hr hs => by
    obtain ⟨m, hm⟩ := sdq r hr
    exact (hs.plus (vin.smul m)).congr (fun x => by obtain ⟨q, hq⟩ := hm x; exact ⟨q, hq⟩)
  refine ⟨fun r hr => ?_, fun r hr x hx => ?_, ⟨fun b hb => ?_, ?_, fun b hb => ?_, fun b hb => ?_, fun b hb x hx => ?_, fun b hb c hc hne => ?_⟩, fun r hr => ?_, fun r hr => ?_⟩
  · obtain ⟨s, hs, rfl⟩ := List.mem_map.1 hr
    exact (sd s (h.vl s (he s hs))).1
  · obtain ⟨s, hs, rfl⟩ := List.mem_map.1 hr
    have hvs := h.vl s (he s hs)
    rcases Int.lt_or_le (row : Int) x with hx2 | hx2
    · rw [s1 s hvs x hx2]
      exact h.lz s (he s hs) x (by omega)
    · rw [show x = (row : Int) by omega]
      exact s0 s hvs
  · rcases List.mem_cons.1 hb with rfl | hb
    · exact vv
    · obtain ⟨c, hc, rfl⟩ := List.mem_map.1 hb
      exact (sd c.2 (h.ech.vc c hc)).1
  · refine List.pairwise_cons.2 ⟨fun b hb => ?_, ?_⟩
    · obtain ⟨c, hc, rfl⟩ := List.mem_map.1 hb
      have := (h.ech.ge c hc).1
      show row < c.1
      omega
    · rw [List.pairwise_map]
      exact h.ech.asc
  · rcases List.mem_cons.1 hb with rfl | hb
    · exact ⟨Nat.le_refl _, hrow⟩
    · obtain ⟨c, hc, rfl⟩ := List.mem_map.1 hb
      have := h.ech.ge c hc
      exact ⟨by show row ≤ c.1; omega, this.2⟩
  · rcases List.mem_cons.1 hb with rfl | hb
    · exact v1
    · obtain ⟨c, hc, rfl⟩ := List.mem_map.1 hb
      have := (h.ech.ge c hc).1
      show DV (subV p row v c.2) c.1 = 1
      rw [s1 c.2 (h.ech.vc c hc) _ (by omega)]
      exact h.ech.one c hc
  · rcases List.mem_cons.1 hb with rfl | hb
    · exact v0 x hx
    · obtain ⟨c, hc, rfl⟩ := List.mem_map.1 hb
      have := (h.ech.ge c hc).1
      have hx' : (c.1 : Int) < x := hx
      show DV (subV p row v c.2) x = 0
      rw [s1 c.2 (h.ech.vc c hc) _ (by omega)]
      exact h.ech.top c hc x hx'
  · rcases List.mem_cons.1 hb with rfl | hb
    · rcases List.mem_cons.1 hc with rfl | hc
      · exact absurd rfl hne
      · obtain ⟨d, hd, rfl⟩ := List.mem_map.1 hc
        have := (h.ech.ge d hd).1
        exact v0 _ (by show (row : Int) < (d.1 : Int); omega)
    · obtain ⟨d, hd, rfl⟩ := List.mem_map.1 hb
      rcases List.mem_cons.1 hc with rfl | hc
      · exact s0 d.2 (h.ech.vc d hd)
      · obtain ⟨e, he', rfl⟩ := List.mem_map.1 hc
        have := (h.ech.ge e he').1
        show DV (subV p row v d.2) e.1 = 0
        rw [s1 d.2 (h.ech.vc d hd) _ (by omega)]
        exact h.ech.cross d hd e he' hne
  · refine (h.span1 r hr).transV (fun s hs => ?_)
    have hvm : Sp p ((((l.eraseIdx t).map (subV p row v)) ++ ((row, v) :: L.map (fun b => (b.1, subV p row v b.2))).map Prod.snd).map (spS 0)) (DV v) := Sp.memV (List.mem_append_right _ (by simp))
    have back : ∀ s, Vc p n s → Sp p ((((l.eraseIdx t).map (subV p row v)) ++ ((row, v) :: L.map (fun b => (b.1, subV p row v b.2))).map Prod.snd).map (spS 0)) (DV (subV p row v s)) → Sp p ((((l.eraseIdx t).map (subV p row v)) ++ ((row, v) :: L.map (fun b => (b.1, subV p row v b.2))).map Prod.snd).map (spS 0)) (DV s) := fun s hvs hh => by
      obtain ⟨m, hm⟩ := sdq s hvs
      exact (hh.plus (hvm.smul (-m))).congr (fun x => by obtain ⟨q, hq⟩ := hm x; exact ⟨-q, by grind⟩)
    rcases List.mem_append.1 hs with hs | hs
    · rcases mem_erase_or ht hs with e | e
      · rw [hae] at e
        subst e
        refine (hvm.smul (DV s row)).congr (fun x => ?_)
        obtain ⟨q, hq⟩ := ed (y * DV s x) p
        obtain ⟨q2, hq2⟩ := ed (y * DV s row) p
        rw [hy] at hq2
        exact ⟨q2 * DV s x * (-1) + DV s row * q, by rw [vd, hq]; grind⟩
      · exact back s (h.vl s hs) (Sp.memV (List.mem_append_left _ (List.mem_map_of_mem e)))
    · obtain ⟨b, hb, rfl⟩ := List.mem_map.1 hs
      refine back b.2 (h.ech.vc b hb) (Sp.memV (List.mem_append_right _ ?_))
      simp only [List.map_cons, List.map_map, List.mem_cons, List.mem_map]
      exact .inr ⟨b, hb, rfl⟩
  · rcases List.mem_append.1 hr with hr | hr
    · obtain ⟨s, hs, rfl⟩ := List.mem_map.1 hr
      exact sin s (h.vl s (he s hs)) (h.span2 s (List.mem_append_left _ (he s hs)))
    · obtain ⟨b, hb, rfl⟩ := List.mem_map.1 hr
      rcases List.mem_cons.1 hb with rfl | hb
      · exact vin
      · obtain ⟨c, hc, rfl⟩ := List.mem_map.1 hb
        exact sin c.2 (h.ech.vc c hc) (h.span2 c.2 (List.mem_append_right _ (List.mem_map_of_mem hc)))
theorem redv_spec {p : Int} (hp : primeB p = true) {n : Nat} {O : List (List Int)} : ∀ (row : Nat) (l : List (List Int)) (L : List (Nat × List Int)), row ≤ n → RInvV p n row l L O →
    ∃ L', (∀ k, 600 ≤ k → redL k p n row l (L.map Prod.snd) = some (L'.map Prod.snd)) ∧ EchV p n 0 L' ∧ (∀ r ∈ O, Sp p ((L'.map Prod.snd).map (spS 0)) (DV r)) ∧ (∀ a ∈ L', Sp p (O.map (spS 0)) (DV a.2))
  | 0, l, L, _, h => by
    refine ⟨L, fun k _ => rfl, h.ech, fun r hr => (h.span1 r hr).transV (fun s hs => ?_), fun a ha => h.span2 a.2 (List.mem_append_right _ (List.mem_map_of_mem ha))⟩
    rcases List.mem_append.1 hs with hs | hs
    · refine .zero (fun x => ⟨0, ?_⟩)
      rw [Int.mul_zero]
      rcases Int.lt_or_le x 0 with hx | hx
      · exact DV_neg s hx
      · exact h.lz s hs x (by simpa using hx)
    · exact Sp.memV hs
  | row + 1, l, L, hn, h => by
    obtain ⟨hp1, hp2⟩ := primeB_ge hp
    obtain ⟨A1, A2⟩ := atI_spec row l l.length (Nat.le_refl _)
    by_cases hat : atI row l.length l < 0
    · obtain ⟨L', I1, I2⟩ := redv_spec hp row l L (by omega) ⟨h.vl, fun r hr x hx => by
        rcases Int.lt_or_le (row : Int) x with hx2 | hx2
        · exact h.lz r hr x (by omega)
        · obtain ⟨j, hj, rfl⟩ := List.getElem_of_mem hr
          have := A1 hat j hj
          rw [List.getD_eq_getElem?_getD, List.getElem?_eq_getElem hj, Option.getD_some, rd_DV] at this
          rw [show x = (row : Int) by omega]
          exact this, ⟨h.ech.vc, h.ech.asc, fun a ha => ⟨by have := (h.ech.ge a ha).1; omega, (h.ech.ge a ha).2⟩, h.ech.one, h.ech.top, h.ech.cross⟩, h.span1, h.span2⟩
      refine ⟨L', fun k hk => ?_, I2⟩
      rw [redL, if_pos hat]
      exact I1 k hk
    · obtain ⟨ht, hne⟩ := A2 (by omega)
      obtain ⟨t, hte⟩ : ∃ t, (atI row l.length l).toNat = t := ⟨_, rfl⟩
      rw [hte] at ht hne
      have hgd : l.getD t [] = l[t] := by rw [List.getD_eq_getElem?_getD, List.getElem?_eq_getElem ht, Option.getD_some]
      rw [hgd, rd_DV] at hne
      have hr := DV_range (show 0 < p by omega) (h.vl _ (List.getElem_mem ht)) row
      obtain ⟨y, y1, y2, y3, y4⟩ := inv_ref hp (a := DV l[t] row) (by omega) hr.2
      obtain ⟨L', I1, I2⟩ := redv_spec hp row _ _ (by omega) (redv_step hp (by omega) h ht y1 y2 y3)
      refine ⟨L', fun k hk => ?_, I2⟩
      rw [redL, if_neg hat, hte, hgd, rd_DV, bind_of (y4 k hk)]
      have := I1 k hk
      simp only [List.map_cons, List.map_map] at this
      simpa [Function.comp_def] using this
end Go.Proofs.Ytojnnfhalpefmaa.P
end

section
namespace Go.Proofs.Ytojnnfhalpefmaa.P
open Go.RowKit Go.Proofs.YtojnnfhalpefmaaW.PrintWords Go.Proofs.Ytojnnfhalpefmaa.M Go.Proofs.Ytojnnfhalpefmaa.H
theorem size_all {p : Int} {L : List (List S45)} (hu : ∀ c ∈ L, Up p (-1) c) (hL : L.length ≤ 1000) : ∀ (n i : Nat) (m : Int), i + n = L.length → 0 ≤ m → m ≤ 1024 →
    ∃ m', m ≤ m' ∧ m' ≤ 1024 ∧ (∀ j (hj : j < L.length), i ≤ j → ∀ t ∈ L[j], t.f0 < m') ∧ ∀ k, 1030 * n + 1 ≤ k → torusref04_Size.l0 k L m i = some m'
  | 0, i, m, hi, h0, h1 => ⟨m, Int.le_refl _, h1, fun j hj hij => absurd hij (by omega), fun k hk => by
      obtain ⟨k, rfl, _⟩ := ex_succ (show 0 + 1 ≤ k by omega)
      rw [torusref04_Size.l0, if_neg (by omega)]⟩
  | n + 1, i, m, hi, h0, h1 => by
    have hlt : i < L.length := by omega
    have hc := hu _ (List.getElem_mem hlt)
    have hlen := up_len hc
    obtain ⟨s1, s2, s3⟩ := szT_spec L[i] (-1) m (Int.le_refl _) hc h0 h1
    obtain ⟨m', m1, m2, m3, m4⟩ := size_all hu hL n (i + 1) (szT m L[i]) (by omega) (by omega) s2
    refine ⟨m', by omega, m2, fun j hj hij t ht => ?_, fun k hk => ?_⟩
    · rcases Nat.lt_or_ge i j with h | h
      · exact m3 j hj h t ht
      · obtain rfl : i = j := by omega
        have := s3 t ht
        omega
    · obtain ⟨k, rfl, hk2⟩ := ex_succ (show 0 + 1 ≤ k by omega)
      rw [torusref04_Size.l0, if_pos (by omega)]
      have e := size_l1 L (by omega) i hlt (by omega) L[i].length 0 m (k - L[i].length - 1) (by omega)
      rw [show k - L[i].length - 1 + L[i].length + 1 = k by omega, List.drop_zero] at e
      show torusref04_Size.l1 k L m i 0 = _
      rw [show (0 : Int) = ((0 : Nat) : Int) from rfl, e]
      exact m4 _ (by omega)
theorem size_list {p : Int} {L : List (List S45)} (hu : ∀ c ∈ L, Up p (-1) c) (hL : L.length ≤ 12) : ∃ n : Nat, n ≤ 1024 ∧ (∀ c ∈ L, ∀ t ∈ c, t.f0 < (n : Int)) ∧ ∀ k, 13000 ≤ k → torusref04_Size.f k L = some (n : Int) := by
  obtain ⟨m, m1, m2, m3, m4⟩ := size_all hu (by omega) L.length 0 0 (by omega) (Int.le_refl _) (by decide)
  obtain ⟨n, rfl⟩ := Int.eq_ofNat_of_zero_le m1
  refine ⟨n, by omega, fun c hc t ht => ?_, fun k hk => ?_⟩
  · obtain ⟨j, hj, rfl⟩ := List.getElem_of_mem hc
    exact m3 j hj (Nat.zero_le _) t ht
  · unfold torusref04_Size.f
    exact m4 k (by omega)
def denV (n : Nat) (c : List S45) : List Int := denS c (List.replicate n 0)
theorem den_vc {p : Int} (hp : primeB p = true) {n : Nat} {c : List S45} (hc : Up p (-1) c) (hn : ∀ t ∈ c, t.f0 < (n : Int)) : Vc p n (denV n c) ∧ ∀ x, DV (denV n c) x = cf c x := by
  obtain ⟨hp1, hp2⟩ := primeB_ge hp
  have hl : (denV n c).length = n := by rw [denV, denS_len, List.length_replicate]
  have hg (i : Nat) (hi : i < n) : (denV n c).getD i 0 = cf c i := dense_get2 (n := n) ⟨hc, hn⟩ i (by omega)
  refine ⟨⟨hl, fun x hx => ?_⟩, fun x => ?_⟩
  · obtain ⟨i, hi, rfl⟩ := List.getElem_of_mem hx
    have h := hg i (by omega)
    rw [List.getD_eq_getElem?_getD, List.getElem?_eq_getElem hi, Option.getD_some] at h
    rw [h]
    exact cf_range (by omega) _ hc
  · rcases Int.lt_or_le x 0 with hx | hx
    · rw [DV_neg _ hx, cf_low hc (by omega)]
    · obtain ⟨i, rfl⟩ := Int.eq_ofNat_of_zero_le hx
      rw [DV_nat]
      rcases Nat.lt_or_ge i n with h | h
      · exact hg i h
      · rw [List.getD_eq_getElem?_getD, List.getElem?_eq_none (by omega), Option.getD_none]
        by_cases h0 : cf c i = 0
        · exact h0.symm
        · obtain ⟨t, ht, e⟩ := cf_pos h0
          have := hn t ht
          omega
theorem rinv0 {p : Int} {n : Nat} {O : List (List Int)} (h : ∀ r ∈ O, Vc p n r) : RInvV p n n O [] O :=
  ⟨h, fun r hr x hx => DV_high (h r hr) hx, ⟨fun a ha => (by cases ha), List.Pairwise.nil, fun a ha => (by cases ha), fun a ha => (by cases ha), fun a ha => (by cases ha), fun a ha => (by cases ha)⟩, fun r hr => by simpa using Sp.memV (p := p) hr, fun r hr => by simpa using Sp.memV (p := p) (show r ∈ O by simpa using hr)⟩
theorem ech_col {p : Int} (hp : primeB p = true) {n : Nat} (hn : n ≤ 1024) {L : List (Nat × List Int)} (h : EchV p n 0 L) {a : Nat × List Int} (ha : a ∈ L) : Up p (-1) (spS 0 a.2) ∧ 0 < (spS 0 a.2).length ∧ lastR (spS 0 a.2) = (a.1 : Int) := by
  have hv := h.vc a ha
  have hu := (spS_up (p := p) a.2 0 hv.2 (by have := hv.1; omega)).1
  obtain ⟨h1, h2⟩ := lastR_eq hu (y := (a.1 : Int)) (by have := h.one a ha; unfold DV at this; omega) (fun r hr => h.top a ha r hr)
  exact ⟨hu, h1, h2⟩
theorem ech_red {p : Int} (hp : primeB p = true) {n : Nat} (hn : n ≤ 1024) {L : List (Nat × List Int)} (h : EchV p n 0 L) : Red p ((L.map Prod.snd).map (spS 0)) := by
  rw [List.map_map]
  refine ⟨fun c hc => ?_, ?_, fun c hc d hd hne => ?_⟩
  · obtain ⟨a, ha, rfl⟩ := List.mem_map.1 hc
    obtain ⟨h1, h2, h3⟩ := ech_col hp hn h ha
    refine ⟨h1, h2, ?_⟩
    show cf (spS 0 a.2) (lastR (spS 0 a.2)) = 1
    rw [h3]
    exact h.one a ha
  · rw [List.pairwise_map]
    refine h.asc.imp_of_mem (fun {a b} ha hb hab => ?_)
    show lastR (spS 0 a.2) < lastR (spS 0 b.2)
    rw [(ech_col hp hn h ha).2.2, (ech_col hp hn h hb).2.2]
    omega
  · obtain ⟨a, ha, rfl⟩ := List.mem_map.1 hc
    obtain ⟨b, hb, rfl⟩ := List.mem_map.1 hd
    have e1 : lastR ((spS 0 ∘ Prod.snd) a) = (a.1 : Int) := (ech_col hp hn h ha).2.2
    have e2 : lastR ((spS 0 ∘ Prod.snd) b) = (b.1 : Int) := (ech_col hp hn h hb).2.2
    rw [e1, e2] at hne
    rw [e2]
    exact h.cross a ha b hb (by omega)
theorem basis_spec2 {p : Int} (hp : primeB p = true) {l : List (List S45)} (h : ∀ c ∈ l, Up p (-1) c) (hl : l.length ≤ 12) :
    ∃ K, (∀ k, 3400 ≤ k → column_Basis.f k p l = some (K, 0) ∧ column_Rank.f k p l = some ((K.length : Int), 0)) ∧ Red p K ∧ (∀ c ∈ l, Sp p K (cf c)) ∧ (∀ c ∈ K, Sp p l (cf c)) ∧ K.length ≤ l.length := by
  obtain ⟨s, e1, e2⟩ := elim_list hp l h (by omega)
  have hcnt := e2.count
  obtain ⟨K, f1, f2, f3, f4, f5, f6⟩ := tidy_spec hp s.L e2.piv.up e2.ldist (by omega)
  refine ⟨K, fun k hk => ⟨?_, ?_⟩, f2, fun c hc => (e2.span1 c hc).trans f5, fun c hc => (f6 c hc).trans e2.span2, by omega⟩
  · unfold column_Basis.f basisF
    rw [bind_of (begin_ok hp h (by omega) k hk)]
    refine (if_pos rfl).trans ?_
    refine (bind_of (e1 k (by omega))).trans ?_
    exact bind_of (f1 k (by omega))
  · unfold column_Rank.f rankF
    rw [bind_of (begin_ok hp h (by omega) k hk)]
    refine (if_pos rfl).trans ?_
    refine (bind_of (e1 k (by omega))).trans ?_
    rw [f3]
theorem rbasis_l1 (R : List (List Int)) (hR : R.length ≤ 100) (hv : ∀ r ∈ R, r.length ≤ 2000) : ∀ (m i : Nat) (acc : List (List S45)) (k : Nat), i + m = R.length → acc.length ≤ i → m + 2002 ≤ k → torusref04_Basis.l1 k acc R (R.length : Int) i = some (acc ++ (R.drop i).map (spS 0), 0)
  | 0, i, acc, k, hi, ha, hk => by
    obtain ⟨k, rfl, _⟩ := ex_succ (show 0 + 1 ≤ k by omega)
    rw [torusref04_Basis.l1, if_neg (by omega), List.drop_of_length_le (by omega), List.map_nil, List.append_nil]
  | m + 1, i, acc, k, hi, ha, hk => by
    obtain ⟨k, rfl, _⟩ := ex_succ (show 0 + 1 ≤ k by omega)
    have hlt : i < R.length := by omega
    have hr := hv _ (List.getElem_mem hlt)
    have hw : wrap64 ((i : Int) + 1) = ((i + 1 : Nat) : Int) := by rw [w64 (by omega) (by omega)]; omega
    have hrd : rd_L5 R (i : Int) = R[i] := by simp [rd_L5, hlt]
    rw [torusref04_Basis.l1, if_pos (by omega), if_pos (by omega), if_pos (by omega), hrd, bind_of (sparse_ref R[i] (by omega) k (by omega)), if_pos (by omega), hw, rbasis_l1 R hR hv m (i + 1) _ k (by omega) (by simp; omega) (by omega), List.drop_eq_getElem_cons hlt, List.map_cons, List.append_assoc]
    rfl
theorem rbasis_l0 {p : Int} {L : List (List S45)} (hL : L.length ≤ 12) (hu : ∀ c ∈ L, Up p (-1) c) (n : Nat) (hn : n ≤ 1024) (hb : ∀ c ∈ L, ∀ t ∈ c, t.f0 < (n : Int)) (q : Int) (r : List (List S45) × Int) (hr : ∀ k, 3400 ≤ k → ((torusref04_reduced.f k q (L.map (denV n)) n).bind fun t => torusref04_Basis.l1 k [] t (t.length : Int) 0) = some r) :
    ∀ (m i : Nat) (k : Nat), i + m = L.length → 3402 + m ≤ k → torusref04_Basis.l0 k q L n ((L.take i).map (denV n)) i = some r
  | 0, i, k, hi, hk => by
    obtain ⟨k, rfl, _⟩ := ex_succ (show 0 + 1 ≤ k by omega)
    rw [torusref04_Basis.l0, if_neg (by omega), List.take_of_length_le (by omega)]
    exact hr k (by omega)
  | m + 1, i, k, hi, hk => by
    obtain ⟨k, rfl, _⟩ := ex_succ (show 0 + 1 ≤ k by omega)
    have hlt : i < L.length := by omega
    have hm := List.getElem_mem hlt
    have hlen := up_len (hu _ hm)
    have hw : wrap64 ((i : Int) + 1) = ((i + 1 : Nat) : Int) := by rw [w64 (by omega) (by omega)]; omega
    have hv := vector_ref L[i] (by omega) n (by omega) (fun t ht => ⟨by have := up_mem (hu _ hm) t ht; omega, hb _ hm t ht⟩) k (by omega)
    rw [torusref04_Basis.l0, if_pos (by omega), if_pos (by omega), rdL_nat hlt, bind_of hv, if_pos (by simp; omega), hw]
    have := rbasis_l0 hL hu n hn hb q r hr m (i + 1) k (by omega) (by omega)
    rw [List.take_succ_eq_append_getElem hlt, List.map_append] at this
    exact this
theorem redF_of {p : Int} (hp : primeB p = true) {n : Nat} (hn : n ≤ 2000) {O : List (List Int)} (hO : ∀ r ∈ O, Vc p n r) (hl : O.length ≤ 100) {R : List (List Int)} {k : Nat} (h : redL k p n n O [] = some R) : torusref04_reduced.f k p O n = some R := by
  obtain ⟨hp1, _⟩ := primeB_ge hp
  unfold torusref04_reduced.f redF
  rw [if_pos ⟨by omega, hl, by omega, by omega, fun r hr => by rw [Int.toNat_natCast]; exact (hO r hr).1⟩, Int.toNat_natCast]
  exact h
theorem ech_len {p : Int} {n : Nat} : ∀ (L : List (Nat × List Int)) (a : Nat), L.Pairwise (fun x y => x.1 < y.1) → (∀ x ∈ L, a ≤ x.1 ∧ x.1 < n) → a ≤ n → L.length ≤ n - a
  | [], a, _, _, h => by simp
  | x :: L, a, h, hb, ha => by
    obtain ⟨h1, h2⟩ := List.pairwise_cons.1 h
    have := hb x (by simp)
    have I := ech_len (p := p) L (x.1 + 1) h2 (fun y hy => ⟨by have := h1 y hy; omega, (hb y (by simp [hy])).2⟩) (by omega)
    simp only [List.length_cons]
    omega
theorem basis_ref {p : Int} (hp : primeB p = true) {l : List (List S45)} (h : ∀ c ∈ l, Up p (-1) c) (hl : l.length ≤ 12) :
    ∃ K, (∀ k, 3400 ≤ k → column_Basis.f k p l = some (K, 0) ∧ column_Rank.f k p l = some ((K.length : Int), 0)) ∧ K.length ≤ 12 ∧ (∀ c ∈ K, c.length ≤ 1024) ∧ ∀ k, 20000 ≤ k → torusref04_Basis.f k p l = some (K, 0) := by
  obtain ⟨hp1, hp2⟩ := primeB_ge hp
  obtain ⟨K, e1, e2, e3, e4, e5⟩ := basis_spec2 hp h hl
  obtain ⟨n, n1, n2, n3⟩ := size_list h hl
  have hden : ∀ c ∈ l, Vc p n (denV n c) ∧ ∀ x, DV (denV n c) x = cf c x := fun c hc => den_vc hp (h c hc) (n2 c hc)
  have hO : ∀ r ∈ l.map (denV n), Vc p n r := fun r hr => by
    obtain ⟨c, hc, rfl⟩ := List.mem_map.1 hr
    exact (hden c hc).1
  obtain ⟨L, f1, f2, f3, f4⟩ := redv_spec hp n (l.map (denV n)) [] (Nat.le_refl _) (rinv0 hO)
  have hK : K = (L.map Prod.snd).map (spS 0) := red_unique hp e2 (ech_red hp n1 f2) (fun c hc => (e4 c hc).trans (fun d hd => (f3 _ (List.mem_map_of_mem hd)).congr (fun x => ⟨0, by rw [(hden d hd).2]; simp⟩))) (fun c hc => by
    obtain ⟨r, hr, rfl⟩ := List.mem_map.1 hc
    obtain ⟨a, ha, rfl⟩ := List.mem_map.1 hr
    have h1 : Sp p ((l.map (denV n)).map (spS 0)) (DV a.2) := f4 a ha
    exact h1.transV (fun r hr => by
      obtain ⟨d, hd, rfl⟩ := List.mem_map.1 hr
      exact (e3 d hd).congr (fun x => ⟨0, by rw [(hden d hd).2]; simp⟩)))
  have hL : L.length = K.length := by rw [hK]; simp
  refine ⟨K, e1, by omega, fun c hc => up_len (e2.up c hc).1, fun k hk => ?_⟩
  have hR : ∀ k, 3400 ≤ k → ((torusref04_reduced.f k p (l.map (denV n)) n).bind fun t => torusref04_Basis.l1 k [] t (t.length : Int) 0) = some (K, 0) := fun k hk => by
    rw [bind_of (redF_of hp (by omega) hO (by simp; omega) (f1 k (by omega)))]
    have := rbasis_l1 (L.map Prod.snd) (by simp; omega) (fun r hr => by
      obtain ⟨a, ha, rfl⟩ := List.mem_map.1 hr
      have := (f2.vc a ha).1
      omega) (L.map Prod.snd).length 0 [] k (by omega) (by simp) (by simp; omega)
    rw [List.drop_zero, List.nil_append, ← hK] at this
    exact this
  have hlg : longest l ≤ 1024 := longest_le (fun c hc => up_len (h c hc))
  unfold torusref04_Basis.f
  rw [if_neg (by omega), bind_of (prime_ref p k (by omega)), if_pos hp, bind_of (checkAll_ref p l (by omega) (fun c hc => by have := up_len (h c hc); omega) k (by omega)), checkAllB_ok hp h, if_pos rfl, bind_of (n3 k (by omega))]
  exact rbasis_l0 hl h n n1 n2 p (K, 0) hR l.length 0 k (by omega) (by omega)
end Go.Proofs.Ytojnnfhalpefmaa.P
end
