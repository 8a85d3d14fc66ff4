/- Fields, made columns, sums, multiples and products: what the functions compute. -/
import Derived.Test.YtojnnfhalpefmaaPVec
import Derived.Test.YtojnnfhalpefmaaPUp
import Derived.Test.YtojnnfhalpefmaaMx20
set_option linter.unusedVariables false
namespace Go.Proofs.Ytojnnfhalpefmaa.P
open Go.RowKit Go.Proofs.YtojnnfhalpefmaaW.PrintWords Go.Proofs.Ytojnnfhalpefmaa.M Go.Proofs.Ytojnnfhalpefmaa.H
/-! ### fields -/
theorem bring_spec (a : Int) (n : Int) (h0 : 0 < n) (h1 : n ≤ 1000000) : torusref01_Bring.f a n = some (a % n) := by
  unfold torusref01_Bring.f
  have hr := tmod_range a h0
  rw [if_neg (by omega)]
  by_cases hn : Int.tmod a n < 0
  · rw [if_pos hn, w64 (by omega) (by omega), (tmod_pos h0).1 hn]
  · rw [if_neg hn, (tmod_pos h0).2 hn]
theorem primes_ok : (match torusref01_Primes.f 600 with | some l => decide (0 < l.length) && (decide (l.length ≤ 100) && l.all primeB) | none => false) = true := by decide +kernel
theorem field_spec (a : Int) : ∃ p, primeB p = true ∧ ∀ k, 600 ≤ k → torusref01_Field.f k a = some p := by
  have h := primes_ok
  cases hp : torusref01_Primes.f 600 with
  | none => rw [hp] at h; cases h
  | some l =>
    rw [hp] at h
    simp only [Bool.and_eq_true, decide_eq_true_eq, List.all_eq_true] at h
    obtain ⟨h1, h2, h3⟩ := h
    have hb := Int.emod_nonneg a (show (l.length : Int) ≠ 0 by omega)
    have hb2 := Int.emod_lt_of_pos a (show (0 : Int) < (l.length : Int) by omega)
    obtain ⟨i, hi⟩ : ∃ i : Nat, a % (l.length : Int) = (i : Int) := ⟨(a % (l.length : Int)).toNat, by omega⟩
    have hil : i < l.length := by omega
    refine ⟨l[i], h3 _ (List.getElem_mem hil), fun k hk => ?_⟩
    unfold torusref01_Field.f
    rw [bind_of (at_rounds (fun k => torusref01_Primes.mono k) hk hp), bind_of (bring_spec a _ (by omega) (by omega)), hi, if_pos (by omega), if_pos (by omega), rd_nat hil]
/-! ### made columns -/
theorem spS_up {p : Int} : ∀ (v : List Int) (i : Nat), (∀ x ∈ v, 0 ≤ x ∧ x < p) → i + v.length ≤ 1024 → Up p ((i : Int) - 1) (spS i v) ∧ ∀ t ∈ spS i v, (i : Int) ≤ t.f0 ∧ t.f0 < ((i + v.length : Nat) : Int)
  | [], i, _, _ => ⟨trivial, fun t h => by cases h⟩
  | x :: v, i, hv, hl => by
    have I := spS_up v (i + 1) (fun y hy => hv y (by simp [hy])) (by simp at hl; omega)
    have hx := hv x (by simp)
    rw [spS]
    simp only [List.length_cons] at hl ⊢
    by_cases h : x = 0
    · rw [if_pos h]
      exact ⟨up_weaken I.1 (by omega), fun t ht => by have := I.2 t ht; omega⟩
    · rw [if_neg h]
      refine ⟨⟨by simp only; omega, by simp only; omega, by simp only; omega, by simp only; omega, by
        have := I.1
        rw [show (((i + 1 : Nat) : Int) - 1) = (i : Int) by omega] at this
        exact this⟩, fun t ht => ?_⟩
      rcases List.mem_cons.1 ht with rfl | ht
      · exact ⟨Int.le_refl _, by simp only; omega⟩
      · have := I.2 t ht
        omega
theorem cf_spS : ∀ (v : List Int) (i : Nat) (r : Nat), cf (spS i v) (r : Int) = if i ≤ r then v.getD (r - i) 0 else 0
  | [], i, r => by simp [spS, cf]
  | x :: v, i, r => by
    have I := cf_spS v (i + 1) r
    rw [spS]
    by_cases h : x = 0
    · rw [if_pos h, I]
      by_cases h1 : i ≤ r
      · rw [if_pos h1]
        by_cases h2 : i = r
        · subst h2; rw [if_neg (by omega)]; simp [h]
        · rw [if_pos (by omega), show r - i = (r - (i + 1)) + 1 by omega]; simp
      · rw [if_neg h1, if_neg (by omega)]
    · rw [if_neg h]
      by_cases h2 : i = r
      · subst h2
        rw [cf_here rfl, if_pos (Nat.le_refl _)]
        simp
      · rw [cf_there (by simp only; omega), I]
        by_cases h1 : i ≤ r
        · rw [if_pos h1, if_pos (by omega), show r - i = (r - (i + 1)) + 1 by omega]; simp
        · rw [if_neg h1, if_neg (by omega)]
/-- A column of rows below n. -/
structure Col (p : Int) (n : Int) (a : List S45) : Prop where
  up : Up p (-1) a
  lt : ∀ t ∈ a, t.f0 < n
theorem Col.len {p n : Int} {a : List S45} (h : Col p n a) (hn : 0 ≤ n) : (a.length : Int) ≤ n := by
  have key : ∀ (l : List S45) (last : Int), Up p last l → (∀ t ∈ l, t.f0 < n) → last < n → (l.length : Int) ≤ n - last - 1 := by
    intro l
    induction l with
    | nil => intro last _ _ h; simp; omega
    | cons t l ih =>
      intro last hu hl hlast
      have := ih t.f0 hu.2.2.2.2 (fun s hs => hl s (by simp [hs])) (hl t (by simp))
      have := hu.1
      simp only [List.length_cons]
      omega
  have := key a (-1) h.up h.lt (by omega)
  omega
theorem fit_l0 {p : Int} (hp : primeB p = true) (l : List S45) (hl : l.length < 1000000000000000) : ∀ (m i : Nat) (v : List Int) (k : Nat), i + m = l.length → v.length = 10 → (∀ x ∈ v, 0 ≤ x ∧ x < p) → m + 400 ≤ k →
    ∃ v' : List Int, v'.length = 10 ∧ (∀ x ∈ v', 0 ≤ x ∧ x < p) ∧ ∀ k, m + 400 ≤ k → torusref04_Fit.l0 k p l 10 v i = some (spS 0 v')
  | 0, i, v, k, hi, hv, hx, hk => by
    refine ⟨v, hv, hx, fun k hk => ?_⟩
    obtain ⟨k, rfl, _⟩ := ex_succ (show 0 + 1 ≤ k by omega)
    rw [torusref04_Fit.l0, if_neg (by omega), bind_of (sparse_ref v (by omega) k (by omega))]
  | m + 1, i, v, k, hi, hv, hx, hk => by
    have hlt : i < l.length := by omega
    have hw : wrap64 ((i : Int) + 1) = ((i + 1 : Nat) : Int) := by rw [w64 (by omega) (by omega)]; omega
    obtain ⟨hp1, hp2⟩ := primeB_ge hp
    have hb := Int.emod_nonneg l[i].f0 (show (10 : Int) ≠ 0 by decide)
    have hb2 := Int.emod_lt_of_pos l[i].f0 (show (0 : Int) < 10 by decide)
    by_cases h : rd v (l[i].f0 % 10) = 0
    · obtain ⟨v', e1, e2, e3⟩ := fit_l0 hp l hl m (i + 1) (v.set (l[i].f0 % 10).toNat (modB p l[i].f1)) k (by omega) (by simpa using hv) (fun x hx' => by
        rcases List.mem_or_eq_of_mem_set hx' with h | rfl
        · exact hx x h
        · unfold modB
          rw [if_pos hp]
          exact ⟨Int.emod_nonneg _ (by omega), Int.emod_lt_of_pos _ (by omega)⟩) (by omega)
      refine ⟨v', e1, e2, fun k hk => ?_⟩
      obtain ⟨k, rfl, _⟩ := ex_succ (show 0 + 1 ≤ k by omega)
      rw [torusref04_Fit.l0, if_pos (by omega), if_pos (by omega), rdT_nat hlt, bind_of (bring_spec _ 10 (by decide) (by decide)), if_pos hb, if_pos (by omega), if_pos h, bind_of (mod_ref p _ k (by omega)), hw]
      exact e3 k (by omega)
    · obtain ⟨v', e1, e2, e3⟩ := fit_l0 hp l hl m (i + 1) v k (by omega) hv hx (by omega)
      refine ⟨v', e1, e2, fun k hk => ?_⟩
      obtain ⟨k, rfl, _⟩ := ex_succ (show 0 + 1 ≤ k by omega)
      rw [torusref04_Fit.l0, if_pos (by omega), if_pos (by omega), rdT_nat hlt, bind_of (bring_spec _ 10 (by decide) (by decide)), if_pos hb, if_pos (by omega), if_neg h, hw]
      exact e3 k (by omega)
theorem fit_spec {p : Int} (hp : primeB p = true) (l : List S45) (hl : l.length < 1000000000000000) : ∃ a, Col p 10 a ∧ ∀ k, l.length + 400 ≤ k → torusref04_Fit.f k p l 10 = some a := by
  obtain ⟨hp1, hp2⟩ := primeB_ge hp
  obtain ⟨v, e1, e2, e3⟩ := fit_l0 hp l hl l.length 0 (List.replicate 10 0) (l.length + 400) (by omega) (by simp) (fun x hx => by
    rw [(List.mem_replicate.1 hx).2]; omega) (Nat.le_refl _)
  have q := spS_up v 0 e2 (by omega)
  refine ⟨spS 0 v, ⟨q.1, fun t ht => by have := q.2 t ht; omega⟩, fun k hk => ?_⟩
  unfold torusref04_Fit.f
  rw [if_pos (by decide), if_pos (by decide)]
  exact e3 k hk
theorem Col.check {p n : Int} {a : List S45} (h : Col p n a) (hp : primeB p = true) : checkB p a = 0 := by
  unfold checkB
  rw [if_pos hp]
  exact (chkS_up (Int.le_refl _)).2 h.up
/-! ### lists -/
def checkAllB (p : Int) : List (List S45) → Int
  | [] => 0
  | c :: L => if checkB p c = 0 then checkAllB p L else checkB p c
def longest : List (List S45) → Nat
  | [] => 0
  | c :: L => max c.length (longest L)
theorem longest_mem : ∀ {L : List (List S45)} {c : List S45}, c ∈ L → c.length ≤ longest L
  | [], _, h => by cases h
  | a :: L, c, h => by
    rw [longest]
    rcases List.mem_cons.1 h with rfl | h
    · omega
    · have := longest_mem h; omega
theorem checkAll_col_l0 (p : Int) (L : List (List S45)) (hL : L.length < 1000000000000000) (hl : ∀ c ∈ L, c.length < 1000000000000000) : ∀ (m i : Nat) (k : Nat), i + m = L.length → m + 2 * longest L + 301 ≤ k → column_checkAll.l0 k p L (L.length : Int) i = some (checkAllB p (L.drop i))
  | 0, i, k, hi, hk => by
    obtain ⟨k, rfl, _⟩ := ex_succ (show 0 + 1 ≤ k by omega)
    rw [column_checkAll.l0, if_neg (by omega), List.drop_of_length_le (by omega), checkAllB]
  | m + 1, i, k, hi, hk => by
    obtain ⟨k, rfl, _⟩ := ex_succ (show 0 + 1 ≤ k by omega)
    have hlt : i < L.length := by omega
    have hm := longest_mem (List.getElem_mem hlt)
    have hml := hl _ (List.getElem_mem hlt)
    have hw : wrap64 ((i : Int) + 1) = ((i + 1 : Nat) : Int) := by rw [w64 (by omega) (by omega)]; omega
    rw [column_checkAll.l0, if_pos (by omega), if_pos (by omega), if_pos (by omega), rdL_nat hlt, List.drop_eq_getElem_cons hlt, checkAllB, bind_of (check_col p _ (by omega) k (by omega)), hw]
    by_cases h : checkB p L[i] = 0
    · rw [if_pos h, if_pos h]
      exact checkAll_col_l0 p L hL hl m (i + 1) k (by omega) (by omega)
    · rw [if_neg h, if_neg h]
theorem checkAll_col (p : Int) (L : List (List S45)) (hL : L.length < 1000000000000000) (hl : ∀ c ∈ L, c.length < 1000000000000000) (k : Nat) (hk : L.length + 2 * longest L + 301 ≤ k) : column_checkAll.f k p L = some (checkAllB p L) := by
  unfold column_checkAll.f
  exact checkAll_col_l0 p L hL hl L.length 0 k (by omega) hk
theorem checkAllB_two {p : Int} {a b : List S45} (ha : checkB p a = 0) (hb : checkB p b = 0) : checkAllB p [a, b] = 0 := by
  rw [checkAllB, if_pos ha, checkAllB, if_pos hb, checkAllB]
/-! ### Add, Scale, Dot -/
def addB (p : Int) (a : List S45) (m : Int) (b : List S45) : List S45 × Int := if checkAllB p [a, b] = 0 then (colAdd p (modB p m) a b, 0) else ([], checkAllB p [a, b])
theorem plus_col {p m : Int} {a b : List S45} (hp : p ≠ 0) (hl : a.length + b.length < 8796093022208) : column_plus.f p a m b = some (colAdd p m a b) := by
  unfold column_plus.f
  rw [if_neg hp, if_pos hl]
  rfl
theorem checkB_prime {p : Int} {a : List S45} (h : checkB p a = 0) : primeB p = true := (by
  unfold checkB at h
  by_cases hp : primeB p = true
  · exact hp
  · rw [if_neg hp] at h; cases h)
theorem checkAllB_head {p : Int} {a : List S45} {L : List (List S45)} (h : checkAllB p (a :: L) = 0) : checkB p a = 0 ∧ checkAllB p L = 0 := by
  rw [checkAllB] at h
  by_cases h1 : checkB p a = 0
  · rw [if_pos h1] at h; exact ⟨h1, h⟩
  · rw [if_neg h1] at h; exact absurd h h1
theorem add_col (p : Int) (a : List S45) (m : Int) (b : List S45) (hl : a.length + b.length < 8796093022208) (k : Nat) (hk : 2 * a.length + 2 * b.length + 310 ≤ k) : column_Add.f k p a m b = some (addB p a m b) := by
  unfold column_Add.f addB
  have hll : ∀ c ∈ [a, b], c.length < 1000000000000000 := fun c hc => by
    simp only [List.mem_cons, List.not_mem_nil, or_false] at hc
    rcases hc with rfl | rfl <;> omega
  rw [bind_of (checkAll_col p [a, b] (by simp) hll k (by simp only [longest, List.length_cons, List.length_nil]; omega))]
  by_cases h : checkAllB p [a, b] = 0
  · have hp := primeB_ge (checkB_prime (checkAllB_head h).1)
    rw [if_pos h, if_pos h, bind_of (mod_modp p m k (by omega)), bind_of (plus_col (by omega) hl)]
  · rw [if_neg h, if_neg h]
theorem plus_law {p : Int} (hp : primeB p = true) {a b : List S45} (ha : Up p (-1) a) (hb : Up p (-1) b) (m : Int) (hl : a.length + b.length < 8796093022208) (k : Nat) (hk : 2 * a.length + 2 * b.length + 310 ≤ k) : toruslaw04_plus.f k p a m b = some (colAdd p (m % p) a b) := by
  unfold toruslaw04_plus.f
  have e : addB p a m b = (colAdd p (m % p) a b, 0) := by
    unfold addB
    rw [if_pos (checkAllB_two ((if_pos hp).trans ((chkS_up (Int.le_refl _)).2 ha)) ((if_pos hp).trans ((chkS_up (Int.le_refl _)).2 hb)))]
    unfold modB
    rw [if_pos hp]
  rw [bind_of ((add_col p a m b hl k hk).trans (congrArg some e))]
  exact if_pos rfl
def scaleB (p : Int) (a : List S45) (m : Int) : List S45 × Int := if checkB p a = 0 then (colAdd p (modB p m) [] a, 0) else ([], checkB p a)
theorem scale_col (p : Int) (a : List S45) (m : Int) (hl : a.length < 8796093022208) (k : Nat) (hk : 2 * a.length + 310 ≤ k) : column_Scale.f k p a m = some (scaleB p a m) := by
  unfold column_Scale.f scaleB
  rw [bind_of (check_col p a (by omega) k (by omega))]
  by_cases h : checkB p a = 0
  · have hp := primeB_ge (checkB_prime h)
    rw [if_pos h, if_pos h, bind_of (mod_modp p m k (by omega)), bind_of (plus_col (by omega) (by simpa using hl))]
  · rw [if_neg h, if_neg h]
theorem dotL_spec {p : Int} (hp : 2 ≤ p) (hp2 : p ≤ 251) : ∀ (M : List (Int × Int × Int)) (s : Int), (∀ x ∈ M, 0 ≤ x.2.1 ∧ x.2.1 < p ∧ 0 ≤ x.2.2 ∧ x.2.2 < p) → 0 ≤ s → s < p → M.foldl (dotStep p) s = (s + dotS M) % p
  | [], s, _, h0, h1 => by
    rw [List.foldl_nil, dotS, Int.add_zero, Int.emod_eq_of_lt h0 h1]
  | x :: M, s, hM, h0, h1 => by
    obtain ⟨a1, a2, a3, a4⟩ := hM x (by simp)
    have := mul_bound a1 (by omega) a3 (by omega)
    have hs : dotStep p s x = (s + x.2.1 * x.2.2) % p := by
      unfold dotStep
      rw [w64 (x := x.2.1 * x.2.2) (by omega) (by omega), w64 (by omega) (by omega), Int.tmod_eq_emod_of_nonneg (by omega)]
    rw [List.foldl_cons, hs, dotL_spec hp hp2 M _ (fun y hy => hM y (by simp [hy])) (Int.emod_nonneg _ (by omega)) (Int.emod_lt_of_pos _ (by omega)), dotS, Int.emod_add_emod, Int.add_assoc]
theorem merge_range {p : Int} (hp : 2 ≤ p) : ∀ (n : Nat) (a b : List S45), a.length + b.length = n → (∀ t ∈ a, 0 ≤ t.f1 ∧ t.f1 < p) → (∀ t ∈ b, 0 ≤ t.f1 ∧ t.f1 < p) → ∀ x ∈ merge a b, 0 ≤ x.2.1 ∧ x.2.1 < p ∧ 0 ≤ x.2.2 ∧ x.2.2 < p := by
  intro n
  induction n using Nat.strongRecOn with
  | _ n ih =>
    intro a b hn ha hb x hx
    match a, b with
    | [], [] => rw [merge] at hx; cases hx
    | t :: a, [] =>
      rw [merge_l] at hx
      rcases List.mem_cons.1 hx with rfl | hx
      · have := ha t (by simp); simp only; omega
      · exact ih a.length (by simp at hn; omega) a [] (by simp) (fun s hs => ha s (by simp [hs])) hb x hx
    | [], t :: b =>
      rw [merge_r] at hx
      rcases List.mem_cons.1 hx with rfl | hx
      · have := hb t (by simp); simp only; omega
      · exact ih b.length (by simp at hn; omega) [] b (by simp) ha (fun s hs => hb s (by simp [hs])) x hx
    | s :: a, t :: b =>
      have h1 := ha s (by simp)
      have h2 := hb t (by simp)
      by_cases c1 : s.f0 < t.f0
      · rw [merge_lt c1] at hx
        rcases List.mem_cons.1 hx with rfl | hx
        · simp only; omega
        · exact ih (a.length + (t :: b).length) (by simp at hn ⊢; omega) a (t :: b) rfl (fun s hs => ha s (by simp [hs])) hb x hx
      · by_cases c2 : t.f0 < s.f0
        · rw [merge_gt c1 c2] at hx
          rcases List.mem_cons.1 hx with rfl | hx
          · simp only; omega
          · exact ih ((s :: a).length + b.length) (by simp at hn ⊢; omega) (s :: a) b rfl ha (fun s hs => hb s (by simp [hs])) x hx
        · rw [merge_eq c1 c2] at hx
          rcases List.mem_cons.1 hx with rfl | hx
          · simp only; omega
          · exact ih (a.length + b.length) (by simp at hn; omega) a b rfl (fun s hs => ha s (by simp [hs])) (fun s hs => hb s (by simp [hs])) x hx
def dotB (p : Int) (a b : List S45) : Int × Int := if checkAllB p [a, b] = 0 then (dotD b a % p, 0) else (0, checkAllB p [a, b])
theorem dot_col (p : Int) (a b : List S45) (hl : a.length + b.length < 8796093022208) (k : Nat) (hk : 2 * a.length + 2 * b.length + 310 ≤ k) : column_Dot.f k p a b = some (dotB p a b) := by
  unfold column_Dot.f dotF dotB
  have hll : ∀ c ∈ [a, b], c.length < 1000000000000000 := fun c hc => by
    simp only [List.mem_cons, List.not_mem_nil, or_false] at hc
    rcases hc with rfl | rfl <;> omega
  rw [bind_of (checkAll_col p [a, b] (by simp) hll k (by simp only [longest, List.length_cons, List.length_nil]; omega))]
  by_cases h : checkAllB p [a, b] = 0
  · have hc := checkAllB_head h
    have hp := primeB_ge (checkB_prime hc.1)
    have ua := (checkB_up hc.1).2
    have ub := (checkB_up (checkAllB_head hc.2).1).2
    rw [if_pos h, if_pos h, if_neg (by omega)]
    have := dotL_spec hp.1 hp.2 (merge a b) 0 (merge_range hp.1 _ a b rfl (fun t ht => by have := up_mem ua t ht; omega) (fun t ht => by have := up_mem ub t ht; omega)) (Int.le_refl _) (by omega)
    unfold dotL
    rw [this, Int.zero_add, dotS_merge _ a b (-1) rfl ua ub]
  · rw [if_neg h, if_neg h]
end Go.Proofs.Ytojnnfhalpefmaa.P
