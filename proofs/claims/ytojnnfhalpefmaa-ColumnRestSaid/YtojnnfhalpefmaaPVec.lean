/- Columns as vectors: coefficients, sums, products. -/
import Derived.Test.YtojnnfhalpefmaaPCols
import Derived.Test.YtojnnfhalpefmaaKDot
set_option linter.unusedVariables false
namespace Go.Proofs.Ytojnnfhalpefmaa.P
open Go.RowKit Go.Proofs.YtojnnfhalpefmaaW.PrintWords Go.Proofs.Ytojnnfhalpefmaa.M Go.Proofs.Ytojnnfhalpefmaa.H
/-- The coefficient in a row. -/
def cf : List S45 → Int → Int
  | [], _ => 0
  | t :: l, r => if t.f0 = r then t.f1 else cf l r
theorem cf_here {x : S45} {a : List S45} {r : Int} (h : x.f0 = r) : cf (x :: a) r = x.f1 := by rw [cf, if_pos h]
theorem cf_there {x : S45} {a : List S45} {r : Int} (h : ¬ x.f0 = r) : cf (x :: a) r = cf a r := by rw [cf, if_neg h]
theorem up_weaken {p last last' : Int} {l : List S45} (h : Up p last l) (hl : last' ≤ last) : Up p last' l := by
  cases l with
  | nil => trivial
  | cons t l => exact ⟨by have := h.1; omega, h.2⟩
theorem up_mem {p : Int} : ∀ {last : Int} {l : List S45}, Up p last l → ∀ t ∈ l, last < t.f0 ∧ t.f0 < 1024 ∧ 1 ≤ t.f1 ∧ t.f1 < p
  | _, [], _, _, h => by cases h
  | last, a :: l, hu, t, h => by
    rcases List.mem_cons.1 h with rfl | h
    · exact ⟨hu.1, hu.2.1, hu.2.2.1, hu.2.2.2.1⟩
    · have := up_mem hu.2.2.2.2 t h
      exact ⟨by have := hu.1; omega, this.2⟩
theorem cf_low {p : Int} : ∀ {last : Int} {l : List S45} {r : Int}, Up p last l → r ≤ last → cf l r = 0
  | _, [], _, _, _ => rfl
  | last, t :: l, r, h, hr => by
    rw [cf, if_neg (by have := h.1; omega)]
    exact cf_low h.2.2.2.2 (by have := h.1; omega)
theorem cf_high {p : Int} : ∀ {last : Int} {l : List S45} {r : Int}, Up p last l → 1024 ≤ r → cf l r = 0
  | _, [], _, _, _ => rfl
  | last, t :: l, r, h, hr => by
    rw [cf, if_neg (by have := h.2.1; omega)]
    exact cf_high h.2.2.2.2 hr
theorem cf_range {p : Int} (hp : 0 < p) : ∀ {last : Int} {l : List S45} (r : Int), Up p last l → 0 ≤ cf l r ∧ cf l r < p
  | _, [], _, _ => ⟨Int.le_refl _, hp⟩
  | last, t :: l, r, h => by
    rw [cf]
    split
    · exact ⟨by have := h.2.2.1; omega, h.2.2.2.1⟩
    · exact cf_range hp r h.2.2.2.2
theorem cf_mem {p : Int} : ∀ {last : Int} {l : List S45}, Up p last l → ∀ t ∈ l, cf l t.f0 = t.f1
  | _, [], _, _, h => by cases h
  | last, a :: l, hu, t, h => by
    rw [cf]
    rcases List.mem_cons.1 h with rfl | h
    · rw [if_pos rfl]
    · have := up_mem hu.2.2.2.2 t h
      rw [if_neg (by omega)]
      exact cf_mem hu.2.2.2.2 t h
theorem cf_pos {l : List S45} {r : Int} : ∀ (h : cf l r ≠ 0), ∃ t ∈ l, t.f0 = r := by
  induction l with
  | nil => intro h; exact absurd rfl h
  | cons a l ih =>
    intro h
    rw [cf] at h
    by_cases e : a.f0 = r
    · exact ⟨a, by simp, e⟩
    · rw [if_neg e] at h
      obtain ⟨t, h1, h2⟩ := ih h
      exact ⟨t, by simp [h1], h2⟩
/-- Two columns with the same coefficients are equal. -/
theorem up_ext {p : Int} : ∀ {last : Int} {a b : List S45}, Up p last a → Up p last b → (∀ r, cf a r = cf b r) → a = b
  | _, [], [], _, _, _ => rfl
  | _, [], t :: b, _, hb, h => by
    have := h t.f0
    rw [cf, cf, if_pos rfl] at this
    have := hb.2.2.1
    omega
  | _, s :: a, [], ha, _, h => by
    have := h s.f0
    rw [cf, cf, if_pos rfl] at this
    have := ha.2.2.1
    omega
  | last, s :: a, t :: b, ha, hb, h => by
    have hrow : s.f0 = t.f0 := by
      rcases Int.lt_trichotomy s.f0 t.f0 with hlt | heq | hgt
      · have h1 := h s.f0
        have h2 : cf (t :: b) s.f0 = 0 := cf_low (p := p) (last := s.f0) ⟨hlt, hb.2⟩ (Int.le_refl _)
        rw [h2, cf, if_pos rfl] at h1
        have := ha.2.2.1
        omega
      · exact heq
      · have h1 := h t.f0
        have h2 : cf (s :: a) t.f0 = 0 := cf_low (p := p) (last := t.f0) ⟨hgt, ha.2⟩ (Int.le_refl _)
        rw [h2, cf, if_pos rfl] at h1
        have := hb.2.2.1
        omega
    have hc : s.f1 = t.f1 := by
      have h1 := h s.f0
      rw [cf, cf, if_pos rfl, if_pos hrow.symm] at h1
      exact h1
    have ht : a = b := up_ext ha.2.2.2.2 (by rw [hrow]; exact hb.2.2.2.2) (fun r => by
      have h1 := h r
      rw [cf, cf] at h1
      by_cases e : s.f0 = r
      · rw [cf_low ha.2.2.2.2 (by omega), cf_low hb.2.2.2.2 (by omega)]
      · rw [if_neg e, if_neg (by omega)] at h1
        exact h1)
    obtain ⟨s0, s1⟩ := s
    obtain ⟨t0, t1⟩ := t
    simp only at hrow hc
    rw [hrow, hc, ht]
/-! ### sums -/
/-- a + k b. -/
def colAdd (p k : Int) (a b : List S45) : List S45 := plusL p k (merge a b)
theorem mul_bound {a b : Int} (h0 : 0 ≤ a) (h1 : a ≤ 251) (h2 : 0 ≤ b) (h3 : b ≤ 251) : 0 ≤ a * b ∧ a * b ≤ 63001 :=
  ⟨Int.mul_nonneg h0 h2, Int.le_trans (Int.mul_le_mul h1 h3 h2 (by omega)) (by omega)⟩
theorem step_val {p k c0 c1 : Int} (hp : 2 ≤ p) (hp2 : p ≤ 251) (hk : 0 ≤ k) (hk2 : k < p) (h0 : 0 ≤ c0) (h0' : c0 < p) (h1 : 0 ≤ c1) (h1' : c1 < p) : Int.tmod (wrap64 (c0 + wrap64 (k * c1))) p = (c0 + k * c1) % p := by
  have := mul_bound hk (by omega) h1 (by omega)
  rw [w64 (x := k * c1) (by omega) (by omega), w64 (by omega) (by omega), Int.tmod_eq_emod_of_nonneg (by omega)]
theorem plusL_cons {p k : Int} {x : Int × Int × Int} {M : List (Int × Int × Int)} (hp : 2 ≤ p) (hp2 : p ≤ 251) (hk : 0 ≤ k) (hk2 : k < p) (h0 : 0 ≤ x.2.1) (h0' : x.2.1 < p) (h1 : 0 ≤ x.2.2) (h1' : x.2.2 < p) :
    plusL p k (x :: M) = if (x.2.1 + k * x.2.2) % p = 0 then plusL p k M else ⟨x.1, (x.2.1 + k * x.2.2) % p⟩ :: plusL p k M := by
  rw [plusL, List.filterMap_cons, stepP, step_val hp hp2 hk hk2 h0 h0' h1 h1']
  split <;> rename_i h
  · split at h
    · rename_i h2; rw [if_pos h2]; rfl
    · cases h
  · split at h
    · cases h
    · rename_i h2; rw [if_neg h2]; cases h; rfl
theorem put_row {p last r0 v : Int} {M : List S45} (h : Up p r0 M) (h1 : last < r0) (h2 : r0 < 1024) (hv : 0 ≤ v) (hv2 : v < p) :
    Up p last (if v = 0 then M else ⟨r0, v⟩ :: M) ∧ ∀ r, cf (if v = 0 then M else ⟨r0, v⟩ :: M) r = if r = r0 then v else cf M r := by
  by_cases h0 : v = 0
  · rw [if_pos h0]
    refine ⟨up_weaken h (by omega), fun r => ?_⟩
    split
    · rename_i e; rw [h0]; exact cf_low h (by omega)
    · rfl
  · rw [if_neg h0]
    refine ⟨⟨h1, h2, by show 1 ≤ v; omega, hv2, h⟩, fun r => ?_⟩
    rw [cf]
    by_cases e : r = r0
    · rw [if_pos e, if_pos e.symm]
    · rw [if_neg e, if_neg (fun e' => e e'.symm)]
theorem colAdd_spec {p k : Int} (hp : 2 ≤ p) (hp2 : p ≤ 251) (hk : 0 ≤ k) (hk2 : k < p) : ∀ (n : Nat) (a b : List S45) (last : Int), a.length + b.length = n → Up p last a → Up p last b →
    Up p last (colAdd p k a b) ∧ ∀ r, cf (colAdd p k a b) r = (cf a r + k * cf b r) % p := by
  intro n
  induction n using Nat.strongRecOn with
  | _ n ih =>
    intro a b last hn ha hb
    have hemod : ∀ x, 0 ≤ x % p ∧ x % p < p := fun x => ⟨Int.emod_nonneg _ (by omega), Int.emod_lt_of_pos _ (by omega)⟩
    unfold colAdd
    match a, b with
    | [], [] =>
      rw [merge]
      exact ⟨trivial, fun r => by simp [plusL, cf]⟩
    | x :: a, [] =>
      obtain ⟨x1, x2, x3, x4, x5⟩ := ha
      have I := ih (a.length) (by simp at hn; omega) a [] x.f0 (by simp) x5 trivial
      unfold colAdd at I
      rw [merge_l, plusL_cons hp hp2 hk hk2 (by simp only; omega) (by simp only; omega) (by simp only; omega) (by simp only; omega)]
      obtain ⟨q1, q2⟩ := put_row (v := (x.f1 + k * 0) % p) I.1 x1 x2 (hemod _).1 (hemod _).2
      refine ⟨q1, fun r => (q2 r).trans ?_⟩
      by_cases e : r = x.f0
      · rw [if_pos e, cf_here e.symm]; rfl
      · rw [if_neg e, cf_there (fun e' => e e'.symm), I.2]
    | [], y :: b =>
      obtain ⟨x1, x2, x3, x4, x5⟩ := hb
      have I := ih (b.length) (by simp at hn; omega) [] b y.f0 (by simp) trivial x5
      unfold colAdd at I
      rw [merge_r, plusL_cons hp hp2 hk hk2 (by simp only; omega) (by simp only; omega) (by simp only; omega) (by simp only; omega)]
      obtain ⟨q1, q2⟩ := put_row (v := (0 + k * y.f1) % p) I.1 x1 x2 (hemod _).1 (hemod _).2
      refine ⟨q1, fun r => (q2 r).trans ?_⟩
      by_cases e : r = y.f0
      · rw [if_pos e, cf_here e.symm]; rfl
      · rw [if_neg e, cf_there (x := y) (fun e' => e e'.symm), I.2]
    | x :: a, y :: b =>
      have ha' := ha
      have hb' := hb
      obtain ⟨x1, x2, x3, x4, x5⟩ := ha
      obtain ⟨y1, y2, y3, y4, y5⟩ := hb
      by_cases c1 : x.f0 < y.f0
      · have hb2 : Up p x.f0 (y :: b) := ⟨c1, hb'.2⟩
        have I := ih (a.length + (y :: b).length) (by simp at hn ⊢; omega) a (y :: b) x.f0 rfl x5 hb2
        unfold colAdd at I
        rw [merge_lt c1, plusL_cons hp hp2 hk hk2 (by simp only; omega) (by simp only; omega) (by simp only; omega) (by simp only; omega)]
        obtain ⟨q1, q2⟩ := put_row (v := (x.f1 + k * 0) % p) I.1 x1 x2 (hemod _).1 (hemod _).2
        refine ⟨q1, fun r => (q2 r).trans ?_⟩
        by_cases e : r = x.f0
        · rw [if_pos e, cf_here e.symm, cf_low hb2 (by omega)]
        · rw [if_neg e, I.2, cf_there (x := x) (fun e' => e e'.symm)]
      · by_cases c2 : y.f0 < x.f0
        · have ha2 : Up p y.f0 (x :: a) := ⟨c2, ha'.2⟩
          have I := ih ((x :: a).length + b.length) (by simp at hn ⊢; omega) (x :: a) b y.f0 rfl ha2 y5
          unfold colAdd at I
          rw [merge_gt c1 c2, plusL_cons hp hp2 hk hk2 (by simp only; omega) (by simp only; omega) (by simp only; omega) (by simp only; omega)]
          obtain ⟨q1, q2⟩ := put_row (v := (0 + k * y.f1) % p) I.1 y1 y2 (hemod _).1 (hemod _).2
          refine ⟨q1, fun r => (q2 r).trans ?_⟩
          by_cases e : r = y.f0
          · rw [if_pos e, cf_low ha2 (by omega), cf_here e.symm]
          · rw [if_neg e, I.2, cf_there (x := y) (fun e' => e e'.symm)]
        · have heq : x.f0 = y.f0 := by omega
          have I := ih (a.length + b.length) (by simp at hn; omega) a b x.f0 rfl x5 (by rw [heq]; exact y5)
          unfold colAdd at I
          rw [merge_eq c1 c2, plusL_cons hp hp2 hk hk2 (by simp only; omega) (by simp only; omega) (by simp only; omega) (by simp only; omega)]
          obtain ⟨q1, q2⟩ := put_row (v := (x.f1 + k * y.f1) % p) I.1 x1 x2 (hemod _).1 (hemod _).2
          refine ⟨q1, fun r => (q2 r).trans ?_⟩
          by_cases e : r = x.f0
          · rw [if_pos e, cf_here e.symm, cf_here (by omega)]
          · rw [if_neg e, I.2, cf_there (x := x) (fun e' => e e'.symm), cf_there (x := y) (by omega)]
theorem colAdd_up {p k : Int} (hp : 2 ≤ p) (hp2 : p ≤ 251) (hk : 0 ≤ k) (hk2 : k < p) {a b : List S45} {last : Int} (ha : Up p last a) (hb : Up p last b) : Up p last (colAdd p k a b) := (colAdd_spec hp hp2 hk hk2 _ a b last rfl ha hb).1
theorem colAdd_cf {p k : Int} (hp : 2 ≤ p) (hp2 : p ≤ 251) (hk : 0 ≤ k) (hk2 : k < p) {a b : List S45} {last : Int} (ha : Up p last a) (hb : Up p last b) (r : Int) : cf (colAdd p k a b) r = (cf a r + k * cf b r) % p := (colAdd_spec hp hp2 hk hk2 _ a b last rfl ha hb).2 r
theorem colAdd_len (p k : Int) (a b : List S45) : (colAdd p k a b).length ≤ a.length + b.length := Nat.le_trans (plusL_len _ _ _) (merge_len _ _)
/-! ### products -/
/-- The sum of the products, over the first column's rows. -/
def dotD (b : List S45) : List S45 → Int
  | [] => 0
  | t :: a => t.f1 * cf b t.f0 + dotD b a
def dotS : List (Int × Int × Int) → Int
  | [] => 0
  | x :: M => x.2.1 * x.2.2 + dotS M
theorem dotD_same {b b' : List S45} : ∀ (a : List S45), (∀ t ∈ a, cf b t.f0 = cf b' t.f0) → dotD b a = dotD b' a
  | [], _ => rfl
  | t :: a, h => by rw [dotD, dotD, h t (by simp), dotD_same a (fun s hs => h s (by simp [hs]))]
theorem dotD_nil : ∀ (a : List S45), dotD [] a = 0
  | [] => rfl
  | t :: a => by rw [dotD, dotD_nil a, cf]; simp
theorem dotS_merge {p : Int} : ∀ (n : Nat) (a b : List S45) (last : Int), a.length + b.length = n → Up p last a → Up p last b → dotS (merge a b) = dotD b a := by
  intro n
  induction n using Nat.strongRecOn with
  | _ n ih =>
    intro a b last hn ha hb
    match a, b with
    | [], [] => rw [merge]; rfl
    | x :: a, [] =>
      have I := ih (a.length) (by simp at hn; omega) a [] x.f0 (by simp) ha.2.2.2.2 trivial
      rw [merge_l, dotS, I, dotD_nil, dotD_nil]
      simp
    | [], y :: b =>
      have I := ih (b.length) (by simp at hn; omega) [] b y.f0 (by simp) trivial hb.2.2.2.2
      rw [merge_r, dotS, I]
      simp [dotD]
    | x :: a, y :: b =>
      by_cases c1 : x.f0 < y.f0
      · have hb2 : Up p x.f0 (y :: b) := ⟨c1, hb.2⟩
        have I := ih (a.length + (y :: b).length) (by simp at hn ⊢; omega) a (y :: b) x.f0 rfl ha.2.2.2.2 hb2
        rw [merge_lt c1, dotS, I, dotD, cf_low hb2 (Int.le_refl _)]
      · by_cases c2 : y.f0 < x.f0
        · have ha2 : Up p y.f0 (x :: a) := ⟨c2, ha.2⟩
          have I := ih ((x :: a).length + b.length) (by simp at hn ⊢; omega) (x :: a) b y.f0 rfl ha2 hb.2.2.2.2
          rw [merge_gt c1 c2, dotS, I, Int.zero_mul, Int.zero_add]
          refine dotD_same _ (fun t ht => ?_)
          have := up_mem ha2 t ht
          rw [cf, if_neg (by omega)]
        · have heq : x.f0 = y.f0 := by omega
          have I := ih (a.length + b.length) (by simp at hn; omega) a b x.f0 rfl ha.2.2.2.2 (by rw [heq]; exact hb.2.2.2.2)
          rw [merge_eq c1 c2, dotS, I, dotD, cf, if_pos heq.symm]
          congr 1
          refine dotD_same _ (fun t ht => ?_)
          have := up_mem ha.2.2.2.2 t ht
          rw [cf, if_neg (by omega)]
theorem dotS_swap : ∀ (n : Nat) (a b : List S45), a.length + b.length = n → dotS (merge a b) = dotS (merge b a) := by
  intro n
  induction n using Nat.strongRecOn with
  | _ n ih =>
    intro a b hn
    match a, b with
    | [], [] => rfl
    | x :: a, [] => rw [merge_l, merge_r, dotS, dotS, ih (a.length) (by simp at hn; omega) a [] (by simp)]; simp
    | [], y :: b => rw [merge_l, merge_r, dotS, dotS, ih (b.length) (by simp at hn; omega) [] b (by simp)]; simp
    | x :: a, y :: b =>
      by_cases c1 : x.f0 < y.f0
      · rw [merge_lt c1, merge_gt (by omega) c1, dotS, dotS, ih (a.length + (y :: b).length) (by simp at hn ⊢; omega) a (y :: b) rfl]
        simp
      · by_cases c2 : y.f0 < x.f0
        · rw [merge_gt c1 c2, merge_lt c2, dotS, dotS, ih ((x :: a).length + b.length) (by simp at hn ⊢; omega) (x :: a) b rfl]
          simp
        · rw [merge_eq c1 c2, merge_eq c2 c1, dotS, dotS, ih (a.length + b.length) (by simp at hn; omega) a b rfl]
          simp only [Int.mul_comm]
theorem dotD_comm {p last : Int} {a b : List S45} (ha : Up p last a) (hb : Up p last b) : dotD b a = dotD a b := by
  rw [← dotS_merge _ a b last rfl ha hb, ← dotS_merge _ b a last rfl hb ha, dotS_swap _ a b rfl]
end Go.Proofs.Ytojnnfhalpefmaa.P
