/- The law ColumnExamples: it returns true. No conditions (no arguments). -/
import Derived.Test.YtojnnfhalpefmaaBExa11
set_option linter.unusedVariables false
set_option linter.unusedSimpArgs false
set_option linter.unusedSectionVars false
section
namespace Go.Proofs.Ytojnnfhalpefmaa.P
open Go.RowKit Go.Proofs.YtojnnfhalpefmaaW.PrintWords Go.Proofs.Ytojnnfhalpefmaa.M
theorem w64 {x : Int} (h1 : -9223372036854775808 ≤ x) (h2 : x ≤ 9223372036854775807) : wrap64 x = x := by unfold wrap64; omega
theorem bind_of {α β : Type} {x : Option α} {a : α} {f : α → Option β} (h : x = some a) : x.bind f = f a := by rw [h]; rfl
theorem rdT_nat {l : List S45} {i : Nat} (h : i < l.length) : rd_T45 l (i : Int) = l[i] := by simp [rd_T45, h]
theorem rdL_nat {l : List (List S45)} {i : Nat} (h : i < l.length) : rd_L2 l (i : Int) = l[i] := by simp [rd_L2, h]
def primeB (p : Int) : Bool := decide (2 ≤ p) && (decide (p ≤ 251) && ((torusref01_Prime.f 300 p) == some true))
theorem primeB_ge {p : Int} (h : primeB p = true) : 2 ≤ p ∧ p ≤ 251 := by
 simp only [primeB, Bool.and_eq_true, decide_eq_true_eq] at h
 exact ⟨h.1, h.2.1⟩
theorem all_primes : ∀ n : Fin 250, (torusref01_Prime.f 300 ((n : Nat) + 2 : Int)).isSome = true ∧ modp_Prime.f 20 ((n : Nat) + 2 : Int) = torusref01_Prime.f 300 ((n : Nat) + 2 : Int) := by decide +kernel
theorem prime_in {p : Int} (h1 : 2 ≤ p) (h2 : p ≤ 251) : torusref01_Prime.f 300 p = some (primeB p) ∧ modp_Prime.f 20 p = some (primeB p) := by
 obtain ⟨n, rfl⟩ : ∃ n : Nat, p = (n : Int) + 2 := ⟨(p - 2).toNat, by omega⟩
 obtain ⟨a, b⟩ := all_primes ⟨n, by omega⟩
 simp only at a b
 obtain ⟨t, ht⟩ := Option.isSome_iff_exists.1 a
 have : primeB ((n : Int) + 2) = t := by
  unfold primeB
  rw [decide_eq_true h1, decide_eq_true h2, ht]
  cases t <;> rfl
 rw [this, b]
 exact ⟨ht, ht⟩
theorem primeB_out {p : Int} (h : p < 2 ∨ 251 < p) : primeB p = false := by
 unfold primeB
 rcases h with h | h
 ·rw [decide_eq_false (by omega)]; rfl
 ·rw [decide_eq_false (show ¬ p ≤ 251 by omega)]; simp
theorem modp_out {p : Int} (h : p < 2 ∨ 251 < p) : ∀ (n : Nat) (d : Int) (k : Nat), 0 ≤ d → d = 16 - (n : Int) → n + 1 ≤ k → modp_Prime.l0 k p d = some false
 | 0, d, k, h0, hd, hk => by
  obtain ⟨k, rfl⟩ : ∃ j, k = j + 1 := ⟨k - 1, by omega⟩
  rw [modp_Prime.l0, if_neg (by omega)]
  by_cases h1 : p > 1
  ·rw [if_pos h1, decide_eq_false (by omega)]
  ·rw [if_neg h1]
 | n + 1, d, k, h0, hd, hk => by
  obtain ⟨k, rfl⟩ : ∃ j, k = j + 1 := ⟨k - 1, by omega⟩
  rw [modp_Prime.l0, if_pos (by omega)]
  have ih := modp_out h n (d + 1) k (by omega) (by omega) (by omega)
  rw [w64 (by omega) (by omega)]
  by_cases h1 : d > 1
  ·rw [if_pos h1, if_neg (by omega)]
   split
   ·split
    ·exact ih
    ·rfl
   ·exact ih
  ·rw [if_neg h1]; exact ih
theorem prime_modp (p : Int) (k : Nat) (hk : 20 ≤ k) : modp_Prime.f k p = some (primeB p) := by
 by_cases h1 : 2 ≤ p ∧ p ≤ 251
 ·exact at_rounds (fun k => modp_Prime.mono p k) hk (prime_in h1.1 h1.2).2
 ·rw [primeB_out (by omega)]
  exact modp_out (by omega) 16 0 k (Int.le_refl _) rfl (by omega)
theorem tmod_pos {a p : Int} (hp : 0 < p) : (Int.tmod a p < 0 → Int.tmod a p + p = a % p) ∧ (¬ Int.tmod a p < 0 → Int.tmod a p = a % p) := by
 have h1 := Int.emod_nonneg a (show p ≠ 0 by omega)
 have h2 := Int.emod_lt_of_pos a hp
 rw [Int.tmod_eq_emod]
 have hab : ((p.natAbs : Nat) : Int) = p := by omega
 split <;> omega
theorem tmod_range (a : Int) {p : Int} (hp : 0 < p) : -p < Int.tmod a p ∧ Int.tmod a p < p := by
 have h1 := Int.emod_nonneg a (show p ≠ 0 by omega)
 have h2 := Int.emod_lt_of_pos a hp
 rw [Int.tmod_eq_emod]
 have hab : ((p.natAbs : Nat) : Int) = p := by omega
 split <;> omega
theorem rest_modp {p : Int} (h1 : 2 ≤ p) (h2 : p ≤ 251) (a : Int) : modp_field_rest.f p a = some (a % p) := by
 unfold modp_field_rest.f
 have hr := tmod_range a (show 0 < p by omega)
 rw [if_neg (by omega), w64 (by omega) (by omega)]
 have : Int.tmod (Int.tmod a p + p) p = a % p := by
  rw [Int.tmod_eq_emod_of_nonneg (by omega)]
  by_cases hn : Int.tmod a p < 0
  ·rw [Int.emod_eq_of_lt (by omega) (by omega), (tmod_pos (by omega)).1 hn]
  ·rw [Int.add_emod_right, Int.emod_eq_of_lt (by omega) (by omega), (tmod_pos (by omega)).2 hn]
 rw [this]
theorem of_modp (p : Int) (k : Nat) (hk : 20 ≤ k) : modp_of.f k p = some (if primeB p = true then (p, 0) else (0, 8)) := by
 unfold modp_of.f
 rw [bind_of (prime_modp p k hk)]
 split <;> rfl
end Go.Proofs.Ytojnnfhalpefmaa.P
end

section
namespace Go.Proofs.Ytojnnfhalpefmaa.P
open Go.RowKit Go.Proofs.YtojnnfhalpefmaaW.PrintWords Go.Proofs.Ytojnnfhalpefmaa.M
theorem ex_succ {k n : Nat} (h : n + 1 ≤ k) : ∃ j, k = j + 1 ∧ n ≤ j := ⟨k - 1, by omega, by omega⟩
def chkS (p : Int) : Int → List S45 → Int
 | _, [] => 0
 | last, t :: l => if t.f0 < 0 ∨ t.f0 ≥ 1024 ∨ t.f1 < 1 ∨ t.f1 ≥ p then 1 else if t.f0 ≤ last then 6 else chkS p t.f0 l
def checkB (p : Int) (l : List S45) : Int := if primeB p = true then chkS p (-1) l else 8
theorem check_col_l0 (p : Int) (l : List S45) (hl : l.length < 4611686018427387904) : ∀ (n i : Nat) (last : Int) (k : Nat), i + n = l.length → (i = 0 → last = -1) → (∀ h : 0 < i, last = (rd_T45 l ((i : Int) - 1)).f0) → 2 * n + 2 ≤ k → column_Check.l0 k p l l (l.length : Int) i = some (chkS p last (l.drop i))
 | 0, i, last, k, hi, h0, h1, hk => by
  obtain ⟨k, rfl, _⟩ := ex_succ (show 0 + 1 ≤ k by omega)
  rw [column_Check.l0, if_neg (by omega), List.drop_of_length_le (by omega), chkS]
 | n + 1, i, last, k, hi, h0, h1, hk => by
  obtain ⟨k, rfl, _⟩ := ex_succ (show 0 + 1 ≤ k by omega)
  obtain ⟨k, rfl, _⟩ := ex_succ (show 0 + 1 ≤ k by omega)
  have hlt : i < l.length := by omega
  rw [column_Check.l0, if_pos (by omega), if_pos (by omega), if_pos (by omega), List.drop_eq_getElem_cons hlt, chkS, rdT_nat hlt]
  have ih := check_col_l0 p l hl n (i + 1) l[i].f0 k (by omega) (by omega) (fun _ => by rw [show (((i + 1 : Nat) : Int) - 1) = (i : Int) by omega, rdT_nat hlt]) (by omega)
  have hw : wrap64 ((i : Int) + 1) = ((i + 1 : Nat) : Int) := by rw [w64 (by omega) (by omega)]; omega
  by_cases c1 : l[i].f0 < 0
  ·rw [if_pos c1, if_pos (.inl c1), column_Check.j1, if_pos rfl]
  ·rw [if_neg c1]
   by_cases c2 : l[i].f0 ≥ 1024
   ·rw [if_pos c2, if_pos (.inr (.inl c2)), column_Check.j1, if_pos rfl]
   ·rw [if_neg c2]
    by_cases c3 : l[i].f1 < 1
    ·rw [if_pos c3, if_pos (.inr (.inr (.inl c3))), column_Check.j1, if_pos rfl]
    ·rw [if_neg c3]
     by_cases c4 : l[i].f1 ≥ p
     ·rw [decide_eq_true c4, if_pos (.inr (.inr (.inr c4))), column_Check.j1, if_pos rfl]
     ·rw [decide_eq_false c4, if_neg (by omega), column_Check.j1, if_neg (by decide)]
      by_cases hz : i = 0
      ·rw [if_neg (by omega), hw, if_neg (by rw [h0 hz]; omega)]
       exact ih
      ·rw [if_pos (by omega), w64 (by omega) (by omega), if_pos (by omega), if_pos (by omega), h1 (by omega)]
       by_cases c5 : l[i].f0 ≤ (rd_T45 l ((i : Int) - 1)).f0
       ·rw [if_pos c5, if_pos c5]
       ·rw [if_neg c5, if_neg c5, hw]
        exact ih
theorem check_col (p : Int) (l : List S45) (hl : l.length < 4611686018427387904) (k : Nat) (hk : 2 * l.length + 300 ≤ k) : column_Check.f k p l = some (checkB p l) := by
 unfold column_Check.f checkB
 rw [bind_of (prime_modp p k (by omega))]
 split
 ·exact check_col_l0 p l hl l.length 0 (-1) k (by omega) (fun _ => rfl) (fun h => absurd h (by omega)) (by omega)
 ·rfl
def Up (p : Int) : Int → List S45 → Prop
 | _, [] => True
 | last, t :: l => last < t.f0 ∧ t.f0 < 1024 ∧ 1 ≤ t.f1 ∧ t.f1 < p ∧ Up p t.f0 l
theorem chkS_up {p : Int} : ∀ {last : Int} {l : List S45}, -1 ≤ last → (chkS p last l = 0 ↔ Up p last l)
 | last, [], _ => by simp [chkS, Up]
 | last, t :: l, hl => by
  unfold chkS Up
  by_cases c : t.f0 < 0 ∨ t.f0 ≥ 1024 ∨ t.f1 < 1 ∨ t.f1 ≥ p
  ·rw [if_pos c]
   constructor
   ·intro h; cases h
   ·intro h; omega
  ·rw [if_neg c]
   by_cases c2 : t.f0 ≤ last
   ·rw [if_pos c2]
    constructor
    ·intro h; cases h
    ·intro h; omega
   ·rw [if_neg c2, chkS_up (by omega)]
    constructor
    ·intro h; exact ⟨by omega, by omega, by omega, by omega, h⟩
    ·intro h; exact h.2.2.2.2
end Go.Proofs.Ytojnnfhalpefmaa.P
end

section
namespace Go.Proofs.Ytojnnfhalpefmaa.P
open Go.RowKit Go.Proofs.YtojnnfhalpefmaaW.PrintWords Go.Proofs.Ytojnnfhalpefmaa.M Go.Proofs.Ytojnnfhalpefmaa.H
def cf : List S45 → Int → Int
 | [], _ => 0
 | t :: l, r => if t.f0 = r then t.f1 else cf l r
theorem cf_here {x : S45} {a : List S45} {r : Int} (h : x.f0 = r) : cf (x :: a) r = x.f1 := by rw [cf, if_pos h]
theorem cf_there {x : S45} {a : List S45} {r : Int} (h : ¬ x.f0 = r) : cf (x :: a) r = cf a r := by rw [cf, if_neg h]
theorem up_weaken {p last last' : Int} {l : List S45} (h : Up p last l) (hl : last' ≤ last) : Up p last' l := by
 cases l with
 | nil => trivial
 | cons t l => exact ⟨by have := h.1; omega, h.2⟩
theorem up_mem {p : Int} : ∀ {last : Int} {l : List S45}, Up p last l → ∀ t ∈ l, last < t.f0 ∧ t.f0 < 1024 ∧ 1 ≤ t.f1 ∧ t.f1 < p
 | _, [], _, _, h => by cases h
 | last, a :: l, hu, t, h => by
  rcases List.mem_cons.1 h with rfl | h
  ·exact ⟨hu.1, hu.2.1, hu.2.2.1, hu.2.2.2.1⟩
  ·have := up_mem hu.2.2.2.2 t h
   exact ⟨by have := hu.1; omega, this.2⟩
theorem cf_low {p : Int} : ∀ {last : Int} {l : List S45} {r : Int}, Up p last l → r ≤ last → cf l r = 0
 | _, [], _, _, _ => rfl
 | last, t :: l, r, h, hr => by
  rw [cf, if_neg (by have := h.1; omega)]
  exact cf_low h.2.2.2.2 (by have := h.1; omega)
theorem cf_range {p : Int} (hp : 0 < p) : ∀ {last : Int} {l : List S45} (r : Int), Up p last l → 0 ≤ cf l r ∧ cf l r < p
 | _, [], _, _ => ⟨Int.le_refl _, hp⟩
 | last, t :: l, r, h => by
  rw [cf]
  split
  ·exact ⟨by have := h.2.2.1; omega, h.2.2.2.1⟩
  ·exact cf_range hp r h.2.2.2.2
theorem cf_mem {p : Int} : ∀ {last : Int} {l : List S45}, Up p last l → ∀ t ∈ l, cf l t.f0 = t.f1
 | _, [], _, _, h => by cases h
 | last, a :: l, hu, t, h => by
  rw [cf]
  rcases List.mem_cons.1 h with rfl | h
  ·rw [if_pos rfl]
  ·have := up_mem hu.2.2.2.2 t h
   rw [if_neg (by omega)]
   exact cf_mem hu.2.2.2.2 t h
theorem cf_pos {l : List S45} {r : Int} : ∀ (h : cf l r ≠ 0), ∃ t ∈ l, t.f0 = r := by
 induction l with
 | nil => intro h; exact absurd rfl h
 | cons a l ih =>
  intro h
  rw [cf] at h
  by_cases e : a.f0 = r
  ·exact ⟨a, by simp, e⟩
  ·rw [if_neg e] at h
   obtain ⟨t, h1, h2⟩ := ih h
   exact ⟨t, by simp [h1], h2⟩
def colAdd (p k : Int) (a b : List S45) : List S45 := plusL p k (merge a b)
theorem mul_bound {a b : Int} (h0 : 0 ≤ a) (h1 : a ≤ 251) (h2 : 0 ≤ b) (h3 : b ≤ 251) : 0 ≤ a * b ∧ a * b ≤ 63001 :=
 ⟨Int.mul_nonneg h0 h2, Int.le_trans (Int.mul_le_mul h1 h3 h2 (by omega)) (by omega)⟩
theorem step_val {p k c0 c1 : Int} (hp : 2 ≤ p) (hp2 : p ≤ 251) (hk : 0 ≤ k) (hk2 : k < p) (h0 : 0 ≤ c0) (h0' : c0 < p) (h1 : 0 ≤ c1) (h1' : c1 < p) : Int.tmod (wrap64 (c0 + wrap64 (k * c1))) p = (c0 + k * c1) % p := by
 have := mul_bound hk (by omega) h1 (by omega)
 rw [w64 (x := k * c1) (by omega) (by omega), w64 (by omega) (by omega), Int.tmod_eq_emod_of_nonneg (by omega)]
theorem plusL_cons {p k : Int} {x : Int × Int × Int} {M : List (Int × Int × Int)} (hp : 2 ≤ p) (hp2 : p ≤ 251) (hk : 0 ≤ k) (hk2 : k < p) (h0 : 0 ≤ x.2.1) (h0' : x.2.1 < p) (h1 : 0 ≤ x.2.2) (h1' : x.2.2 < p) :
  plusL p k (x :: M) = if (x.2.1 + k * x.2.2) % p = 0 then plusL p k M else ⟨x.1, (x.2.1 + k * x.2.2) % p⟩ :: plusL p k M := by
 rw [plusL, List.filterMap_cons, stepP, step_val hp hp2 hk hk2 h0 h0' h1 h1']
 split <;> rename_i h
 ·split at h
  ·rename_i h2; rw [if_pos h2]; rfl
  ·cases h
 ·split at h
  ·cases h
  ·rename_i h2; rw [if_neg h2]; cases h; rfl
theorem put_row {p last r0 v : Int} {M : List S45} (h : Up p r0 M) (h1 : last < r0) (h2 : r0 < 1024) (hv : 0 ≤ v) (hv2 : v < p) :
  Up p last (if v = 0 then M else ⟨r0, v⟩ :: M) ∧ ∀ r, cf (if v = 0 then M else ⟨r0, v⟩ :: M) r = if r = r0 then v else cf M r := by
 by_cases h0 : v = 0
 ·rw [if_pos h0]
  refine ⟨up_weaken h (by omega), fun r => ?_⟩
  split
  ·rename_i e; rw [h0]; exact cf_low h (by omega)
  ·rfl
 ·rw [if_neg h0]
  refine ⟨⟨h1, h2, by show 1 ≤ v; omega, hv2, h⟩, fun r => ?_⟩
  rw [cf]
  by_cases e : r = r0
  ·rw [if_pos e, if_pos e.symm]
  ·rw [if_neg e, if_neg (fun e' => e e'.symm)]
theorem colAdd_spec {p k : Int} (hp : 2 ≤ p) (hp2 : p ≤ 251) (hk : 0 ≤ k) (hk2 : k < p) : ∀ (n : Nat) (a b : List S45) (last : Int), a.length + b.length = n → Up p last a → Up p last b →
  Up p last (colAdd p k a b) ∧ ∀ r, cf (colAdd p k a b) r = (cf a r + k * cf b r) % p := by
 intro n
 induction n using Nat.strongRecOn with
 | _ n ih =>
  intro a b last hn ha hb
  have hemod : ∀ x, 0 ≤ x % p ∧ x % p < p := fun x => ⟨Int.emod_nonneg _ (by omega), Int.emod_lt_of_pos _ (by omega)⟩
  unfold colAdd
  match a, b with
  | [], [] =>
   rw [merge]
   exact ⟨trivial, fun r => by simp [plusL, cf]⟩
  | x :: a, [] =>
   obtain ⟨x1, x2, x3, x4, x5⟩ := ha
   have I := ih (a.length) (by simp at hn; omega) a [] x.f0 (by simp) x5 trivial
   unfold colAdd at I
   rw [merge_l, plusL_cons hp hp2 hk hk2 (by simp only; omega) (by simp only; omega) (by simp only; omega) (by simp only; omega)]
   obtain ⟨q1, q2⟩ := put_row (v := (x.f1 + k * 0) % p) I.1 x1 x2 (hemod _).1 (hemod _).2
   refine ⟨q1, fun r => (q2 r).trans ?_⟩
   by_cases e : r = x.f0
   ·rw [if_pos e, cf_here e.symm]; rfl
   ·rw [if_neg e, cf_there (fun e' => e e'.symm), I.2]
  | [], y :: b =>
   obtain ⟨x1, x2, x3, x4, x5⟩ := hb
   have I := ih (b.length) (by simp at hn; omega) [] b y.f0 (by simp) trivial x5
   unfold colAdd at I
   rw [merge_r, plusL_cons hp hp2 hk hk2 (by simp only; omega) (by simp only; omega) (by simp only; omega) (by simp only; omega)]
   obtain ⟨q1, q2⟩ := put_row (v := (0 + k * y.f1) % p) I.1 x1 x2 (hemod _).1 (hemod _).2
   refine ⟨q1, fun r => (q2 r).trans ?_⟩
   by_cases e : r = y.f0
   ·rw [if_pos e, cf_here e.symm]; rfl
   ·rw [if_neg e, cf_there (x := y) (fun e' => e e'.symm), I.2]
  | x :: a, y :: b =>
   have ha' := ha
   have hb' := hb
   obtain ⟨x1, x2, x3, x4, x5⟩ := ha
   obtain ⟨y1, y2, y3, y4, y5⟩ := hb
   by_cases c1 : x.f0 < y.f0
   ·have hb2 : Up p x.f0 (y :: b) := ⟨c1, hb'.2⟩
    have I := ih (a.length + (y :: b).length) (by simp at hn ⊢; omega) a (y :: b) x.f0 rfl x5 hb2
    unfold colAdd at I
    rw [merge_lt c1, plusL_cons hp hp2 hk hk2 (by simp only; omega) (by simp only; omega) (by simp only; omega) (by simp only; omega)]
    obtain ⟨q1, q2⟩ := put_row (v := (x.f1 + k * 0) % p) I.1 x1 x2 (hemod _).1 (hemod _).2
    refine ⟨q1, fun r => (q2 r).trans ?_⟩
    by_cases e : r = x.f0
    ·rw [if_pos e, cf_here e.symm, cf_low hb2 (by omega)]
    ·rw [if_neg e, I.2, cf_there (x := x) (fun e' => e e'.symm)]
   ·by_cases c2 : y.f0 < x.f0
    ·have ha2 : Up p y.f0 (x :: a) := ⟨c2, ha'.2⟩
     have I := ih ((x :: a).length + b.length) (by simp at hn ⊢; omega) (x :: a) b y.f0 rfl ha2 y5
     unfold colAdd at I
     rw [merge_gt c1 c2, plusL_cons hp hp2 hk hk2 (by simp only; omega) (by simp only; omega) (by simp only; omega) (by simp only; omega)]
     obtain ⟨q1, q2⟩ := put_row (v := (0 + k * y.f1) % p) I.1 y1 y2 (hemod _).1 (hemod _).2
     refine ⟨q1, fun r => (q2 r).trans ?_⟩
     by_cases e : r = y.f0
     ·rw [if_pos e, cf_low ha2 (by omega), cf_here e.symm]
     ·rw [if_neg e, I.2, cf_there (x := y) (fun e' => e e'.symm)]
    ·have heq : x.f0 = y.f0 := by omega
     have I := ih (a.length + b.length) (by simp at hn; omega) a b x.f0 rfl x5 (by rw [heq]; exact y5)
     unfold colAdd at I
     rw [merge_eq c1 c2, plusL_cons hp hp2 hk hk2 (by simp only; omega) (by simp only; omega) (by simp only; omega) (by simp only; omega)]
     obtain ⟨q1, q2⟩ := put_row (v := (x.f1 + k * y.f1) % p) I.1 x1 x2 (hemod _).1 (hemod _).2
     refine ⟨q1, fun r => (q2 r).trans ?_⟩
     by_cases e : r = x.f0
     ·rw [if_pos e, cf_here e.symm, cf_here (by omega)]
     ·rw [if_neg e, I.2, cf_there (x := x) (fun e' => e e'.symm), cf_there (x := y) (by omega)]
theorem colAdd_up {p k : Int} (hp : 2 ≤ p) (hp2 : p ≤ 251) (hk : 0 ≤ k) (hk2 : k < p) {a b : List S45} {last : Int} (ha : Up p last a) (hb : Up p last b) : Up p last (colAdd p k a b) := (colAdd_spec hp hp2 hk hk2 _ a b last rfl ha hb).1
theorem colAdd_cf {p k : Int} (hp : 2 ≤ p) (hp2 : p ≤ 251) (hk : 0 ≤ k) (hk2 : k < p) {a b : List S45} {last : Int} (ha : Up p last a) (hb : Up p last b) (r : Int) : cf (colAdd p k a b) r = (cf a r + k * cf b r) % p := (colAdd_spec hp hp2 hk hk2 _ a b last rfl ha hb).2 r
end Go.Proofs.Ytojnnfhalpefmaa.P
end

section
namespace Go.Proofs.Ytojnnfhalpefmaa.P
open Go.RowKit Go.Proofs.YtojnnfhalpefmaaW.PrintWords Go.Proofs.Ytojnnfhalpefmaa.M Go.Proofs.Ytojnnfhalpefmaa.H
structure Col (p : Int) (n : Int) (a : List S45) : Prop where
 up : Up p (-1) a
 lt : ∀ t ∈ a, t.f0 < n
theorem Col.len {p n : Int} {a : List S45} (h : Col p n a) (hn : 0 ≤ n) : (a.length : Int) ≤ n := by
 have key : ∀ (l : List S45) (last : Int), Up p last l → (∀ t ∈ l, t.f0 < n) → last < n → (l.length : Int) ≤ n - last - 1 := by
  intro l
  induction l with
  | nil => intro last _ _ h; simp; omega
  | cons t l ih =>
   intro last hu hl hlast
   have := ih t.f0 hu.2.2.2.2 (fun s hs => hl s (by simp [hs])) (hl t (by simp))
   have := hu.1
   simp only [List.length_cons]
   omega
 have := key a (-1) h.up h.lt (by omega)
 omega
def checkAllB (p : Int) : List (List S45) → Int
 | [] => 0
 | c :: L => if checkB p c = 0 then checkAllB p L else checkB p c
def longest : List (List S45) → Nat
 | [] => 0
 | c :: L => max c.length (longest L)
theorem longest_mem : ∀ {L : List (List S45)} {c : List S45}, c ∈ L → c.length ≤ longest L
 | [], _, h => by cases h
 | a :: L, c, h => by
  rw [longest]
  rcases List.mem_cons.1 h with rfl | h
  ·omega
  ·have := longest_mem h; omega
theorem checkAll_col_l0 (p : Int) (L : List (List S45)) (hL : L.length < 1000000000000000) (hl : ∀ c ∈ L, c.length < 1000000000000000) : ∀ (m i : Nat) (k : Nat), i + m = L.length → m + 2 * longest L + 301 ≤ k → column_checkAll.l0 k p L (L.length : Int) i = some (checkAllB p (L.drop i))
 | 0, i, k, hi, hk => by
  obtain ⟨k, rfl, _⟩ := ex_succ (show 0 + 1 ≤ k by omega)
  rw [column_checkAll.l0, if_neg (by omega), List.drop_of_length_le (by omega), checkAllB]
 | m + 1, i, k, hi, hk => by
  obtain ⟨k, rfl, _⟩ := ex_succ (show 0 + 1 ≤ k by omega)
  have hlt : i < L.length := by omega
  have hm := longest_mem (List.getElem_mem hlt)
  have hml := hl _ (List.getElem_mem hlt)
  have hw : wrap64 ((i : Int) + 1) = ((i + 1 : Nat) : Int) := by rw [w64 (by omega) (by omega)]; omega
  rw [column_checkAll.l0, if_pos (by omega), if_pos (by omega), if_pos (by omega), rdL_nat hlt, List.drop_eq_getElem_cons hlt, checkAllB, bind_of (check_col p _ (by omega) k (by omega)), hw]
  by_cases h : checkB p L[i] = 0
  ·rw [if_pos h, if_pos h]
   exact checkAll_col_l0 p L hL hl m (i + 1) k (by omega) (by omega)
  ·rw [if_neg h, if_neg h]
theorem checkAll_col (p : Int) (L : List (List S45)) (hL : L.length < 1000000000000000) (hl : ∀ c ∈ L, c.length < 1000000000000000) (k : Nat) (hk : L.length + 2 * longest L + 301 ≤ k) : column_checkAll.f k p L = some (checkAllB p L) := by
 unfold column_checkAll.f
 exact checkAll_col_l0 p L hL hl L.length 0 k (by omega) hk
theorem plus_col {p m : Int} {a b : List S45} (hp : p ≠ 0) (hl : a.length + b.length < 8796093022208) : column_plus.f p a m b = some (colAdd p m a b) := by
 unfold column_plus.f
 rw [if_neg hp, if_pos hl]
 rfl
end Go.Proofs.Ytojnnfhalpefmaa.P
end

section
namespace Go.Proofs.Ytojnnfhalpefmaa.P
open Go.RowKit Go.Proofs.YtojnnfhalpefmaaW.PrintWords Go.Proofs.Ytojnnfhalpefmaa.M
def invOk (q a : Nat) : Bool := match modp_Inv.f 30 (q : Int) (a : Int) with | some (t, e) => e == 0 && (decide (0 ≤ t) && (decide (t < (q : Int)) && (t * (a : Int)) % (q : Int) == 1)) | none => false
theorem inv_all : ((List.range 252).all fun q => !primeB (q : Int) || (List.range q).all fun a => a == 0 || invOk q a) = true := by decide +kernel
theorem ed (x p : Int) : ∃ q, x % p = x - p * q := ⟨x / p, by have := Int.mul_ediv_add_emod x p; omega⟩
theorem em {x y p : Int} (t : Int) (h : x - y = p * t) : x % p = y % p := by
 rw [show x = y + p * t by omega, Int.add_mul_emod_self_left]
theorem inv_spec {p : Int} (hp : primeB p = true) {a : Int} (h0 : 1 ≤ a) (h1 : a < p) : ∃ t, 0 ≤ t ∧ t < p ∧ (t * a) % p = 1 ∧ ∀ k, 30 ≤ k → modp_Inv.f k p a = some (t, 0) := by
 obtain ⟨hp1, hp2⟩ := primeB_ge hp
 obtain ⟨q, rfl⟩ : ∃ q : Nat, p = (q : Int) := ⟨p.toNat, by omega⟩
 obtain ⟨b, rfl⟩ : ∃ b : Nat, a = (b : Int) := ⟨a.toNat, by omega⟩
 have h := List.all_eq_true.1 inv_all q (List.mem_range.2 (by omega))
 rw [hp] at h
 simp only [Bool.not_true, Bool.false_or] at h
 have h2 := List.all_eq_true.1 h b (List.mem_range.2 (by omega))
 have hb : (b == 0) = false := by simp; omega
 rw [hb, Bool.false_or] at h2
 unfold invOk at h2
 cases hm : modp_Inv.f 30 (q : Int) (b : Int) with
 | none => rw [hm] at h2; cases h2
 | some r =>
  obtain ⟨t, e⟩ := r
  rw [hm] at h2
  simp only [Bool.and_eq_true, decide_eq_true_eq, beq_iff_eq] at h2
  obtain ⟨rfl, h3, h4, h5⟩ := h2
  exact ⟨t, h3, h4, h5, fun k hk => at_rounds (fun k => modp_Inv.mono _ _ k) hk hm⟩
theorem mul_b {a b : Int} (h0 : 0 ≤ a) (h1 : a ≤ 251) (h2 : 0 ≤ b) (h3 : b ≤ 251) : 0 ≤ a * b ∧ a * b ≤ 63001 :=
 ⟨Int.mul_nonneg h0 h2, Int.le_trans (Int.mul_le_mul h1 h3 h2 (by omega)) (by omega)⟩
theorem div_spec {p : Int} (hp : primeB p = true) {a b : Int} (ha : 0 ≤ a) (ha2 : a < p) (h0 : 1 ≤ b) (h1 : b < p) : ∃ q, 0 ≤ q ∧ q < p ∧ (q * b) % p = a ∧ ∀ k, 30 ≤ k → modp_Div.f k p a b = some (q, 0) := by
 obtain ⟨hp1, hp2⟩ := primeB_ge hp
 obtain ⟨t, t0, t1, t2, t3⟩ := inv_spec hp h0 h1
 have hm := mul_b ha (by omega) t0 (by omega)
 refine ⟨(a * t) % p, Int.emod_nonneg _ (by omega), Int.emod_lt_of_pos _ (by omega), ?_, fun k hk => ?_⟩
 ·obtain ⟨q1, e1⟩ := ed (a * t) p
  obtain ⟨q2, e2⟩ := ed (t * b) p
  rw [t2] at e2
  rw [e1]
  have : (a * t - p * q1) * b % p = a % p := em (a * q2 - q1 * b) (by grind)
  rw [this, Int.emod_eq_of_lt ha ha2]
 ·unfold modp_Div.f
  rw [bind_of (t3 k hk)]
  refine (if_pos rfl).trans ?_
  have hmul : modp_Mul.f k p a t = some ((a * t) % p, 0) := by
   unfold modp_Mul.f
   rw [bind_of (of_modp p k (by omega)), if_pos hp]
   refine (if_pos rfl).trans ?_
   refine (bind_of (rest_modp hp1 hp2 a)).trans ?_
   refine (bind_of (rest_modp hp1 hp2 t)).trans ?_
   rw [Int.emod_eq_of_lt ha ha2, Int.emod_eq_of_lt t0 t1, w64 (by omega) (by omega)]
   exact bind_of (rest_modp hp1 hp2 (a * t))
  exact bind_of hmul
end Go.Proofs.Ytojnnfhalpefmaa.P
end

section
namespace Go.Proofs.Ytojnnfhalpefmaa.P
open Go.RowKit Go.Proofs.YtojnnfhalpefmaaW.PrintWords Go.Proofs.Ytojnnfhalpefmaa.M Go.Proofs.Ytojnnfhalpefmaa.H
theorem up_nil (p : Int) : Up p (-1) ([] : List S45) := trivial
theorem checkB_of {p : Int} (hp : primeB p = true) {x : List S45} (hx : Up p (-1) x) : checkB p x = 0 := (if_pos hp).trans ((chkS_up (Int.le_refl _)).2 hx)
theorem up_len {p : Int} {c : List S45} (h : Up p (-1) c) : c.length ≤ 1024 := by
 have := (Col.mk (n := 1024) h (fun t ht => (up_mem h t ht).2.1)).len (by decide)
 omega
def cnt : List S45 → Int → Nat
 | [], _ => 0
 | t :: l, B => if t.f0 < B then cnt l B + 1 else 0
theorem cnt_le : ∀ (l : List S45) (B : Int), cnt l B ≤ l.length
 | [], _ => Nat.le_refl _
 | t :: l, B => by
  have := cnt_le l B
  rw [cnt]
  split
  ·simp only [List.length_cons]; omega
  ·simp only [List.length_cons]; omega
theorem cnt_iff {p : Int} : ∀ {last : Int} {l : List S45} (B : Int) (i : Nat) (hi : i < l.length), Up p last l → (i < cnt l B ↔ l[i].f0 < B)
 | last, t :: l, B, 0, hi, h => by
  rw [cnt]
  show (0 < if t.f0 < B then cnt l B + 1 else 0) ↔ t.f0 < B
  split
  ·rename_i q; exact ⟨fun _ => q, fun _ => by omega⟩
  ·rename_i q; exact ⟨fun q2 => absurd q2 (by omega), fun q2 => absurd q2 q⟩
 | last, t :: l, B, i + 1, hi, h => by
  have hi' : i < l.length := by simpa using hi
  have I := cnt_iff B i hi' h.2.2.2.2
  rw [cnt, List.getElem_cons_succ]
  split
  ·rename_i q
   rw [← I]
   omega
  ·rename_i q
   have := up_mem h.2.2.2.2 _ (List.getElem_mem hi')
   exact ⟨fun q2 => absurd q2 (by omega), fun q2 => absurd q2 (by omega)⟩
theorem cnt_all {p : Int} {l : List S45} (h : Up p (-1) l) : cnt l 1024 = l.length := by
 rcases Nat.eq_zero_or_pos l.length with h0 | h0
 ·have := cnt_le l 1024
  omega
 ·have h1 := (cnt_iff 1024 (l.length - 1) (by omega) h).2 (up_mem h _ (List.getElem_mem _)).2.1
  have := cnt_le l 1024
  omega
theorem bsL_cnt {p : Int} {l : List S45} (hu : Up p (-1) l) {row : Int} (h0 : 0 ≤ row) (h1 : row < 1024) : ∀ (n i j : Nat), j - i = n → i ≤ cnt l row → cnt l row ≤ j → j ≤ l.length → bsL l row i j = cnt l row := by
 intro n
 induction n using Nat.strongRecOn with
 | _ n ih =>
  intro i j hn hi hj hl
  by_cases hij : i < j
  ·have hm : (i + j) / 2 < l.length := by omega
   have hmem := up_mem hu _ (List.getElem_mem hm)
   have hiff := cnt_iff row ((i + j) / 2) hm hu
   have hw : wrap64 ((rd_T45 l (((i + j) / 2 : Nat) : Int)).f0 - row) = l[(i + j) / 2].f0 - row := by
    rw [rdT_nat hm, w64 (by omega) (by omega)]
   by_cases hc : l[(i + j) / 2].f0 < row
   ·rw [bsL_lt hij (by rw [hw]; omega)]
    have := hiff.2 hc
    exact ih (j - ((i + j) / 2 + 1)) (by omega) _ _ rfl (by omega) hj hl
   ·rw [bsL_ge hij (by rw [hw]; omega)]
    have : ¬ (i + j) / 2 < cnt l row := fun q => hc (hiff.1 q)
    exact ih ((i + j) / 2 - i) (by omega) _ _ rfl hi (by omega) (by omega)
  ·rw [bsL_end hij]
   omega
structure Piv (p : Int) (mp : Int → Option Int) (L : List (List S45)) : Prop where
 up : ∀ c ∈ L, Up p (-1) c ∧ 0 < c.length
 at_ : ∀ y j, mp y = some j → 0 ≤ j ∧ j < (L.length : Int) ∧ lastR (rd_L2 L j) = y
 all : ∀ c ∈ L, (mp (lastR c)).isSome = true
inductive Adds (p : Int) (L U : List (List S45)) : List S45 → List S45 → List S45 → List S45 → Prop
 | refl (c x : List S45) : Adds p L U c x c x
 | step {c x c' x' : List S45} (j : Nat) (k : Int) (hj : j < L.length) (h0 : 0 ≤ k) (h1 : k < p) (h : Adds p L U (colAdd p k c (L.getD j [])) (colAdd p k x (U.getD j [])) c' x') : Adds p L U c x c' x'
theorem last_cf {p : Int} {c : List S45} (hu : Up p (-1) c) (hl : 0 < c.length) : 0 ≤ lastR c ∧ lastR c < 1024 ∧ 1 ≤ cf c (lastR c) ∧ cf c (lastR c) < p ∧ (rd_T45 c ((c.length : Int) - 1)).f1 = cf c (lastR c) := by
 have hm : rd_T45 c ((c.length : Int) - 1) ∈ c := by
  rw [show (c.length : Int) - 1 = ((c.length - 1 : Nat) : Int) by omega, rdT_nat (by omega)]
  exact List.getElem_mem _
 have h1 := up_mem hu _ hm
 have h2 := cf_mem hu _ hm
 unfold lastR
 rw [h2]
 exact ⟨by omega, h1.2.1, h1.2.2.1, h1.2.2.2, rfl⟩
theorem up_le_last {p : Int} : ∀ {last : Int} {l : List S45}, Up p last l → ∀ t ∈ l, t.f0 ≤ lastR l
 | last, [], _, t, h => by cases h
 | last, a :: l, hu, t, h => by
  have hl : lastR (a :: l) = if l.length = 0 then a.f0 else lastR l := by
   unfold lastR
   have e : (((a :: l).length : Int) - 1) = (l.length : Int) := by simp
   rw [e, rdT_nat (by simp)]
   cases l with
   | nil => rfl
   | cons b l =>
    rw [if_neg (by simp)]
    have e2 : (((b :: l).length : Int) - 1) = (l.length : Int) := by simp
    rw [e2, rdT_nat (by simp)]
    rfl
  rw [hl]
  rcases List.mem_cons.1 h with rfl | h
  ·cases l with
   | nil => exact Int.le_refl _
   | cons b l =>
    rw [if_neg (by simp)]
    have h1 := up_le_last hu.2.2.2.2 b (by simp)
    have h2 := hu.2.2.2.2.1
    omega
  ·have := up_le_last hu.2.2.2.2 t h
   cases l with
   | nil => cases h
   | cons b l => rw [if_neg (by simp)]; exact this
theorem cf_above {p last : Int} {c : List S45} (hu : Up p last c) {y : Int} (hy : lastR c < y) : cf c y = 0 := by
 by_cases h : cf c y = 0
 ·exact h
 ·obtain ⟨t, ht, e⟩ := cf_pos h
  have := up_le_last hu t ht
  omega
section
variable {p : Int} (hp : primeB p = true) {mp : Int → Option Int} {L U : List (List S45)} (hP : Piv p mp L) (hU : U.length = L.length) (hUu : ∀ x ∈ U, Up p (-1) x)
include hp hP hU hUu
theorem clear_spec : ∀ (B : Nat), B ≤ 1024 → ∀ (c x : List S45), Up p (-1) c → Up p (-1) x → (∀ y, (B : Int) ≤ y → (mp y).isSome = true → cf c y = 0) →
  ∃ c' x', (∀ k, B + 40 ≤ k → clearL p mp L U k c x ((cnt c B : Int) - 1) = some (c', x')) ∧ Up p (-1) c' ∧ Up p (-1) x' ∧ (∀ y, (mp y).isSome = true → cf c' y = 0) ∧ Adds p L U c x c' x' := by
 obtain ⟨hp1, hp2⟩ := primeB_ge hp
 intro B
 induction B using Nat.strongRecOn with
 | _ B ih =>
  intro hB c x hc hx hcl
  have hlen := up_len hc
  rcases Nat.eq_zero_or_pos (cnt c B) with h0 | h0
  ·refine ⟨c, x, fun k hk => ?_, hc, hx, fun y hy => ?_, .refl _ _⟩
   ·obtain ⟨k, rfl, _⟩ := ex_succ (show 0 + 1 ≤ k by omega)
    rw [clearL, if_neg (by omega)]
   ·by_cases hyB : (B : Int) ≤ y
    ·exact hcl y hyB hy
    ·by_cases hz : cf c y = 0
     ·exact hz
     ·obtain ⟨t, ht, e⟩ := cf_pos hz
      obtain ⟨i, hi, rfl⟩ := List.mem_iff_getElem.1 ht
      have := (cnt_iff (B : Int) i hi hc).2 (by omega)
      omega
  ·have hcnt := cnt_le c B
   obtain ⟨i, hi⟩ : ∃ i, cnt c B = i + 1 := ⟨cnt c B - 1, by omega⟩
   have hil : i < c.length := by omega
   obtain ⟨t, ht⟩ : ∃ t, c[i] = t := ⟨_, rfl⟩
   have htm : t ∈ c := by rw [← ht]; exact List.getElem_mem _
   have htu := up_mem hc t htm
   have htB : t.f0 < B := by rw [← ht]; exact (cnt_iff (B : Int) i hil hc).1 (by omega)
   have htc := cf_mem hc t htm
   -- between the row and B there is nothing
   have between : ∀ y, t.f0 < y → (mp y).isSome = true → cf c y = 0 := fun y hy hs => by
    by_cases hyB : (B : Int) ≤ y
    ·exact hcl y hyB hs
    ·by_cases hz : cf c y = 0
     ·exact hz
     ·obtain ⟨s, hsm, e⟩ := cf_pos hz
      obtain ⟨j, hj, rfl⟩ := List.mem_iff_getElem.1 hsm
      have h1 := (cnt_iff (B : Int) j hj hc).2 (by omega)
      have h2 := (cnt_iff c[j].f0 i hil hc).2 (by rw [ht]; omega)
      have h3 : ¬ j < cnt c c[j].f0 := fun q => by have := (cnt_iff c[j].f0 j hj hc).1 q; omega
      omega
   have hrow : rowOk t.f0 := ⟨by omega, by omega⟩
   have hcast : ((cnt c B : Int) - 1) = (i : Int) := by omega
   obtain ⟨R, hR⟩ : ∃ R : Nat, t.f0 = (R : Int) := ⟨t.f0.toNat, by omega⟩
   cases hm : mp t.f0 with
   | none =>
    obtain ⟨c', x', e1, e2, e3, e4, e5⟩ := ih R (by omega) (by omega) c x hc hx (fun y hy hs => by
     by_cases hyr : y = t.f0
     ·rw [hyr, hm] at hs; cases hs
     ·exact between y (by omega) hs)
    refine ⟨c', x', fun k hk => ?_, e2, e3, e4, e5⟩
    obtain ⟨k, rfl, _⟩ := ex_succ (show 0 + 1 ≤ k by omega)
    rw [clearL, hcast, if_pos (by omega), rdT_nat hil, ht, if_pos ⟨by omega, by omega, hrow⟩, hm]
    simp only
    rw [bsL_cnt hc (row := t.f0) (by omega) (by omega) _ 0 c.length rfl (Nat.zero_le _) (cnt_le _ _) (Nat.le_refl _), w64 (by omega) (by have := cnt_le c t.f0; omega), hR]
    exact e1 k (by omega)
   | some j =>
    obtain ⟨j0, j1, jl⟩ := hP.at_ _ _ hm
    obtain ⟨m, rfl⟩ : ∃ m : Nat, j = (m : Int) := ⟨j.toNat, by omega⟩
    have hml : m < L.length := by omega
    have hmu : m < U.length := by omega
    have eL : rd_L2 L (m : Int) = L.getD m [] := by simp [rd_L2]
    have eU : rd_L2 U (m : Int) = U.getD m [] := by simp [rd_L2]
    obtain ⟨low, hlow⟩ : ∃ low, L.getD m [] = low := ⟨_, rfl⟩
    obtain ⟨uj, huj⟩ : ∃ uj, U.getD m [] = uj := ⟨_, rfl⟩
    have hlm : low ∈ L := by rw [← hlow, List.getD_eq_getElem?_getD, List.getElem?_eq_getElem hml]; exact List.getElem_mem _
    have hum : uj ∈ U := by rw [← huj, List.getD_eq_getElem?_getD, List.getElem?_eq_getElem hmu]; exact List.getElem_mem _
    obtain ⟨lu, ll⟩ := hP.up low hlm
    have luj := hUu uj hum
    rw [eL, hlow] at jl
    obtain ⟨b0, b1, b2, b3, b4⟩ := last_cf lu ll
    rw [jl] at b2 b3 b4
    obtain ⟨q, q0, q1, q2, q3⟩ := div_spec hp (a := t.f1) (b := cf low t.f0) (by omega) (by omega) b2 b3
    have qne : q ≠ 0 := by
     rintro rfl
     rw [Int.zero_mul, Int.zero_emod] at q2
     omega
    have hk0 : 0 ≤ p - q := by omega
    have hk1 : p - q < p := by omega
    have hc' := colAdd_up hp1 hp2 hk0 hk1 hc lu
    have hx' := colAdd_up hp1 hp2 hk0 hk1 hx luj
    have hcf := fun r => colAdd_cf hp1 hp2 hk0 hk1 hc lu r
    have ll2 := up_len lu
    have lj2 := up_len luj
    have lx2 := up_len hx
    have lc' := up_len hc'
    obtain ⟨c', x', e1, e2, e3, e4, e5⟩ := ih R (by omega) (by omega) _ _ hc' hx' (fun y hy hs => by
     rw [hcf]
     by_cases hyr : y = t.f0
     ·rw [hyr, htc]
      obtain ⟨d, hd⟩ := ed (q * cf low t.f0) p
      rw [q2] at hd
      rw [em (y := 0) (cf low t.f0 - d) (by rw [hd]; grind), Int.zero_emod]
     ·rw [between y (by omega) hs, cf_above lu (by omega)]
      simp)
    refine ⟨c', x', fun k hk => ?_, e2, e3, e4, .step m (p - q) hml hk0 hk1 (by rw [hlow, huj]; exact e5)⟩
    obtain ⟨k, rfl, _⟩ := ex_succ (show 0 + 1 ≤ k by omega)
    rw [clearL, hcast, if_pos (by omega), rdT_nat hil, ht, if_pos ⟨by omega, by omega, hrow⟩, hm]
    simp only
    rw [eL, eU, hlow, huj, b4]
    refine (if_pos ⟨by omega, by omega, by omega, ll⟩).trans ?_
    refine (bind_of (q3 k (by omega))).trans ?_
    have hw : wrap64 (p - q) = p - q := w64 (by omega) (by omega)
    rw [hw]
    refine (bind_of (plus_col (by omega) (by omega))).trans ?_
    refine (bind_of (plus_col (by omega) (by omega))).trans ?_
    refine (if_pos (by omega)).trans ?_
    rw [bsL_cnt hc' (row := t.f0) (by omega) (by omega) _ 0 _ rfl (Nat.zero_le _) (cnt_le _ _) (Nat.le_refl _), w64 (by omega) (by have := cnt_le (colAdd p (p - q) c low) t.f0; omega), hR]
    exact e1 k (by omega)
theorem clear_all (c x : List S45) (hc : Up p (-1) c) (hx : Up p (-1) x) (hrow : ∀ y, 1024 ≤ y → mp y = none) :
  ∃ c' x', (∀ k, 1064 ≤ k → clearL p mp L U k c x (wrap64 ((c.length : Int) - 1)) = some (c', x')) ∧ Up p (-1) c' ∧ Up p (-1) x' ∧ (∀ y, (mp y).isSome = true → cf c' y = 0) ∧ Adds p L U c x c' x' := by
 have hl := up_len hc
 obtain ⟨c', x', e1, e2⟩ := clear_spec hp hP hU hUu 1024 (Nat.le_refl _) c x hc hx (fun y hy hs => by rw [hrow y (by omega)] at hs; cases hs)
 refine ⟨c', x', fun k hk => ?_, e2⟩
 have := e1 k (by omega)
 rw [show ((1024 : Nat) : Int) = 1024 from rfl, cnt_all hc] at this
 rw [w64 (by omega) (by omega)]
 exact this
end
end Go.Proofs.Ytojnnfhalpefmaa.P
end

section
namespace Go.Proofs.Ytojnnfhalpefmaa.P
open Go.RowKit Go.Proofs.YtojnnfhalpefmaaW.PrintWords Go.Proofs.Ytojnnfhalpefmaa.M Go.Proofs.Ytojnnfhalpefmaa.H
inductive Sp (p : Int) (L : List (List S45)) : (Int → Int) → Prop
 | zero {v : Int → Int} (h : ∀ r, ∃ q, v r = p * q) : Sp p L v
 | add {u v : Int → Int} (c : List S45) (k : Int) (hc : c ∈ L) (hu : Sp p L u) (h : ∀ r, ∃ q, v r = u r + k * cf c r + p * q) : Sp p L v
theorem Sp.congr {p : Int} {L : List (List S45)} {v w : Int → Int} (h : Sp p L v) (e : ∀ r, ∃ q, w r = v r + p * q) : Sp p L w := by
 cases h with
 | zero h => exact .zero (fun r => by obtain ⟨q, hq⟩ := h r; obtain ⟨q', hq'⟩ := e r; exact ⟨q + q', by grind⟩)
 | add c k hc hu h => exact .add c k hc hu (fun r => by obtain ⟨q, hq⟩ := h r; obtain ⟨q', hq'⟩ := e r; exact ⟨q + q', by grind⟩)
theorem Sp.plus {p : Int} {L : List (List S45)} {u v : Int → Int} (hu : Sp p L u) (hv : Sp p L v) : Sp p L (fun r => u r + v r) := by
 induction hv with
 | zero h => exact hu.congr (fun r => by obtain ⟨q, hq⟩ := h r; exact ⟨q, by grind⟩)
 | add c k hc _ h ih => exact .add c k hc ih (fun r => by obtain ⟨q, hq⟩ := h r; exact ⟨q, by grind⟩)
theorem Sp.smul {p : Int} {L : List (List S45)} {v : Int → Int} (m : Int) (hv : Sp p L v) : Sp p L (fun r => m * v r) := by
 induction hv with
 | zero h => exact .zero (fun r => by obtain ⟨q, hq⟩ := h r; exact ⟨m * q, by grind⟩)
 | add c k hc _ h ih => exact .add c (m * k) hc ih (fun r => by obtain ⟨q, hq⟩ := h r; exact ⟨m * q, by grind⟩)
theorem Sp.mem {p : Int} {L : List (List S45)} {c : List S45} (hc : c ∈ L) : Sp p L (cf c) := .add c 1 hc (.zero (v := fun _ => 0) (fun _ => ⟨0, by simp⟩)) (fun r => ⟨0, by simp⟩)
theorem Sp.trans {p : Int} {L L' : List (List S45)} {v : Int → Int} (h : Sp p L v) (hl : ∀ c ∈ L, Sp p L' (cf c)) : Sp p L' v := by
 induction h with
 | zero h => exact .zero h
 | add c k hc _ h ih => exact (ih.plus ((hl c hc).smul k)).congr h
theorem Sp.mono {p : Int} {L L' : List (List S45)} {v : Int → Int} (h : Sp p L v) (hl : ∀ c ∈ L, c ∈ L') : Sp p L' v := h.trans (fun c hc => .mem (hl c hc))
theorem Sp.minus {p : Int} {L : List (List S45)} {u v : Int → Int} (hu : Sp p L u) (hv : Sp p L v) : Sp p L (fun r => u r - v r) := (hu.plus (hv.smul (-1))).congr (fun r => ⟨0, by grind⟩)
theorem getD_mem {L : List (List S45)} {j : Nat} (h : j < L.length) : L.getD j [] ∈ L := by
 rw [List.getD_eq_getElem?_getD, List.getElem?_eq_getElem h]; exact List.getElem_mem _
section
variable {p : Int} (hp : primeB p = true) {L U : List (List S45)} (hL : ∀ c ∈ L, Up p (-1) c) (hU : U.length = L.length) (hUu : ∀ x ∈ U, Up p (-1) x)
include hp hL hU hUu
theorem adds_sp {c x c' x' : List S45} (h : Adds p L U c x c' x') : Up p (-1) c → Up p (-1) x → Sp p L (fun r => cf c r - cf c' r) := by
 obtain ⟨hp1, hp2⟩ := primeB_ge hp
 induction h with
 | refl c x => intro _ _; exact .zero (fun r => ⟨0, by simp⟩)
 | step j k hj h0 h1 _ ih =>
  intro hc hx
  have hl := hL _ (getD_mem hj)
  have hu := hUu _ (getD_mem (L := U) (j := j) (by omega))
  have I := ih (colAdd_up hp1 hp2 h0 h1 hc hl) (colAdd_up hp1 hp2 h0 h1 hx hu)
  exact .add _ (-k) (getD_mem hj) I (fun r => by
   rw [colAdd_cf hp1 hp2 h0 h1 hc hl]
   obtain ⟨q, hq⟩ := ed (cf _ r + k * cf (L.getD j []) r) p
   exact ⟨q, by rw [hq]; grind⟩)
theorem adds_topL {c x c' x' : List S45} (h : Adds p L U c x c' x') {y : Int} (hy : ∀ u ∈ L, ∀ r, y ≤ r → cf u r = 0) : Up p (-1) c → Up p (-1) x → (∀ r, y ≤ r → cf c' r = cf c r) := by
 obtain ⟨hp1, hp2⟩ := primeB_ge hp
 induction h with
 | refl c x => intro _ _ r _; rfl
 | @step c x _ _ j k hj h0 h1 _ ih =>
  intro hc hx r hr
  have hlm := getD_mem hj
  have hl := hL _ hlm
  have hu := hUu _ (getD_mem (L := U) (j := j) (by omega))
  rw [ih (colAdd_up hp1 hp2 h0 h1 hc hl) (colAdd_up hp1 hp2 h0 h1 hx hu) r hr, colAdd_cf hp1 hp2 h0 h1 hc hl, hy _ hlm r hr, Int.mul_zero, Int.add_zero]
  have := cf_range (show 0 < p by omega) r hc
  exact Int.emod_eq_of_lt this.1 this.2
end
theorem lastR_eq {p : Int} {c : List S45} (hc : Up p (-1) c) {y : Int} (h1 : cf c y ≠ 0) (h2 : ∀ r, y < r → cf c r = 0) : 0 < c.length ∧ lastR c = y := by
 obtain ⟨t, ht, e⟩ := cf_pos h1
 have hl : 0 < c.length := List.length_pos_of_mem ht
 obtain ⟨a1, a2, a3, a4, _⟩ := last_cf hc hl
 refine ⟨hl, ?_⟩
 have h3 := up_le_last hc t ht
 by_cases h4 : y < lastR c
 ·have := h2 _ h4
  omega
 ·omega
theorem piv_none {p : Int} {mp : Int → Option Int} {L : List (List S45)} (h : Piv p mp L) : ∀ y, 1024 ≤ y → mp y = none := fun y hy => by
 cases hm : mp y with
 | none => rfl
 | some j =>
  obtain ⟨j0, j1, jl⟩ := h.at_ _ _ hm
  have hmem : rd_L2 L j ∈ L := by
   obtain ⟨m, rfl⟩ : ∃ m : Nat, j = (m : Int) := ⟨j.toNat, by omega⟩
   rw [rdL_nat (by omega)]
   exact List.getElem_mem _
  obtain ⟨hu, hl⟩ := h.up _ hmem
  have := last_cf hu hl
  omega
theorem piv_put {p : Int} {mp : Int → Option Int} {L : List (List S45)} (h : Piv p mp L) {c : List S45} (hc : Up p (-1) c) (hl : 0 < c.length) : Piv p (fun y => if y = lastR c then some (L.length : Int) else mp y) (L ++ [c]) := by
 refine ⟨fun d hd => ?_, fun y j hj => ?_, fun d hd => ?_⟩
 ·rcases List.mem_append.1 hd with hd | hd
  ·exact h.up d hd
  ·rw [List.mem_singleton.1 hd]; exact ⟨hc, hl⟩
 ·replace hj : (if y = lastR c then some (L.length : Int) else mp y) = some j := hj
  by_cases e : y = lastR c
  ·rw [if_pos e] at hj
   cases hj
   refine ⟨by omega, by rw [List.length_append, List.length_singleton]; omega, ?_⟩
   rw [rdL_nat (by simp)]
   simp [e]
  ·rw [if_neg e] at hj
   obtain ⟨j0, j1, jl⟩ := h.at_ _ _ hj
   refine ⟨j0, by simp; omega, ?_⟩
   obtain ⟨m, rfl⟩ : ∃ m : Nat, j = (m : Int) := ⟨j.toNat, by omega⟩
   rw [rdL_nat (by omega)] at jl
   rw [rdL_nat (by simp; omega), List.getElem_append_left (by omega)]
   exact jl
 ·show (if lastR d = lastR c then some (L.length : Int) else mp (lastR d)).isSome = true
  rcases List.mem_append.1 hd with hd | hd
  ·split
   ·rfl
   ·exact h.all d hd
  ·rw [List.mem_singleton.1 hd, if_pos rfl]; rfl
end Go.Proofs.Ytojnnfhalpefmaa.P
end

section
namespace Go.Proofs.Ytojnnfhalpefmaa.P
open Go.RowKit Go.Proofs.YtojnnfhalpefmaaW.PrintWords Go.Proofs.Ytojnnfhalpefmaa.M Go.Proofs.Ytojnnfhalpefmaa.H
structure Red (p : Int) (K : List (List S45)) : Prop where
 up : ∀ c ∈ K, Up p (-1) c ∧ 0 < c.length ∧ cf c (lastR c) = 1
 asc : K.Pairwise (fun a b => lastR a < lastR b)
 cross : ∀ c ∈ K, ∀ d ∈ K, lastR c ≠ lastR d → cf c (lastR d) = 0
structure TInv (p : Int) (P : List (List S45)) (s : St) : Prop where
 piv : Piv p s.mp s.L
 ulen : s.U.length = s.L.length
 uup : ∀ x ∈ s.U, Up p (-1) x
 red : Red p s.L
 lows : s.L.map lastR = P.map lastR
 zed : s.Z = []
 span1 : ∀ c ∈ P, Sp p s.L (cf c)
 span2 : ∀ c ∈ s.L, Sp p P (cf c)
theorem tidy_step {p : Int} (hp : primeB p = true) {P : List (List S45)} {s : St} (h : TInv p P s) {c : List S45} (hc : Up p (-1) c) (hl : 0 < c.length) (hP : ∀ d ∈ P, lastR d < lastR c) :
  ∃ c' x' t d, (∀ k, 1064 ≤ k → clearL p s.mp s.L s.U k c [] (wrap64 ((c.length : Int) - 1)) = some (c', x')) ∧ 0 < c'.length ∧ (∀ k, 30 ≤ k → modp_Inv.f k p (rd_T45 c' ((c'.length : Int) - 1)).f1 = some (t, 0)) ∧
   column_plus.f p [] t c' = some d ∧ 0 < d.length ∧ rowOk (lastR d) ∧ TInv p (P ++ [c]) (s.put d []) := by
 obtain ⟨hp1, hp2⟩ := primeB_ge hp
 obtain ⟨c', x', e1, e2, e3, e4, e5⟩ := clear_all hp h.piv h.ulen h.uup c [] hc (up_nil p) (piv_none h.piv)
 have hLu : ∀ d ∈ s.L, Up p (-1) d := fun d hd => (h.piv.up d hd).1
 have hsp := adds_sp hp hLu h.ulen h.uup e5 hc (up_nil p)
 have hlow : ∀ d ∈ s.L, lastR d < lastR c := fun d hd => by
  have : lastR d ∈ P.map lastR := by rw [← h.lows]; exact List.mem_map_of_mem hd
  obtain ⟨a, ha, e⟩ := List.mem_map.1 this
  rw [← e]
  exact hP a ha
 have htop := adds_topL hp hLu h.ulen h.uup e5 (y := lastR c) (fun u hu r hr => cf_above (hLu u hu) (by have := hlow u hu; omega)) hc (up_nil p)
 obtain ⟨b0, b1, b2, b3, _⟩ := last_cf hc hl
 obtain ⟨cl, cr⟩ := lastR_eq e2 (y := lastR c) (by rw [htop _ (Int.le_refl _)]; omega) (fun r hr => by rw [htop r (by omega)]; exact cf_above hc hr)
 obtain ⟨d0, d1, d2, d3, d4⟩ := last_cf e2 cl
 obtain ⟨t, t0, t1, t2, t3⟩ := inv_spec hp d2 d3
 have hd := colAdd_up hp1 hp2 t0 t1 (up_nil p) e2
 have hdc := fun r => colAdd_cf hp1 hp2 t0 t1 (up_nil p) e2 r
 have hcl := up_len e2
 have hd1 : cf (colAdd p t [] c') (lastR c) = 1 := by
  rw [hdc, cf, ← cr, Int.zero_add]
  exact t2
 obtain ⟨dl, dr⟩ := lastR_eq hd (y := lastR c) (by omega) (fun r hr => by
  rw [hdc, cf, cf_above e2 (by omega)]; simp)
 have hd0 : ∀ y, (s.mp y).isSome = true → cf (colAdd p t [] c') y = 0 := fun y hy => by rw [hdc, e4 y hy, cf]; simp
 refine ⟨c', x', t, colAdd p t [] c', e1, cl, fun k hk => by rw [d4]; exact t3 k hk, plus_col (by omega) (by simp; omega), dl, ⟨by omega, by omega⟩, ?_⟩
 have hspd : Sp p (s.L ++ [colAdd p t [] c']) (cf c') := by
  -- c' = lowcoef * d
  refine ((Sp.mem (p := p) (c := colAdd p t [] c') (L := s.L ++ [colAdd p t [] c']) (by simp)).smul (cf c' (lastR c'))).congr (fun r => ?_)
  rw [hdc, cf]
  obtain ⟨q1, h1⟩ := ed (0 + t * cf c' r) p
  obtain ⟨q2, h2⟩ := ed (t * cf c' (lastR c')) p
  rw [t2] at h2
  exact ⟨cf c' (lastR c') * q1 - q2 * cf c' r, by rw [h1]; grind⟩
 refine ⟨piv_put h.piv hd dl, ?_, fun x hx => ?_, ⟨fun a ha => ?_, ?_, fun a ha b hb hne => ?_⟩, ?_, ?_, fun a ha => ?_, fun a ha => ?_⟩
 ·show (s.U ++ [[]]).length = (s.L ++ [_]).length
  simp [h.ulen]
 ·rcases List.mem_append.1 hx with hx | hx
  ·exact h.uup x hx
  ·rw [List.mem_singleton.1 hx]; exact up_nil p
 ·rcases List.mem_append.1 ha with ha | ha
  ·exact h.red.up a ha
  ·rw [List.mem_singleton.1 ha]
   exact ⟨hd, dl, by rw [dr]; exact hd1⟩
 ·show (s.L ++ [_]).Pairwise _
  rw [List.pairwise_append]
  refine ⟨h.red.asc, List.pairwise_singleton _ _, fun a ha b hb => ?_⟩
  rw [List.mem_singleton.1 hb, dr]
  exact hlow a ha
 ·rcases List.mem_append.1 ha with ha | ha
  ·rcases List.mem_append.1 hb with hb | hb
   ·exact h.red.cross a ha b hb hne
   ·rw [List.mem_singleton.1 hb, dr]
    exact cf_above (hLu a ha) (hlow a ha)
  ·rw [List.mem_singleton.1 ha] at hne ⊢
   rcases List.mem_append.1 hb with hb | hb
   ·exact hd0 _ (h.piv.all b hb)
   ·rw [List.mem_singleton.1 hb] at hne
    exact absurd rfl hne
 ·show (s.L ++ [_]).map lastR = (P ++ [c]).map lastR
  rw [List.map_append, List.map_append, h.lows, List.map_singleton, List.map_singleton, dr]
 ·exact h.zed
 ·show Sp p (s.L ++ [_]) (cf a)
  rcases List.mem_append.1 ha with ha | ha
  ·exact (h.span1 a ha).mono (fun b hb => by simp [hb])
  ·rw [List.mem_singleton.1 ha]
   exact ((hsp.mono (L' := s.L ++ [colAdd p t [] c']) (fun b hb => by simp [hb])).plus hspd).congr (fun r => ⟨0, by simp⟩)
 ·rcases List.mem_append.1 ha with ha | ha
  ·exact (h.span2 a ha).mono (fun b hb => by simp [hb])
  ·rw [List.mem_singleton.1 ha]
   have q1 : Sp p (P ++ [c]) (fun r => cf c r - cf c' r) := hsp.trans (fun a ha => (h.span2 a ha).mono (fun b hb => by simp [hb]))
   have q2 : Sp p (P ++ [c]) (cf c') := ((Sp.mem (c := c) (L := P ++ [c]) (by simp)).minus q1).congr (fun r => ⟨0, by grind⟩)
   refine (q2.smul t).congr (fun r => ?_)
   rw [hdc, cf]
   obtain ⟨q, hq⟩ := ed (0 + t * cf c' r) p
   exact ⟨-q, by rw [hq]; grind⟩
theorem tinv0 (p : Int) : TInv p [] st0 :=
 ⟨⟨fun c hc => (by cases hc), fun y j hj => (by cases hj), fun c hc => (by cases hc)⟩, rfl, fun x hx => (by cases hx), ⟨fun c hc => (by cases hc), List.Pairwise.nil, fun c hc => (by cases hc)⟩, rfl, rfl, fun c hc => (by cases hc), fun c hc => (by cases hc)⟩
end Go.Proofs.Ytojnnfhalpefmaa.P
end

section
namespace Go.Proofs.Ytojnnfhalpefmaa.P
open Go.RowKit Go.Proofs.YtojnnfhalpefmaaW.PrintWords Go.Proofs.Ytojnnfhalpefmaa.M Go.Proofs.Ytojnnfhalpefmaa.H
theorem longest_le {n : Nat} : ∀ {L : List (List S45)}, (∀ c ∈ L, c.length ≤ n) → longest L ≤ n
 | [], _ => Nat.zero_le _
 | c :: L, h => by
  have := longest_le (L := L) (fun d hd => h d (by simp [hd]))
  have := h c (by simp)
  rw [longest]
  omega
theorem checkAllB_ok {p : Int} (hp : primeB p = true) : ∀ {L : List (List S45)}, (∀ c ∈ L, Up p (-1) c) → checkAllB p L = 0
 | [], _ => rfl
 | c :: L, h => by
  rw [checkAllB, if_pos (checkB_of hp (h c (by simp)))]
  exact checkAllB_ok hp (fun d hd => h d (by simp [hd]))
theorem checkAll_ok {p : Int} (hp : primeB p = true) {L : List (List S45)} (h : ∀ c ∈ L, Up p (-1) c) (hL : L.length ≤ 1024) (k : Nat) (hk : 3400 ≤ k) : column_checkAll.f k p L = some 0 := by
 have hll : longest L ≤ 1024 := longest_le (fun c hc => up_len (h c hc))
 rw [checkAll_col p L (by omega) (fun c hc => by have := up_len (h c hc); omega) k (by omega), checkAllB_ok hp h]
theorem begin_ok {p : Int} (hp : primeB p = true) {L : List (List S45)} (h : ∀ c ∈ L, Up p (-1) c) (hL : L.length ≤ 1024) (k : Nat) (hk : 3400 ≤ k) : column_begin.f k p L = some 0 := by
 unfold column_begin.f
 rw [if_neg (by omega), bind_of (prime_modp p k (by omega)), if_pos hp, bind_of (checkAll_ok hp h hL k hk)]
end Go.Proofs.Ytojnnfhalpefmaa.P
end

section
namespace Go.Proofs.Ytojnnfhalpefmaa.P
open Go.Proofs.Ytojnnfhalpefmaa.M Go.Proofs.Ytojnnfhalpefmaa.H Go.RowKit
def exRows : List S68 := [⟨5, [], 0⟩, ⟨4, [⟨0, 5⟩], 8⟩, ⟨5, [⟨0, 5⟩], 1⟩, ⟨5, [⟨1024, 1⟩], 1⟩, ⟨5, [⟨1023, 4⟩], 0⟩, ⟨5, [⟨(-1), 1⟩], 1⟩, ⟨5, [⟨1, 0⟩], 1⟩, ⟨5, [⟨1, (-1)⟩], 1⟩, ⟨5, [⟨1, 1⟩, ⟨1, 1⟩], 6⟩, ⟨5, [⟨2, 1⟩, ⟨1, 5⟩], 1⟩, ⟨5, [⟨2, 1⟩, ⟨1, 1⟩, ⟨0, 9⟩], 6⟩, ⟨2, [⟨0, 1⟩], 0⟩, ⟨2, [⟨0, 2⟩], 1⟩]
def bodyX (k : Nat) (x111 : List S68) (x113 : Int) (R_ : Option Bool) : Option Bool := ((column_Add.f k ((rd_T68 x111 x113).f0) ((rd_T68 x111 x113).f1) 1 ([] : List (S45))).bind fun bt224 => ((column_Add.f k ((rd_T68 x111 x113).f0) ([] : List (S45)) 0 ((rd_T68 x111 x113).f1)).bind fun bt228 => ((column_Scale.f k ((rd_T68 x111 x113).f0) ((rd_T68 x111 x113).f1) 0).bind fun bt232 => ((column_Dot.f k ((rd_T68 x111 x113).f0) ((rd_T68 x111 x113).f1) ((rd_T68 x111 x113).f1)).bind fun bt236 => ((column_Dense.f k ((rd_T68 x111 x113).f0) ((rd_T68 x111 x113).f1) 1024).bind fun bt238 => ((column_Combine.f k ((rd_T68 x111 x113).f0) ([] : List (List (S45))) ((rd_T68 x111 x113).f1)).bind fun bt242 => ((column_Combine.f k ((rd_T68 x111 x113).f0) (([(rd_T68 x111 x113).f1] : List (List (S45)))) ([] : List (S45))).bind fun bt249 => ((column_Rest.f k ((rd_T68 x111 x113).f0) ([] : List (List (S45))) ((rd_T68 x111 x113).f1)).bind fun bt253 => ((column_Basis.f k ((rd_T68 x111 x113).f0) (([(rd_T68 x111 x113).f1] : List (List (S45))))).bind fun bt263 => ((column_KernelB.f k ((rd_T68 x111 x113).f0) (([[], (rd_T68 x111 x113).f1] : List (List (S45))))).bind fun bt270 => (if ((rd_T68 x111 x113).f2) = 0 then (if (((rd_T68 x111 x113).f1).length : Int) > 0 then ((column_Check.f k ((rd_T68 x111 x113).f0) ((rd_T68 x111 x113).f1)).bind fun t274 => (if t274 = ((rd_T68 x111 x113).f2) then (if bt224.2 = ((rd_T68 x111 x113).f2) then (if bt228.2 = ((rd_T68 x111 x113).f2) then (if bt232.2 = ((rd_T68 x111 x113).f2) then (if bt236.2 = ((rd_T68 x111 x113).f2) then (if bt238.2 = ((rd_T68 x111 x113).f2) then (if bt242.2 = 10 then (if bt249.2 = ((rd_T68 x111 x113).f2) then (if bt253.2.2 = ((rd_T68 x111 x113).f2) then (if bt263.2 = ((rd_T68 x111 x113).f2) then (if bt270.2 = ((rd_T68 x111 x113).f2) then R_ else (some false)) else (some false)) else (some false)) else (some false)) else (some false)) else (some false)) else (some false)) else (some false)) else (some false)) else (some false)) else (some false))) else ((column_Check.f k ((rd_T68 x111 x113).f0) ((rd_T68 x111 x113).f1)).bind fun t275 => (if t275 = ((rd_T68 x111 x113).f2) then (if bt224.2 = ((rd_T68 x111 x113).f2) then (if bt228.2 = ((rd_T68 x111 x113).f2) then (if bt232.2 = ((rd_T68 x111 x113).f2) then (if bt236.2 = ((rd_T68 x111 x113).f2) then (if bt238.2 = ((rd_T68 x111 x113).f2) then (if bt242.2 = ((rd_T68 x111 x113).f2) then (if bt249.2 = ((rd_T68 x111 x113).f2) then (if bt253.2.2 = ((rd_T68 x111 x113).f2) then (if bt263.2 = ((rd_T68 x111 x113).f2) then (if bt270.2 = ((rd_T68 x111 x113).f2) then R_ else (some false)) else (some false)) else (some false)) else (some false)) else (some false)) else (some false)) else (some false)) else (some false)) else (some false)) else (some false)) else (some false)))) else ((column_Check.f k ((rd_T68 x111 x113).f0) ((rd_T68 x111 x113).f1)).bind fun t276 => (if t276 = ((rd_T68 x111 x113).f2) then (if bt224.2 = ((rd_T68 x111 x113).f2) then (if bt228.2 = ((rd_T68 x111 x113).f2) then (if bt232.2 = ((rd_T68 x111 x113).f2) then (if bt236.2 = ((rd_T68 x111 x113).f2) then (if bt238.2 = ((rd_T68 x111 x113).f2) then (if bt242.2 = ((rd_T68 x111 x113).f2) then (if bt249.2 = ((rd_T68 x111 x113).f2) then (if bt253.2.2 = ((rd_T68 x111 x113).f2) then (if bt263.2 = ((rd_T68 x111 x113).f2) then (if bt270.2 = ((rd_T68 x111 x113).f2) then R_ else (some false)) else (some false)) else (some false)) else (some false)) else (some false)) else (some false)) else (some false)) else (some false)) else (some false)) else (some false)) else (some false))))))))))))))
def tailX (k : Nat) (x1 : List S45) (x2 : List (List S45)) (Q_ : Option (List (List S45) × Int)) : Option Bool := ((column_Combine.f k 4 x2 ([] : List (S45))).bind fun bt277 => ((column_Rest.f k 4 x2 x1).bind fun bt281 => ((column_Basis.f k 4 x2).bind fun bt288 => ((column_Rank.f k 4 ([] : List (List (S45)))).bind fun bt292 => (if 1024 ≤ (x2.length : Int) then (Q_.bind fun bt299 => ((toruslaw04_exA.f).bind fun t303 => ((column_Rest.f k 5 (([[], t303] : List (List (S45)))) ([] : List (S45))).bind fun bt309 => ((toruslaw04_exA.f).bind fun t316 => ((column_Rest.f k 5 (([t316, (([(⟨3, 2⟩ : S45)] : List (S45))), []] : List (List (S45)))) ([] : List (S45))).bind fun bt325 => (if 1025 ≤ 35184372088832 then ((column_Of.f k 5 (List.replicate 1025 0)).bind fun bt335 => ((column_Of.f k 6 (List.replicate 1025 0)).bind fun bt342 => ((toruslaw04_exA.f).bind fun t346 => ((column_Dense.f k 5 t346 3).bind fun bt349 => ((column_Dense.f k 5 ([] : List (S45)) (-1)).bind fun bt353 => ((column_Dense.f k 5 ([] : List (S45)) 1025).bind fun bt357 => ((toruslaw04_exA.f).bind fun t361 => ((column_Dense.f k 5 t361 4).bind fun bt364 => ((column_Of.f k 7 (([(-1), 7, 4611686018427387904, 0, (-9223372036854775808)] : List Int))).bind fun bt371 => (if bt277.2 = 3 then (if bt281.2.2 = 3 then (if bt288.2 = 3 then (if bt292.2 = 8 then (if bt299.2 = 0 then (if bt309.2.2 = 9 then (if bt325.2.2 = 5 then (if bt335.2 = 3 then (if bt342.2 = 8 then (if bt349.2 = 10 then (if bt353.2 = 10 then (if bt357.2 = 10 then (if bt364.2 = 0 then ((torusref01_Same.f k bt364.1 (([2, 0, 0, 1] : List Int))).bind fun t378 => (if t378 = true then ((toruslaw04_is.f k bt371.1 bt371.2 (([(⟨0, 6⟩ : S45), (⟨2, 4⟩ : S45), (⟨4, 6⟩ : S45)] : List (S45)))).bind fun t382 => (if t382 = true then ((some (([(⟨5, 9⟩ : S45), (⟨(-3), 0⟩ : S45), (⟨5, 8⟩ : S45), (⟨2, (-1)⟩ : S45)] : List (S45)) : List (S45))).bind fun y383 => ((column_Low.f y383).bind fun bt386 => ((column_Low.f ([] : List (S45))).bind fun bt388 => ((toruslaw04_exB.f).bind fun t390 => ((toruslaw04_exA.f).bind fun t393 => ((column_Basis.f k 5 (([t390, t393] : List (List (S45))))).bind fun bt399 => (if bt386.1 = 2 then (if bt386.2 = true then (if bt388.1 = 0 then (if bt388.2 = true then (some false) else ((column_Coef.f k y383 5).bind fun t403 => (if t403 = 9 then ((column_Coef.f k y383 (-3)).bind fun t404 => (if t404 = 0 then ((column_Coef.f k y383 7).bind fun t405 => (if t405 = 0 then (if (bt399.1.length : Int) = 2 then (if 0 < (bt399.1.length : Int) then ((toruslaw04_exA.f).bind fun t407 => ((toruslaw04_is.f k (rd_L2 bt399.1 0) bt399.2 t407).bind fun t410 => (if t410 = true then (if 1 < (bt399.1.length : Int) then ((toruslaw04_is.f k (rd_L2 bt399.1 1) bt399.2 (([(⟨0, 1⟩ : S45), (⟨4, 1⟩ : S45)] : List (S45)))).bind fun t415 => (some t415)) else (none)) else (some false)))) else (none)) else (some false)) else (some false))) else (some false))) else (some false)))) else (some false)) else (some false)) else (some false)))))))) else (some false))) else (some false))) else (some false)) else (some false)) else (some false)) else (some false)) else (some false)) else (some false)) else (some false)) else (some false)) else (some false)) else (some false)) else (some false)) else (some false)) else (some false))))))))))) else (none))))))) else (none))))))
theorem l0_eq (k : Nat) (x1 : List S45) (x2 : List (List S45)) (x111 : List S68) (x112 x113 : Int) : cE.l0 (k + 1) x1 x2 x111 x112 x113 =
  if x113 < x112 then (if 0 ≤ x113 then (if x113 < (x111.length : Int) then bodyX k x111 x113 (cE.l0 k x1 x2 x111 x112 (wrap64 (x113 + 1))) else none) else none) else tailX k x1 x2 (column_KernelB.f k 5 (x2.take 1024)) := rfl
set_option maxRecDepth 100000 in
theorem step0 (x1 : List S45) (x2 : List (List S45)) : cE.l0 6000 x1 x2 exRows 13 0 = cE.l0 5999 x1 x2 exRows 13 1 := by
 rw [show (6000 : Nat) = 5999 + 1 from rfl, l0_eq, if_pos (by decide), if_pos (by decide), if_pos (by decide), show wrap64 ((0 : Int) + 1) = 1 from by kernel_rfl]
 have h : ∀ R : Option Bool, bodyX 5999 exRows 0 R = R := fun R => by kernel_rfl
 exact h _
set_option maxRecDepth 100000 in
theorem step1 (x1 : List S45) (x2 : List (List S45)) : cE.l0 5999 x1 x2 exRows 13 1 = cE.l0 5998 x1 x2 exRows 13 2 := by
 rw [show (5999 : Nat) = 5998 + 1 from rfl, l0_eq, if_pos (by decide), if_pos (by decide), if_pos (by decide), show wrap64 ((1 : Int) + 1) = 2 from by kernel_rfl]
 have h : ∀ R : Option Bool, bodyX 5998 exRows 1 R = R := fun R => by kernel_rfl
 exact h _
set_option maxRecDepth 100000 in
theorem step2 (x1 : List S45) (x2 : List (List S45)) : cE.l0 5998 x1 x2 exRows 13 2 = cE.l0 5997 x1 x2 exRows 13 3 := by
 rw [show (5998 : Nat) = 5997 + 1 from rfl, l0_eq, if_pos (by decide), if_pos (by decide), if_pos (by decide), show wrap64 ((2 : Int) + 1) = 3 from by kernel_rfl]
 have h : ∀ R : Option Bool, bodyX 5997 exRows 2 R = R := fun R => by kernel_rfl
 exact h _
set_option maxRecDepth 100000 in
theorem step3 (x1 : List S45) (x2 : List (List S45)) : cE.l0 5997 x1 x2 exRows 13 3 = cE.l0 5996 x1 x2 exRows 13 4 := by
 rw [show (5997 : Nat) = 5996 + 1 from rfl, l0_eq, if_pos (by decide), if_pos (by decide), if_pos (by decide), show wrap64 ((3 : Int) + 1) = 4 from by kernel_rfl]
 have h : ∀ R : Option Bool, bodyX 5996 exRows 3 R = R := fun R => by kernel_rfl
 exact h _
set_option maxRecDepth 100000 in
theorem step4 (x1 : List S45) (x2 : List (List S45)) : cE.l0 5996 x1 x2 exRows 13 4 = cE.l0 5995 x1 x2 exRows 13 5 := by
 rw [show (5996 : Nat) = 5995 + 1 from rfl, l0_eq, if_pos (by decide), if_pos (by decide), if_pos (by decide), show wrap64 ((4 : Int) + 1) = 5 from by kernel_rfl]
 have h : ∀ R : Option Bool, bodyX 5995 exRows 4 R = R := fun R => by kernel_rfl
 exact h _
set_option maxRecDepth 100000 in
theorem step5 (x1 : List S45) (x2 : List (List S45)) : cE.l0 5995 x1 x2 exRows 13 5 = cE.l0 5994 x1 x2 exRows 13 6 := by
 rw [show (5995 : Nat) = 5994 + 1 from rfl, l0_eq, if_pos (by decide), if_pos (by decide), if_pos (by decide), show wrap64 ((5 : Int) + 1) = 6 from by kernel_rfl]
 have h : ∀ R : Option Bool, bodyX 5994 exRows 5 R = R := fun R => by kernel_rfl
 exact h _
set_option maxRecDepth 100000 in
theorem step6 (x1 : List S45) (x2 : List (List S45)) : cE.l0 5994 x1 x2 exRows 13 6 = cE.l0 5993 x1 x2 exRows 13 7 := by
 rw [show (5994 : Nat) = 5993 + 1 from rfl, l0_eq, if_pos (by decide), if_pos (by decide), if_pos (by decide), show wrap64 ((6 : Int) + 1) = 7 from by kernel_rfl]
 have h : ∀ R : Option Bool, bodyX 5993 exRows 6 R = R := fun R => by kernel_rfl
 exact h _
set_option maxRecDepth 100000 in
theorem step7 (x1 : List S45) (x2 : List (List S45)) : cE.l0 5993 x1 x2 exRows 13 7 = cE.l0 5992 x1 x2 exRows 13 8 := by
 rw [show (5993 : Nat) = 5992 + 1 from rfl, l0_eq, if_pos (by decide), if_pos (by decide), if_pos (by decide), show wrap64 ((7 : Int) + 1) = 8 from by kernel_rfl]
 have h : ∀ R : Option Bool, bodyX 5992 exRows 7 R = R := fun R => by kernel_rfl
 exact h _
set_option maxRecDepth 100000 in
theorem step8 (x1 : List S45) (x2 : List (List S45)) : cE.l0 5992 x1 x2 exRows 13 8 = cE.l0 5991 x1 x2 exRows 13 9 := by
 rw [show (5992 : Nat) = 5991 + 1 from rfl, l0_eq, if_pos (by decide), if_pos (by decide), if_pos (by decide), show wrap64 ((8 : Int) + 1) = 9 from by kernel_rfl]
 have h : ∀ R : Option Bool, bodyX 5991 exRows 8 R = R := fun R => by kernel_rfl
 exact h _
set_option maxRecDepth 100000 in
theorem step9 (x1 : List S45) (x2 : List (List S45)) : cE.l0 5991 x1 x2 exRows 13 9 = cE.l0 5990 x1 x2 exRows 13 10 := by
 rw [show (5991 : Nat) = 5990 + 1 from rfl, l0_eq, if_pos (by decide), if_pos (by decide), if_pos (by decide), show wrap64 ((9 : Int) + 1) = 10 from by kernel_rfl]
 have h : ∀ R : Option Bool, bodyX 5990 exRows 9 R = R := fun R => by kernel_rfl
 exact h _
set_option maxRecDepth 100000 in
theorem step10 (x1 : List S45) (x2 : List (List S45)) : cE.l0 5990 x1 x2 exRows 13 10 = cE.l0 5989 x1 x2 exRows 13 11 := by
 rw [show (5990 : Nat) = 5989 + 1 from rfl, l0_eq, if_pos (by decide), if_pos (by decide), if_pos (by decide), show wrap64 ((10 : Int) + 1) = 11 from by kernel_rfl]
 have h : ∀ R : Option Bool, bodyX 5989 exRows 10 R = R := fun R => by kernel_rfl
 exact h _
set_option maxRecDepth 100000 in
theorem step11 (x1 : List S45) (x2 : List (List S45)) : cE.l0 5989 x1 x2 exRows 13 11 = cE.l0 5988 x1 x2 exRows 13 12 := by
 rw [show (5989 : Nat) = 5988 + 1 from rfl, l0_eq, if_pos (by decide), if_pos (by decide), if_pos (by decide), show wrap64 ((11 : Int) + 1) = 12 from by kernel_rfl]
 have h : ∀ R : Option Bool, bodyX 5988 exRows 11 R = R := fun R => by kernel_rfl
 exact h _
set_option maxRecDepth 100000 in
theorem step12 (x1 : List S45) (x2 : List (List S45)) : cE.l0 5988 x1 x2 exRows 13 12 = cE.l0 5987 x1 x2 exRows 13 13 := by
 rw [show (5988 : Nat) = 5987 + 1 from rfl, l0_eq, if_pos (by decide), if_pos (by decide), if_pos (by decide), show wrap64 ((12 : Int) + 1) = 13 from by kernel_rfl]
 have h : ∀ R : Option Bool, bodyX 5987 exRows 12 R = R := fun R => by kernel_rfl
 exact h _
set_option maxRecDepth 100000 in
theorem tail_true (q : List (List S45)) : tailX 5986 [⟨0, 5⟩] (List.replicate 1025 []) (some (q, 0)) = some true := by kernel_rfl
def unitsL : Nat → Nat → List (List S45)
 | _, 0 => []
 | j, m + 1 => [⟨(j : Int), 1⟩] :: unitsL (j + 1) m
theorem units_len : ∀ (m j : Nat), (unitsL j m).length = m
 | 0, _ => rfl
 | m + 1, j => by rw [unitsL, List.length_cons, units_len m (j + 1)]
theorem units_mem : ∀ (m j : Nat) {c : List S45}, c ∈ unitsL j m → ∃ i : Nat, j ≤ i ∧ i < j + m ∧ c = [⟨(i : Int), 1⟩]
 | 0, _, _, h => by cases h
 | m + 1, j, c, h => by
  rcases List.mem_cons.1 h with rfl | h
  ·exact ⟨j, Nat.le_refl _, by omega, rfl⟩
  ·obtain ⟨i, h1, h2, h3⟩ := units_mem m (j + 1) h
   exact ⟨i, by omega, by omega, h3⟩
theorem last_unit (i : Nat) : lastR [⟨(i : Int), 1⟩] = (i : Int) := rfl
theorem units_asc : ∀ (m j : Nat), (unitsL j m).Pairwise (fun a b => lastR a < lastR b)
 | 0, _ => List.Pairwise.nil
 | m + 1, j => by
  rw [unitsL]
  refine List.pairwise_cons.2 ⟨fun b hb => ?_, units_asc m (j + 1)⟩
  obtain ⟨i, h1, h2, rfl⟩ := units_mem m (j + 1) hb
  rw [last_unit, last_unit]
  omega
theorem elim_nils (k : Nat) (hk : 2 ≤ k) : ∀ (m j : Nat) (s : St), s.L.length < 1000000 → s.U.length < 1000000 → s.Z.length + m < 1000000 →
  elimL 5 k (List.replicate m []) (j : Int) s = some { mp := s.mp, L := s.L, U := s.U, Z := s.Z ++ unitsL j m }
 | 0, j, s, _, _, _ => by rw [List.replicate_zero, elimL, unitsL, List.append_nil]
 | m + 1, j, s, h1, h2, h3 => by
  have hc : clearL 5 s.mp s.L s.U k [] [⟨(j : Int), 1⟩] (wrap64 ((([] : List S45).length : Int) - 1)) = some ([], [⟨(j : Int), 1⟩]) := by
   obtain ⟨k0, rfl⟩ : ∃ k0, k = k0 + 1 := ⟨k - 1, by omega⟩
   rw [clearL]
   exact if_neg (show ¬ (0 : Int) ≤ wrap64 (((([] : List S45).length : Nat) : Int) - 1) by decide +kernel)
  rw [List.replicate_succ, elimL, if_pos ⟨by decide, by unfold St.small; omega⟩, bind_of hc]
  refine (if_pos rfl).trans ?_
  have ih := elim_nils k hk m (j + 1) (s.zero [⟨(j : Int), 1⟩]) h1 h2 (by simp only [St.zero, List.length_append, List.length_singleton]; omega)
  rw [show ((j : Int) + 1) = ((j + 1 : Nat) : Int) by omega]
  refine ih.trans ?_
  simp only [St.zero, unitsL, List.append_assoc, List.singleton_append]
theorem tidyL_spec2 {p : Int} (hp : primeB p = true) : ∀ (l P : List (List S45)) (s : St), TInv p P s → (∀ c ∈ l, Up p (-1) c ∧ 0 < c.length) → (∀ a ∈ P, ∀ b ∈ l, lastR a < lastR b) → l.Pairwise (fun a b => lastR a < lastR b) → P.length + l.length ≤ 2000 →
  ∃ s', (∀ k, 1064 ≤ k → tidyL p k l s = some s'.L) ∧ TInv p (P ++ l) s'
 | [], P, s, h, _, _, _, _ => ⟨s, fun k _ => by rw [tidyL], by simpa using h⟩
 | c :: l, P, s, h, hl, hPl, hasc, hn => by
  obtain ⟨hc, hcl⟩ := hl c (by simp)
  obtain ⟨ha1, ha2⟩ := List.pairwise_cons.1 hasc
  simp only [List.length_cons] at hn
  obtain ⟨c', x', t, d, e1, e2, e3, e4, e5, e6, e7⟩ := tidy_step hp h hc hcl (fun a ha => hPl a ha c (by simp))
  have hlen := up_len hc
  have h1 : s.L.length = P.length := by
   have := congrArg List.length h.lows
   simpa using this
  have hul := h.ulen
  have hz : s.Z.length = 0 := by rw [h.zed]; rfl
  obtain ⟨s', f1, f2⟩ := tidyL_spec2 hp l (P ++ [c]) (s.put d []) e7 (fun b hb => hl b (by simp [hb])) (fun a ha b hb => by
   rcases List.mem_append.1 ha with ha | ha
   ·exact hPl a ha b (by simp [hb])
   ·rw [List.mem_singleton.1 ha]; exact ha1 b hb) ha2 (by simp; omega)
  refine ⟨s', fun k hk => ?_, by simpa using f2⟩
  rw [tidyL, if_pos ⟨by omega, by unfold St.small; omega⟩, bind_of (e1 k hk), if_pos e2, bind_of (e3 k (by omega)), bind_of e4, if_pos ⟨e5, e6⟩]
  exact f1 k hk
theorem upB_of {L : List (List S45)} (h : L.Pairwise (fun a b => lastR a < lastR b)) (h0 : ∀ c ∈ L, 0 ≤ lastR c ∧ lastR c < 1024) : upB L = true := by
 refine decide_eq_true (fun j hj i hij => ?_)
 have hi : i < L.length := by omega
 rw [getD_lt _ hj, getD_lt _ hi]
 have h1 := List.pairwise_iff_getElem.1 h i j hi hj hij
 have h2 := h0 _ (List.getElem_mem hi)
 have h3 := h0 _ (List.getElem_mem hj)
 unfold wrap64
 omega
theorem ker_big : ∃ q, ∀ k, 4000 ≤ k → column_KernelB.f k 5 (List.replicate 1024 []) = some (q, 0) := by
 have hp : primeB 5 = true := by decide +kernel
 have hup : ∀ c ∈ unitsL 0 1024, Up 5 (-1) c ∧ 0 < c.length := fun c hc => by
  obtain ⟨i, h1, h2, rfl⟩ := units_mem 1024 0 hc
  exact ⟨⟨by show (-1 : Int) < (i : Int); omega, by show (i : Int) < 1024; omega, Int.le_refl 1, (show (1 : Int) < 5 by decide), trivial⟩, by simp⟩
 have hasc := units_asc 1024 0
 have hlen := units_len 1024 0
 obtain ⟨s', f1, _⟩ := tidyL_spec2 hp (unitsL 0 1024) [] st0 (tinv0 5) hup (fun a ha => by cases ha) hasc (by rw [hlen]; decide)
 refine ⟨s'.L, fun k hk => ?_⟩
 have hrep : ∀ c ∈ (List.replicate 1024 [] : List (List S45)), Up 5 (-1) c := fun c hc => by
  rw [List.eq_of_mem_replicate hc]; exact trivial
 have hb := begin_ok hp hrep (by rw [List.length_replicate]; decide) k (by omega)
 have he := elim_nils k (by omega) 1024 0 st0 (by decide) (by decide) (by decide)
 have hu : upB (unitsL 0 1024) = true := upB_of hasc (fun c hc => by
  obtain ⟨i, h1, h2, rfl⟩ := units_mem 1024 0 hc
  rw [last_unit]; omega)
 have ht : tidyB 5 k (unitsL 0 1024) = some s'.L := by
  unfold tidyB
  rw [if_pos ⟨.inr ⟨hlen, hu⟩, fun c hc => (hup c hc).2⟩, show sortG (unitsL 0 1024) = unitsL 0 1024 from if_neg (by rw [hlen]; decide)]
  exact f1 k (by omega)
 unfold column_KernelB.f kernelB
 rw [bind_of hb]
 refine (if_pos rfl).trans ?_
 refine (bind_of he).trans ?_
 refine (bind_of (show tidyB 5 k ([] ++ unitsL 0 1024) = some s'.L from ht)).trans ?_
 rfl
theorem ex_true : ∃ k, cE.f k = some true := by
 obtain ⟨q, hq⟩ := ker_big
 refine ⟨6000, ?_⟩
 have h1 : cE.l0 6000 [⟨0, 5⟩] (List.replicate 1025 []) exRows 13 0 = cE.l0 5987 [⟨0, 5⟩] (List.replicate 1025 []) exRows 13 13 :=
  (step0 _ _).trans ((step1 _ _).trans ((step2 _ _).trans ((step3 _ _).trans ((step4 _ _).trans ((step5 _ _).trans ((step6 _ _).trans ((step7 _ _).trans ((step8 _ _).trans ((step9 _ _).trans ((step10 _ _).trans ((step11 _ _).trans (step12 _ _))))))))))))
 have h2 : cE.l0 5987 [⟨0, 5⟩] (List.replicate 1025 []) exRows 13 13 = tailX 5986 [⟨0, 5⟩] (List.replicate 1025 []) (column_KernelB.f 5986 5 ((List.replicate 1025 []).take 1024)) := (l0_eq 5986 _ _ _ _ _).trans (if_neg (by decide))
 have h3 : column_KernelB.f 5986 5 ((List.replicate 1025 [] : List (List S45)).take 1024) = some (q, 0) := by
  rw [List.take_replicate, show min 1024 1025 = 1024 from rfl]
  exact hq 5986 (by decide)
 have h4 : cE.l0 6000 [⟨0, 5⟩] (List.replicate 1025 []) exRows 13 0 = some true := by
  rw [h1, h2, h3]
  exact tail_true q
 unfold cE.f
 refine (bind_of (show toruslaw04_awake.f = some true from rfl)).trans ?_
 refine (if_pos rfl).trans ?_
 refine (bind_of rfl).trans ?_
 refine (if_pos (by decide)).trans ?_
 refine (bind_of rfl).trans ?_
 exact h4
end Go.Proofs.Ytojnnfhalpefmaa.P
end

section
namespace Go.Proofs.Ytojnnfhalpefmaa.columnExamples
open Go.ChangeShapes Go.WideShapes Go.ChangeAt Go.RowKit
open Go.ChangeMaps (open_string shut_string)
theorem own : ownKnob Try.prog.godebug = none := by kernel_rfl
set_option maxRecDepth 100000 in
theorem lifted (os : Os) (started : os.Started) (H : Type) (enc : TypeId × Value → H) :
  ReturnsInHanded {} Try.checked os 11 .any (Rows.columnExamplesSpec.pre6 enc Try.prog Try.f11 Rows.columnExamplesRow.domain false) (Rows.columnExamplesSpec.post enc Try.prog Try.f11 false true false false) := by
 refine returnsInHanded_of_change_sized (C := Try.checked) own started (by kernel_rfl) Try.func11
  (ChangeSpec.witness6 (enc := enc) (C := Try.checked) false ⟨#[], #[], []⟩ 8 (by kernel_rfl) (by kernel_rfl) (by kernel_rfl) (by kernel_rfl)) ?_
 intro W base args ds gs before hval0 hW hcnd hsz0 _
 have hsz : (DataW.weightsEach Try.prog (Try.f11.params.toList ++ Rows.columnExamplesSpec.plain.varTypes Try.prog) (ds ++ gs)).all (· ≤ reachBytes) = true := hsz0
 have hval : ∀ (j : Nat) t v, Try.f11.params[j]? = some t → args[j]? = some v → Value.okWide Try.prog W .any base t v := hval0
 have hW' := hW
 obtain ⟨p, q, hA0, hV, rfl, hfz, hnd⟩ := hW
 have hA : DataW.TrodAll enc Try.prog W 0 (fun _ => true) true Try.f11.params.toList args.toList ds p := hA0
 rw [Try.params11] at hA hval hsz
 obtain ⟨rfl, rfl, rfl⟩ := trodAll_none hA
 obtain ⟨rfl, rfl⟩ := trodVars_none hV
 clear hA0 hval0 hsz0 hsz
 obtain ⟨k, hk⟩ := P.ex_true
 refine (M.cE.calls k true W hk rfl).mono fun e W' ⟨he, bel⟩ => ?_
 subst he
 exact ⟨_, rfl, _, _, _, [], _, [], hW', trodAll_mk1 (shut_bool Try.underlying4 _), trodAll_mk0, rfl, bel.frame _, fun h => by cases h⟩
theorem over : Rows.columnExamplesRow.holds Try.pinned (OpenSpec.ofChange Rows.columnExamplesSpec) :=
 OpenClaim.holds_of_wide 11 Try.f11 rfl rfl rfl rfl rfl rfl rfl ⟨rfl, rfl, rfl, rfl, rfl⟩ rfl rfl rfl rfl rfl (by kernel_rfl) Try.func11 (by kernel_rfl)
  (of_decide_eq_true (by kernel_rfl)) (by unfold Func.isWrapper; first | (rw [if_pos (by decide +kernel)]; kernel_rfl) | (rw [if_neg (by decide +kernel)]; exact ⟨rfl, rfl⟩))
  (fun os started H enc _ => lifted os started H enc)
theorem proved : Rows.ColumnExamplesSaid := over
end Go.Proofs.Ytojnnfhalpefmaa.columnExamples
namespace Go.Proofs.Ytojnnfhalpefmaa
theorem columnExamples_holds : Rows.ColumnExamplesSaid := columnExamples.proved
end Go.Proofs.Ytojnnfhalpefmaa
end
