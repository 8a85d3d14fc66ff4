/- The law ColumnSpace on what its functions compute. -/
import Derived.Test.YtojnnfhalpefmaaPSpec
import Derived.Test.YtojnnfhalpefmaaMx21
set_option linter.unusedVariables false
namespace Go.Proofs.Ytojnnfhalpefmaa.P
open Go.RowKit Go.Proofs.YtojnnfhalpefmaaW.PrintWords Go.Proofs.Ytojnnfhalpefmaa.M Go.Proofs.Ytojnnfhalpefmaa.H
theorem ed (x p : Int) : ∃ q, x % p = x - p * q := ⟨x / p, by have := Int.mul_ediv_add_emod x p; omega⟩
theorem em {x y p : Int} (t : Int) (h : x - y = p * t) : x % p = y % p := by
  rw [show x = y + p * t by omega, Int.add_mul_emod_self_left]
theorem up_nil (p : Int) : Up p (-1) ([] : List S45) := trivial
theorem checkB_of {p : Int} (hp : primeB p = true) {x : List S45} (hx : Up p (-1) x) : checkB p x = 0 := (if_pos hp).trans ((chkS_up (Int.le_refl _)).2 hx)
section
variable {p : Int} (hp : primeB p = true)
include hp
theorem one_mod : 1 % p = 1 := by
  have := primeB_ge hp
  exact Int.emod_eq_of_lt (by omega) (by omega)
theorem mod_r (m : Int) : 0 ≤ m % p ∧ m % p < p := by
  have := primeB_ge hp
  exact ⟨Int.emod_nonneg _ (by omega), Int.emod_lt_of_pos _ (by omega)⟩
/-- a + m b, m any number. -/
theorem add_up {a b : List S45} (ha : Up p (-1) a) (hb : Up p (-1) b) (m : Int) : Up p (-1) (colAdd p (m % p) a b) :=
  colAdd_up (primeB_ge hp).1 (primeB_ge hp).2 (mod_r hp m).1 (mod_r hp m).2 ha hb
theorem add_cf {a b : List S45} (ha : Up p (-1) a) (hb : Up p (-1) b) (m r : Int) : cf (colAdd p (m % p) a b) r = (cf a r + (m % p) * cf b r) % p :=
  colAdd_cf (primeB_ge hp).1 (primeB_ge hp).2 (mod_r hp m).1 (mod_r hp m).2 ha hb r
theorem cf_mod {a : List S45} (ha : Up p (-1) a) (r : Int) : cf a r % p = cf a r := by
  have := primeB_ge hp
  have := cf_range (show 0 < p by omega) r ha
  exact Int.emod_eq_of_lt this.1 this.2
theorem add_comm1 {a b : List S45} (ha : Up p (-1) a) (hb : Up p (-1) b) : colAdd p (1 % p) a b = colAdd p (1 % p) b a :=
  up_ext (add_up hp ha hb 1) (add_up hp hb ha 1) (fun r => by
    rw [add_cf hp ha hb, add_cf hp hb ha, one_mod hp]
    exact em 0 (by grind))
theorem add_assoc1 {a b c : List S45} (ha : Up p (-1) a) (hb : Up p (-1) b) (hc : Up p (-1) c) : colAdd p (1 % p) (colAdd p (1 % p) a b) c = colAdd p (1 % p) a (colAdd p (1 % p) b c) :=
  up_ext (add_up hp (add_up hp ha hb 1) hc 1) (add_up hp ha (add_up hp hb hc 1) 1) (fun r => by
    rw [add_cf hp (add_up hp ha hb 1) hc, add_cf hp ha (add_up hp hb hc 1), add_cf hp ha hb, add_cf hp hb hc, one_mod hp]
    obtain ⟨q1, h1⟩ := ed (cf a r + 1 * cf b r) p
    obtain ⟨q2, h2⟩ := ed (cf b r + 1 * cf c r) p
    exact em (q2 - q1) (by rw [h1, h2]; grind))
theorem add_neg {a : List S45} (ha : Up p (-1) a) : colAdd p ((-1) % p) a a = [] :=
  up_ext (add_up hp ha ha (-1)) (show Up p (-1) [] from trivial) (fun r => by
    rw [add_cf hp ha ha, cf]
    obtain ⟨q1, h1⟩ := ed (-1) p
    rw [h1, em (y := 0) (-(q1 * cf a r)) (by grind), Int.zero_emod])
theorem add_nil {a : List S45} (ha : Up p (-1) a) : colAdd p (1 % p) a [] = a :=
  up_ext (add_up hp ha (up_nil p) 1) ha (fun r => by
    rw [add_cf hp ha (up_nil p), cf, Int.mul_zero, Int.add_zero, cf_mod hp ha])
theorem add_twice {a b : List S45} (ha : Up p (-1) a) (hb : Up p (-1) b) (k m : Int) : colAdd p (m % p) (colAdd p (k % p) a b) b = colAdd p ((k % p + m % p) % p) a b :=
  up_ext (add_up hp (add_up hp ha hb k) hb m) (add_up hp ha hb (k % p + m % p)) (fun r => by
    rw [add_cf hp (add_up hp ha hb k) hb, add_cf hp ha hb, add_cf hp ha hb]
    obtain ⟨q1, h1⟩ := ed (cf a r + k % p * cf b r) p
    obtain ⟨q2, h2⟩ := ed (k % p + m % p) p
    exact em (q2 * cf b r - q1) (by rw [h1, h2]; grind))
theorem scale_add {a b : List S45} (ha : Up p (-1) a) (hb : Up p (-1) b) (k : Int) : colAdd p (k % p) [] (colAdd p (1 % p) a b) = colAdd p (k % p) (colAdd p (k % p) [] a) b :=
  up_ext (add_up hp (up_nil p) (add_up hp ha hb 1) k) (add_up hp (add_up hp (up_nil p) ha k) hb k) (fun r => by
    rw [add_cf hp (up_nil p) (add_up hp ha hb 1), add_cf hp (add_up hp (up_nil p) ha k) hb, add_cf hp ha hb, add_cf hp (up_nil p) ha, one_mod hp]
    obtain ⟨q1, h1⟩ := ed (cf a r + 1 * cf b r) p
    obtain ⟨q2, h2⟩ := ed (cf [] r + k % p * cf a r) p
    exact em (q2 - (k % p) * q1) (by rw [h1, h2, cf]; grind))
omit hp in
theorem dotD_lin {a b d : List S45} (k : Int) (h : ∀ r, ∃ q, cf d r = cf a r + k * cf b r - p * q) : ∀ (c : List S45), ∃ t, dotD d c = dotD a c + k * dotD b c - p * t
  | [] => ⟨0, by simp [dotD]⟩
  | x :: c => by
    obtain ⟨t, ht⟩ := dotD_lin k h c
    obtain ⟨q, hq⟩ := h x.f0
    exact ⟨t + x.f1 * q, by rw [dotD, dotD, dotD, ht, hq]; grind⟩
theorem dot_lin {a b c : List S45} (ha : Up p (-1) a) (hb : Up p (-1) b) (hc : Up p (-1) c) (k : Int) : dotD c (colAdd p (k % p) a b) % p = (dotD c a % p + (k % p) * (dotD c b % p)) % p := by
  rw [dotD_comm (add_up hp ha hb k) hc, dotD_comm ha hc, dotD_comm hb hc]
  obtain ⟨t, ht⟩ := dotD_lin (p := p) (a := a) (b := b) (d := colAdd p (k % p) a b) (k % p) (fun r => by
    rw [add_cf hp ha hb]
    exact ed _ p) c
  obtain ⟨q1, h1⟩ := ed (dotD a c) p
  obtain ⟨q2, h2⟩ := ed (dotD b c) p
  exact em (q1 + (k % p) * q2 - t) (by rw [ht, h1, h2]; grind)
end
theorem space_true (a0 : Int) (l0 l1 l2 : List S45) (a2 a3 : Int) (h0 : l0.length < 10000000000000) (h1 : l1.length < 10000000000000) (h2 : l2.length < 10000000000000) : ∃ k, toruslaw04_ColumnSpace.f k a0 l0 l1 l2 a2 a3 = some true := by
  obtain ⟨p, hp, hf⟩ := field_spec a0
  obtain ⟨a, ca, fa⟩ := fit_spec hp l0 (by omega)
  obtain ⟨b, cb, fb⟩ := fit_spec hp l1 (by omega)
  obtain ⟨c, cc, fc⟩ := fit_spec hp l2 (by omega)
  obtain ⟨hp1, hp2⟩ := primeB_ge hp
  have la := ca.len (by decide)
  have lb := cb.len (by decide)
  have lc := cc.len (by decide)
  have ua := ca.up
  have ub := cb.up
  have uc := cc.up
  obtain ⟨k, hk⟩ : ∃ k, k = l0.length + l1.length + l2.length + 5000 := ⟨_, rfl⟩
  have haw : toruslaw04_awake.f = some true := rfl
  have hm2 : torusref01_Mod.f k p a2 = some (a2 % p) := by rw [mod_ref p a2 k (by omega), modB, if_pos hp]
  have hm3 : torusref01_Mod.f k p a3 = some (a3 % p) := by rw [mod_ref p a3 k (by omega), modB, if_pos hp]
  have r2 := mod_r hp a2
  have r3 := mod_r hp a3
  have e2 : a2 % p % p = a2 % p := Int.emod_eq_of_lt r2.1 r2.2
  have e3 : a3 % p % p = a3 % p := Int.emod_eq_of_lt r3.1 r3.2
  -- the length of a sum
  have lab (m : Int) := colAdd_len p m a b
  have lba := colAdd_len p (1 % p) b a
  have lbc := colAdd_len p (1 % p) b c
  have labc := colAdd_len p (1 % p) (colAdd p (1 % p) a b) c
  have pl {x y : List S45} (hx : Up p (-1) x) (hy : Up p (-1) y) (m : Int) (hl : x.length + y.length ≤ 1000) (k' : Nat) (hk' : 2500 ≤ k') := plus_law hp hx hy m (show x.length + y.length < 8796093022208 by omega) k' (by omega)
  have sm {x : List S45} (hl : x.length ≤ 1000) (k' : Nat) (hk' : 2500 ≤ k') := same_refl x (by omega) k' (by omega)
  have sc {x : List S45} (hx : Up p (-1) x) (m : Int) (hl : x.length ≤ 1000) (k' : Nat) (hk' : 2500 ≤ k') : column_Scale.f k' p x m = some (colAdd p (m % p) [] x, 0) := by
    rw [scale_col p x m (by omega) k' (by omega), scaleB, if_pos (checkB_of hp hx), modB, if_pos hp]
  have dt {x y : List S45} (hx : Up p (-1) x) (hy : Up p (-1) y) (hl : x.length + y.length ≤ 1000) (k' : Nat) (hk' : 2500 ≤ k') : column_Dot.f k' p x y = some (dotD y x % p, 0) := by
    rw [dot_col p x y (by omega) k' (by omega), dotB, if_pos (checkAllB_two (checkB_of hp hx) (checkB_of hp hy))]
  refine ⟨k, ?_⟩
  unfold toruslaw04_ColumnSpace.f
  have l1' := lab (1 % p)
  have l2' := lab (a2 % p)
  refine (bind_of (hf k (by omega))).trans ?_
  refine (bind_of (fa k (by omega))).trans ?_
  refine (bind_of (fb k (by omega))).trans ?_
  refine (bind_of (fc k (by omega))).trans ?_
  refine (bind_of hm2).trans ?_
  refine (bind_of hm3).trans ?_
  refine (bind_of (pl ua ub 1 (by omega) k (by omega))).trans ?_
  refine (bind_of (pl ub ua 1 (by omega) k (by omega))).trans ?_
  rw [add_comm1 hp ub ua]
  refine (bind_of (sm (by omega) k (by omega))).trans ?_
  refine (if_pos rfl).trans ?_
  refine (bind_of (pl ua ub 1 (by omega) k (by omega))).trans ?_
  refine (bind_of (pl (add_up hp ua ub 1) uc 1 (by omega) k (by omega))).trans ?_
  refine (bind_of (pl ub uc 1 (by omega) k (by omega))).trans ?_
  refine (bind_of (pl ua (add_up hp ub uc 1) 1 (by omega) k (by omega))).trans ?_
  rw [add_assoc1 hp ua ub uc]
  refine (bind_of (sm (by have := colAdd_len p (1 % p) a (colAdd p (1 % p) b c); omega) k (by omega))).trans ?_
  refine (if_pos rfl).trans ?_
  refine (bind_of (pl ua ua (-1) (by omega) k (by omega))).trans ?_
  rw [add_neg hp ua]
  refine (if_neg (by simp)).trans ?_
  refine (bind_of (pl ua (show Up p (-1) [] from trivial) 1 (by simp; omega) k (by omega))).trans ?_
  rw [add_nil hp ua]
  refine (bind_of (sm (by omega) k (by omega))).trans ?_
  refine (if_pos rfl).trans ?_
  refine (bind_of (pl ua ub (a2 % p) (by omega) k (by omega))).trans ?_
  rw [e2]
  refine (bind_of (pl (add_up hp ua ub a2) ub (a3 % p) (by omega) k (by omega))).trans ?_
  rw [e3, w64 (by omega) (by omega)]
  refine (bind_of (pl ua ub (a2 % p + a3 % p) (by omega) k (by omega))).trans ?_
  rw [add_twice hp ua ub]
  have l3' := lab ((a2 % p + a3 % p) % p)
  refine (bind_of (sm (by omega) k (by omega))).trans ?_
  obtain ⟨k1, rfl⟩ : ∃ k1, k = k1 + 1 := ⟨k - 1, by omega⟩
  rw [toruslaw04_ColumnSpace.j0]
  refine (if_neg (by decide)).trans ?_
  refine (bind_of (pl ua ub 1 (by omega) k1 (by omega))).trans ?_
  refine (bind_of (sc (add_up hp ua ub 1) (a2 % p) (by omega) k1 (by omega))).trans ?_
  refine (bind_of (sc ua (a2 % p) (by omega) k1 (by omega))).trans ?_
  refine (bind_of (pl ua ub (a2 % p) (by omega) k1 (by omega))).trans ?_
  rw [e2]
  refine (bind_of (dt (add_up hp ua ub a2) uc (by omega) k1 (by omega))).trans ?_
  refine (bind_of (dt ua uc (by omega) k1 (by omega))).trans ?_
  refine (bind_of (dt ub uc (by omega) k1 (by omega))).trans ?_
  refine (bind_of (dt uc ub (by omega) k1 (by omega))).trans ?_
  refine (if_pos rfl).trans ?_
  refine (if_pos rfl).trans ?_
  have l4' := colAdd_len p (a2 % p) [] a
  simp only [List.length_nil] at l4'
  refine (bind_of (pl (add_up hp (show Up p (-1) [] from trivial) ua a2) ub (a2 % p) (by omega) k1 (by omega))).trans ?_
  rw [e2, scale_add hp ua ub]
  refine (bind_of (sm (x := colAdd p (a2 % p) (colAdd p (a2 % p) [] a) b) (by have := colAdd_len p (a2 % p) (colAdd p (a2 % p) [] a) b; omega) k1 (by omega))).trans ?_
  refine (if_pos rfl).trans ?_
  refine (if_pos rfl).trans ?_
  refine (if_pos rfl).trans ?_
  refine (if_pos rfl).trans ?_
  refine (if_pos rfl).trans ?_
  refine (if_neg (by omega)).trans ?_
  have b1 := mod_r hp (dotD c a)
  have b2 := mod_r hp (dotD c b)
  have b3 := mul_bound r2.1 (by omega) b2.1 (by omega)
  refine (if_pos ?_).trans ?_
  · show dotD c (colAdd p (a2 % p) a b) % p = Int.tmod (wrap64 (dotD c a % p + wrap64 (a2 % p * (dotD c b % p)))) p
    rw [w64 (x := a2 % p * (dotD c b % p)) (by omega) (by omega), w64 (by omega) (by omega), Int.tmod_eq_emod_of_nonneg (by omega), dot_lin hp ua ub uc]
  refine (if_pos ?_).trans ?_
  · show dotD c b % p = dotD b c % p
    rw [dotD_comm ub uc]
  exact bind_of haw
end Go.Proofs.Ytojnnfhalpefmaa.P
