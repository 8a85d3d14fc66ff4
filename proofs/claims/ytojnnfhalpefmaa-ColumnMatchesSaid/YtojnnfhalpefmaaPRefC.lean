/- The reference's Add, Scale and Dot compute what the program's do. -/
import Derived.Test.YtojnnfhalpefmaaPGet
import Derived.Test.YtojnnfhalpefmaaMx6
import Derived.Test.YtojnnfhalpefmaaMx7
set_option linter.unusedVariables false
namespace Go.Proofs.Ytojnnfhalpefmaa.P
open Go.RowKit Go.Proofs.YtojnnfhalpefmaaW.PrintWords Go.Proofs.Ytojnnfhalpefmaa.M Go.Proofs.Ytojnnfhalpefmaa.H
theorem checkAll_ref_l0 (p : Int) (L : List (List S45)) (hL : L.length < 1000000000000000) (hl : ∀ c ∈ L, c.length < 1000000000000000) : ∀ (m i : Nat) (k : Nat), i + m = L.length → m + 2 * longest L + 301 ≤ k → torusref04_CheckAll.l0 k p L i = some (checkAllB p (L.drop i))
  | 0, i, k, hi, hk => by
    obtain ⟨k, rfl, _⟩ := ex_succ (show 0 + 1 ≤ k by omega)
    rw [torusref04_CheckAll.l0, if_neg (by omega), List.drop_of_length_le (by omega), checkAllB]
  | m + 1, i, k, hi, hk => by
    obtain ⟨k, rfl, _⟩ := ex_succ (show 0 + 1 ≤ k by omega)
    have hlt : i < L.length := by omega
    have hm := longest_mem (List.getElem_mem hlt)
    have hml := hl _ (List.getElem_mem hlt)
    have hw : wrap64 ((i : Int) + 1) = ((i + 1 : Nat) : Int) := by rw [w64 (by omega) (by omega)]; omega
    rw [torusref04_CheckAll.l0, if_pos (by omega), if_pos (by omega), rdL_nat hlt, List.drop_eq_getElem_cons hlt, checkAllB, bind_of (check_ref p _ (by omega) k (by omega)), hw]
    by_cases h : checkB p L[i] = 0
    · rw [if_pos h, if_pos h]
      exact checkAll_ref_l0 p L hL hl m (i + 1) k (by omega) (by omega)
    · rw [if_neg h, if_neg h]
theorem checkAll_ref (p : Int) (L : List (List S45)) (hL : L.length < 1000000000000000) (hl : ∀ c ∈ L, c.length < 1000000000000000) (k : Nat) (hk : L.length + 2 * longest L + 301 ≤ k) : torusref04_CheckAll.f k p L = some (checkAllB p L) := by
  unfold torusref04_CheckAll.f
  exact checkAll_ref_l0 p L hL hl L.length 0 k (by omega) hk
theorem checkAll_ref2 (p : Int) (a b : List S45) (hl : a.length + b.length < 8796093022208) (k : Nat) (hk : 2 * a.length + 2 * b.length + 310 ≤ k) : torusref04_CheckAll.f k p [a, b] = some (checkAllB p [a, b]) := by
  refine checkAll_ref p [a, b] (by simp) (fun c hc => ?_) k (by simp only [longest, List.length_cons, List.length_nil]; omega)
  simp only [List.mem_cons, List.not_mem_nil, or_false] at hc
  rcases hc with rfl | rfl <;> omega
/-! ### Size -/
def szT : Int → List S45 → Int
  | m, [] => m
  | m, t :: l => szT (mx m (wrap64 (t.f0 + 1))) l
theorem szT_spec {p : Int} : ∀ (l : List S45) (last m : Int), -1 ≤ last → Up p last l → 0 ≤ m → m ≤ 1024 → m ≤ szT m l ∧ szT m l ≤ 1024 ∧ ∀ t ∈ l, t.f0 < szT m l
  | [], last, m, h0, hu, h1, h2 => ⟨Int.le_refl _, h2, fun t h => by cases h⟩
  | t :: l, last, m, h0, hu, h1, h2 => by
    have hu1 : last < t.f0 := hu.1
    have hu2 : t.f0 < 1024 := hu.2.1
    have hu3 : Up p t.f0 l := hu.2.2.2.2
    have hm : m ≤ mx m (wrap64 (t.f0 + 1)) ∧ t.f0 < mx m (wrap64 (t.f0 + 1)) ∧ mx m (wrap64 (t.f0 + 1)) ≤ 1024 := by
      rw [w64 (by omega) (by omega), mx]
      split <;> omega
    obtain ⟨i1, i2, i3⟩ := szT_spec l t.f0 (mx m (wrap64 (t.f0 + 1))) (by omega) hu3 (by omega) hm.2.2
    rw [szT]
    refine ⟨by omega, i2, fun s hs => ?_⟩
    rcases List.mem_cons.1 hs with rfl | hs
    · omega
    · exact i3 s hs
theorem size_l1 (L : List (List S45)) (hL : L.length < 1000000000000000) (i : Nat) (hi : i < L.length) (hc : L[i].length < 1000000000000000) : ∀ (n j : Nat) (m : Int) (k : Nat), j + n = L[i].length → torusref04_Size.l1 (k + n + 1) L m i j = torusref04_Size.l0 k L (szT m (L[i].drop j)) ((i + 1 : Nat) : Int)
  | 0, j, m, k, hj => by
    have hw : wrap64 ((i : Int) + 1) = ((i + 1 : Nat) : Int) := by rw [w64 (by omega) (by omega)]; omega
    rw [torusref04_Size.l1, if_pos (by omega), if_pos (by omega), rdL_nat hi, if_neg (by omega), List.drop_of_length_le (by omega), szT, hw]
  | n + 1, j, m, k, hj => by
    have hlt : j < L[i].length := by omega
    have hw : wrap64 ((j : Int) + 1) = ((j + 1 : Nat) : Int) := by rw [w64 (by omega) (by omega)]; omega
    rw [torusref04_Size.l1, if_pos (by omega), if_pos (by omega), rdL_nat hi, if_pos (by omega), if_pos (by omega), rdT_nat hlt, hw, List.drop_eq_getElem_cons hlt, szT]
    exact size_l1 L hL i hi hc n (j + 1) _ k (by omega)
theorem size_ref {p : Int} {a b : List S45} (ha : Up p (-1) a) (hb : Up p (-1) b) : ∃ n : Nat, n ≤ 1024 ∧ (∀ t ∈ a, t.f0 < (n : Int)) ∧ (∀ t ∈ b, t.f0 < (n : Int)) ∧ ∀ k, 3000 ≤ k → torusref04_Size.f k [a, b] = some (n : Int) := by
  obtain ⟨a1, a2, a3⟩ := szT_spec a (-1) 0 (Int.le_refl _) ha (Int.le_refl _) (by decide)
  obtain ⟨b1, b2, b3⟩ := szT_spec b (-1) (szT 0 a) (Int.le_refl _) hb a1 a2
  have la := Col.len (n := 1024) ⟨ha, fun t ht => (up_mem ha t ht).2.1⟩ (by decide)
  have lb := Col.len (n := 1024) ⟨hb, fun t ht => (up_mem hb t ht).2.1⟩ (by decide)
  refine ⟨(szT (szT 0 a) b).toNat, by omega, fun t ht => by have := a3 t ht; omega, fun t ht => by have := b3 t ht; omega, fun k hk => ?_⟩
  obtain ⟨k, rfl⟩ : ∃ k', k = (((k' + 1) + b.length + 1) + 1 + a.length + 1) + 1 := ⟨k - (b.length + a.length + 5), by omega⟩
  have e1 := size_l1 [a, b] (by simp) 0 (by simp) (by simp; omega) a.length 0 0 (((k + 1) + b.length + 1) + 1) (by simp)
  have e2 := size_l1 [a, b] (by simp) 1 (by simp) (by simp; omega) b.length 0 (szT 0 a) (k + 1) (by simp)
  simp only [List.getElem_cons_zero, List.getElem_cons_succ, List.drop_zero, Int.natCast_zero, Int.natCast_one] at e1 e2
  unfold torusref04_Size.f
  rw [torusref04_Size.l0, if_pos (by simp), e1]
  show torusref04_Size.l0 (k + 1 + b.length + 1 + 1) [a, b] (szT 0 a) 1 = _
  rw [torusref04_Size.l0, if_pos (by simp), e2]
  show torusref04_Size.l0 (k + 1) [a, b] (szT (szT 0 a) b) 2 = _
  rw [torusref04_Size.l0, if_neg (by simp)]
  congr 1
  omega
/-! ### Sum -/
def sumL (p m : Int) (u v : List Int) : List Int := List.zipWith (fun x y => Int.tmod (wrap64 (x + wrap64 (m * y))) p) u v
theorem sum_l0 (p m : Int) (hp : p ≠ 0) (u v : List Int) (hu : u.length ≤ 1024) (huv : u.length = v.length) : ∀ (n i : Nat) (acc : List Int) (k : Nat), i + n = u.length → acc.length = u.length → acc.take i = (sumL p (modB p m) u v).take i → n + 301 ≤ k → torusref04_Sum.l0 k p u m v acc i = some (sumL p (modB p m) u v)
  | 0, i, acc, k, hi, hl, ha, hk => by
    obtain ⟨k, rfl, _⟩ := ex_succ (show 0 + 1 ≤ k by omega)
    have hz : (sumL p (modB p m) u v).length = u.length := by simp [sumL, huv]
    have : acc = sumL p (modB p m) u v := by
      rw [List.take_of_length_le (by omega), List.take_of_length_le (by omega)] at ha
      exact ha
    rw [torusref04_Sum.l0, if_neg (by omega), this]
  | n + 1, i, acc, k, hi, hl, ha, hk => by
    obtain ⟨k, rfl, _⟩ := ex_succ (show 0 + 1 ≤ k by omega)
    have hlt : i < u.length := by omega
    have hlt2 : i < v.length := by omega
    have hz : (sumL p (modB p m) u v).length = u.length := by simp [sumL, huv]
    have hg : (sumL p (modB p m) u v)[i]'(by omega) = Int.tmod (wrap64 (u[i] + wrap64 (modB p m * v[i]))) p := by simp [sumL]
    have hw : wrap64 ((i : Int) + 1) = ((i + 1 : Nat) : Int) := by rw [w64 (by omega) (by omega)]; omega
    rw [torusref04_Sum.l0, if_pos (by omega), if_pos (by omega), bind_of (mod_ref p m k (by omega)), if_pos (by omega), if_neg hp, if_pos (by omega), rd_nat hlt, rd_nat hlt2, hw, Int.toNat_natCast, ← hg]
    refine sum_l0 p m hp u v hu huv n (i + 1) _ k (by omega) (by simpa using hl) ?_ (by omega)
    rw [List.take_succ_eq_append_getElem (by simp; omega), List.take_succ_eq_append_getElem (by omega), List.take_set, List.getElem_set_self, ← ha]
    rw [List.set_eq_of_length_le (by simp; omega)]
theorem sum_ref (p m : Int) (hp : p ≠ 0) (u v : List Int) (hu : u.length ≤ 1024) (huv : u.length = v.length) (k : Nat) (hk : 1400 ≤ k) : torusref04_Sum.f k p u m v = some (sumL p (modB p m) u v) := by
  unfold torusref04_Sum.f
  rw [if_pos (by omega), if_pos (by omega)]
  exact sum_l0 p m hp u v hu huv u.length 0 _ k (by omega) (by simp) (by simp) (by omega)
/-! ### Plus, Add, Scale -/
theorem modB_r {p : Int} (hp : primeB p = true) (m : Int) : 0 ≤ modB p m ∧ modB p m < p := by
  have := primeB_ge hp
  rw [modB, if_pos hp]
  exact ⟨Int.emod_nonneg _ (by omega), Int.emod_lt_of_pos _ (by omega)⟩
theorem plus_ref {p : Int} (hp : primeB p = true) {a b : List S45} (ha : Up p (-1) a) (hb : Up p (-1) b) (m : Int) (k : Nat) (hk : 3000 ≤ k) : torusref04_Plus.f k p a m b = some (colAdd p (modB p m) a b) := by
  have hp2 := primeB_ge hp
  have hm := modB_r hp m
  obtain ⟨n, n1, na, nb, hn⟩ := size_ref ha hb
  have la := Col.len (n := 1024) ⟨ha, fun t ht => (up_mem ha t ht).2.1⟩ (by decide)
  have lb := Col.len (n := 1024) ⟨hb, fun t ht => (up_mem hb t ht).2.1⟩ (by decide)
  have da : (denS a (List.replicate n 0)).length = n := by rw [denS_len, List.length_replicate]
  have db : (denS b (List.replicate n 0)).length = n := by rw [denS_len, List.length_replicate]
  have ga (r : Nat) (hr : r < n) : (denS a (List.replicate n 0)).getD r 0 = cf a r := dense_get2 (n := n) ⟨ha, na⟩ r (by omega)
  have gb (r : Nat) (hr : r < n) : (denS b (List.replicate n 0)).getD r 0 = cf b r := dense_get2 (n := n) ⟨hb, nb⟩ r (by omega)
  obtain ⟨u, hu⟩ : ∃ u, u = denS a (List.replicate n 0) := ⟨_, rfl⟩
  obtain ⟨v, hv⟩ : ∃ v, v = denS b (List.replicate n 0) := ⟨_, rfl⟩
  rw [← hu] at da ga
  rw [← hv] at db gb
  have hz : (sumL p (modB p m) u v).length = n := by simp [sumL, da, db]
  have hg (r : Nat) (hr : r < n) : (sumL p (modB p m) u v).getD r 0 = (cf a r + modB p m * cf b r) % p := by
    have h1 := ga r hr
    have h2 := gb r hr
    simp only [List.getD_eq_getElem?_getD, List.getElem?_eq_getElem (show r < u.length by omega), Option.getD_some] at h1
    simp only [List.getD_eq_getElem?_getD, List.getElem?_eq_getElem (show r < v.length by omega), Option.getD_some] at h2
    have ra := cf_range (show 0 < p by omega) (r : Int) ha
    have rb := cf_range (show 0 < p by omega) (r : Int) hb
    rw [List.getD_eq_getElem?_getD, List.getElem?_eq_getElem (by omega), Option.getD_some]
    simp only [sumL, List.getElem_zipWith]
    rw [h1, h2]
    exact step_val hp2.1 hp2.2 hm.1 hm.2 ra.1 ra.2 rb.1 rb.2
  have hx : ∀ x ∈ sumL p (modB p m) u v, 0 ≤ x ∧ x < p := by
    intro x hx
    obtain ⟨i, hi, rfl⟩ := List.getElem_of_mem hx
    have h := hg i (by omega)
    rw [List.getD_eq_getElem?_getD, List.getElem?_eq_getElem hi, Option.getD_some] at h
    rw [h]
    exact ⟨Int.emod_nonneg _ (by omega), Int.emod_lt_of_pos _ (by omega)⟩
  have hs := (spS_up (p := p) (sumL p (modB p m) u v) 0 hx (by omega)).1
  have e : spS 0 (sumL p (modB p m) u v) = colAdd p (modB p m) a b := by
    refine up_ext (last := -1) hs (colAdd_up hp2.1 hp2.2 hm.1 hm.2 ha hb) (fun r => ?_)
    rw [colAdd_cf hp2.1 hp2.2 hm.1 hm.2 ha hb]
    by_cases hr : r < 0
    · rw [cf_low hs (by omega), cf_low ha (by omega), cf_low hb (by omega), Int.mul_zero, Int.add_zero, Int.zero_emod]
    · obtain ⟨r, rfl⟩ : ∃ s : Nat, r = s := ⟨r.toNat, by omega⟩
      rw [cf_spS, if_pos (Nat.zero_le _), Nat.sub_zero]
      by_cases hn : r < n
      · exact hg r hn
      · have e1 : cf a r = 0 := by
          by_cases h : cf a r = 0
          · exact h
          · obtain ⟨t, ht, e⟩ := cf_pos h
            have := na t ht
            omega
        have e2 : cf b r = 0 := by
          by_cases h : cf b r = 0
          · exact h
          · obtain ⟨t, ht, e⟩ := cf_pos h
            have := nb t ht
            omega
        rw [e1, e2, Int.mul_zero, Int.add_zero, Int.zero_emod, List.getD_eq_getElem?_getD, List.getElem?_eq_none (by omega), Option.getD_none]
  unfold torusref04_Plus.f
  rw [bind_of (hn k hk), bind_of (vector_ref a (by omega) n (by omega) (fun t ht => ⟨by have := up_mem ha t ht; omega, na t ht⟩) k (by omega)), bind_of (vector_ref b (by omega) n (by omega) (fun t ht => ⟨by have := up_mem hb t ht; omega, nb t ht⟩) k (by omega)), ← hu, ← hv, bind_of (sum_ref p m (by omega) u v (by omega) (by omega) k (by omega)), bind_of (sparse_ref _ (by omega) k (by omega)), e]
theorem add_ref (p : Int) (a : List S45) (m : Int) (b : List S45) (hl : a.length + b.length < 8796093022208) (k : Nat) (hk : 2 * a.length + 2 * b.length + 3000 ≤ k) : torusref04_Add.f k p a m b = some (addB p a m b) := by
  unfold torusref04_Add.f addB
  rw [bind_of (checkAll_ref2 p a b hl k (by omega))]
  by_cases h : checkAllB p [a, b] = 0
  · have h1 := (checkAllB_head h).1
    have h2 := (checkAllB_head (checkAllB_head h).2).1
    rw [if_pos h, if_pos h, bind_of (plus_ref (checkB_prime h1) (checkB_up h1).2 (checkB_up h2).2 m k (by omega))]
  · rw [if_neg h, if_neg h]
theorem scale_ref (p : Int) (a : List S45) (m : Int) (hl : a.length < 8796093022208) (k : Nat) (hk : 2 * a.length + 3000 ≤ k) : torusref04_Scale.f k p a m = some (scaleB p a m) := by
  unfold torusref04_Scale.f
  rw [bind_of (add_ref p [] m a (by simpa using hl) k (by simp; omega))]
  unfold addB scaleB
  have e : checkAllB p [[], a] = checkB p a := by
    simp only [checkAllB]
    unfold checkB
    by_cases hp : primeB p = true
    · rw [if_pos hp, if_pos hp, chkS, if_pos rfl]
      split
      · rename_i h; rw [h]
      · rfl
    · rw [if_neg hp, if_neg hp]; rfl
  rw [e]
/-! ### Coef, Dot -/
theorem coef_ref_l0 (l : List S45) (hl : l.length < 4611686018427387904) (r : Int) : ∀ (n i : Nat) (k : Nat), i + n = l.length → n + 1 ≤ k → torusref04_Coef.l0 k l r i = some (cf (l.drop i) r)
  | 0, i, k, hi, hk => by
    obtain ⟨k, rfl, _⟩ := ex_succ hk
    rw [torusref04_Coef.l0, if_neg (by omega), List.drop_of_length_le (by omega), cf]
  | n + 1, i, k, hi, hk => by
    obtain ⟨k, rfl, hk'⟩ := ex_succ hk
    have hlt : i < l.length := by omega
    have hw : wrap64 ((i : Int) + 1) = ((i + 1 : Nat) : Int) := by rw [w64 (by omega) (by omega)]; omega
    rw [torusref04_Coef.l0, if_pos (by omega), if_pos (by omega), rdT_nat hlt, List.drop_eq_getElem_cons hlt, cf, hw]
    by_cases h : l[i].f0 = r
    · rw [if_pos h, if_pos h]
    · rw [if_neg h, if_neg h]
      exact coef_ref_l0 l hl r n (i + 1) k (by omega) (by omega)
theorem coef_ref (l : List S45) (hl : l.length < 4611686018427387904) (r : Int) (k : Nat) (hk : l.length + 1 ≤ k) : torusref04_Coef.f k l r = some (cf l r) := by
  unfold torusref04_Coef.f
  exact coef_ref_l0 l hl r l.length 0 k (by omega) hk
theorem dot_ref_l0 {p : Int} (hp : 2 ≤ p) (hp2 : p ≤ 251) {a b : List S45} (ha : Up p (-1) a) (hb : Up p (-1) b) (hla : a.length < 4611686018427387904) (hlb : b.length < 4611686018427387904) : ∀ (n i : Nat) (s : Int) (k : Nat), i + n = a.length → 0 ≤ s → s < p → n + b.length + 2 ≤ k → torusref04_Dot.l0 k p a b s i = some ((s + dotD b (a.drop i)) % p, 0)
  | 0, i, s, k, hi, s0, s1, hk => by
    obtain ⟨k, rfl, _⟩ := ex_succ (show 0 + 1 ≤ k by omega)
    rw [torusref04_Dot.l0, if_neg (by omega), List.drop_of_length_le (by omega), dotD, Int.add_zero, Int.emod_eq_of_lt s0 s1]
  | n + 1, i, s, k, hi, s0, s1, hk => by
    obtain ⟨k, rfl, _⟩ := ex_succ (show 0 + 1 ≤ k by omega)
    have hlt : i < a.length := by omega
    have hw : wrap64 ((i : Int) + 1) = ((i + 1 : Nat) : Int) := by rw [w64 (by omega) (by omega)]; omega
    have hm := up_mem ha _ (List.getElem_mem hlt)
    have hc := cf_range (show 0 < p by omega) a[i].f0 hb
    rw [torusref04_Dot.l0, if_pos (by omega), if_pos (by omega), rdT_nat hlt, bind_of (coef_ref b hlb _ k (by omega)), if_neg (by omega), step_val hp hp2 (by omega) hm.2.2.2 s0 s1 hc.1 hc.2, hw, dot_ref_l0 hp hp2 ha hb hla hlb n (i + 1) _ k (by omega) (Int.emod_nonneg _ (by omega)) (Int.emod_lt_of_pos _ (by omega)) (by omega), List.drop_eq_getElem_cons hlt, dotD, Int.emod_add_emod, Int.add_assoc]
theorem dot_ref (p : Int) (a b : List S45) (hl : a.length + b.length < 8796093022208) (k : Nat) (hk : 2 * a.length + 2 * b.length + 310 ≤ k) : torusref04_Dot.f k p a b = some (dotB p a b) := by
  unfold torusref04_Dot.f dotB
  rw [bind_of (checkAll_ref2 p a b hl k (by omega))]
  by_cases h : checkAllB p [a, b] = 0
  · have h1 := (checkAllB_head h).1
    have h2 := (checkAllB_head (checkAllB_head h).2).1
    have hp := primeB_ge (checkB_prime h1)
    rw [if_pos h, if_pos h]
    have := dot_ref_l0 hp.1 hp.2 (checkB_up h1).2 (checkB_up h2).2 (by omega) (by omega) a.length 0 0 k (by omega) (Int.le_refl _) (by omega) (by omega)
    rw [List.drop_zero, Int.zero_add] at this
    exact this
  · rw [if_neg h, if_neg h]
end Go.Proofs.Ytojnnfhalpefmaa.P
