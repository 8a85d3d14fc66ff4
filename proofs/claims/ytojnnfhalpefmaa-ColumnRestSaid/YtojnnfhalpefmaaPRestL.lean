/- The law ColumnRest on what its functions compute. -/
import Derived.Test.YtojnnfhalpefmaaPRest
import Derived.Test.YtojnnfhalpefmaaPGet
import Derived.Test.YtojnnfhalpefmaaMx27
set_option linter.unusedVariables false
namespace Go.Proofs.Ytojnnfhalpefmaa.P
open Go.RowKit Go.Proofs.YtojnnfhalpefmaaW.PrintWords Go.Proofs.Ytojnnfhalpefmaa.M Go.Proofs.Ytojnnfhalpefmaa.H
/-- Columns of different lows. -/
structure Dist (p : Int) (M : List (List S45)) : Prop where
  col : ∀ c ∈ M, Col p 10 c
  pos : ∀ c ∈ M, 0 < c.length
  dist : M.Pairwise (fun a b => lastR a ≠ lastR b)
theorem Dist.ups {p : Int} {M : List (List S45)} (h : Dist p M) : ∀ c ∈ M, Up p (-1) c ∧ 0 < c.length := fun c hc => ⟨(h.col c hc).up, h.pos c hc⟩
theorem Dist.len {p : Int} {M : List (List S45)} (h : Dist p M) : M.length ≤ 10 := by
  have := dist_len (n := 10) (by decide) h.col h.pos h.dist
  omega
theorem Dist.app {p : Int} {M : List (List S45)} (h : Dist p M) {c : List S45} (hc : Col p 10 c) (hl : 0 < c.length) (hd : ∀ d ∈ M, lastR d ≠ lastR c) : Dist p (M ++ [c]) := by
  refine ⟨fun d hm => ?_, fun d hm => ?_, ?_⟩
  · rcases List.mem_append.1 hm with hm | hm
    · exact h.col d hm
    · rw [List.mem_singleton.1 hm]; exact hc
  · rcases List.mem_append.1 hm with hm | hm
    · exact h.pos d hm
    · rw [List.mem_singleton.1 hm]; exact hl
  · refine List.pairwise_append.2 ⟨h.dist, List.pairwise_singleton _ _, fun a ha b hb => ?_⟩
    rw [List.mem_singleton.1 hb]
    exact hd a ha
/-- What lies in the span and is nothing at the lows is nothing. -/
theorem dist_zero {p : Int} (hp : primeB p = true) {M : List (List S45)} (h : Dist p M) {v : Int → Int} (hv : Sp p M v) (h0 : ∀ c ∈ M, ∃ q, v (lastR c) = p * q) : ∀ r, ∃ q, v r = p * q := by
  obtain ⟨K, _, k2, _, k4, k5, _⟩ := tidy_spec hp M h.ups h.dist (by have := h.len; omega)
  refine span_zero k2 (hv.trans k5) (fun c hc => ?_)
  obtain ⟨d, hd, e⟩ := k4 c hc
  rw [← e]
  exact h0 d hd
theorem dotG_one {p : Int} (g : Int → Int) : ∀ {last : Int} (x : List S45) (t : S45), Up p last x → t ∈ x → (∀ s ∈ x, s.f0 ≠ t.f0 → g s.f0 = 0) → dotG g x = t.f1 * g t.f0
  | last, [], t, hu, ht, h => by cases ht
  | last, s :: x, t, hu, ht, h => by
    have hu3 : Up p s.f0 x := hu.2.2.2.2
    rw [dotG]
    rcases List.mem_cons.1 ht with rfl | ht
    · have : dotG g x = 0 := by
        have hz : ∀ (y : List S45), (∀ u ∈ y, g u.f0 = 0) → dotG g y = 0 := by
          intro y
          induction y with
          | nil => intro _; rfl
          | cons u y ih =>
            intro hh
            rw [dotG, hh u (by simp), ih (fun w hw => hh w (by simp [hw]))]
            omega
        refine hz x (fun u hu' => h u (by simp [hu']) ?_)
        have := up_mem hu3 u hu'
        omega
      rw [this, Int.add_zero]
    · have hs := up_mem hu3 t ht
      rw [h s (by simp) (by omega), dotG_one g x t hu3 ht (fun u hu' => h u (by simp [hu']))]
      omega
theorem max_low (f : Int → Int) : ∀ (x : List S45), x ≠ [] → ∃ t ∈ x, ∀ s ∈ x, f s.f0 ≤ f t.f0
  | [], h => absurd rfl h
  | [s], _ => ⟨s, by simp, fun u hu => by rw [List.mem_singleton.1 hu]; exact Int.le_refl _⟩
  | s :: t :: x, _ => by
    obtain ⟨m, hm, hx⟩ := max_low f (t :: x) (by simp)
    by_cases h : f m.f0 ≤ f s.f0
    · exact ⟨s, by simp, fun u hu => by
        rcases List.mem_cons.1 hu with rfl | hu
        · exact Int.le_refl _
        · have := hx u hu; omega⟩
    · exact ⟨m, by simp [List.mem_cons.1 hm], fun u hu => by
        rcases List.mem_cons.1 hu with rfl | hu
        · omega
        · exact hx u hu⟩
theorem mul_zero_p {p : Int} (hp : primeB p = true) {a b q : Int} (a0 : 1 ≤ a) (a1 : a < p) (b0 : 1 ≤ b) (b1 : b < p) (h : a * b = p * q) : False := by
  obtain ⟨t, _, _, ht, _⟩ := inv_spec hp a0 a1
  obtain ⟨s, hs⟩ := ed (t * a) p
  rw [ht] at hs
  have e : b = p * (t * q - s * b) := by
    have : b = (t * a - p * s) * b := by rw [← hs]; omega
    grind
  have := primeB_ge hp
  by_cases h0 : t * q - s * b ≤ 0
  · have := Int.mul_nonneg (show (0 : Int) ≤ p by omega) (show 0 ≤ -(t * q - s * b) by omega)
    grind
  · have := Int.mul_le_mul_of_nonneg_left (show (1 : Int) ≤ t * q - s * b by omega) (show (0 : Int) ≤ p by omega)
    omega
theorem dist_inj {M : List (List S45)} (h : M.Pairwise (fun a b => lastR a ≠ lastR b)) {i j : Nat} (hi : i < M.length) (hj : j < M.length) (hne : i ≠ j) : lastR M[i] ≠ lastR M[j] := by
  rcases Nat.lt_or_gt_of_ne hne with hlt | hlt
  · exact List.pairwise_iff_getElem.1 h i j hi hj hlt
  · exact fun e => List.pairwise_iff_getElem.1 h j i hj hi hlt e.symm
/-- Columns of different lows are independent. -/
theorem dist_indep {p : Int} (hp : primeB p = true) {M : List (List S45)} (h : Dist p M) {x : List S45} (hx : Up p (-1) x) (hlow : ∀ t ∈ x, t.f0 < (M.length : Int)) (h0 : ∀ r, ∃ q, dotG (fun t => cf (M.getD t.toNat []) r) x = p * q) : x = [] := by
  refine Classical.byContradiction fun hne => ?_
  obtain ⟨t, ht, hmax⟩ := max_low (fun j => lastR (M.getD j.toNat [])) x hne
  have tb := up_mem hx t ht
  have tl := hlow t ht
  have htl : t.f0.toNat < M.length := by omega
  have em (j : Nat) (hj : j < M.length) : M.getD j [] = M[j] := by simp [List.getD_eq_getElem?_getD, hj]
  obtain ⟨q, hq⟩ := h0 (lastR M[t.f0.toNat])
  have hc := h.ups _ (List.getElem_mem htl)
  have hl := last_cf hc.1 hc.2
  rw [dotG_one (fun t' => cf (M.getD t'.toNat []) (lastR M[t.f0.toNat])) x t hx ht (fun s hs hne' => by
    have sb := up_mem hx s hs
    have sl := hlow s hs
    have hsl : s.f0.toNat < M.length := by omega
    have h1 := hmax s hs
    simp only [em _ hsl, em _ htl] at h1
    have h2 := dist_inj h.dist hsl htl (by omega)
    show cf (M.getD s.f0.toNat []) _ = 0
    rw [em _ hsl]
    exact cf_above (h.ups _ (List.getElem_mem hsl)).1 (by omega))] at hq
  simp only [em _ htl] at hq
  exact mul_zero_p hp tb.2.2.1 tb.2.2.2 hl.2.2.1 hl.2.2.2.1 hq
/-! ### The filter by lows -/
theorem filter_l1 (x2 : List S45) (x7 : Int) (x8 : List (List S45)) (x9 : List Int) (x11 : List S45) (x12 : Int) (x33 : List (List S45)) (x34 x35 : Int) (h9 : x9.length < 1000) (h8 : x8.length < 1000) : ∀ (m i : Nat) (x13 : Bool) (k : Nat), i + m = x9.length →
    toruslaw04_ColumnRest.l1 (k + m + 1) x2 x7 x8 x9 x11 x12 x13 x33 x34 x35 x9 (x9.length : Int) i = if (x13 && (x9.drop i).all (fun y => y != x12)) = true then toruslaw04_ColumnRest.l0 k x2 x7 (x8 ++ [x11]) (x9 ++ [x12]) x33 x34 (wrap64 (x35 + 1)) else toruslaw04_ColumnRest.l0 k x2 x7 x8 x9 x33 x34 (wrap64 (x35 + 1))
  | 0, i, x13, k, hi => by
    have c1 : ¬ ((i : Int) < (x9.length : Int)) := by omega
    rw [toruslaw04_ColumnRest.l1, if_neg c1, List.drop_of_length_le (by omega)]
    cases x13
    · rfl
    · rw [if_pos rfl, if_pos (by omega), if_pos (by omega)]
      exact (if_pos rfl).symm
  | m + 1, i, x13, k, hi => by
    have hlt : i < x9.length := by omega
    have c1 : (i : Int) < (x9.length : Int) := by omega
    have c2 : (0 : Int) ≤ (i : Int) := by omega
    have c3 : i < 4611686018427387904 := by omega
    rw [toruslaw04_ColumnRest.l1, if_pos c1, if_pos c2, if_pos c1, rd_nat hlt, wnat c3, List.drop_eq_getElem_cons hlt, List.all_cons]
    cases x13
    · rw [if_neg Bool.false_ne_true, show k + (m + 1) = k + m + 1 from rfl, filter_l1 x2 x7 x8 x9 x11 x12 x33 x34 x35 h9 h8 m (i + 1) false k (by omega)]
      rfl
    · rw [if_pos rfl, show k + (m + 1) = k + m + 1 from rfl, filter_l1 x2 x7 x8 x9 x11 x12 x33 x34 x35 h9 h8 m (i + 1) _ k (by omega), Bool.true_and]
theorem filter_l0 {p : Int} (B : Nat) (x2 : List S45) (x7 : Int) {L : List (List S45)} (hL : Cols p 10 L) (hn : L.length ≤ 8) : ∀ (m i : Nat) (M : List (List S45)) (k : Nat), i + m = L.length → M.length ≤ i → Dist p M → (∀ c ∈ M, c ∈ L) → 20 * m + B + 1 ≤ k →
    ∃ M' k', B ≤ k' ∧ M'.length ≤ 8 ∧ Dist p M' ∧ toruslaw04_ColumnRest.l0 k x2 x7 M (M.map lastR) L (L.length : Int) i = toruslaw04_ColumnRest.l0 (k' + 1) x2 x7 M' (M'.map lastR) L (L.length : Int) (L.length : Int)
  | 0, i, M, k, hi, hM, hd, hm, hk => ⟨M, k - 1, by omega, by omega, hd, by rw [show i = L.length by omega, show k - 1 + 1 = k by omega]⟩
  | m + 1, i, M, k, hi, hM, hd, hm, hk => by
    obtain ⟨k, rfl⟩ : ∃ k', k = (k' + M.length + 1) + 1 := ⟨k - M.length - 2, by omega⟩
    have hlt : i < L.length := by omega
    have c1 : (i : Int) < (L.length : Int) := by omega
    have c2 : (0 : Int) ≤ (i : Int) := by omega
    have c3 : i < 4611686018427387904 := by omega
    have hc := hL _ (List.getElem_mem hlt)
    have hcl := hc.len (by decide)
    have hml : (M.map lastR).length = M.length := by simp
    rw [toruslaw04_ColumnRest.l0, if_pos c1, if_pos c2, if_pos c1, rdL_nat hlt, bind_of (low_ref L[i] (by omega))]
    have F := filter_l1 x2 x7 M (M.map lastR) L[i] (if L[i].length = 0 then (0, false) else ((rd_T45 L[i] ((L[i].length : Int) - 1)).f0, true)).1 L (L.length : Int) (i : Int) (by omega) (by omega) M.length 0 (if L[i].length = 0 then (0, false) else ((rd_T45 L[i] ((L[i].length : Int) - 1)).f0, true)).2 k (by omega)
    have F0 : ((0 : Nat) : Int) = 0 := rfl
    rw [F0] at F
    rw [F, wnat c3]
    by_cases hz : L[i].length = 0
    · simp only [if_pos hz, Bool.false_and]
      rw [if_neg Bool.false_ne_true]
      exact filter_l0 B x2 x7 hL hn m (i + 1) M k (by omega) (by omega) hd hm (by omega)
    · simp only [if_neg hz, Bool.true_and, List.drop_zero]
      by_cases ha : ((M.map lastR).all (fun y => y != (rd_T45 L[i] ((L[i].length : Int) - 1)).f0)) = true
      · rw [if_pos ha]
        have e : M.map lastR ++ [(rd_T45 L[i] ((L[i].length : Int) - 1)).f0] = (M ++ [L[i]]).map lastR := by simp [lastR]
        rw [e]
        refine filter_l0 B x2 x7 hL hn m (i + 1) (M ++ [L[i]]) k (by omega) (by simp; omega) (hd.app hc (by omega) (fun d hdm => ?_)) (fun c hcm => ?_) (by omega)
        · have := List.all_eq_true.1 ha (lastR d) (List.mem_map_of_mem hdm)
          simpa [lastR] using this
        · rcases List.mem_append.1 hcm with hcm | hcm
          · exact hm c hcm
          · rw [List.mem_singleton.1 hcm]; exact List.getElem_mem hlt
      · rw [if_neg ha]
        exact filter_l0 B x2 x7 hL hn m (i + 1) M k (by omega) (by omega) hd hm (by omega)
theorem lows_l2 {rest : List S45} (hr : rest.length ≤ 1024) : ∀ (M : List Int), (∀ y ∈ M, cf rest y = 0) → M.length ≤ 100 → ∀ (m i : Nat) (k : Nat), i + m = M.length → m + 2000 ≤ k → toruslaw04_ColumnRest.l2 k rest M (M.length : Int) i = some true := by
  intro M h0 hM m
  induction m with
  | zero =>
    intro i k hi hk
    obtain ⟨k, rfl, _⟩ := ex_succ (show 0 + 1 ≤ k by omega)
    have c1 : ¬ ((i : Int) < (M.length : Int)) := by omega
    rw [toruslaw04_ColumnRest.l2, if_neg c1]
    rfl
  | succ m ih =>
    intro i k hi hk
    obtain ⟨k, rfl, _⟩ := ex_succ (show 0 + 1 ≤ k by omega)
    have hlt : i < M.length := by omega
    have c1 : (i : Int) < (M.length : Int) := by omega
    have c2 : (0 : Int) ≤ (i : Int) := by omega
    have c3 : i < 4611686018427387904 := by omega
    rw [toruslaw04_ColumnRest.l2, if_pos c1, if_pos c2, if_pos c1, rd_nat hlt, bind_of (coef_col2 rest (by omega) _ k (by omega)), if_pos (h0 _ (List.getElem_mem hlt)), wnat c3]
    exact ih (i + 1) k (by omega) (by omega)
theorem rest_true (a0 : Int) (l1 : List (List S45)) (h1 : l1.length < 1000000000000000) (hi : ∀ l ∈ l1, l.length < 8796093022208) (l2 : List S45) (h2 : l2.length < 10000000000000) : ∃ k, toruslaw04_ColumnRest.f k a0 l1 l2 = some true := by
  obtain ⟨p, hp, hf⟩ := field_spec a0
  obtain ⟨hp1, hp2⟩ := primeB_ge hp
  obtain ⟨L, hc, hl, hfit⟩ := fitList_spec hp l1 h1 (fun c hc => by have := hi c hc; omega)
  obtain ⟨a, ca, fa⟩ := fit_spec hp l2 (by omega)
  obtain ⟨k, hk⟩ : ∃ k, k = longest l1 + l2.length + 9000 := ⟨_, rfl⟩
  obtain ⟨M, k', hk', hM8, hM, e0⟩ := filter_l0 (l2.length + 5000) l2 p hc hl L.length 0 [] k (by omega) (Nat.le_refl _) ⟨fun c h => (by cases h), fun c h => (by cases h), List.Pairwise.nil⟩ (fun c h => (by cases h)) (by omega)
  obtain ⟨rest, used, r1, r2, r3, r4, r5, r6, r7⟩ := rest_spec hp hM.ups hM.dist (by omega) ca.up
  obtain ⟨sum, s1, s2, s3⟩ := combine_spec hp (fun c hc => (hM.ups c hc).1) (by omega) r3 r6
  obtain ⟨rest', used', t1, t2, t3, t4, t5, t6, t7⟩ := rest_spec hp hM.ups hM.dist (by omega) r2
  have er : rest' = rest := by
    refine up_ext t2 r2 (fun r => ?_)
    obtain ⟨q, hq⟩ := dist_zero hp hM t5 (fun c hc => ⟨0, by rw [r4 c hc, t4 c hc]; simp⟩) r
    have b1 := cf_range (show 0 < p by omega) r r2
    have b2 := cf_range (show 0 < p by omega) r t2
    have h1 := Int.emod_eq_of_lt b1.1 b1.2
    have h2 := Int.emod_eq_of_lt b2.1 b2.2
    rw [← h1, ← h2]
    exact em (-q) (by grind)
  subst er
  have eu : used' = [] := dist_indep hp hM t3 t6 (fun r => by
    obtain ⟨q, hq⟩ := t7 r
    exact ⟨q, by omega⟩)
  subst eu
  have eplus : colAdd p (1 % p) rest' sum = a := by
    have m0 := Int.emod_nonneg 1 (show p ≠ 0 by omega)
    have m1 := Int.emod_lt_of_pos 1 (show 0 < p by omega)
    refine up_ext (colAdd_up hp1 hp2 m0 m1 r2 s2) ca.up (fun r => ?_)
    obtain ⟨q1, e1⟩ := s3 r
    obtain ⟨q2, e2⟩ := r7 r
    have b1 := cf_range (show 0 < p by omega) r ca.up
    rw [colAdd_cf hp1 hp2 m0 m1 r2 s2, show (1 : Int) % p = 1 from Int.emod_eq_of_lt (by omega) (by omega), ← Int.emod_eq_of_lt b1.1 b1.2]
    exact em (q1 + q2) (by rw [e1]; grind)
  obtain ⟨K, _, k2, k3, k4, k5, k6⟩ := tidy_spec hp M hM.ups hM.dist (by omega)
  have hMa : Cols p 10 (M ++ [a]) := fun c hc => by
    rcases List.mem_append.1 hc with hc | hc
    · exact hM.col c hc
    · rw [List.mem_singleton.1 hc]; exact ca
  obtain ⟨B, b1, b2, b3, b4, b5, b6⟩ := basis_spec (n := 10) hp (by decide) (by decide) hMa (by simp; omega)
  have hrank : (decide (rest'.length = 0)) = decide (B.length = M.length) := by
    by_cases hz : rest'.length = 0
    · have hz' : rest' = [] := List.length_eq_zero_iff.1 hz
      have ha : Sp p M (cf a) := r5.congr (fun r => ⟨0, by rw [hz']; simp [cf]⟩)
      have := red_unique hp b2 k2 (fun c hc => ((b5 c hc).trans (fun d hd => by
        rcases List.mem_append.1 hd with hd | hd
        · exact k5 d hd
        · rw [List.mem_singleton.1 hd]; exact ha.trans k5))) (fun c hc => (k6 c hc).trans (fun d hd => b4 d (by simp [hd])))
      rw [decide_eq_true hz, this, decide_eq_true k3]
    · have cr : Col p 10 rest' := by
        refine col_span hp hMa r2 ((Sp.mem (p := p) (L := M ++ [a]) (c := a) (by simp)).minus (r5.mono (fun c hc => by simp [hc])) |>.congr (fun r => ⟨0, by grind⟩))
      have lr := last_cf r2 (by omega)
      have hD : Dist p (M ++ [rest']) := hM.app cr (by omega) (fun d hd e => by
        have := r4 d hd
        rw [e] at this
        omega)
      obtain ⟨K', _, l2', l3, l4, l5, l6⟩ := tidy_spec hp (M ++ [rest']) hD.ups hD.dist (by simp; omega)
      have := red_unique hp b2 l2' (fun c hc => ((b5 c hc).trans (fun d hd => by
        rcases List.mem_append.1 hd with hd | hd
        · exact l5 d (by simp [hd])
        · rw [List.mem_singleton.1 hd]
          exact ((r5.trans (fun d hd => l5 d (by simp [hd]))).plus (l5 rest' (by simp))).congr (fun r => ⟨0, by grind⟩)))) (fun c hc => (l6 c hc).trans (fun d hd => by
        rcases List.mem_append.1 hd with hd | hd
        · exact b4 d (by simp [hd])
        · rw [List.mem_singleton.1 hd]
          exact ((b4 a (by simp)).minus (r5.trans (fun d hd => b4 d (by simp [hd])))).congr (fun r => ⟨0, by grind⟩)))
      have hlen : B.length = M.length + 1 := by rw [this, l3]; simp
      rw [decide_eq_false hz, decide_eq_false (by omega)]
  have lr := up_len r2
  have la := ca.len (by decide)
  have ls := up_len s2
  refine ⟨k, ?_⟩
  unfold toruslaw04_ColumnRest.f
  refine (bind_of (hf k (by omega))).trans ?_
  refine (bind_of (hfit k (by omega))).trans ?_
  refine e0.trans ?_
  rw [toruslaw04_ColumnRest.l0, if_neg (by omega)]
  refine (bind_of (fa k' (by omega))).trans ?_
  refine (bind_of (r1 k' (by omega))).trans ?_
  refine (bind_of (s1 k' (by omega))).trans ?_
  refine (bind_of (t1 k' (by omega))).trans ?_
  refine (bind_of (copyList_spec M (by omega) (fun c hc => up_len (hM.ups c hc).1) k' (by omega))).trans ?_
  refine (if_pos (by omega)).trans ?_
  refine (bind_of (b1 k' (by omega)).2).trans ?_
  refine (if_pos rfl).trans ?_
  refine (if_pos rfl).trans ?_
  refine (if_pos rfl).trans ?_
  refine (if_pos rfl).trans ?_
  refine (bind_of (plus_law hp r2 s2 1 (by omega) k' (by omega))).trans ?_
  rw [eplus]
  refine (bind_of (same_refl a (by omega) k' (by omega))).trans ?_
  refine (if_pos rfl).trans ?_
  refine (bind_of (same_refl rest' (by omega) k' (by omega))).trans ?_
  refine (if_pos rfl).trans ?_
  refine (if_neg (by simp)).trans ?_
  have hb : (((rest'.length : Int) == 0) != ((B.length : Int) == (M.length : Int))) = false := by
    by_cases hz : rest'.length = 0
    · rw [decide_eq_true hz] at hrank
      have := of_decide_eq_true hrank.symm
      simp [hz, this]
    · rw [decide_eq_false hz] at hrank
      have := of_decide_eq_false hrank.symm
      have g1 : ((rest'.length : Int) == 0) = false := by simpa using hz
      have g2 : ((B.length : Int) == (M.length : Int)) = false := by simp; omega
      rw [g1, g2]; rfl
  show toruslaw04_ColumnRest.j2 k' (M.map lastR) rest' (((rest'.length : Int) == 0) != ((B.length : Int) == (M.length : Int))) = some true
  rw [hb]
  obtain ⟨k1, rfl⟩ : ∃ k1, k' = k1 + 1 := ⟨k' - 1, by omega⟩
  rw [toruslaw04_ColumnRest.j2, if_neg Bool.false_ne_true]
  exact lows_l2 lr (M.map lastR) (fun y hy => by
    obtain ⟨d, hd, rfl⟩ := List.mem_map.1 hy
    exact r4 d hd) (by simp; omega) (M.map lastR).length 0 k1 (by omega) (by simp; omega)
end Go.Proofs.Ytojnnfhalpefmaa.P
