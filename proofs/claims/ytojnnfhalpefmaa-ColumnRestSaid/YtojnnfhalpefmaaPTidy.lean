/- tidy of package column: what it computes; the reduced list is the only one. -/
import Derived.Test.YtojnnfhalpefmaaPElim
set_option linter.unusedVariables false
namespace Go.Proofs.Ytojnnfhalpefmaa.P
open Go.RowKit Go.Proofs.YtojnnfhalpefmaaW.PrintWords Go.Proofs.Ytojnnfhalpefmaa.M Go.Proofs.Ytojnnfhalpefmaa.H
/-! ### sorting -/
abbrev nth (L : List (List S45)) (i : Nat) : List S45 := L.getD i []
theorem nth_lt {L : List (List S45)} {i : Nat} (h : i < L.length) : nth L i = L[i] := by simp [nth, List.getD_eq_getElem?_getD, h]
theorem nth_swap {L : List (List S45)} {j i : Nat} (hj : j + 1 < L.length) (hi : i < L.length) : nth (swapL L (j + 1)) i = if i = j then nth L (j + 1) else if i = j + 1 then nth L j else nth L i := by
  unfold nth swapL
  rw [H.getD_set _ _ _ _ _ (by rw [List.length_set]; exact hi), H.getD_set _ _ _ _ _ hi, Nat.add_sub_cancel]
  by_cases h1 : i = j
  · rw [if_pos h1.symm, if_pos h1]
  · rw [if_neg (fun e => h1 e.symm), if_neg h1]
    by_cases h2 : i = j + 1
    · rw [if_pos h2.symm, if_pos h2]
    · rw [if_neg (fun e => h2 e.symm), if_neg h2]
/-- Low rows of which the comparison is right. -/
def LowOk (L : List (List S45)) : Prop := ∀ c ∈ L, 0 ≤ lastR c ∧ lastR c < 1024
theorem nth_mem {L : List (List S45)} {i : Nat} (h : i < L.length) : nth L i ∈ L := getD_mem h
theorem insIn_spec : ∀ (j : Nat) (L : List (List S45)), j < L.length → LowOk L → (∀ a b, a < b → b < j → lastR (nth L a) < lastR (nth L b)) → (∀ a b, a < b → b ≤ j → lastR (nth L a) ≠ lastR (nth L b)) →
    (∀ i, j < i → nth (insIn j L) i = nth L i) ∧ (∀ i, i ≤ j → ∃ i', i' ≤ j ∧ nth (insIn j L) i = nth L i') ∧ (∀ i, i ≤ j → ∃ i', i' ≤ j ∧ nth L i = nth (insIn j L) i') ∧ (∀ a b, a < b → b ≤ j → lastR (nth (insIn j L) a) < lastR (nth (insIn j L) b))
  | 0, L, hj, ho, hs, hd => ⟨fun i _ => rfl, fun i hi => ⟨i, hi, rfl⟩, fun i hi => ⟨i, hi, rfl⟩, fun a b h1 h2 => absurd h2 (by omega)⟩
  | j + 1, L, hj, ho, hs, hd => by
    have o1 := ho _ (nth_mem hj)
    have o2 := ho _ (nth_mem (show j < L.length by omega))
    have hw : wrap64 (lastR (L.getD (j + 1) []) - lastR (L.getD j [])) = lastR (nth L (j + 1)) - lastR (nth L j) := by
      have e1 : lastR (L.getD (j + 1) []) = lastR (nth L (j + 1)) := rfl
      have e2 : lastR (L.getD j []) = lastR (nth L j) := rfl
      rw [w64 (by omega) (by omega)]
    by_cases hc : lastR (nth L (j + 1)) < lastR (nth L j)
    · rw [insIn_lt (by rw [hw]; omega)]
      have hsl := swapL_len L (j + 1)
      have sw := fun i (hi : i < L.length) => nth_swap (L := L) (j := j) hj hi
      obtain ⟨r1, r2, r3, r4⟩ := insIn_spec j (swapL L (j + 1)) (by omega) (fun c hc => ho c (swapL_mem hj hc))
        (fun a b h1 h2 => by
          rw [sw a (by omega), sw b (by omega), if_neg (by omega), if_neg (by omega), if_neg (by omega), if_neg (by omega)]
          exact hs a b h1 (by omega))
        (fun a b h1 h2 => by
          rw [sw a (by omega), sw b (by omega), if_neg (by omega), if_neg (by omega)]
          by_cases e : b = j
          · rw [if_pos e]
            exact hd a (j + 1) (by omega) (Nat.le_refl _)
          · rw [if_neg e, if_neg (by omega)]
            exact hd a b h1 (by omega))
      refine ⟨fun i hi => ?_, fun i hi => ?_, fun i hi => ?_, fun a b h1 h2 => ?_⟩
      · rw [r1 i (by omega)]
        by_cases hil : i < L.length
        · rw [sw i hil, if_neg (by omega), if_neg (by omega)]
        · simp [nth, List.getD_eq_getElem?_getD, List.getElem?_eq_none (show (swapL L (j + 1)).length ≤ i by omega), List.getElem?_eq_none (show L.length ≤ i by omega)]
      · by_cases e : i = j + 1
        · subst e
          refine ⟨j, by omega, ?_⟩
          rw [r1 (j + 1) (by omega), sw (j + 1) hj, if_neg (by omega), if_pos rfl]
        · obtain ⟨i', h1, h2⟩ := r2 i (by omega)
          rw [h2, sw i' (by omega)]
          by_cases e2 : i' = j
          · rw [if_pos e2]; exact ⟨j + 1, Nat.le_refl _, rfl⟩
          · rw [if_neg e2, if_neg (by omega)]; exact ⟨i', by omega, rfl⟩
      · by_cases e : i = j + 1
        · subst e
          obtain ⟨i', h1, h2⟩ := r3 j (Nat.le_refl _)
          rw [sw j (by omega), if_pos rfl] at h2
          exact ⟨i', by omega, h2⟩
        · by_cases e2 : i = j
          · subst e2
            refine ⟨i + 1, Nat.le_refl _, ?_⟩
            rw [r1 (i + 1) (by omega), sw (i + 1) hj, if_neg (by omega), if_pos rfl]
          · obtain ⟨i', h1, h2⟩ := r3 i (by omega)
            rw [sw i (by omega), if_neg e2, if_neg e] at h2
            exact ⟨i', by omega, h2⟩
      · by_cases e : b = j + 1
        · subst e
          rw [r1 (j + 1) (by omega), sw (j + 1) hj, if_neg (by omega), if_pos rfl]
          obtain ⟨i', q1, q2⟩ := r2 a (by omega)
          rw [q2, sw i' (by omega)]
          by_cases e2 : i' = j
          · rw [if_pos e2]; exact hc
          · rw [if_neg e2, if_neg (by omega)]
            exact hs i' j (by omega) (by omega)
        · exact r4 a b h1 (by omega)
    · rw [insIn_ge (by rw [hw]; omega)]
      refine ⟨fun i _ => rfl, fun i hi => ⟨i, hi, rfl⟩, fun i hi => ⟨i, hi, rfl⟩, fun a b h1 h2 => ?_⟩
      have hne := hd j (j + 1) (by omega) (Nat.le_refl _)
      by_cases e : b = j + 1
      · subst e
        by_cases e2 : a = j
        · subst e2; omega
        · have := hs a j (by omega) (by omega)
          omega
      · exact hs a b h1 (by omega)
theorem insOut_spec : ∀ (k i : Nat) (L : List (List S45)), i + k = L.length → 1 ≤ i → LowOk L → (∀ a b, a < b → b < i → lastR (nth L a) < lastR (nth L b)) → (∀ a b, a < b → b < L.length → lastR (nth L a) ≠ lastR (nth L b)) →
    (∀ c, c ∈ insOut k i L ↔ c ∈ L) ∧ (∀ a b, a < b → b < L.length → lastR (nth (insOut k i L) a) < lastR (nth (insOut k i L) b))
  | 0, i, L, hi, h1, ho, hs, hd => ⟨fun c => Iff.rfl, fun a b h1 h2 => hs a b h1 (by omega)⟩
  | k + 1, i, L, hi, h1, ho, hs, hd => by
    have hil : i < L.length := by omega
    obtain ⟨r1, r2, r3, r4⟩ := insIn_spec i L hil ho hs (fun a b q1 q2 => hd a b q1 (by omega))
    have hlen := insIn_len i L
    have hmem : ∀ c, c ∈ insIn i L ↔ c ∈ L := fun c => by
      constructor
      · exact insIn_mem hil
      · intro hc
        obtain ⟨m, hm, rfl⟩ := List.mem_iff_getElem.1 hc
        rw [← nth_lt hm]
        by_cases e : m ≤ i
        · obtain ⟨m', q1, q2⟩ := r3 m e
          rw [q2]
          exact nth_mem (by omega)
        · rw [← r1 m (by omega)]
          exact nth_mem (by omega)
    -- the low rows stay distinct
    have hdist : ∀ a b, a < b → b < (insIn i L).length → lastR (nth (insIn i L) a) ≠ lastR (nth (insIn i L) b) := fun a b q1 q2 => by
      by_cases e : b ≤ i
      · have := r4 a b q1 e
        omega
      · rw [r1 b (by omega)]
        by_cases e2 : a ≤ i
        · obtain ⟨a', q3, q4⟩ := r2 a e2
          rw [q4]
          exact hd a' b (by omega) (by omega)
        · rw [r1 a (by omega)]
          exact hd a b q1 (by omega)
    obtain ⟨s1, s2⟩ := insOut_spec k (i + 1) (insIn i L) (by omega) (by omega) (fun c hc => ho c ((hmem c).1 hc)) (fun a b q1 q2 => r4 a b q1 (by omega)) hdist
    rw [insOut]
    exact ⟨fun c => (s1 c).trans (hmem c), fun a b q1 q2 => s2 a b q1 (by omega)⟩
theorem sort_spec {L : List (List S45)} (ho : LowOk L) (hd : L.Pairwise (fun a b => lastR a ≠ lastR b)) : (∀ c, c ∈ sortL L ↔ c ∈ L) ∧ (sortL L).Pairwise (fun a b => lastR a < lastR b) := by
  have hlen := sortL_len L
  rcases Nat.eq_zero_or_pos L.length with h0 | h0
  · have : L = [] := List.eq_nil_of_length_eq_zero h0
    subst this
    exact ⟨fun c => Iff.rfl, List.Pairwise.nil⟩
  · obtain ⟨r1, r2⟩ := insOut_spec (L.length - 1) 1 L (by omega) (Nat.le_refl _) ho (fun a b h1 h2 => absurd h2 (by omega)) (fun a b h1 h2 => by
      rw [nth_lt (by omega), nth_lt h2]
      exact List.pairwise_iff_getElem.1 hd a b (by omega) h2 h1)
    refine ⟨r1, List.pairwise_iff_getElem.2 (fun a b ha hb hab => ?_)⟩
    have := r2 a b hab (by omega)
    have e : insOut (L.length - 1) 1 L = sortL L := rfl
    rw [e, nth_lt ha, nth_lt hb] at this
    exact this
/-! ### reduced lists -/
structure Red (p : Int) (K : List (List S45)) : Prop where
  up : ∀ c ∈ K, Up p (-1) c ∧ 0 < c.length ∧ cf c (lastR c) = 1
  asc : K.Pairwise (fun a b => lastR a < lastR b)
  cross : ∀ c ∈ K, ∀ d ∈ K, lastR c ≠ lastR d → cf c (lastR d) = 0
theorem asc_ne {K : List (List S45)} (h : K.Pairwise (fun a b => lastR a < lastR b)) : K.Pairwise (fun a b => lastR a ≠ lastR b) := h.imp (fun h e => by omega)
structure TInv (p : Int) (P : List (List S45)) (s : St) : Prop where
  piv : Piv p s.mp s.L
  ulen : s.U.length = s.L.length
  uup : ∀ x ∈ s.U, Up p (-1) x
  red : Red p s.L
  lows : s.L.map lastR = P.map lastR
  zed : s.Z = []
  span1 : ∀ c ∈ P, Sp p s.L (cf c)
  span2 : ∀ c ∈ s.L, Sp p P (cf c)
theorem tidy_step {p : Int} (hp : primeB p = true) {P : List (List S45)} {s : St} (h : TInv p P s) {c : List S45} (hc : Up p (-1) c) (hl : 0 < c.length) (hP : ∀ d ∈ P, lastR d < lastR c) :
    ∃ c' x' t d, (∀ k, 1064 ≤ k → clearL p s.mp s.L s.U k c [] (wrap64 ((c.length : Int) - 1)) = some (c', x')) ∧ 0 < c'.length ∧ (∀ k, 30 ≤ k → modp_Inv.f k p (rd_T45 c' ((c'.length : Int) - 1)).f1 = some (t, 0)) ∧
      column_plus.f p [] t c' = some d ∧ 0 < d.length ∧ rowOk (lastR d) ∧ TInv p (P ++ [c]) (s.put d []) := by
  obtain ⟨hp1, hp2⟩ := primeB_ge hp
  obtain ⟨c', x', e1, e2, e3, e4, e5⟩ := clear_all hp h.piv h.ulen h.uup c [] hc (up_nil p) (piv_none h.piv)
  have hLu : ∀ d ∈ s.L, Up p (-1) d := fun d hd => (h.piv.up d hd).1
  have hsp := adds_sp hp hLu h.ulen h.uup e5 hc (up_nil p)
  have hlow : ∀ d ∈ s.L, lastR d < lastR c := fun d hd => by
    have : lastR d ∈ P.map lastR := by rw [← h.lows]; exact List.mem_map_of_mem hd
    obtain ⟨a, ha, e⟩ := List.mem_map.1 this
    rw [← e]
    exact hP a ha
  have htop := adds_topL hp hLu h.ulen h.uup e5 (y := lastR c) (fun u hu r hr => cf_above (hLu u hu) (by have := hlow u hu; omega)) hc (up_nil p)
  obtain ⟨b0, b1, b2, b3, _⟩ := last_cf hc hl
  obtain ⟨cl, cr⟩ := lastR_eq e2 (y := lastR c) (by rw [htop _ (Int.le_refl _)]; omega) (fun r hr => by rw [htop r (by omega)]; exact cf_above hc hr)
  obtain ⟨d0, d1, d2, d3, d4⟩ := last_cf e2 cl
  obtain ⟨t, t0, t1, t2, t3⟩ := inv_spec hp d2 d3
  have hd := colAdd_up hp1 hp2 t0 t1 (up_nil p) e2
  have hdc := fun r => colAdd_cf hp1 hp2 t0 t1 (up_nil p) e2 r
  have hcl := up_len e2
  have hd1 : cf (colAdd p t [] c') (lastR c) = 1 := by
    rw [hdc, cf, ← cr, Int.zero_add]
    exact t2
  obtain ⟨dl, dr⟩ := lastR_eq hd (y := lastR c) (by omega) (fun r hr => by
    rw [hdc, cf, cf_above e2 (by omega)]; simp)
  have hd0 : ∀ y, (s.mp y).isSome = true → cf (colAdd p t [] c') y = 0 := fun y hy => by rw [hdc, e4 y hy, cf]; simp
  refine ⟨c', x', t, colAdd p t [] c', e1, cl, fun k hk => by rw [d4]; exact t3 k hk, plus_col (by omega) (by simp; omega), dl, ⟨by omega, by omega⟩, ?_⟩
  have hspd : Sp p (s.L ++ [colAdd p t [] c']) (cf c') := by
    -- c' = lowcoef * d
    refine ((Sp.mem (p := p) (c := colAdd p t [] c') (L := s.L ++ [colAdd p t [] c']) (by simp)).smul (cf c' (lastR c'))).congr (fun r => ?_)
    rw [hdc, cf]
    obtain ⟨q1, h1⟩ := ed (0 + t * cf c' r) p
    obtain ⟨q2, h2⟩ := ed (t * cf c' (lastR c')) p
    rw [t2] at h2
    exact ⟨cf c' (lastR c') * q1 - q2 * cf c' r, by rw [h1]; grind⟩
  refine ⟨piv_put h.piv hd dl, ?_, fun x hx => ?_, ⟨fun a ha => ?_, ?_, fun a ha b hb hne => ?_⟩, ?_, ?_, fun a ha => ?_, fun a ha => ?_⟩
  · show (s.U ++ [[]]).length = (s.L ++ [_]).length
    simp [h.ulen]
  · rcases List.mem_append.1 hx with hx | hx
    · exact h.uup x hx
    · rw [List.mem_singleton.1 hx]; exact up_nil p
  · rcases List.mem_append.1 ha with ha | ha
    · exact h.red.up a ha
    · rw [List.mem_singleton.1 ha]
      exact ⟨hd, dl, by rw [dr]; exact hd1⟩
  · show (s.L ++ [_]).Pairwise _
    rw [List.pairwise_append]
    refine ⟨h.red.asc, List.pairwise_singleton _ _, fun a ha b hb => ?_⟩
    rw [List.mem_singleton.1 hb, dr]
    exact hlow a ha
  · rcases List.mem_append.1 ha with ha | ha
    · rcases List.mem_append.1 hb with hb | hb
      · exact h.red.cross a ha b hb hne
      · rw [List.mem_singleton.1 hb, dr]
        exact cf_above (hLu a ha) (hlow a ha)
    · rw [List.mem_singleton.1 ha] at hne ⊢
      rcases List.mem_append.1 hb with hb | hb
      · exact hd0 _ (h.piv.all b hb)
      · rw [List.mem_singleton.1 hb] at hne
        exact absurd rfl hne
  · show (s.L ++ [_]).map lastR = (P ++ [c]).map lastR
    rw [List.map_append, List.map_append, h.lows, List.map_singleton, List.map_singleton, dr]
  · exact h.zed
  · show Sp p (s.L ++ [_]) (cf a)
    rcases List.mem_append.1 ha with ha | ha
    · exact (h.span1 a ha).mono (fun b hb => by simp [hb])
    · rw [List.mem_singleton.1 ha]
      exact ((hsp.mono (L' := s.L ++ [colAdd p t [] c']) (fun b hb => by simp [hb])).plus hspd).congr (fun r => ⟨0, by simp⟩)
  · rcases List.mem_append.1 ha with ha | ha
    · exact (h.span2 a ha).mono (fun b hb => by simp [hb])
    · rw [List.mem_singleton.1 ha]
      have q1 : Sp p (P ++ [c]) (fun r => cf c r - cf c' r) := hsp.trans (fun a ha => (h.span2 a ha).mono (fun b hb => by simp [hb]))
      have q2 : Sp p (P ++ [c]) (cf c') := ((Sp.mem (c := c) (L := P ++ [c]) (by simp)).minus q1).congr (fun r => ⟨0, by grind⟩)
      refine (q2.smul t).congr (fun r => ?_)
      rw [hdc, cf]
      obtain ⟨q, hq⟩ := ed (0 + t * cf c' r) p
      exact ⟨-q, by rw [hq]; grind⟩
theorem tidyL_spec {p : Int} (hp : primeB p = true) : ∀ (l P : List (List S45)) (s : St), TInv p P s → (∀ c ∈ l, Up p (-1) c ∧ 0 < c.length) → (∀ a ∈ P, ∀ b ∈ l, lastR a < lastR b) → l.Pairwise (fun a b => lastR a < lastR b) → P.length + l.length ≤ 1000 →
    ∃ s', (∀ k, 1064 ≤ k → tidyL p k l s = some s'.L) ∧ TInv p (P ++ l) s'
  | [], P, s, h, _, _, _, _ => ⟨s, fun k _ => by rw [tidyL], by simpa using h⟩
  | c :: l, P, s, h, hl, hPl, hasc, hn => by
    obtain ⟨hc, hcl⟩ := hl c (by simp)
    obtain ⟨ha1, ha2⟩ := List.pairwise_cons.1 hasc
    simp only [List.length_cons] at hn
    obtain ⟨c', x', t, d, e1, e2, e3, e4, e5, e6, e7⟩ := tidy_step hp h hc hcl (fun a ha => hPl a ha c (by simp))
    have hlen := up_len hc
    have h1 : s.L.length = P.length := by
      have := congrArg List.length h.lows
      simpa using this
    have hul := h.ulen
    have hz : s.Z.length = 0 := by rw [h.zed]; rfl
    obtain ⟨s', f1, f2⟩ := tidyL_spec hp l (P ++ [c]) (s.put d []) e7 (fun b hb => hl b (by simp [hb])) (fun a ha b hb => by
      rcases List.mem_append.1 ha with ha | ha
      · exact hPl a ha b (by simp [hb])
      · rw [List.mem_singleton.1 ha]; exact ha1 b hb) ha2 (by simp; omega)
    refine ⟨s', fun k hk => ?_, by simpa using f2⟩
    rw [tidyL, if_pos ⟨by omega, by unfold St.small; omega⟩, bind_of (e1 k hk), if_pos e2, bind_of (e3 k (by omega)), bind_of e4, if_pos ⟨e5, e6⟩]
    exact f1 k hk
theorem tinv0 (p : Int) : TInv p [] st0 :=
  ⟨⟨fun c hc => (by cases hc), fun y j hj => (by cases hj), fun c hc => (by cases hc)⟩, rfl, fun x hx => (by cases hx), ⟨fun c hc => (by cases hc), List.Pairwise.nil, fun c hc => (by cases hc)⟩, rfl, rfl, fun c hc => (by cases hc), fun c hc => (by cases hc)⟩
/-- tidy over a list that is independent in its low rows. -/
theorem tidy_spec {p : Int} (hp : primeB p = true) (l : List (List S45)) (hl : ∀ c ∈ l, Up p (-1) c ∧ 0 < c.length) (hd : l.Pairwise (fun a b => lastR a ≠ lastR b)) (hn : l.length ≤ 12) :
    ∃ K, (∀ k, 1064 ≤ k → tidyF p k l = some K) ∧ Red p K ∧ K.length = l.length ∧ (∀ c ∈ K, ∃ d ∈ l, lastR d = lastR c) ∧ (∀ c ∈ l, Sp p K (cf c)) ∧ (∀ c ∈ K, Sp p l (cf c)) := by
  obtain ⟨s1, s2⟩ := sort_spec (L := l) (fun c hc => by
    obtain ⟨a, b⟩ := hl c hc
    have := last_cf a b
    exact ⟨this.1, this.2.1⟩) hd
  have hsl := sortL_len l
  obtain ⟨s', f1, f2⟩ := tidyL_spec hp (sortL l) [] st0 (tinv0 p) (fun c hc => hl c ((s1 c).1 hc)) (fun a ha => by cases ha) s2 (by simp; omega)
  rw [List.nil_append] at f2
  refine ⟨s'.L, fun k hk => ?_, f2.red, ?_, fun c hc => ?_, fun c hc => f2.span1 c ((s1 c).2 hc), fun c hc => (f2.span2 c hc).mono (fun d hd => (s1 d).1 hd)⟩
  · unfold tidyF
    rw [if_pos ⟨hn, fun c hc => (hl c hc).2⟩]
    exact f1 k hk
  · have := congrArg List.length f2.lows
    simp only [List.length_map] at this
    omega
  · have : lastR c ∈ (sortL l).map lastR := by rw [← f2.lows]; exact List.mem_map_of_mem hc
    obtain ⟨d, hd, e⟩ := List.mem_map.1 this
    exact ⟨d, (s1 d).1 hd, e⟩
/-! ### the reduced list is the only one -/
def sumK (v : Int → Int) (r : Int) : List (List S45) → Int
  | [] => 0
  | c :: K => v (lastR c) * cf c r + sumK v r K
theorem sumK_lin {p k : Int} {v u w : Int → Int} (r : Int) (h : ∀ y, ∃ q, v y = u y + k * w y + p * q) : ∀ (K : List (List S45)), ∃ q, sumK v r K = sumK u r K + k * sumK w r K + p * q
  | [] => ⟨0, by simp [sumK]⟩
  | c :: K => by
    obtain ⟨q1, h1⟩ := sumK_lin r h K
    obtain ⟨q2, h2⟩ := h (lastR c)
    exact ⟨q1 + q2 * cf c r, by rw [sumK, sumK, sumK, h1, h2]; grind⟩
theorem sumK_zero {p : Int} {v : Int → Int} (r : Int) : ∀ (K : List (List S45)), (∀ c ∈ K, ∃ q, v (lastR c) = p * q) → ∃ q, sumK v r K = p * q
  | [], _ => ⟨0, by simp [sumK]⟩
  | c :: K, h => by
    obtain ⟨q1, h1⟩ := sumK_zero r K (fun d hd => h d (by simp [hd]))
    obtain ⟨q2, h2⟩ := h c (by simp)
    exact ⟨q1 + q2 * cf c r, by rw [sumK, h1, h2]; grind⟩
theorem low_inj {K : List (List S45)} (h : K.Pairwise (fun a b => lastR a < lastR b)) {c d : List S45} (hc : c ∈ K) (hd : d ∈ K) (e : lastR c = lastR d) : c = d := by
  obtain ⟨i, hi, rfl⟩ := List.mem_iff_getElem.1 hc
  obtain ⟨j, hj, rfl⟩ := List.mem_iff_getElem.1 hd
  have h' := List.pairwise_iff_getElem.1 h
  rcases Nat.lt_trichotomy i j with q | q | q
  · have := h' i j hi hj q; omega
  · subst q; rfl
  · have := h' j i hj hi q; omega
theorem sumK_self {p : Int} {K : List (List S45)} (h : Red p K) {c : List S45} (hc : c ∈ K) (r : Int) : ∀ (M : List (List S45)), (∀ d ∈ M, d ∈ K) → M.Pairwise (fun a b => lastR a < lastR b) → (c ∈ M → sumK (cf c) r M = cf c r) ∧ (¬ c ∈ M → sumK (cf c) r M = 0)
  | [], _, _ => ⟨fun q => (by cases q), fun _ => rfl⟩
  | d :: M, hM, hp => by
    obtain ⟨h1, h2⟩ := List.pairwise_cons.1 hp
    obtain ⟨I1, I2⟩ := sumK_self h hc r M (fun a ha => hM a (by simp [ha])) h2
    rw [sumK]
    by_cases e : lastR c = lastR d
    · have : c = d := low_inj h.asc hc (hM d (by simp)) e
      subst this
      have hn : ¬ c ∈ M := fun q => by have := h1 c q; omega
      rw [I2 hn, (h.up c hc).2.2]
      exact ⟨fun _ => by omega, fun q => absurd (by simp) q⟩
    · rw [h.cross c hc d (hM d (by simp)) e]
      have hne : c ≠ d := fun q => e (by rw [q])
      refine ⟨fun q => ?_, fun q => ?_⟩
      · rcases List.mem_cons.1 q with q | q
        · exact absurd q hne
        · rw [I1 q]; omega
      · rw [I2 (fun q2 => q (by simp [q2]))]; omega
/-- A vector of the span is told by its entries in the low rows. -/
theorem span_told {p : Int} {K : List (List S45)} (h : Red p K) {v : Int → Int} (hv : Sp p K v) : ∀ r, ∃ q, v r = sumK v r K + p * q := by
  induction hv with
  | zero h0 =>
    intro r
    obtain ⟨q1, e1⟩ := sumK_zero (p := p) r K (fun c _ => h0 (lastR c))
    obtain ⟨q2, e2⟩ := h0 r
    exact ⟨q2 - q1, by grind⟩
  | add c k hc _ hv ih =>
    intro r
    obtain ⟨q1, e1⟩ := sumK_lin (p := p) r hv K
    obtain ⟨q2, e2⟩ := ih r
    obtain ⟨q3, e3⟩ := hv r
    rw [(sumK_self h hc r K (fun d hd => hd) h.asc).1 hc] at e1
    exact ⟨q2 + q3 - q1, by grind⟩
theorem span_zero {p : Int} {K : List (List S45)} (h : Red p K) {v : Int → Int} (hv : Sp p K v) (h0 : ∀ c ∈ K, ∃ q, v (lastR c) = p * q) : ∀ r, ∃ q, v r = p * q := fun r => by
  obtain ⟨q1, e1⟩ := span_told h hv r
  obtain ⟨q2, e2⟩ := sumK_zero r K h0
  exact ⟨q1 + q2, by grind⟩
theorem sumK_none {v : Int → Int} {r : Int} : ∀ (K : List (List S45)), (∀ c ∈ K, v (lastR c) * cf c r = 0) → sumK v r K = 0
  | [], _ => rfl
  | c :: K, h => by rw [sumK, h c (by simp), sumK_none K (fun d hd => h d (by simp [hd]))]; rfl
theorem low_in {p : Int} (hp : primeB p = true) {K' : List (List S45)} (h' : Red p K') {c : List S45} (hc : Up p (-1) c ∧ 0 < c.length ∧ cf c (lastR c) = 1) (hs : Sp p K' (cf c)) : ∃ d ∈ K', lastR d = lastR c := by
  obtain ⟨hp1, hp2⟩ := primeB_ge hp
  by_cases hex : ∃ d ∈ K', lastR d = lastR c
  · exact hex
  · obtain ⟨q, hq⟩ := span_told h' hs (lastR c)
    rw [sumK_none K' (fun d hd => by
      by_cases e : lastR d < lastR c
      · rw [cf_above (h'.up d hd).1 e]; simp
      · rw [cf_above hc.1 (by have : lastR d ≠ lastR c := fun q => hex ⟨d, hd, q⟩; omega)]; simp), hc.2.2] at hq
    have h1 : (1 : Int) % p = 0 := by rw [hq, Int.zero_add, Int.mul_emod_right]
    rw [Int.emod_eq_of_lt (by omega) (by omega)] at h1
    omega
theorem sorted_ext : ∀ {K K' : List (List S45)}, K.Pairwise (fun a b => lastR a < lastR b) → K'.Pairwise (fun a b => lastR a < lastR b) → (∀ c, c ∈ K ↔ c ∈ K') → K = K'
  | [], [], _, _, _ => rfl
  | [], b :: K', _, _, h => by have := (h b).2 (by simp); cases this
  | a :: K, [], _, _, h => by have := (h a).1 (by simp); cases this
  | a :: K, b :: K', h1, h2, h => by
    obtain ⟨a1, a2⟩ := List.pairwise_cons.1 h1
    obtain ⟨b1, b2⟩ := List.pairwise_cons.1 h2
    have hab : a = b := by
      rcases List.mem_cons.1 ((h a).1 (by simp)) with e | e
      · exact e
      · rcases List.mem_cons.1 ((h b).2 (by simp)) with e2 | e2
        · exact e2.symm
        · have := a1 b e2
          have := b1 a e
          omega
    subst hab
    rw [sorted_ext a2 b2 (fun c => ?_)]
    constructor
    · intro hc
      rcases List.mem_cons.1 ((h c).1 (by simp [hc])) with e | e
      · subst e; have := a1 _ hc; omega
      · exact e
    · intro hc
      rcases List.mem_cons.1 ((h c).2 (by simp [hc])) with e | e
      · subst e; have := b1 _ hc; omega
      · exact e
theorem red_sub {p : Int} (hp : primeB p = true) {K K' : List (List S45)} (h : Red p K) (h' : Red p K') (s : ∀ c ∈ K, Sp p K' (cf c)) (s' : ∀ c ∈ K', Sp p K (cf c)) {c : List S45} (hc : c ∈ K) : c ∈ K' := by
  obtain ⟨hp1, hp2⟩ := primeB_ge hp
  obtain ⟨d, hd, e⟩ := low_in hp h' (h.up c hc) (s c hc)
  have hz := span_zero h ((Sp.mem (p := p) hc).minus (s' d hd)) (fun a ha => by
    by_cases e1 : lastR a = lastR c
    · rw [e1, (h.up c hc).2.2, ← e, (h'.up d hd).2.2]
      exact ⟨0, by simp⟩
    · obtain ⟨a', ha', e2⟩ := low_in hp h' (h.up a ha) (s a ha)
      rw [h.cross c hc a ha (fun q => e1 q.symm), ← e2, h'.cross d hd a' ha' (by rw [e, e2]; exact fun q => e1 q.symm)]
      exact ⟨0, by simp⟩)
  have : c = d := up_ext (h.up c hc).1 (h'.up d hd).1 (fun r => by
    obtain ⟨q, hq⟩ := hz r
    have r1 := cf_range (show 0 < p by omega) r (h.up c hc).1
    have r2 := cf_range (show 0 < p by omega) r (h'.up d hd).1
    have h1 : cf c r % p = cf d r % p := em q hq
    rw [Int.emod_eq_of_lt r1.1 r1.2, Int.emod_eq_of_lt r2.1 r2.2] at h1
    exact h1)
  rw [this]
  exact hd
theorem red_unique {p : Int} (hp : primeB p = true) {K K' : List (List S45)} (h : Red p K) (h' : Red p K') (s : ∀ c ∈ K, Sp p K' (cf c)) (s' : ∀ c ∈ K', Sp p K (cf c)) : K = K' :=
  sorted_ext h.asc h'.asc (fun c => ⟨red_sub hp h h' s s', red_sub hp h' h s' s⟩)
end Go.Proofs.Ytojnnfhalpefmaa.P
