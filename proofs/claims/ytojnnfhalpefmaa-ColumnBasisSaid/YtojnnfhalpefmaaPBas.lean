/- The law ColumnBasis on what its functions compute. -/
import Derived.Test.YtojnnfhalpefmaaPRest
import Derived.Test.YtojnnfhalpefmaaPDense
import Derived.Test.YtojnnfhalpefmaaMx23
set_option linter.unusedVariables false
set_option linter.unusedSectionVars false
namespace Go.Proofs.Ytojnnfhalpefmaa.P
open Go.RowKit Go.Proofs.YtojnnfhalpefmaaW.PrintWords Go.Proofs.Ytojnnfhalpefmaa.M Go.Proofs.Ytojnnfhalpefmaa.H
theorem wback {n i : Nat} (h : i < n) (hn : n ≤ 8) : wrap64 (wrap64 ((n : Int) - 1) - (i : Int)) = ((n - 1 - i : Nat) : Int) := by
  rw [w64 (x := (n : Int) - 1) (by omega) (by omega), w64 (by omega) (by omega)]
  omega
theorem wpred {i : Nat} (h : i ≤ 8) : wrap64 ((i : Int) - 1) = (i : Int) - 1 := w64 (by omega) (by omega)
section
variable {p : Int} (hp : primeB p = true) {l b : List (List S45)} (hl : Cols p 10 l) (hll : l.length ≤ 8) (hb : Red p b) (hbl : b.length ≤ 8) (hbc : Cols p 10 b) (s1 : ∀ c ∈ l, Sp p b (cf c)) (s2 : ∀ c ∈ b, Sp p l (cf c))
include hp hl hll hb hbl hbc s1 s2
/-- The end: another list of the same span has the same basis. -/
theorem basis_end (k2 : List Int) {o : List (List S45)} (ho : Cols p 10 o) (hol : o.length ≤ 100) (t1 : ∀ c ∈ o, Sp p l (cf c)) (t2 : ∀ c ∈ l, Sp p o (cf c)) (k : Nat) (hk : 3600 ≤ k) :
    toruslaw04_ColumnBasis.l2 k k2 p l b (b.length : Int) o (-1) = some true := by
  obtain ⟨k, rfl, _⟩ := ex_succ (show 0 + 1 ≤ k by omega)
  obtain ⟨K, e1, e2, e3, e4, e5, e6⟩ := basis_spec hp (n := 10) (by decide) (by decide) ho (by omega)
  have hK : K = b := red_unique hp e2 hb (fun c hc => ((e5 c hc).trans t1).trans s1) (fun c hc => ((s2 c hc).trans t2).trans e4)
  have hbl2 : Cols p 10 (b ++ l) := fun c hc => by
    rcases List.mem_append.1 hc with hc | hc
    · exact hbc c hc
    · exact hl c hc
  obtain ⟨K', f1, f2, f3, f4, f5, f6⟩ := basis_spec hp (n := 10) (by decide) (by decide) hbl2 (by simp; omega)
  have hK' : K' = b := red_unique hp f2 hb (fun c hc => (f5 c hc).trans (fun d hd => by
    rcases List.mem_append.1 hd with hd | hd
    · exact .mem hd
    · exact s1 d hd)) (fun c hc => f4 c (by simp [hc]))
  rw [hK] at e1
  rw [hK'] at f1
  have hcopy : torusref04_CopyList.f k b = some b := copyList_spec b (by omega) (fun c hc => up_len (hbc c hc).up) k (by omega)
  have hs := sameList_refl b (by omega) (fun c hc => up_len (hbc c hc).up) k (by omega)
  have g1 := (e1 k (by omega)).1
  have g2 := (f1 k (by omega)).2
  rw [toruslaw04_ColumnBasis.l2, if_neg (by decide)]
  refine (bind_of g1).trans ?_
  refine (bind_of hcopy).trans ?_
  refine (if_pos (by omega)).trans ?_
  refine (bind_of g2).trans ?_
  refine (if_pos rfl).trans ?_
  refine (bind_of hs).trans ?_
  refine (if_pos rfl).trans ?_
  refine (if_pos rfl).trans ?_
  exact if_pos rfl
/-- Another list is made, from the last column down. -/
theorem basis_make (k2 : List Int) (hk2 : k2.length < 1000000000000000000) : ∀ (m : Nat) (acc : List (List S45)), m ≤ l.length → Cols p 10 acc → acc.length + 2 * m ≤ 100 → (∀ c ∈ acc, Sp p l (cf c)) → (∀ i (hi : i < l.length), m ≤ i → Sp p acc (cf l[i])) → ∀ k, 3 * m + 3700 ≤ k →
    toruslaw04_ColumnBasis.l2 k k2 p l b (b.length : Int) acc ((m : Int) - 1) = some true
  | 0, acc, h1, h2, h3, h4, h5, k, hk => by
    refine basis_end hp hl hll hb hbl hbc s1 s2 k2 h2 (by omega) h4 (fun c hc => ?_) k (by omega)
    obtain ⟨i, hi, rfl⟩ := List.mem_iff_getElem.1 hc
    exact h5 i hi (Nat.zero_le _)
  | m + 1, acc, h1, h2, h3, h4, h5, k, hk => by
    obtain ⟨hp1, hp2⟩ := primeB_ge hp
    obtain ⟨k, rfl, _⟩ := ex_succ (show 0 + 1 ≤ k by omega)
    obtain ⟨k, rfl, _⟩ := ex_succ (show 0 + 1 ≤ k by omega)
    obtain ⟨k, rfl, _⟩ := ex_succ (show 0 + 1 ≤ k by omega)
    have hlt : m < l.length := by omega
    have hbk : l.length - 1 - m < l.length := by omega
    have cu := hl _ (List.getElem_mem hlt)
    have cv := hl _ (List.getElem_mem hbk)
    have l1 := cu.len (by decide)
    have l2 := cv.len (by decide)
    have hcast : (((m + 1 : Nat) : Int) - 1) = (m : Int) := by omega
    -- what comes behind the factor f
    have key : ∀ f : Int, f % p ≠ 0 → toruslaw04_ColumnBasis.j6 (k + 1) k2 p l b (b.length : Int) acc (m : Int) f = some true := by
      intro f hf
      have fr : 0 ≤ f % p ∧ f % p < p := ⟨Int.emod_nonneg _ (by omega), Int.emod_lt_of_pos _ (by omega)⟩
      have hsc : column_Scale.f k p l[m] f = some (colAdd p (f % p) [] l[m], 0) := by
        rw [scale_col p l[m] f (by omega) k (by omega), scaleB, if_pos (checkB_of hp cu.up), modB, if_pos hp]
      have hpl : toruslaw04_plus.f k p l[m] 1 l[l.length - 1 - m] = some (colAdd p (1 % p) l[m] l[l.length - 1 - m]) := plus_law hp cu.up cv.up 1 (by omega) k (by omega)
      have one : 0 ≤ 1 % p ∧ 1 % p < p := ⟨Int.emod_nonneg _ (by omega), Int.emod_lt_of_pos _ (by omega)⟩
      have u1 := colAdd_up hp1 hp2 fr.1 fr.2 (up_nil p) cu.up
      have u2 := colAdd_up hp1 hp2 one.1 one.2 cu.up cv.up
      have cf1 := fun r => colAdd_cf hp1 hp2 fr.1 fr.2 (up_nil p) cu.up r
      have cf2 := fun r => colAdd_cf hp1 hp2 one.1 one.2 cu.up cv.up r
      have sp1 : Sp p l (cf (colAdd p (f % p) [] l[m])) := ((Sp.mem (p := p) (List.getElem_mem hlt)).smul (f % p)).congr (fun r => by
        rw [cf1, cf]
        obtain ⟨q, hq⟩ := ed (0 + f % p * cf l[m] r) p
        exact ⟨-q, by rw [hq]; grind⟩)
      have sp2 : Sp p l (cf (colAdd p (1 % p) l[m] l[l.length - 1 - m])) := ((Sp.mem (p := p) (List.getElem_mem hlt)).plus ((Sp.mem (p := p) (List.getElem_mem hbk)).smul (1 % p))).congr (fun r => by
        rw [cf2]
        obtain ⟨q, hq⟩ := ed (cf l[m] r + 1 % p * cf l[l.length - 1 - m] r) p
        exact ⟨-q, by rw [hq]; grind⟩)
      have I := basis_make k2 hk2 m (acc ++ [colAdd p (f % p) [] l[m], colAdd p (1 % p) l[m] l[l.length - 1 - m]]) (by omega) (fun c hc => by
          rcases List.mem_append.1 hc with hc | hc
          · exact h2 c hc
          · simp only [List.mem_cons, List.not_mem_nil, or_false] at hc
            rcases hc with rfl | rfl
            · exact col_span hp hl u1 sp1
            · exact col_span hp hl u2 sp2) (by simp; omega) (fun c hc => by
          rcases List.mem_append.1 hc with hc | hc
          · exact h4 c hc
          · simp only [List.mem_cons, List.not_mem_nil, or_false] at hc
            rcases hc with rfl | rfl
            · exact sp1
            · exact sp2) (fun i hi him => by
          by_cases e : i = m
          · subst e
            obtain ⟨t, t0, t1, t2, _⟩ := inv_spec hp (show 1 ≤ f % p by omega) fr.2
            refine ((Sp.mem (p := p) (c := colAdd p (f % p) [] l[i]) (L := acc ++ [colAdd p (f % p) [] l[i], colAdd p (1 % p) l[i] l[l.length - 1 - i]]) (by simp)).smul t).congr (fun r => ?_)
            rw [cf1, cf]
            obtain ⟨q1, e1⟩ := ed (0 + f % p * cf l[i] r) p
            obtain ⟨q2, e2⟩ := ed (t * (f % p)) p
            rw [t2] at e2
            exact ⟨t * q1 - q2 * cf l[i] r, by rw [e1]; grind⟩
          · exact (h5 i hi (by omega)).mono (fun c hc => by simp [hc])) k (by omega)
      have c1 : (0 : Int) ≤ (m : Int) := by omega
      have c2 : (m : Int) < (l.length : Int) := by omega
      have c3 : (0 : Int) ≤ ((l.length - 1 - m : Nat) : Int) := by omega
      have c4 : ((l.length - 1 - m : Nat) : Int) < (l.length : Int) := by omega
      have c5 : acc.length + [colAdd p (f % p) [] l[m], colAdd p (1 % p) l[m] l[l.length - 1 - m]].length < 5864062014805 := by simp; omega
      rw [toruslaw04_ColumnBasis.j6, if_pos c1, if_pos c2, rdL_nat hlt]
      refine (bind_of hsc).trans ?_
      refine (if_pos rfl).trans ?_
      rw [wback hlt hll, if_pos c3, if_pos c4, rdL_nat hbk]
      refine (bind_of hpl).trans ?_
      refine (if_pos c5).trans ?_
      rw [wpred (by omega)]
      exact I
    have cm : (m : Int) ≥ 0 := by omega
    have cm2 : (0 : Int) ≤ (m : Int) := by omega
    have hone : (1 : Int) % p ≠ 0 := by rw [Int.emod_eq_of_lt (by omega) (by omega)]; decide
    rw [hcast, toruslaw04_ColumnBasis.l2, if_pos cm]
    by_cases hm : m < k2.length
    · have hm' : (m : Int) < (k2.length : Int) := by omega
      rw [if_pos hm', if_pos cm2, rd_nat hm]
      refine (bind_of (mod_ref p k2[m] (k + 2) (by omega))).trans ?_
      rw [modB, if_pos hp, toruslaw04_ColumnBasis.j5]
      by_cases hz : k2[m] % p = 0
      · rw [hz, if_neg (by decide)]
        exact key 1 hone
      · have : (k2[m] % p != 0) = true := by simp [hz]
        rw [this, if_pos rfl, if_pos cm2, if_pos hm', rd_nat hm]
        exact key _ hz
    · rw [if_neg (by omega), toruslaw04_ColumnBasis.j5, if_neg (by decide)]
      exact key 1 hone
/-- The other columns have nothing in a low row. -/
theorem basis_cross (k2 : List Int) (i : Nat) (hi : i < b.length) (R : Option Bool) (hR : R = some true) : ∀ (m j : Nat) (k : Nat), j + m = b.length → (∀ k', k ≤ k' + m + 1 → toruslaw04_ColumnBasis.l0 k' k2 p l b (b.length : Int) (lastR b[i]) b (b.length : Int) ((i + 1 : Nat) : Int) = some true) → m + 1200 ≤ k →
    toruslaw04_ColumnBasis.l1 k k2 p l b (b.length : Int) (lastR b[i]) (i : Int) (lastR b[i]) (j : Int) b (b.length : Int) (i : Int) = some true
  | 0, j, k, hj, hn, hk => by
    obtain ⟨k, rfl, _⟩ := ex_succ (show 0 + 1 ≤ k by omega)
    have := hn k (by omega)
    rw [toruslaw04_ColumnBasis.l1, if_neg (by omega), wnat (show i < 4611686018427387904 by omega)]
    exact this
  | m + 1, j, k, hj, hn, hk => by
    obtain ⟨k, rfl, _⟩ := ex_succ (show 0 + 1 ≤ k by omega)
    have hlt : j < b.length := by omega
    have I := basis_cross k2 i hi R hR m (j + 1) k (by omega) (fun k' hk' => hn k' (by omega)) (by omega)
    have c1 : (j : Int) < (b.length : Int) := by omega
    have c2 : (0 : Int) ≤ (j : Int) := by omega
    have c3 : j < 4611686018427387904 := by omega
    rw [toruslaw04_ColumnBasis.l1, if_pos c1]
    by_cases e : j = i
    · rw [if_pos (by omega), wnat c3]
      exact I
    · have hm := List.getElem_mem hlt
      have hne : lastR b[j] ≠ lastR b[i] := fun q => by
        have h' := List.pairwise_iff_getElem.1 hb.asc
        rcases Nat.lt_or_ge j i with q2 | q2
        · have := h' j i hlt hi q2; omega
        · have := h' i j hi hlt (by omega); omega
      have hz := hb.cross _ hm _ (List.getElem_mem hi) hne
      have hlen := up_len (hbc _ hm).up
      have hcf := coef_col b[j] (by omega) (lastR b[i]) k (by omega)
      rw [if_neg (by omega), if_pos c2, rdL_nat hlt]
      refine (bind_of hcf).trans ?_
      rw [hz, if_pos rfl, wnat c3]
      exact I
theorem basis_check (k2 : List Int) (hk2 : k2.length < 1000000000000000000) : ∀ (m i : Nat) (last : Int) (k : Nat), i + m = b.length → (∀ j (hj : j < b.length), i ≤ j → last < lastR b[j]) → 12 * m + 6000 ≤ k →
    toruslaw04_ColumnBasis.l0 k k2 p l b (b.length : Int) last b (b.length : Int) (i : Int) = some true
  | 0, i, last, k, hi, hlast, hk => by
    obtain ⟨k, rfl, _⟩ := ex_succ (show 0 + 1 ≤ k by omega)
    have I := basis_make hp hl hll hb hbl hbc s1 s2 k2 hk2 l.length [] (Nat.le_refl _) (fun c hc => (by cases hc)) (by simp; omega) (fun c hc => (by cases hc)) (fun i hi him => absurd him (by omega)) k (by omega)
    rw [toruslaw04_ColumnBasis.l0, if_neg (by omega), wpred hll]
    exact I
  | m + 1, i, last, k, hi, hlast, hk => by
    obtain ⟨k, rfl, _⟩ := ex_succ (show 0 + 1 ≤ k by omega)
    obtain ⟨k, rfl, _⟩ := ex_succ (show 0 + 1 ≤ k by omega)
    have hlt : i < b.length := by omega
    have hm := List.getElem_mem hlt
    obtain ⟨u1, u2, u3⟩ := hb.up _ hm
    have hlen := up_len u1
    have hlow : column_Low.f b[i] = some (lastR b[i], true) := by
      rw [low_col b[i] (by omega), if_neg (Nat.ne_of_gt u2)]
      rfl
    have hcf := coef_col b[i] (by omega) (lastR b[i]) (k + 1) (by omega)
    have h' := List.pairwise_iff_getElem.1 hb.asc
    have I := basis_cross hp hl hll hb hbl hbc s1 s2 k2 i hlt (some true) rfl b.length 0 k (by omega) (fun k' hk' => basis_check k2 hk2 m (i + 1) (lastR b[i]) k' (by omega) (fun j hj hij => h' i j hlt hj (by omega)) (by omega)) (by omega)
    have c1 : (i : Int) < (b.length : Int) := by omega
    have c2 : (0 : Int) ≤ (i : Int) := by omega
    have c3 := hlast i hlt (Nat.le_refl _)
    rw [toruslaw04_ColumnBasis.l0, if_pos c1, if_pos c2, if_pos c1, rdL_nat hlt]
    refine (bind_of hlow).trans ?_
    refine (if_pos rfl).trans ?_
    refine (if_neg (show ¬ lastR b[i] ≤ last by omega)).trans ?_
    refine (bind_of hcf).trans ?_
    rw [u3, toruslaw04_ColumnBasis.j2, if_neg (by decide)]
    exact I
end
theorem basis_true (a0 : Int) (l1 : List (List S45)) (h1 : l1.length < 1000000000000000) (hi : ∀ l ∈ l1, l.length < 8796093022208) (k2 : List Int) (hk2 : k2.length < 1000000000000000000) : ∃ k, toruslaw04_ColumnBasis.f k a0 l1 k2 = some true := by
  obtain ⟨p, hp, hf⟩ := field_spec a0
  obtain ⟨l, hc, hl, hfit⟩ := fitList_spec hp l1 h1 (fun c hc => by have := hi c hc; omega)
  obtain ⟨b, e1, e2, e3, e4, e5, e6⟩ := basis_spec hp (n := 10) (by decide) (by decide) hc (by omega)
  obtain ⟨k, hk⟩ : ∃ k, k = longest l1 + 9000 := ⟨_, rfl⟩
  obtain ⟨g1, g2⟩ := e1 k (by omega)
  have hsp : toruslaw04_spans.f k p b l = some true := spans_true hp e2 (by omega) (fun c hc' => ⟨(hc c hc').up, e4 c hc'⟩) (by omega) l.length 0 k (by omega) (by omega)
  refine ⟨k, ?_⟩
  unfold toruslaw04_ColumnBasis.f
  refine (bind_of (hf k (by omega))).trans ?_
  refine (bind_of (hfit k (by omega))).trans ?_
  refine (bind_of g1).trans ?_
  refine (bind_of g2).trans ?_
  refine (if_pos rfl).trans ?_
  refine (if_pos rfl).trans ?_
  refine (if_pos rfl).trans ?_
  refine (if_neg (show ¬ ((b.length : Int) > (l.length : Int)) by omega)).trans ?_
  refine (bind_of hsp).trans ?_
  obtain ⟨k1, rfl⟩ : ∃ k1, k = k1 + 1 := ⟨k - 1, by omega⟩
  show toruslaw04_ColumnBasis.j0 (k1 + 1) k2 p l b (b.length : Int) false = some true
  rw [toruslaw04_ColumnBasis.j0, if_neg (by decide)]
  refine basis_check hp hc hl e2 (by omega) e3 e4 e5 k2 hk2 b.length 0 (-1) k1 (by omega) (fun j hj _ => ?_) (by omega)
  obtain ⟨u1, u2, _⟩ := e2.up _ (List.getElem_mem hj)
  have := last_cf u1 u2
  omega
end Go.Proofs.Ytojnnfhalpefmaa.P
