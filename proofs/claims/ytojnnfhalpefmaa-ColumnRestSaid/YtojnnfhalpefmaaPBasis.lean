/- Basis, Rank, Kernel and Combine of package column: what they compute. -/
import Derived.Test.YtojnnfhalpefmaaPTidy
import Derived.Test.YtojnnfhalpefmaaMx20
import Derived.Test.YtojnnfhalpefmaaMx9
set_option linter.unusedVariables false
namespace Go.Proofs.Ytojnnfhalpefmaa.P
open Go.RowKit Go.Proofs.YtojnnfhalpefmaaW.PrintWords Go.Proofs.Ytojnnfhalpefmaa.M Go.Proofs.Ytojnnfhalpefmaa.H
theorem wnat {i : Nat} (h : i < 4611686018427387904) : wrap64 ((i : Int) + 1) = ((i + 1 : Nat) : Int) := by rw [w64 (by omega) (by omega)]; omega
theorem longest_le {n : Nat} : ∀ {L : List (List S45)}, (∀ c ∈ L, c.length ≤ n) → longest L ≤ n
  | [], _ => Nat.zero_le _
  | c :: L, h => by
    have := longest_le (L := L) (fun d hd => h d (by simp [hd]))
    have := h c (by simp)
    rw [longest]
    omega
theorem checkAllB_ok {p : Int} (hp : primeB p = true) : ∀ {L : List (List S45)}, (∀ c ∈ L, Up p (-1) c) → checkAllB p L = 0
  | [], _ => rfl
  | c :: L, h => by
    rw [checkAllB, if_pos (checkB_of hp (h c (by simp)))]
    exact checkAllB_ok hp (fun d hd => h d (by simp [hd]))
theorem checkAll_ok {p : Int} (hp : primeB p = true) {L : List (List S45)} (h : ∀ c ∈ L, Up p (-1) c) (hL : L.length ≤ 1024) (k : Nat) (hk : 3400 ≤ k) : column_checkAll.f k p L = some 0 := by
  have hll : longest L ≤ 1024 := longest_le (fun c hc => up_len (h c hc))
  rw [checkAll_col p L (by omega) (fun c hc => by have := up_len (h c hc); omega) k (by omega), checkAllB_ok hp h]
theorem begin_ok {p : Int} (hp : primeB p = true) {L : List (List S45)} (h : ∀ c ∈ L, Up p (-1) c) (hL : L.length ≤ 1024) (k : Nat) (hk : 3400 ≤ k) : column_begin.f k p L = some 0 := by
  unfold column_begin.f
  rw [if_neg (by omega), bind_of (prime_modp p k (by omega)), if_pos hp, bind_of (checkAll_ok hp h hL k hk)]
/-- A list of columns of rows below n. -/
def Cols (p n : Int) (l : List (List S45)) : Prop := ∀ c ∈ l, Col p n c
/-- The span of such columns has nothing from n on. -/
theorem span_high {p n : Int} {l : List (List S45)} (h : Cols p n l) {v : Int → Int} (hv : Sp p l v) : ∀ r, n ≤ r → ∃ q, v r = p * q := by
  induction hv with
  | zero h0 => exact fun r _ => h0 r
  | add c k hc _ hv ih =>
    intro r hr
    obtain ⟨q1, e1⟩ := ih r hr
    obtain ⟨q2, e2⟩ := hv r
    have : cf c r = 0 := by
      by_cases h0 : cf c r = 0
      · exact h0
      · obtain ⟨t, ht, e⟩ := cf_pos h0
        have := (h c hc).lt t ht
        omega
    rw [this] at e2
    exact ⟨q1 + q2, by grind⟩
theorem cf_zero {p : Int} (hp : primeB p = true) {c : List S45} (hc : Up p (-1) c) {r : Int} (h : ∃ q, cf c r = p * q) : cf c r = 0 := by
  obtain ⟨hp1, hp2⟩ := primeB_ge hp
  obtain ⟨q, hq⟩ := h
  have h1 := cf_range (show 0 < p by omega) r hc
  have : cf c r % p = 0 := by rw [hq, Int.mul_emod_right]
  rw [Int.emod_eq_of_lt h1.1 h1.2] at this
  exact this
theorem col_span {p n : Int} (hp : primeB p = true) {l : List (List S45)} (h : Cols p n l) {c : List S45} (hc : Up p (-1) c) (hs : Sp p l (cf c)) : Col p n c := ⟨hc, fun t ht => by
  by_cases hlt : t.f0 < n
  · exact hlt
  · have := cf_zero hp hc (span_high h hs t.f0 (by omega))
    have := cf_mem hc t ht
    have := up_mem hc t ht
    omega⟩
theorem asc_len : ∀ (K : List (List S45)) (a n : Int), K.Pairwise (fun a b => lastR a < lastR b) → (∀ c ∈ K, a ≤ lastR c ∧ lastR c < n) → a ≤ n → (K.length : Int) ≤ n - a
  | [], a, n, _, _, h => by simp; omega
  | c :: K, a, n, h, hb, _ => by
    obtain ⟨h1, h2⟩ := List.pairwise_cons.1 h
    have := hb c (by simp)
    have I := asc_len K (lastR c + 1) n h2 (fun d hd => ⟨by have := h1 d hd; omega, (hb d (by simp [hd])).2⟩) (by omega)
    simp only [List.length_cons]
    omega
theorem dist_len {p n : Int} {L : List (List S45)} (hn : 0 ≤ n) (h : Cols p n L) (hl : ∀ c ∈ L, 0 < c.length) (hd : L.Pairwise (fun a b => lastR a ≠ lastR b)) : (L.length : Int) ≤ n := by
  obtain ⟨s1, s2⟩ := sort_spec (L := L) (fun c hc => by
    have := last_cf (h c hc).up (hl c hc)
    exact ⟨this.1, this.2.1⟩) hd
  have := asc_len (sortL L) 0 n s2 (fun c hc => by
    have hc' := (s1 c).1 hc
    have h1 := last_cf (h c hc').up (hl c hc')
    have h2 : rd_T45 c ((c.length : Int) - 1) ∈ c := by
      have := hl c hc'
      rw [show (c.length : Int) - 1 = ((c.length - 1 : Nat) : Int) by omega, rdT_nat (by omega)]
      exact List.getElem_mem _
    exact ⟨h1.1, (h c hc').lt _ h2⟩) hn
  rw [sortL_len] at this
  omega
/-- Basis and Rank of a list of columns of at most 12 rows: the reduced list of the same span. -/
theorem basis_spec {p n : Int} (hp : primeB p = true) (hn : 0 ≤ n) (hn2 : n ≤ 12) {l : List (List S45)} (h : Cols p n l) (hl : l.length ≤ 1000) :
    ∃ K, (∀ k, 3400 ≤ k → column_Basis.f k p l = some (K, 0) ∧ column_Rank.f k p l = some ((K.length : Int), 0)) ∧ Red p K ∧ Cols p n K ∧ (∀ c ∈ l, Sp p K (cf c)) ∧ (∀ c ∈ K, Sp p l (cf c)) ∧ K.length ≤ l.length := by
  obtain ⟨s, e1, e2⟩ := elim_list hp l (fun c hc => (h c hc).up) hl
  have hcl : Cols p n s.L := fun c hc => col_span hp h (e2.piv.up c hc).1 (e2.span2 c hc)
  have hlen := dist_len hn hcl (fun c hc => (e2.piv.up c hc).2) e2.ldist
  obtain ⟨K, f1, f2, f3, f4, f5, f6⟩ := tidy_spec hp s.L e2.piv.up e2.ldist (by omega)
  have hcnt := e2.count
  refine ⟨K, fun k hk => ⟨?_, ?_⟩, f2, fun c hc => col_span hp hcl (f2.up c hc).1 (f6 c hc), fun c hc => (e2.span1 c hc).trans f5, fun c hc => (f6 c hc).trans e2.span2, by omega⟩
  · unfold column_Basis.f basisF
    rw [bind_of (begin_ok hp (fun c hc => (h c hc).up) (by omega) k hk)]
    refine (if_pos rfl).trans ?_
    refine (bind_of (e1 k (by omega))).trans ?_
    exact bind_of (f1 k (by omega))
  · unfold column_Rank.f rankF
    rw [bind_of (begin_ok hp (fun c hc => (h c hc).up) (by omega) k hk)]
    refine (if_pos rfl).trans ?_
    refine (bind_of (e1 k (by omega))).trans ?_
    rw [f3]
/-- The reduced list of a reduced list is itself. -/
theorem basis_red {p n : Int} (hp : primeB p = true) (hn : 0 ≤ n) (hn2 : n ≤ 12) {K : List (List S45)} (h : Cols p n K) (hr : Red p K) (hl : K.length ≤ 1000) :
    ∀ k, 3400 ≤ k → column_Basis.f k p K = some (K, 0) ∧ column_Rank.f k p K = some ((K.length : Int), 0) := by
  obtain ⟨K', e1, e2, e3, e4, e5, e6⟩ := basis_spec hp hn hn2 h hl
  have := red_unique hp hr e2 e4 e5
  rw [this] at e1 ⊢
  exact e1
/-! ### Combine -/
theorem combine_l0 {p : Int} (hp : primeB p = true) {l : List (List S45)} (h : ∀ c ∈ l, Up p (-1) c) (x : List S45) (hx : Up p (-1) x) (hlow : ∀ t ∈ x, t.f0 < (l.length : Int)) : ∀ (m i : Nat) (acc : List S45), i + m = x.length → Up p (-1) acc →
    ∃ c, (∀ k, m + 1 ≤ k → column_Combine.l0 k p l acc x (x.length : Int) i = some (c, 0)) ∧ Up p (-1) c ∧ ∀ r, ∃ q, cf c r = cf acc r + dotG (fun t => cf (l.getD t.toNat []) r) (x.drop i) + p * q
  | 0, i, acc, hi, ha => by
    refine ⟨acc, fun k hk => ?_, ha, fun r => ⟨0, by rw [List.drop_of_length_le (by omega), dotG]; simp⟩⟩
    obtain ⟨k, rfl, _⟩ := ex_succ (show 0 + 1 ≤ k by omega)
    rw [column_Combine.l0, if_neg (by omega)]
  | m + 1, i, acc, hi, ha => by
    obtain ⟨hp1, hp2⟩ := primeB_ge hp
    have hlt : i < x.length := by omega
    have hxl := up_len hx
    have htm := List.getElem_mem hlt
    have htu := up_mem hx _ htm
    have hti := hlow _ htm
    obtain ⟨j, hj⟩ : ∃ j : Nat, x[i].f0 = (j : Int) := ⟨x[i].f0.toNat, by omega⟩
    have hjl : j < l.length := by omega
    have hcm : l[j] ∈ l := List.getElem_mem hjl
    have hcu := h _ hcm
    have h1 := up_len ha
    have h2 := up_len hcu
    have hup := colAdd_up hp1 hp2 (show 0 ≤ x[i].f1 by omega) htu.2.2.2 ha hcu
    obtain ⟨c, e1, e2, e3⟩ := combine_l0 hp h x hx hlow m (i + 1) (colAdd p x[i].f1 acc l[j]) (by omega) hup
    have hi2 : i < 4611686018427387904 := by omega
    refine ⟨c, fun k hk => ?_, e2, fun r => ?_⟩
    · obtain ⟨k, rfl, _⟩ := ex_succ (show 0 + 1 ≤ k by omega)
      have hpl : column_plus.f p acc x[i].f1 l[j] = some (colAdd p x[i].f1 acc l[j]) := plus_col (by omega) (by omega)
      have hk1 := e1 k (by omega)
      have c1 : (i : Int) < (x.length : Int) := by omega
      have c2 : (0 : Int) ≤ (i : Int) := by omega
      have c3 : (0 : Int) ≤ (j : Int) := by omega
      have c4 : (j : Int) < (l.length : Int) := by omega
      rw [column_Combine.l0, if_pos c1, if_pos c2, if_pos c1, rdT_nat hlt, hj, if_pos c3, if_pos c4, rdL_nat hjl, hpl, wnat hi2]
      exact hk1
    · obtain ⟨q, hq⟩ := e3 r
      rw [colAdd_cf hp1 hp2 (by omega) htu.2.2.2 ha hcu] at hq
      obtain ⟨q2, hq2⟩ := ed (cf acc r + x[i].f1 * cf l[j] r) p
      have hd : cf (l.getD x[i].f0.toNat []) r = cf l[j] r := by
        rw [hj, Int.toNat_natCast, List.getD_eq_getElem?_getD, List.getElem?_eq_getElem hjl]
        rfl
      rw [List.drop_eq_getElem_cons hlt, dotG, hd]
      exact ⟨q - q2, by rw [hq, hq2]; grind⟩
theorem combine_spec {p : Int} (hp : primeB p = true) {l : List (List S45)} (h : ∀ c ∈ l, Up p (-1) c) (hl : l.length ≤ 1024) {x : List S45} (hx : Up p (-1) x) (hlow : ∀ t ∈ x, t.f0 < (l.length : Int)) :
    ∃ c, (∀ k, 3400 ≤ k → column_Combine.f k p l x = some (c, 0)) ∧ Up p (-1) c ∧ ∀ r, ∃ q, cf c r = dotG (fun t => cf (l.getD t.toNat []) r) x + p * q := by
  obtain ⟨c, e1, e2, e3⟩ := combine_l0 hp h x hx hlow x.length 0 [] (by omega) (up_nil p)
  have hxl := up_len hx
  refine ⟨c, fun k hk => ?_, e2, fun r => by obtain ⟨q, hq⟩ := e3 r; exact ⟨q, by rw [hq, cf, List.drop_zero]; omega⟩⟩
  obtain ⟨k, rfl, _⟩ := ex_succ (show 0 + 1 ≤ k by omega)
  unfold column_Combine.f
  have h0 : column_Combine.l0 k p l [] x (x.length : Int) 0 = some (c, 0) := e1 k (by omega)
  rw [if_neg (by omega), bind_of (checkAll_ok hp h hl (k + 1) (by omega)), if_pos rfl, bind_of (check_col p x (by omega) (k + 1) (by omega)), if_pos (checkB_of hp hx), bind_of (low_col x (by omega))]
  by_cases hz : x.length = 0
  · rw [if_pos hz, if_neg (by decide), column_Combine.j0, if_neg (by decide)]
    exact h0
  · have hm : rd_T45 x ((x.length : Int) - 1) ∈ x := by
      rw [show (x.length : Int) - 1 = ((x.length - 1 : Nat) : Int) by omega, rdT_nat (by omega)]
      exact List.getElem_mem _
    have := hlow _ hm
    rw [if_neg hz, if_pos rfl, decide_eq_false (by omega), column_Combine.j0, if_neg (by decide)]
    exact h0
/-! ### made lists -/
theorem fitList_l0 {p : Int} (hp : primeB p = true) (l : List (List S45)) (hl : l.length < 1000000000000000) (hi : ∀ c ∈ l, c.length < 1000000000000000) : ∀ (m i : Nat) (acc : List (List S45)), i + m = 8 → i ≤ l.length → acc.length = i → Cols p 10 acc →
    ∃ L, Cols p 10 L ∧ L.length ≤ 8 ∧ ∀ k, m + longest l + 401 ≤ k → torusref04_FitList.l0 k p l 10 8 acc i = some L
  | 0, i, acc, h1, h2, h3, h4 => by
    refine ⟨acc, h4, by omega, fun k hk => ?_⟩
    obtain ⟨k, rfl, _⟩ := ex_succ (show 0 + 1 ≤ k by omega)
    rw [torusref04_FitList.l0]
    split
    · rw [if_neg (by omega)]
    · rfl
  | m + 1, i, acc, h1, h2, h3, h4 => by
    by_cases hlt : i < l.length
    · have hmem := List.getElem_mem hlt
      have hlong := longest_mem hmem
      obtain ⟨a, ca, fa⟩ := fit_spec hp l[i] (hi _ hmem)
      obtain ⟨L, e1, e2, e3⟩ := fitList_l0 hp l hl hi m (i + 1) (acc ++ [a]) (by omega) (by omega) (by simp; omega) (fun c hc => by
        rcases List.mem_append.1 hc with hc | hc
        · exact h4 c hc
        · rw [List.mem_singleton.1 hc]; exact ca)
      have hw : wrap64 ((i : Int) + 1) = ((i + 1 : Nat) : Int) := by rw [w64 (by omega) (by omega)]; omega
      refine ⟨L, e1, e2, fun k hk => ?_⟩
      obtain ⟨k, rfl, _⟩ := ex_succ (show 0 + 1 ≤ k by omega)
      rw [torusref04_FitList.l0, if_pos (by omega), if_pos (by omega), if_pos (by omega), rdL_nat hlt, bind_of (fa k (by omega)), if_pos (by omega), hw]
      exact e3 k (by omega)
    · refine ⟨acc, h4, by omega, fun k hk => ?_⟩
      obtain ⟨k, rfl, _⟩ := ex_succ (show 0 + 1 ≤ k by omega)
      rw [torusref04_FitList.l0, if_neg (by omega)]
theorem fitList_spec {p : Int} (hp : primeB p = true) (l : List (List S45)) (hl : l.length < 1000000000000000) (hi : ∀ c ∈ l, c.length < 1000000000000000) :
    ∃ L, Cols p 10 L ∧ L.length ≤ 8 ∧ ∀ k, longest l + 500 ≤ k → torusref04_FitList.f k p l 10 8 = some L := by
  obtain ⟨L, e1, e2, e3⟩ := fitList_l0 hp l hl hi 8 0 [] (by omega) (Nat.zero_le _) rfl (fun c hc => by cases hc)
  exact ⟨L, e1, e2, fun k hk => e3 k (by omega)⟩
theorem sameList_self (L : List (List S45)) (hL : L.length < 1000000) (hl : ∀ c ∈ L, c.length ≤ 1024) : ∀ (m i : Nat) (k : Nat), i + m = L.length → m + 1100 ≤ k → torusref04_SameList.l0 k L L i = some true
  | 0, i, k, hi, hk => by
    obtain ⟨k, rfl, _⟩ := ex_succ (show 0 + 1 ≤ k by omega)
    rw [torusref04_SameList.l0, if_neg (by omega)]
  | m + 1, i, k, hi, hk => by
    obtain ⟨k, rfl, _⟩ := ex_succ (show 0 + 1 ≤ k by omega)
    have hlt : i < L.length := by omega
    have := hl _ (List.getElem_mem hlt)
    rw [torusref04_SameList.l0, if_pos (by omega), if_pos (by omega), if_pos (by omega), rdL_nat hlt, bind_of (same_refl L[i] (by omega) k (by omega)), if_pos rfl, w64 (by omega) (by omega)]
    exact sameList_self L hL hl m (i + 1) k (by omega) (by omega)
theorem sameList_refl (L : List (List S45)) (hL : L.length < 1000000) (hl : ∀ c ∈ L, c.length ≤ 1024) (k : Nat) (hk : L.length + 1100 ≤ k) : torusref04_SameList.f k L L = some true := by
  unfold torusref04_SameList.f
  rw [if_pos rfl]
  exact sameList_self L hL hl L.length 0 k (by omega) hk
end Go.Proofs.Ytojnnfhalpefmaa.P
