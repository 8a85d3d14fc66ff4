/- The law ColumnListsMatch: whatever the input, it returns true and the input reads as it did. No conditions. -/
import Derived.Test.YtojnnfhalpefmaaBLi12
set_option linter.unusedVariables false
set_option linter.unusedSimpArgs false
set_option linter.unusedSectionVars false
section
namespace Go.Proofs.Ytojnnfhalpefmaa.P
open Go.RowKit Go.Proofs.YtojnnfhalpefmaaW.PrintWords Go.Proofs.Ytojnnfhalpefmaa.M Go.Proofs.Ytojnnfhalpefmaa.H
theorem up_mod {p : Int} (hp : primeB p = true) {a b : List S45} (ha : Up p (-1) a) (hb : Up p (-1) b) (h : ∀ r, ∃ q, cf a r = cf b r + p * q) : a = b := up_ext ha hb (fun r => by
  obtain ⟨hp1, hp2⟩ := primeB_ge hp
  obtain ⟨q, hq⟩ := h r
  have r1 := cf_range (show 0 < p by omega) r ha
  have r2 := cf_range (show 0 < p by omega) r hb
  have h1 : cf a r % p = cf b r % p := em q (by rw [hq]; grind)
  rw [Int.emod_eq_of_lt r1.1 r1.2, Int.emod_eq_of_lt r2.1 r2.2] at h1
  exact h1)
theorem rcombine_l0 {p : Int} (hp : primeB p = true) {l : List (List S45)} (h : ∀ c ∈ l, Up p (-1) c) (x : List S45) (hx : Up p (-1) x) (hlow : ∀ t ∈ x, t.f0 < (l.length : Int)) : ∀ (m i : Nat) (acc : List S45), i + m = x.length → Up p (-1) acc →
    ∃ c, (∀ k, m + 3001 ≤ k → torusref04_Combined.l0 k p l x acc i = some c) ∧ Up p (-1) c ∧ ∀ r, ∃ q, cf c r = cf acc r + dotG (fun t => cf (l.getD t.toNat []) r) (x.drop i) + p * q
  | 0, i, acc, hi, ha => by
    refine ⟨acc, fun k hk => ?_, ha, fun r => ⟨0, by rw [List.drop_of_length_le (by omega), dotG]; simp⟩⟩
    obtain ⟨k, rfl, _⟩ := ex_succ (show 0 + 1 ≤ k by omega)
    rw [torusref04_Combined.l0, if_neg (by omega)]
  | m + 1, i, acc, hi, ha => by
    obtain ⟨hp1, hp2⟩ := primeB_ge hp
    have hlt : i < x.length := by omega
    have hxl := up_len hx
    have htm := List.getElem_mem hlt
    have htu := up_mem hx _ htm
    have hti := hlow _ htm
    obtain ⟨j, hj⟩ : ∃ j : Nat, x[i].f0 = (j : Int) := ⟨x[i].f0.toNat, by omega⟩
    have hjl : j < l.length := by omega
    have hcm : l[j] ∈ l := List.getElem_mem hjl
    have hcu := h _ hcm
    have hup := colAdd_up hp1 hp2 (show 0 ≤ x[i].f1 by omega) htu.2.2.2 ha hcu
    obtain ⟨c, e1, e2, e3⟩ := rcombine_l0 hp h x hx hlow m (i + 1) (colAdd p x[i].f1 acc l[j]) (by omega) hup
    have hi2 : i < 4611686018427387904 := by omega
    refine ⟨c, fun k hk => ?_, e2, fun r => ?_⟩
    · obtain ⟨k, rfl, _⟩ := ex_succ (show 0 + 1 ≤ k by omega)
      have hpl : torusref04_Plus.f k p acc x[i].f1 l[j] = some (colAdd p x[i].f1 acc l[j]) := by
        have := plus_ref hp ha hcu x[i].f1 k (by omega)
        rwa [modB_id hp (by omega) htu.2.2.2] at this
      have hk1 := e1 k (by omega)
      have c1 : (i : Int) < (x.length : Int) := by omega
      have c2 : (0 : Int) ≤ (i : Int) := by omega
      have c3 : (0 : Int) ≤ (j : Int) := by omega
      have c4 : (j : Int) < (l.length : Int) := by omega
      rw [torusref04_Combined.l0, if_pos c1, if_pos c2, rdT_nat hlt, hj, if_pos c3, if_pos c4, rdL_nat hjl, bind_of hpl, wnat hi2]
      exact hk1
    · obtain ⟨q, hq⟩ := e3 r
      rw [colAdd_cf hp1 hp2 (by omega) htu.2.2.2 ha hcu] at hq
      obtain ⟨q2, hq2⟩ := ed (cf acc r + x[i].f1 * cf l[j] r) p
      have hd : cf (l.getD x[i].f0.toNat []) r = cf l[j] r := by
        rw [hj, Int.toNat_natCast, List.getD_eq_getElem?_getD, List.getElem?_eq_getElem hjl]
        rfl
      rw [List.drop_eq_getElem_cons hlt, dotG, hd]
      exact ⟨q - q2, by rw [hq, hq2]; grind⟩
theorem szT_last {p : Int} : ∀ (l : List S45) (last m : Int), -1 ≤ last → Up p last l → 0 < l.length → m ≤ last + 1 → szT m l = lastR l + 1
  | [], _, _, _, _, h, _ => absurd h (by simp)
  | [t], last, m, h0, hu, _, hm => by
    have h1 : last < t.f0 := hu.1
    have h2 : t.f0 < 1024 := hu.2.1
    rw [szT, szT, w64 (by omega) (by omega), mx, if_pos (by omega)]
    rfl
  | t :: s :: l, last, m, h0, hu, _, hm => by
    have h1 : last < t.f0 := hu.1
    have h2 : t.f0 < 1024 := hu.2.1
    rw [szT, w64 (by omega) (by omega), mx, if_pos (by omega), szT_last (s :: l) t.f0 (t.f0 + 1) (by omega) hu.2.2.2.2 (by simp) (Int.le_refl _)]
    have : lastR (t :: s :: l) = lastR (s :: l) := by
      unfold lastR
      rw [show (((t :: s :: l).length : Nat) : Int) - 1 = (((s :: l).length : Nat) : Int) by simp, rdT_nat (by simp), show (((s :: l).length : Nat) : Int) - 1 = ((l.length : Nat) : Int) by simp, rdT_nat (by simp)]
      simp
    rw [this]
theorem size_one {x : List S45} {p : Int} (hx : Up p (-1) x) (k : Nat) (hk : 1100 ≤ k) : torusref04_Size.f k [x] = some (szT 0 x) := by
  have hl := up_len hx
  obtain ⟨k, rfl⟩ : ∃ k', k = ((k' + 1) + x.length + 1) + 1 := ⟨k - x.length - 3, by omega⟩
  have e := size_l1 [x] (by simp) 0 (by simp) (by simp; omega) x.length 0 0 (k + 1) (by simp)
  simp only [List.getElem_cons_zero, List.drop_zero] at e
  unfold torusref04_Size.f
  rw [torusref04_Size.l0, if_pos (by simp)]
  refine e.trans ?_
  rw [torusref04_Size.l0, if_neg (by simp)]
theorem combine_ref {p : Int} {l : List (List S45)} (hl : l.length ≤ 12) (hc : ∀ c ∈ l, c.length ≤ 30) {x : List S45} (hx : x.length ≤ 30) :
    ∃ r e, r.length ≤ 1024 ∧ ∀ k, 6000 ≤ k → column_Combine.f k p l x = some (r, e) ∧ torusref04_Combine.f k p l x = some (r, e) := by
  have hlg : longest l ≤ 30 := longest_le hc
  have a1 (k : Nat) (hk : 6000 ≤ k) := checkAll_col p l (by omega) (fun c h => by have := hc c h; omega) k (by omega)
  have a2 (k : Nat) (hk : 6000 ≤ k) := checkAll_ref p l (by omega) (fun c h => by have := hc c h; omega) k (by omega)
  have b1 (k : Nat) (hk : 6000 ≤ k) := check_col p x (by omega) k (by omega)
  have b2 (k : Nat) (hk : 6000 ≤ k) := check_ref p x (by omega) k (by omega)
  by_cases h1 : checkAllB p l = 0
  · by_cases h2 : checkB p x = 0
    · obtain ⟨hp, hu⟩ := checkB_up h2
      have hlu : ∀ c ∈ l, Up p (-1) c := by
        have key : ∀ (L : List (List S45)), checkAllB p L = 0 → ∀ c ∈ L, Up p (-1) c := by
          intro L
          induction L with
          | nil => intro _ c hc; cases hc
          | cons a L ih =>
            intro h c hc
            obtain ⟨g1, g2⟩ := checkAllB_head h
            rcases List.mem_cons.1 hc with rfl | hc
            · exact (checkB_up g1).2
            · exact ih g2 c hc
        exact key l h1
      by_cases h3 : x.length = 0 ∨ lastR x < (l.length : Int)
      · have hlow : ∀ t ∈ x, t.f0 < (l.length : Int) := fun t ht => by
          rcases h3 with h3 | h3
          · rw [List.eq_nil_of_length_eq_zero h3] at ht; cases ht
          · have := up_le_last hu t ht; omega
        obtain ⟨c, e1, e2, e3⟩ := combine_spec hp hlu (by omega) hu hlow
        obtain ⟨c', f1, f2, f3⟩ := rcombine_l0 hp hlu x hu hlow x.length 0 [] (by omega) (up_nil p)
        have hcc : c = c' := up_mod hp e2 f2 (fun r => by
          obtain ⟨q1, g1⟩ := e3 r
          obtain ⟨q2, g2⟩ := f3 r
          rw [cf, List.drop_zero] at g2
          exact ⟨q1 - q2, by rw [g1, g2]; grind⟩)
        subst hcc
        refine ⟨c, 0, up_len e2, fun k hk => ⟨e1 k (by omega), ?_⟩⟩
        unfold torusref04_Combine.f torusref04_Combined.f
        have hsz : ¬ (szT 0 x > (l.length : Int)) := by
          rcases Nat.eq_zero_or_pos x.length with h0 | h0
          · rw [List.eq_nil_of_length_eq_zero h0, szT]; omega
          · rw [szT_last x (-1) 0 (Int.le_refl _) hu h0 (by omega)]
            rcases h3 with h3 | h3 <;> omega
        have hf : torusref04_Combined.l0 k p l x [] 0 = some c := f1 k (by omega)
        rw [if_neg (by omega), bind_of (a2 k hk), if_pos h1, bind_of (b2 k hk), if_pos h2, bind_of (size_one hu k (by omega)), if_neg hsz, bind_of hf]
      · have h0 : 0 < x.length := by omega
        have hlr : (l.length : Int) ≤ lastR x := by omega
        refine ⟨[], 10, by simp, fun k hk => ⟨?_, ?_⟩⟩
        · obtain ⟨k, rfl, _⟩ := ex_succ (show 0 + 1 ≤ k by omega)
          unfold column_Combine.f
          rw [if_neg (by omega), bind_of (a1 (k + 1) hk), if_pos h1, bind_of (b1 (k + 1) hk), if_pos h2, bind_of (low_col x (by omega)), if_neg (show ¬ x.length = 0 by omega), if_pos rfl, decide_eq_true (show (rd_T45 x ((x.length : Int) - 1)).f0 ≥ (l.length : Int) from hlr), column_Combine.j0, if_pos rfl]
        · unfold torusref04_Combine.f
          rw [if_neg (by omega), bind_of (a2 k hk), if_pos h1, bind_of (b2 k hk), if_pos h2, bind_of (size_one hu k (by omega)), if_pos (by rw [szT_last x (-1) 0 (Int.le_refl _) hu h0 (by omega)]; omega)]
    · refine ⟨[], checkB p x, by simp, fun k hk => ⟨?_, ?_⟩⟩
      · unfold column_Combine.f
        rw [if_neg (by omega), bind_of (a1 k hk), if_pos h1, bind_of (b1 k hk), if_neg h2]
      · unfold torusref04_Combine.f
        rw [if_neg (by omega), bind_of (a2 k hk), if_pos h1, bind_of (b2 k hk), if_neg h2]
  · refine ⟨[], checkAllB p l, by simp, fun k hk => ⟨?_, ?_⟩⟩
    · unfold column_Combine.f
      rw [if_neg (by omega), bind_of (a1 k hk), if_neg h1]
    · unfold torusref04_Combine.f
      rw [if_neg (by omega), bind_of (a2 k hk), if_neg h1]
end Go.Proofs.Ytojnnfhalpefmaa.P
end

section
namespace Go.Proofs.Ytojnnfhalpefmaa.P
open Go.RowKit Go.Proofs.YtojnnfhalpefmaaW.PrintWords Go.Proofs.Ytojnnfhalpefmaa.M Go.Proofs.Ytojnnfhalpefmaa.H
theorem spS_app : ∀ (A B : List Int) (i : Nat), spS i (A ++ B) = spS i A ++ spS (i + A.length) B
  | [], B, i => by simp [spS]
  | x :: A, B, i => by
    have I := spS_app A B (i + 1)
    rw [List.cons_append, spS, spS, I, List.length_cons, show i + (A.length + 1) = i + 1 + A.length by omega]
    split <;> rfl
theorem spS_zero : ∀ (B : List Int) (i : Nat), (∀ x ∈ B, x = 0) → spS i B = []
  | [], _, _ => rfl
  | x :: B, i, h => by rw [spS, if_pos (h x (by simp)), spS_zero B (i + 1) (fun y hy => h y (by simp [hy]))]
theorem spS_cut {v : List Int} {m : Nat} (h : ∀ x, m ≤ x → v.getD x 0 = 0) (i : Nat) : spS i v = spS i (v.take m) := by
  rw [← List.take_append_drop m v, spS_app, spS_zero (v.drop m), List.append_nil, List.take_append_drop]
  intro x hx
  obtain ⟨j, hj, rfl⟩ := List.getElem_of_mem hx
  have := h (m + j) (by omega)
  rw [List.length_drop] at hj
  rw [List.getD_eq_getElem?_getD, List.getElem?_eq_getElem (by omega), Option.getD_some] at this
  rw [List.getElem_drop]
  exact this
theorem spS_last {v : List Int} {y : Nat} (hy : y < v.length) (h1 : v.getD y 0 ≠ 0) (h2 : ∀ x, y < x → v.getD x 0 = 0) : 0 < (spS 0 v).length ∧ lastR (spS 0 v) = (y : Int) := by
  have hg : v.getD y 0 = v[y] := by rw [List.getD_eq_getElem?_getD, List.getElem?_eq_getElem hy, Option.getD_some]
  rw [hg] at h1
  rw [spS_cut (m := y + 1) (fun x hx => h2 x (by omega)), List.take_succ_eq_append_getElem hy, spS_app, spS, if_neg h1, spS, List.length_take, Nat.min_eq_left (by omega), Nat.zero_add]
  refine ⟨by simp, ?_⟩
  unfold lastR
  rw [show (((spS 0 (List.take y v) ++ [(⟨(y : Int), v[y]⟩ : S45)]).length : Nat) : Int) - 1 = (((spS 0 (List.take y v)).length : Nat) : Int) by simp, rdT_nat (by simp)]
  simp
theorem ech_low {p : Int} {n : Nat} (hn : n ≤ 2000) {L : List (Nat × List Int)} (h : EchV p n 0 L) {a : Nat × List Int} (ha : a ∈ L) : torusref04_Low.f (spS 0 a.2) = some ((a.1 : Int), true) := by
  have hv := h.vc a ha
  have h1 := h.one a ha
  rw [DV_nat] at h1
  obtain ⟨e1, e2⟩ := spS_last (v := a.2) (y := a.1) (by rw [hv.1]; exact (h.ge a ha).2) (by omega) (fun x hx => by
    have := h.top a ha (x : Int) (by omega)
    rwa [DV_nat] at this)
  have hl := spS_len 0 a.2
  rw [low_ref _ (by have := hv.1; omega), if_neg (by omega)]
  exact congrArg some (Prod.ext e2 rfl)
theorem unit_vc {p : Int} (hp : primeB p = true) {m n i : Nat} (hi : i < m) {u : List Int} (hu : Vc p n u) : Vc p (m + n) (unitV m i u) ∧ (∀ j : Nat, j < m → DV (unitV m i u) (j : Int) = if j = i then 1 else 0) ∧ ∀ j : Nat, DV (unitV m i u) ((m : Int) + j) = DV u j := by
  obtain ⟨hp1, hp2⟩ := primeB_ge hp
  have hl : ((List.replicate m (0 : Int)).set i 1).length = m := by simp
  refine ⟨⟨by rw [unitV, List.length_append, hl, hu.1], fun x hx => ?_⟩, fun j hj => ?_, fun j => ?_⟩
  · rcases List.mem_append.1 hx with hx | hx
    · rcases List.mem_or_eq_of_mem_set hx with hx | rfl
      · have := List.eq_of_mem_replicate hx; omega
      · omega
    · exact hu.2 x hx
  · rw [DV_nat, unitV, List.getD_eq_getElem?_getD, List.getElem?_append_left (by omega), List.getElem?_set]
    by_cases e : i = j
    · rw [if_pos e, if_pos (by simp; omega), if_pos e.symm]; rfl
    · rw [if_neg e, if_neg (fun h => e h.symm), List.getElem?_replicate, if_pos hj]; rfl
  · rw [show (m : Int) + (j : Int) = ((m + j : Nat) : Int) by omega, DV_nat, DV_nat, unitV, List.getD_eq_getElem?_getD, List.getElem?_append_right (by omega), hl, Nat.add_sub_cancel_left, List.getD_eq_getElem?_getD]
def allV (n m : Nat) : Nat → List (List S45) → List (List Int)
  | _, [] => []
  | i, c :: l => unitV m i (denV n c) :: allV n m (i + 1) l
theorem allV_len (n m : Nat) : ∀ (i : Nat) (l : List (List S45)), (allV n m i l).length = l.length
  | _, [] => rfl
  | i, c :: l => by rw [allV, List.length_cons, List.length_cons, allV_len n m (i + 1) l]
theorem allV_get (n m : Nat) : ∀ (i : Nat) (l : List (List S45)) (j : Nat) (hj : j < l.length), (allV n m i l)[j]? = some (unitV m (i + j) (denV n l[j]))
  | i, c :: l, 0, _ => rfl
  | i, c :: l, j + 1, hj => by
    rw [allV, List.getElem?_cons_succ, allV_get n m (i + 1) l j (by simpa using hj), show i + 1 + j = i + (j + 1) by omega]
    rfl
theorem kerAll_of {p : Int} {n m : Nat} (hn : n ≤ 1024) {k : Nat} (hk : 1100 ≤ k) : ∀ (l : List (List S45)) (i : Nat), (∀ c ∈ l, Up p (-1) c) → (∀ c ∈ l, ∀ t ∈ c, t.f0 < (n : Int)) → kerAll k n m i l = some (allV n m i l)
  | [], _, _, _ => rfl
  | c :: l, i, hu, hb => by
    have hc := hu c (by simp)
    have hlen := up_len hc
    have hv := vector_ref c (by omega) n (by omega) (fun t ht => ⟨by have := up_mem hc t ht; omega, hb c (by simp) t ht⟩) k (by omega)
    rw [kerAll, bind_of hv, if_pos (by rw [denS_len, List.length_replicate]), kerAll_of hn hk l (i + 1) (fun d hd => hu d (by simp [hd])) (fun d hd => hb d (by simp [hd]))]
    rfl
theorem kerSel_of {n m : Nat} (hn : n ≤ 2000) {k : Nat} (hk : 2100 ≤ k) : ∀ (L : List (Nat × List Int)) (out : List (List S45)), (∀ a ∈ L, a.2.length = n ∧ torusref04_Low.f (spS 0 a.2) = some ((a.1 : Int), true)) → out.length + L.length ≤ 900000 → kerSel k m (L.map Prod.snd) out = some (out ++ ((L.filter (fun a => decide (a.1 < m))).map Prod.snd).map (spS 0))
  | [], out, _, _ => by simp [kerSel]
  | a :: L, out, h, hl => by
    obtain ⟨h1, h2⟩ := h a (by simp)
    simp only [List.length_cons] at hl
    rw [List.map_cons, kerSel, bind_of (sparse_ref a.2 (by omega) k (by omega)), bind_of h2]
    by_cases hs : a.1 < m
    · rw [if_pos (by show (a.1 : Int) < (m : Int); omega), if_pos (by omega), kerSel_of hn hk L _ (fun b hb => h b (by simp [hb])) (by simp; omega), List.filter_cons_of_pos (by simpa using hs)]
      simp
    · rw [if_neg (by show ¬ (a.1 : Int) < (m : Int); omega), kerSel_of hn hk L _ (fun b hb => h b (by simp [hb])) (by omega), List.filter_cons_of_neg (by simpa using hs)]
def sumE (v : Int → Int) (x : Int) : List (Nat × List Int) → Int
  | [] => 0
  | a :: L => v a.1 * DV a.2 x + sumE v x L
theorem sumE_lin {p k : Int} {v u w : Int → Int} (x : Int) (h : ∀ y, ∃ q, v y = u y + k * w y + p * q) : ∀ (L : List (Nat × List Int)), ∃ q, sumE v x L = sumE u x L + k * sumE w x L + p * q
  | [] => ⟨0, by simp [sumE]⟩
  | a :: L => by
    obtain ⟨q1, h1⟩ := sumE_lin x h L
    obtain ⟨q2, h2⟩ := h a.1
    exact ⟨q1 + q2 * DV a.2 x, by rw [sumE, sumE, sumE, h1, h2]; grind⟩
theorem sumE_zero {p : Int} {v : Int → Int} (x : Int) (h : ∀ y, ∃ q, v y = p * q) : ∀ (L : List (Nat × List Int)), ∃ q, sumE v x L = p * q
  | [] => ⟨0, by simp [sumE]⟩
  | a :: L => by
    obtain ⟨q1, h1⟩ := sumE_zero x h L
    obtain ⟨q2, h2⟩ := h a.1
    exact ⟨q1 + q2 * DV a.2 x, by rw [sumE, h1, h2]; grind⟩
theorem sumE_self {p : Int} {n : Nat} {L : List (Nat × List Int)} (h : EchV p n 0 L) {c : Nat × List Int} (hc : c ∈ L) (x : Int) : ∀ (M : List (Nat × List Int)), (∀ d ∈ M, d ∈ L) → M.Pairwise (fun a b => a.1 < b.1) → ((∃ d ∈ M, d.1 = c.1) → c ∈ M → sumE (DV c.2) x M = DV c.2 x) ∧ ((∀ d ∈ M, d.1 ≠ c.1) → sumE (DV c.2) x M = 0)
  | [], _, _ => ⟨fun _ q => (by cases q), fun _ => rfl⟩
  | d :: M, hM, hp => by
    obtain ⟨h1, h2⟩ := List.pairwise_cons.1 hp
    obtain ⟨I1, I2⟩ := sumE_self h hc x M (fun a ha => hM a (by simp [ha])) h2
    rw [sumE]
    refine ⟨fun _ hcm => ?_, fun hn => ?_⟩
    · rcases List.mem_cons.1 hcm with rfl | hcm
      · rw [I2 (fun e he q => by have := h1 e he; omega), h.one c hc]; omega
      · have := h1 c hcm
        rw [h.cross c hc d (hM d (by simp)) (by omega), I1 ⟨c, hcm, rfl⟩ hcm]; omega
    · rw [h.cross c hc d (hM d (by simp)) (fun e => hn d (by simp) e.symm), I2 (fun e he => hn e (by simp [he]))]; omega
theorem ech_told {p : Int} {n : Nat} {L : List (Nat × List Int)} (h : EchV p n 0 L) {v : Int → Int} (hv : Sp p ((L.map Prod.snd).map (spS 0)) v) : ∀ x, ∃ q, v x = sumE v x L + p * q := by
  induction hv with
  | zero h0 =>
    intro x
    obtain ⟨q1, e1⟩ := sumE_zero (p := p) x h0 L
    obtain ⟨q2, e2⟩ := h0 x
    exact ⟨q2 - q1, by grind⟩
  | add c k hc _ hv ih =>
    intro x
    obtain ⟨r, hr, rfl⟩ := List.mem_map.1 hc
    obtain ⟨a, ha, rfl⟩ := List.mem_map.1 hr
    obtain ⟨q1, e1⟩ := sumE_lin (p := p) x hv L
    obtain ⟨q2, e2⟩ := ih x
    obtain ⟨q3, e3⟩ := hv x
    have hs : sumE (cf (spS 0 a.2)) x L = cf (spS 0 a.2) x := (sumE_self h ha x L (fun d hd => hd) h.asc).1 ⟨a, ha, rfl⟩ ha
    rw [hs] at e1
    exact ⟨q2 + q3 - q1, by grind⟩
theorem sumE_sp {p : Int} {K : List (List S45)} {v : Int → Int} : ∀ (L : List (Nat × List Int)), (∀ a ∈ L, (∃ q, v a.1 = p * q) ∨ spS 0 a.2 ∈ K) → Sp p K (fun x => sumE v x L)
  | [], _ => .zero (fun x => ⟨0, by simp [sumE]⟩)
  | a :: L, h => by
    have I := sumE_sp (p := p) (K := K) (v := v) L (fun b hb => h b (by simp [hb]))
    rcases h a (by simp) with ⟨q, hq⟩ | hm
    · exact I.congr (fun x => ⟨q * DV a.2 x, by rw [sumE, hq]; grind⟩)
    · exact .add (spS 0 a.2) (v a.1) hm I (fun x => ⟨0, by rw [sumE, DV]; grind⟩)
theorem sumN_single {f : Nat → Int} {i : Nat} (h : ∀ j, j ≠ i → f j = 0) (N : Nat) (hi : i < N) : sumN N f = f i := by
  have : sumN N f = sumN N (fun j => if j = i then f i else 0) := sumN_congr _ (fun j _ => by
    by_cases e : j = i
    · rw [e, if_pos rfl]
    · rw [if_neg e, h j e])
  rw [this, sumN_one, if_pos hi]
theorem carry {p : Int} {m n : Nat} {l : List (List S45)} (hm : l.length = m) (hN : m ≤ 1024) (hden : ∀ c ∈ l, Vc p n (denV n c) ∧ ∀ x, DV (denV n c) x = cf c x) (hunit : ∀ i (hi : i < m), (∀ j : Nat, j < m → DV (unitV m i (denV n (l.getD i []))) (j : Int) = if j = i then 1 else 0) ∧ ∀ j : Nat, DV (unitV m i (denV n (l.getD i []))) ((m : Int) + j) = DV (denV n (l.getD i [])) j)
    {v : Int → Int} (hv : Sp p ((allV n m 0 l).map (spS 0)) v) : ∀ r : Nat, ∃ q, v ((m : Int) + r) = sumN 1024 (fun i => v (i : Int) * cf (l.getD i []) r) + p * q := by
  induction hv with
  | @zero v h0 =>
    intro r
    obtain ⟨q1, h1⟩ := h0 ((m : Int) + r)
    obtain ⟨q, hq⟩ := sumN_dvd (p := p) (k := 0) (f := fun i => v (i : Int) * cf (l.getD i []) r) (g := fun _ => 0) (h := fun _ => 0) 1024 (fun i _ => by
      obtain ⟨q, hq⟩ := h0 (i : Int)
      exact ⟨-(q * cf (l.getD i []) r), by rw [hq]; grind⟩)
    rw [sumN_zero] at hq
    exact ⟨q1 + q, by rw [hq, h1]; grind⟩
  | @add u v c k hc _ hv ih =>
    intro r
    obtain ⟨w, hw, rfl⟩ := List.mem_map.1 hc
    obtain ⟨i, hi, rfl⟩ := List.getElem_of_mem hw
    rw [allV_len] at hi
    have hg : (allV n m 0 l)[i]'(by rw [allV_len]; exact hi) = unitV m i (denV n (l.getD i [])) := by
      have := allV_get n m 0 l i hi
      rw [List.getElem?_eq_getElem (by rw [allV_len]; exact hi)] at this
      rw [Option.some.inj this, Nat.zero_add, List.getD_eq_getElem?_getD, List.getElem?_eq_getElem hi]
      rfl
    rw [hg] at hv
    obtain ⟨u1, u2⟩ := hunit i (by omega)
    have hgm : l.getD i [] ∈ l := by rw [List.getD_eq_getElem?_getD, List.getElem?_eq_getElem hi]; exact List.getElem_mem hi
    obtain ⟨q1, h1⟩ := sumN_dvd (p := p) (k := k) (f := fun j => v (j : Int) * cf (l.getD j []) r) (g := fun j => u (j : Int) * cf (l.getD j []) r) (h := fun j => cf (spS 0 (unitV m i (denV n (l.getD i [])))) (j : Int) * cf (l.getD j []) r) 1024 (fun j _ => by
      obtain ⟨q, hq⟩ := hv (j : Int)
      exact ⟨-(q * cf (l.getD j []) r), by rw [hq]; grind⟩)
    have h2 : sumN 1024 (fun j => cf (spS 0 (unitV m i (denV n (l.getD i [])))) (j : Int) * cf (l.getD j []) r) = cf (l.getD i []) r := by
      rw [sumN_single (i := i) (fun j hj => ?_) 1024 (by omega)]
      · have := u1 i (by omega)
        rw [if_pos rfl] at this
        show DV _ (i : Int) * _ = _
        rw [this, Int.one_mul]
      · rcases Nat.lt_or_ge j m with h | h
        · have := u1 j h
          rw [if_neg hj] at this
          show DV _ (j : Int) * _ = 0
          rw [this, Int.zero_mul]
        · rw [List.getD_eq_getElem?_getD (l := l) (i := j), List.getElem?_eq_none (by omega)]
          simp [cf]
    obtain ⟨q3, h3⟩ := ih r
    obtain ⟨q4, h4⟩ := hv ((m : Int) + r)
    have h5 : cf (spS 0 (unitV m i (denV n (l.getD i [])))) ((m : Int) + r) = cf (l.getD i []) r := (u2 r).trans ((hden _ hgm).2 r)
    rw [h5] at h4
    exact ⟨q3 + q4 + q1, by rw [h1, h2, h4, h3]; grind⟩
end Go.Proofs.Ytojnnfhalpefmaa.P
end

section
namespace Go.Proofs.Ytojnnfhalpefmaa.P
open Go.RowKit Go.Proofs.YtojnnfhalpefmaaW.PrintWords Go.Proofs.Ytojnnfhalpefmaa.M Go.Proofs.Ytojnnfhalpefmaa.H
theorem adds_shift {p : Int} (hp : primeB p = true) {L U : List (List S45)} (hL : ∀ c ∈ L, Up p (-1) c) (hU : U.length = L.length) (hUu : ∀ x ∈ U, Up p (-1) x) {g : Int → Int → Int} {v : Int → Int} (hg : ∀ j, j < L.length → ∀ r, ∃ q, cf (L.getD j []) r = dotG (g r) (U.getD j []) + p * q) {c x c' x' : List S45} (h : Adds p L U c x c' x') :
    Up p (-1) c → Up p (-1) x → (∀ r, ∃ q, cf c r = dotG (g r) x + v r + p * q) → ∀ r, ∃ q, cf c' r = dotG (g r) x' + v r + p * q := by
  obtain ⟨hp1, hp2⟩ := primeB_ge hp
  induction h with
  | refl c x => intro _ _ h; exact h
  | step j k hj h0 h1 _ ih =>
    intro hc hx hq
    have hl := hL _ (getD_mem hj)
    have hu := hUu _ (getD_mem (L := U) (j := j) (by omega))
    refine ih (colAdd_up hp1 hp2 h0 h1 hc hl) (colAdd_up hp1 hp2 h0 h1 hx hu) (fun r => ?_)
    rw [colAdd_cf hp1 hp2 h0 h1 hc hl]
    obtain ⟨q1, e1⟩ := ed (cf _ r + k * cf (L.getD j []) r) p
    obtain ⟨q2, e2⟩ := dotG_add hp1 hp2 h0 h1 (g r) hx hu
    obtain ⟨q3, e3⟩ := hq r
    obtain ⟨q4, e4⟩ := hg j hj r
    exact ⟨q3 + k * q4 - q1 + q2, by rw [e1, e2, e3, e4]; grind⟩
theorem copyList_l0 (L : List (List S45)) (hL : L.length < 1000000) (hl : ∀ c ∈ L, c.length ≤ 1024) : ∀ (m i : Nat) (k : Nat), i + m = L.length → m + 1 ≤ k → torusref04_CopyList.l0 k L (L.take i) i = some L
  | 0, i, k, hi, hk => by
    obtain ⟨k, rfl, _⟩ := ex_succ (show 0 + 1 ≤ k by omega)
    rw [torusref04_CopyList.l0, if_neg (by omega), List.take_of_length_le (by omega)]
  | m + 1, i, k, hi, hk => by
    obtain ⟨k, rfl, _⟩ := ex_succ (show 0 + 1 ≤ k by omega)
    have hlt : i < L.length := by omega
    have := hl _ (List.getElem_mem hlt)
    have hcp : torusref04_Copy.f L[i] = some L[i] := by
      unfold torusref04_Copy.f
      simp
      omega
    have c1 : (i : Int) < (L.length : Int) := by omega
    have c2 : (0 : Int) ≤ (i : Int) := by omega
    have c3 : i < 4611686018427387904 := by omega
    have c4 : (L.take i).length < 5864062014805 := by rw [List.length_take]; omega
    have I := copyList_l0 L hL hl m (i + 1) k (by omega) (by omega)
    rw [torusref04_CopyList.l0, if_pos c1, if_pos c2, rdL_nat hlt, bind_of hcp, if_pos c4, wnat c3, ← List.take_succ_eq_append_getElem hlt]
    exact I
theorem copyList_spec (L : List (List S45)) (hL : L.length < 1000000) (hl : ∀ c ∈ L, c.length ≤ 1024) (k : Nat) (hk : L.length + 1 ≤ k) : torusref04_CopyList.f k L = some L := by
  unfold torusref04_CopyList.f
  exact copyList_l0 L hL hl L.length 0 k (by omega) hk
structure RInv (p : Int) (P : List (List S45)) (s : St) : Prop where
  el : s.L = P
  piv : Piv p s.mp P
  ulen : s.U.length = P.length
  unit : ∀ j, j < P.length → s.U.getD j [] = [⟨(j : Int), 1⟩]
  zed : s.Z = []
theorem restPut_spec {p : Int} (hp : primeB p = true) : ∀ (l P : List (List S45)) (s : St), RInv p P s → (∀ c ∈ l, Up p (-1) c ∧ 0 < c.length) → (∀ a ∈ P, ∀ b ∈ l, lastR a ≠ lastR b) → l.Pairwise (fun a b => lastR a ≠ lastR b) → P.length + l.length ≤ 1000 →
    ∃ s', restPut l (P.length : Int) s = some (0, s') ∧ RInv p (P ++ l) s'
  | [], P, s, h, _, _, _, _ => ⟨s, by rw [restPut], by simpa using h⟩
  | c :: l, P, s, h, hl, hPl, hd, hn => by
    obtain ⟨hc, hcl⟩ := hl c (by simp)
    obtain ⟨d1, d2⟩ := List.pairwise_cons.1 hd
    obtain ⟨b0, b1, _⟩ := last_cf hc hcl
    simp only [List.length_cons] at hn
    have hnot : ¬ (s.mp (lastR c)).isSome = true := fun hs => by
      obtain ⟨j, hj⟩ := Option.isSome_iff_exists.1 hs
      obtain ⟨j0, j1, jl⟩ := h.piv.at_ _ _ hj
      have hmem : rd_L2 P j ∈ P := by
        obtain ⟨m, rfl⟩ : ∃ m : Nat, j = (m : Int) := ⟨j.toNat, by omega⟩
        rw [rdL_nat (by omega)]
        exact List.getElem_mem _
      exact hPl _ hmem c (by simp) jl
    have hel := h.el
    have hsl : s.L.length = P.length := by rw [hel]
    have hul := h.ulen
    have hzl : s.Z.length = 0 := by rw [h.zed]; rfl
    have hput : RInv p (P ++ [c]) (s.put c [⟨(P.length : Int), 1⟩]) := by
      have hpiv := piv_put h.piv hc hcl
      refine ⟨by show s.L ++ [c] = P ++ [c]; rw [hel], ?_, by show (s.U ++ [_]).length = _; simp [hul], fun j hj => ?_, h.zed⟩
      · show Piv p (fun y => if y = lastR c then some (s.L.length : Int) else s.mp y) (P ++ [c])
        rw [hsl]
        exact hpiv
      · show (s.U ++ [[(⟨(P.length : Int), 1⟩ : S45)]]).getD j [] = _
        rw [List.length_append, List.length_singleton] at hj
        by_cases e : j < P.length
        · rw [getD_app (by omega)]
          exact h.unit j e
        · have : j = P.length := by omega
          subst this
          rw [← hul, getD_new]
    obtain ⟨s', f1, f2⟩ := restPut_spec hp l (P ++ [c]) _ hput (fun b hb => hl b (by simp [hb])) (fun a ha b hb => by
      rcases List.mem_append.1 ha with ha | ha
      · exact hPl a ha b (by simp [hb])
      · rw [List.mem_singleton.1 ha]; exact d1 b hb) d2 (by simp; omega)
    have hcond : s.small ∧ rowOk (lastR c) := ⟨by unfold St.small; omega, by omega, by omega⟩
    refine ⟨s', ?_, by simpa using f2⟩
    rw [restPut, if_neg (Nat.ne_of_gt hcl), if_pos hcond, if_neg hnot]
    rw [List.length_append, List.length_singleton] at f1
    exact f1
theorem rest_spec {p : Int} (hp : primeB p = true) {l : List (List S45)} (hl : ∀ c ∈ l, Up p (-1) c ∧ 0 < c.length) (hd : l.Pairwise (fun a b => lastR a ≠ lastR b)) (hn : l.length ≤ 1000) {c : List S45} (hc : Up p (-1) c) :
    ∃ rest used, (∀ k, 3400 ≤ k → column_Rest.f k p l c = some (rest, used, 0)) ∧ Up p (-1) rest ∧ Up p (-1) used ∧ (∀ d ∈ l, cf rest (lastR d) = 0) ∧ Sp p l (fun r => cf c r - cf rest r) ∧ (∀ t ∈ used, t.f0 < (l.length : Int)) ∧
      ∀ r, ∃ q, cf rest r + dotG (fun t => cf (l.getD t.toNat []) r) used = cf c r + p * q := by
  obtain ⟨hp1, hp2⟩ := primeB_ge hp
  have h0 : RInv p [] st0 := ⟨rfl, ⟨fun c hc => (by cases hc), fun y j hj => (by cases hj), fun c hc => (by cases hc)⟩, rfl, fun j hj => absurd hj (by simp), rfl⟩
  obtain ⟨s, f1, f2⟩ := restPut_spec hp l [] st0 h0 hl (fun a ha => by cases ha) hd (by simpa using hn)
  rw [List.nil_append] at f2
  have hel := f2.el
  have hpiv : Piv p s.mp s.L := by rw [hel]; exact f2.piv
  have hul : s.U.length = s.L.length := by rw [hel]; exact f2.ulen
  have hunit : ∀ j, j < s.L.length → s.U.getD j [] = [⟨(j : Int), 1⟩] := fun j hj => f2.unit j (by rw [hel] at hj; exact hj)
  have hsl : s.L.length = l.length := by rw [hel]
  have huu : ∀ x ∈ s.U, ∃ j : Nat, j < l.length ∧ x = [⟨(j : Int), 1⟩] := fun x hx => by
    obtain ⟨j, hj, rfl⟩ := List.mem_iff_getElem.1 hx
    refine ⟨j, by omega, ?_⟩
    rw [← hunit j (by omega), List.getD_eq_getElem?_getD, List.getElem?_eq_getElem hj]
    rfl
  have hUu : ∀ x ∈ s.U, Up p (-1) x := fun x hx => by
    obtain ⟨j, hj, rfl⟩ := huu x hx
    exact ⟨by simp only; omega, by simp only; omega, Int.le_refl 1, by simp only; omega, trivial⟩
  obtain ⟨c', x', e1, e2, e3, e4, e5⟩ := clear_all hp hpiv hul hUu c [] hc (up_nil p) (piv_none hpiv)
  have hLu : ∀ d ∈ s.L, Up p (-1) d := fun d hd => (hpiv.up d hd).1
  have hsp := adds_sp hp hLu hul hUu e5 hc (up_nil p)
  have hcomb := adds_shift hp hLu hul hUu (g := fun r t => cf (l.getD t.toNat []) r) (v := cf c) (fun j hj r => ⟨0, by
    rw [hunit j hj, hel, dotG, dotG]
    simp⟩) e5 hc (up_nil p) (fun r => ⟨0, by rw [dotG]; simp⟩)
  have htop := adds_top hp hLu hul hUu e5 (y := (l.length : Int)) (fun u hu r hr => by
    obtain ⟨j, hj, rfl⟩ := huu u hu
    rw [cf_there (by simp only; omega), cf]) hc (up_nil p)
  have hk0 : 0 ≤ p - 1 := by omega
  have hk1 : p - 1 < p := by omega
  have hused := colAdd_up hp1 hp2 hk0 hk1 (up_nil p) e3
  have hucf := fun r => colAdd_cf hp1 hp2 hk0 hk1 (up_nil p) e3 r
  have hxl := up_len e3
  have hcl := up_len hc
  refine ⟨c', colAdd p (p - 1) [] x', fun k hk => ?_, e2, hused, fun d hd => e4 _ (hpiv.all d (by rw [hel]; exact hd)), by rw [hel] at hsp; exact hsp, fun t ht => ?_, fun r => ?_⟩
  · have hpl : column_plus.f p [] (p - 1) x' = some (colAdd p (p - 1) [] x') := plus_col (by omega) (by simp; omega)
    have hend : restEnd k p c s = some (c', colAdd p (p - 1) [] x', 0) := by
      unfold restEnd
      rw [if_pos (by omega), bind_of (e1 k (by omega)), w64 (x := p - 1) (by omega) (by omega)]
      exact bind_of hpl
    unfold column_Rest.f restF
    rw [if_neg (by omega), bind_of (checkAll_ok hp (fun d hd => (hl d hd).1) (by omega) k (by omega)), if_pos rfl, bind_of (check_col p c (by omega) k (by omega)), if_pos (checkB_of hp hc)]
    refine (bind_of f1).trans ?_
    refine (if_pos rfl).trans ?_
    exact hend
  · by_cases hlt : t.f0 < (l.length : Int)
    · exact hlt
    · have h1 := cf_mem hused t ht
      have h2 := up_mem hused t ht
      rw [hucf, htop t.f0 (by omega), cf] at h1
      simp at h1
      omega
  · obtain ⟨q1, h1⟩ := hcomb r
    obtain ⟨q2, h2⟩ := dotG_add hp1 hp2 hk0 hk1 (fun t => cf (l.getD t.toNat []) r) (up_nil p) e3
    rw [h2, dotG, h1]
    exact ⟨q1 + dotG (fun t => cf (l.getD t.toNat []) r) x' - q2, by grind⟩
end Go.Proofs.Ytojnnfhalpefmaa.P
end

section
namespace Go.Proofs.Ytojnnfhalpefmaa.P
open Go.RowKit Go.Proofs.YtojnnfhalpefmaaW.PrintWords Go.Proofs.Ytojnnfhalpefmaa.M Go.Proofs.Ytojnnfhalpefmaa.H
open Classical in
noncomputable def scanE : List (List S45) → List (List S45) → Int
  | _, [] => 0
  | P, a :: l => if a.length = 0 then 9 else if ∃ b ∈ P, lastR b = lastR a then 5 else scanE (P ++ [a]) l
theorem scanE_ok : ∀ (l P : List (List S45)), scanE P l = 0 → (∀ a ∈ l, 0 < a.length) ∧ (∀ b ∈ P, ∀ a ∈ l, lastR b ≠ lastR a) ∧ l.Pairwise (fun a b => lastR a ≠ lastR b)
  | [], P, _ => ⟨fun a ha => (by cases ha), fun b _ a ha => (by cases ha), List.Pairwise.nil⟩
  | a :: l, P, h => by
    rw [scanE] at h
    by_cases h1 : a.length = 0
    · rw [if_pos h1] at h; omega
    · rw [if_neg h1] at h
      by_cases h2 : ∃ b ∈ P, lastR b = lastR a
      · rw [if_pos h2] at h; omega
      · rw [if_neg h2] at h
        obtain ⟨I1, I2, I3⟩ := scanE_ok l (P ++ [a]) h
        refine ⟨fun b hb => ?_, fun b hb c hc => ?_, List.pairwise_cons.2 ⟨fun b hb => I2 a (by simp) b hb, I3⟩⟩
        · rcases List.mem_cons.1 hb with rfl | hb
          · omega
          · exact I1 b hb
        · rcases List.mem_cons.1 hc with rfl | hc
          · exact fun e => h2 ⟨b, hb, e⟩
          · exact I2 b (by simp [hb]) c hc
theorem restPut_err {p : Int} (hp : primeB p = true) : ∀ (l P : List (List S45)) (s : St), RInv p P s → (∀ c ∈ l, Up p (-1) c) → P.length + l.length ≤ 1000 → scanE P l ≠ 0 → ∃ s', restPut l (P.length : Int) s = some (scanE P l, s')
  | [], P, s, _, _, _, h => absurd rfl h
  | c :: l, P, s, h, hl, hn, hne => by
    have hc := hl c (by simp)
    simp only [List.length_cons] at hn
    rw [scanE] at hne ⊢
    rw [restPut]
    by_cases h1 : c.length = 0
    · rw [if_pos h1, if_pos h1]; exact ⟨_, rfl⟩
    · obtain ⟨b0, b1, _⟩ := last_cf hc (by omega)
      have hel := h.el
      have hsl : s.L.length = P.length := by rw [hel]
      have hul := h.ulen
      have hzl : s.Z.length = 0 := by rw [h.zed]; rfl
      have hcond : s.small ∧ rowOk (lastR c) := ⟨by unfold St.small; omega, by omega, by omega⟩
      rw [if_neg h1] at hne
      rw [if_neg h1, if_neg h1, if_pos hcond]
      by_cases h2 : ∃ b ∈ P, lastR b = lastR c
      · obtain ⟨b, hb, e⟩ := h2
        have := h.piv.all b hb
        rw [e] at this
        rw [if_pos this, if_pos (⟨b, hb, e⟩ : ∃ b, b ∈ P ∧ lastR b = lastR c)]
        exact ⟨_, rfl⟩
      · rw [if_neg h2] at hne
        have hnot : ¬ (s.mp (lastR c)).isSome = true := fun hs => by
          obtain ⟨j, hj⟩ := Option.isSome_iff_exists.1 hs
          obtain ⟨j0, j1, jl⟩ := h.piv.at_ _ _ hj
          refine h2 ⟨rd_L2 P j, ?_, jl⟩
          obtain ⟨m, rfl⟩ : ∃ m : Nat, j = (m : Int) := ⟨j.toNat, by omega⟩
          rw [rdL_nat (by omega)]
          exact List.getElem_mem _
        rw [if_neg h2, if_neg hnot]
        obtain ⟨s1, f1, f2⟩ := restPut_spec hp [c] P s h (fun b hb => by rw [List.mem_singleton.1 hb]; exact ⟨hc, by omega⟩) (fun a ha b hb => by rw [List.mem_singleton.1 hb]; exact fun e => h2 ⟨a, ha, e⟩) (List.pairwise_singleton _ _) (by simp; omega)
        rw [restPut, if_neg h1, if_pos hcond, if_neg hnot, restPut] at f1
        obtain rfl : s.put c [⟨(P.length : Int), 1⟩] = s1 := by simpa using f1
        obtain ⟨s', g1⟩ := restPut_err hp l (P ++ [c]) _ f2 (fun b hb => hl b (by simp [hb])) (by simp; omega) hne
        rw [List.length_append, List.length_singleton] at g1
        exact ⟨s', g1⟩
theorem low_of {a : List S45} (ha : a.length ≤ 2000) : torusref04_Low.f a = some (if a.length = 0 then (0, false) else (lastR a, true)) := low_ref a (by omega)
theorem rscan_l1 {L : List (List S45)} (hL : L.length ≤ 12) (hu : ∀ c ∈ L, c.length ≤ 1024) (p : Int) (c : List S45) (i : Nat) (hi : i < L.length) (hp : ∀ a ∈ L.take i, 0 < a.length) (low : Int) (F : Nat) (R : Option (List S45 × List S45 × Int)) (hR : (∀ b ∈ L.take i, lastR b ≠ low) → ∀ k, F ≤ k → torusref04_Rest.l0 k p L c ((i + 1 : Nat) : Int) = R) (hE : (∃ b ∈ L.take i, lastR b = low) → R = some ([], [], 5)) : ∀ (n j : Nat) (k : Nat), j + n = i → (∀ b ∈ L.take j, lastR b ≠ low) → F + 1 + n ≤ k → torusref04_Rest.l1 k p L c i low j = R
  | 0, j, k, hj, hb, hk => by
    obtain ⟨k, rfl, _⟩ := ex_succ (show 0 + 1 ≤ k by omega)
    obtain rfl : j = i := by omega
    have hw : wrap64 ((j : Int) + 1) = ((j + 1 : Nat) : Int) := by rw [w64 (by omega) (by omega)]; omega
    rw [torusref04_Rest.l1, if_neg (by omega), hw]
    exact hR hb k (by omega)
  | n + 1, j, k, hj, hb, hk => by
    obtain ⟨k, rfl, _⟩ := ex_succ (show 0 + 1 ≤ k by omega)
    have hlt : j < L.length := by omega
    have hm := hu _ (List.getElem_mem hlt)
    have hjm : L[j] ∈ L.take i := by
      rw [List.mem_take_iff_getElem]
      exact ⟨j, by omega, rfl⟩
    have hpos := hp _ hjm
    have hw : wrap64 ((j : Int) + 1) = ((j + 1 : Nat) : Int) := by rw [w64 (by omega) (by omega)]; omega
    rw [torusref04_Rest.l1, if_pos (by omega), if_pos (by omega), if_pos (by omega), rdL_nat hlt, bind_of (low_of (by omega)), if_neg (show ¬ L[j].length = 0 by omega)]
    by_cases e : lastR L[j] = low
    · rw [if_pos e]
      exact (hE ⟨L[j], hjm, e⟩).symm
    · rw [if_neg e, hw]
      refine rscan_l1 hL hu p c i hi hp low F R hR hE n (j + 1) k (by omega) (fun b hb' => ?_) (by omega)
      rw [List.take_succ_eq_append_getElem hlt] at hb'
      rcases List.mem_append.1 hb' with h | h
      · exact hb b h
      · rw [List.mem_singleton.1 h]; exact e
theorem rscan_l0 {L : List (List S45)} (hL : L.length ≤ 12) (hu : ∀ c ∈ L, c.length ≤ 1024) (p : Int) (c : List S45) (F : Nat) (R : Option (List S45 × List S45 × Int)) (hR : scanE [] L = 0 → ∀ k, F ≤ k → torusref04_Rest.l0 k p L c (L.length : Int) = R) (hE : scanE [] L ≠ 0 → R = some ([], [], scanE [] L)) :
    ∀ (n i : Nat) (k : Nat), i + n = L.length → (∀ a ∈ L.take i, 0 < a.length) → scanE (L.take i) (L.drop i) = scanE [] L → F + 100 + 20 * n ≤ k → torusref04_Rest.l0 k p L c i = R := by
  intro n
  induction n with
  | zero =>
    intro i k hi hp hs hk
    obtain rfl : i = L.length := by omega
    rw [List.drop_length, scanE] at hs
    exact hR hs.symm k (by omega)
  | succ n ihn =>
    intro i k hi hp hs hk
    obtain ⟨k, rfl, _⟩ := ex_succ (show 0 + 1 ≤ k by omega)
    have hlt : i < L.length := by omega
    have hm := hu _ (List.getElem_mem hlt)
    have hts : L.take (i + 1) = L.take i ++ [L[i]] := List.take_succ_eq_append_getElem hlt
    obtain ⟨S, hS⟩ : ∃ S, scanE [] L = S := ⟨_, rfl⟩
    rw [hS] at hs hE
    rw [List.drop_eq_getElem_cons hlt, scanE] at hs
    obtain ⟨low, hlow⟩ : ∃ low, lastR L[i] = low := ⟨_, rfl⟩
    rw [torusref04_Rest.l0, if_pos (by omega), if_pos (by omega), rdL_nat hlt, bind_of (low_of (by omega)), hlow]
    rw [hlow] at hs
    by_cases h1 : L[i].length = 0
    · rw [if_pos h1] at hs
      subst hs
      rw [if_pos h1, hE (by decide)]
      rfl
    · rw [if_neg h1] at hs
      rw [if_neg h1]
      refine (if_pos rfl).trans ?_
      refine rscan_l1 hL hu p c i hlt hp low (F + 100 + 20 * n) R (fun hb k2 hk2 => ?_) (fun hex => ?_) i 0 k (by omega) (fun b hb => by simp at hb) (by omega)
      · rw [if_neg (fun ⟨b, h2, h3⟩ => hb b h2 h3)] at hs
        refine ihn (i + 1) k2 (by omega) (fun a ha => ?_) (by rw [hts, hS]; exact hs) hk2
        rw [hts] at ha
        rcases List.mem_append.1 ha with h | h
        · exact hp a h
        · rw [List.mem_singleton.1 h]; omega
      · rw [if_pos hex] at hs
        subst hs
        exact hE (by decide)
end Go.Proofs.Ytojnnfhalpefmaa.P
end

section
namespace Go.Proofs.Ytojnnfhalpefmaa.P
open Go.RowKit Go.Proofs.YtojnnfhalpefmaaW.PrintWords Go.Proofs.Ytojnnfhalpefmaa.M Go.Proofs.Ytojnnfhalpefmaa.H
structure RP (p : Int) (l : List (List S45)) (c0 c : List S45) (used : List Int) (row : Int) (i : Nat) : Prop where
  up : Up p (-1) c
  uv : Vc p l.length used
  sum : ∀ r, ∃ q, cf c r + sumN 1024 (fun j => DV used (j : Int) * cf (l.getD j []) r) = cf c0 r + p * q
  done : ∀ j (hj : j < l.length), (row < lastR l[j] ∨ (lastR l[j] = row ∧ j < i)) → cf c (lastR l[j]) = 0
  todo : ∀ j (hj : j < l.length), (lastR l[j] < row ∨ (lastR l[j] = row ∧ i ≤ j)) → DV used (j : Int) = 0
theorem DV_set {u : List Int} {i : Nat} (hi : i < u.length) (q : Int) (j : Nat) : DV (u.set i q) (j : Int) = if j = i then q else DV u j := by
  rw [DV_nat, DV_nat, List.getD_eq_getElem?_getD, List.getElem?_set, List.getD_eq_getElem?_getD]
  by_cases e : i = j
  · subst e
    rw [if_pos rfl, if_pos hi, if_pos rfl]; rfl
  · rw [if_neg e, if_neg (fun h => e h.symm)]
theorem RP.pass {p : Int} {l : List (List S45)} {c0 c : List S45} {used : List Int} {row : Int} {i : Nat} (h : RP p l c0 c used row i) (hi : i < l.length) (hne : lastR l[i] ≠ row) : RP p l c0 c used row (i + 1) :=
  ⟨h.up, h.uv, h.sum, fun j hj hd => h.done j hj (by
    rcases hd with hd | ⟨h1, h2⟩
    · exact .inl hd
    · by_cases e : j = i
      · subst e; exact absurd h1 hne
      · exact .inr ⟨h1, by omega⟩), fun j hj hd => h.todo j hj (by
    rcases hd with hd | ⟨h1, h2⟩
    · exact .inl hd
    · exact .inr ⟨h1, by omega⟩)⟩
theorem RP.next {p : Int} {l : List (List S45)} {c0 c : List S45} {used : List Int} {row : Int} (h : RP p l c0 c used row l.length) : RP p l c0 c used (row - 1) 0 :=
  ⟨h.up, h.uv, h.sum, fun j hj hd => h.done j hj (by
    rcases hd with hd | ⟨h1, h2⟩
    · by_cases e : lastR l[j] = row
      · exact .inr ⟨e, hj⟩
      · exact .inl (by omega)
    · omega), fun j hj hd => h.todo j hj (.inl (by rcases hd with hd | hd <;> omega))⟩
theorem RP.take {p : Int} (hp : primeB p = true) {l : List (List S45)} (hu : ∀ a ∈ l, Up p (-1) a ∧ 0 < a.length) (hd : l.Pairwise (fun a b => lastR a ≠ lastR b)) (hl : l.length ≤ 12) {c0 c : List S45} {used : List Int} {row : Int} {i : Nat} (h : RP p l c0 c used row i) (hi : i < l.length) (he : lastR l[i] = row) {q : Int} (q0 : 0 ≤ q) (q1 : q < p) (hq : (q * cf l[i] row) % p = cf c row) :
    RP p l c0 (colAdd p (modB p (wrap64 (-q))) c l[i]) (used.set i q) row (i + 1) := by
  obtain ⟨hp1, hp2⟩ := primeB_ge hp
  have hm := List.getElem_mem hi
  have hci := (hu _ hm).1
  have hk : modB p (wrap64 (-q)) = (-q) % p := by rw [w64 (by omega) (by omega), modB, if_pos hp]
  have k0 : 0 ≤ (-q) % p := Int.emod_nonneg _ (by omega)
  have k1 : (-q) % p < p := Int.emod_lt_of_pos _ (by omega)
  rw [hk]
  have hup := colAdd_up hp1 hp2 k0 k1 h.up hci
  have hcf : ∀ r, cf (colAdd p ((-q) % p) c l[i]) r = (cf c r + (-q) % p * cf l[i] r) % p := fun r => colAdd_cf hp1 hp2 k0 k1 h.up hci r
  have hul : i < used.length := by rw [h.uv.1]; exact hi
  have hu0 : DV used (i : Int) = 0 := h.todo i hi (.inr ⟨he, Nat.le_refl _⟩)
  have hgi : l.getD i [] = l[i] := by rw [List.getD_eq_getElem?_getD, List.getElem?_eq_getElem hi]; rfl
  have hne : ∀ j (hj : j < l.length), j ≠ i → lastR l[j] ≠ lastR l[i] := fun j hj hji e => by
    rcases Nat.lt_or_gt_of_ne hji with h2 | h2
    · exact List.pairwise_iff_getElem.1 hd j i hj hi h2 e
    · exact List.pairwise_iff_getElem.1 hd i j hi hj h2 e.symm
  refine ⟨hup, ⟨by rw [List.length_set]; exact h.uv.1, fun x hx => ?_⟩, fun r => ?_, fun j hj hd' => ?_, fun j hj hd' => ?_⟩
  · rcases List.mem_or_eq_of_mem_set hx with hx | rfl
    · exact h.uv.2 x hx
    · exact ⟨q0, q1⟩
  · obtain ⟨t, ht⟩ := h.sum r
    obtain ⟨s1, hs1⟩ := ed (-q) p
    obtain ⟨s2, hs2⟩ := ed (cf c r + (-q) % p * cf l[i] r) p
    have hsum : sumN 1024 (fun j => DV (used.set i q) (j : Int) * cf (l.getD j []) r) = sumN 1024 (fun j => DV used (j : Int) * cf (l.getD j []) r) + q * cf l[i] r := by
      rw [sumN_congr (g := fun j => DV used (j : Int) * cf (l.getD j []) r + (if j = i then q * cf l[i] r else 0)) 1024 (fun j _ => ?_), sumN_add, sumN_one, if_pos (by omega)]
      rw [DV_set hul]
      by_cases e : j = i
      · subst e
        rw [if_pos rfl, if_pos rfl, hu0, hgi]; omega
      · rw [if_neg e, if_neg e]; omega
    rw [hcf, hsum, hs2, hs1]
    exact ⟨t - s1 * cf l[i] r - s2, by grind⟩
  · rw [hcf]
    by_cases e : j = i
    · subst e
      rw [he]
      obtain ⟨s1, hs1⟩ := ed (-q) p
      obtain ⟨s2, hs2⟩ := ed (q * cf l[j] row) p
      rw [hq] at hs2
      rw [hs1, hs2, show q * cf l[j] row - p * s2 + (-q - p * s1) * cf l[j] row = p * (-s2 - s1 * cf l[j] row) by grind, Int.mul_emod_right]
    · have hz : cf c (lastR l[j]) = 0 := h.done j hj (by
        rcases hd' with h1 | ⟨h1, h2⟩
        · exact .inl h1
        · exact .inr ⟨h1, by omega⟩)
      have hlt : lastR l[i] < lastR l[j] := by
        rcases hd' with h1 | ⟨h1, h2⟩
        · omega
        · exact absurd (h1.trans he.symm) (hne j hj e)
      rw [hz, cf_above hci hlt]
      simp
  · have hji : j ≠ i := fun e => by subst e; rcases hd' with h1 | ⟨h1, h2⟩ <;> omega
    rw [DV_set hul, if_neg hji]
    exact h.todo j hj (by
      rcases hd' with h1 | ⟨h1, h2⟩
      · exact .inl h1
      · exact .inr ⟨h1, by omega⟩)
theorem rp_l3 {p : Int} (hp : primeB p = true) {l : List (List S45)} (hu : ∀ a ∈ l, Up p (-1) a ∧ 0 < a.length) (hd : l.Pairwise (fun a b => lastR a ≠ lastR b)) (hl : l.length ≤ 12) {c0 : List S45} {row : Int} (h0 : 0 ≤ row) (h1 : row ≤ 1024) (B : Nat) (hB : 4000 ≤ B)
    (H2 : ∀ c used, RP p l c0 c used (row - 1) 0 → ∃ c' u', RP p l c0 c' u' (-1) 0 ∧ ∀ k, B ≤ k → torusref04_Rest.l2 k p l c used (row - 1) = some (c', spS 0 u', 0)) :
    ∀ (n i : Nat) (c : List S45) (used : List Int), i + n = l.length → RP p l c0 c used row i → ∃ c' u', RP p l c0 c' u' (-1) 0 ∧ ∀ k, B + n + 1 ≤ k → torusref04_Rest.l3 k p l c used row i = some (c', spS 0 u', 0) := by
  intro n
  induction n with
  | zero =>
    intro i c used hi h
    obtain rfl : i = l.length := by omega
    obtain ⟨c', u', g1, g2⟩ := H2 c used h.next
    refine ⟨c', u', g1, fun k hk => ?_⟩
    obtain ⟨k, rfl, _⟩ := ex_succ (show 0 + 1 ≤ k by omega)
    rw [torusref04_Rest.l3, if_neg (by omega), w64 (x := row - 1) (by omega) (by omega)]
    exact g2 k (by omega)
  | succ n ih =>
    intro i c used hi h
    have hlt : i < l.length := by omega
    have hm := List.getElem_mem hlt
    obtain ⟨hci, hpos⟩ := hu _ hm
    have hlen := up_len hci
    have hcl := up_len h.up
    have hw : wrap64 ((i : Int) + 1) = ((i + 1 : Nat) : Int) := by rw [w64 (by omega) (by omega)]; omega
    have hlow : torusref04_Low.f l[i] = some (lastR l[i], true) := by rw [low_of (by omega), if_neg (by omega)]
    by_cases he : lastR l[i] = row
    · obtain ⟨b0, b1, b2, b3, _⟩ := last_cf hci hpos
      rw [he] at b2 b3
      have ra := cf_range (show 0 < p by have := primeB_ge hp; omega) row h.up
      obtain ⟨q, q0, q1, q2, q3⟩ := div_ref hp ra.1 ra.2 b2 b3
      obtain ⟨c', u', g1, g2⟩ := ih (i + 1) _ _ (by omega) (h.take hp hu hd hl hlt he q0 q1 q2)
      refine ⟨c', u', g1, fun k hk => ?_⟩
      obtain ⟨k, rfl, _⟩ := ex_succ (show 0 + 1 ≤ k by omega)
      have hul : used.length = l.length := h.uv.1
      rw [torusref04_Rest.l3, if_pos (by omega), if_pos (by omega), rdL_nat hlt, bind_of hlow]
      refine (if_pos he).trans ?_
      rw [bind_of (coef_ref c (by omega) row k (by omega)), bind_of (coef_ref l[i] (by omega) row k (by omega)), bind_of (q3 k (by omega)), if_pos (by omega), bind_of (plus_ref hp h.up hci _ k (by omega)), hw, Int.toNat_natCast]
      exact g2 k (by omega)
    · obtain ⟨c', u', g1, g2⟩ := ih (i + 1) c used (by omega) (h.pass hlt he)
      refine ⟨c', u', g1, fun k hk => ?_⟩
      obtain ⟨k, rfl, _⟩ := ex_succ (show 0 + 1 ≤ k by omega)
      rw [torusref04_Rest.l3, if_pos (by omega), if_pos (by omega), rdL_nat hlt, bind_of hlow]
      refine (if_neg he).trans ?_
      rw [hw]
      exact g2 k (by omega)
theorem rp_l2 {p : Int} (hp : primeB p = true) {l : List (List S45)} (hu : ∀ a ∈ l, Up p (-1) a ∧ 0 < a.length) (hd : l.Pairwise (fun a b => lastR a ≠ lastR b)) (hl : l.length ≤ 12) {c0 : List S45} : ∀ (n : Nat) (c : List S45) (used : List Int), n ≤ 1024 → RP p l c0 c used ((n : Int) - 1) 0 → ∃ c' u', RP p l c0 c' u' (-1) 0 ∧ ∀ k, 20 * n + 5000 ≤ k → torusref04_Rest.l2 k p l c used ((n : Int) - 1) = some (c', spS 0 u', 0) := by
  intro n
  induction n with
  | zero =>
    intro c used _ h
    refine ⟨c, used, h, fun k hk => ?_⟩
    obtain ⟨k, rfl, _⟩ := ex_succ (show 0 + 1 ≤ k by omega)
    have hcl := up_len h.up
    have hul : used.length = l.length := h.uv.1
    rw [torusref04_Rest.l2, if_neg (by omega)]
    refine (if_pos (show (0 : Nat) + c.length < 8796093022208 by omega)).trans ?_
    rw [bind_of (sparse_ref used (by omega) k (by omega))]
    rfl
  | succ n ih =>
    intro c used hn h
    have e : ((n + 1 : Nat) : Int) - 1 = (n : Int) := by omega
    rw [e] at h ⊢
    obtain ⟨c', u', g1, g2⟩ := rp_l3 hp hu hd hl (by omega) (by omega) (20 * n + 5000) (by omega) (fun c used h => ih c used (by omega) h) l.length 0 c used (by omega) h
    refine ⟨c', u', g1, fun k hk => ?_⟩
    obtain ⟨k, rfl, _⟩ := ex_succ (show 0 + 1 ≤ k by omega)
    rw [torusref04_Rest.l2, if_pos (by omega)]
    exact g2 k (by omega)
end Go.Proofs.Ytojnnfhalpefmaa.P
end

section
namespace Go.Proofs.Ytojnnfhalpefmaa.P
open Go.RowKit Go.Proofs.YtojnnfhalpefmaaW.PrintWords Go.Proofs.Ytojnnfhalpefmaa.M Go.Proofs.Ytojnnfhalpefmaa.H
theorem dotG_one {p : Int} (g : Int → Int) : ∀ {last : Int} (x : List S45) (t : S45), Up p last x → t ∈ x → (∀ s ∈ x, s.f0 ≠ t.f0 → g s.f0 = 0) → dotG g x = t.f1 * g t.f0
  | last, [], t, hu, ht, h => by cases ht
  | last, s :: x, t, hu, ht, h => by
    have hu3 : Up p s.f0 x := hu.2.2.2.2
    rw [dotG]
    rcases List.mem_cons.1 ht with rfl | ht
    · have : dotG g x = 0 := by
        have hz : ∀ (y : List S45), (∀ u ∈ y, g u.f0 = 0) → dotG g y = 0 := by
          intro y
          induction y with
          | nil => intro _; rfl
          | cons u y ih =>
            intro hh
            rw [dotG, hh u (by simp), ih (fun w hw => hh w (by simp [hw]))]
            omega
        refine hz x (fun u hu' => h u (by simp [hu']) ?_)
        have := up_mem hu3 u hu'
        omega
      rw [this, Int.add_zero]
    · have hs := up_mem hu3 t ht
      rw [h s (by simp) (by omega), dotG_one g x t hu3 ht (fun u hu' => h u (by simp [hu']))]
      omega
theorem max_low (f : Int → Int) : ∀ (x : List S45), x ≠ [] → ∃ t ∈ x, ∀ s ∈ x, f s.f0 ≤ f t.f0
  | [], h => absurd rfl h
  | [s], _ => ⟨s, by simp, fun u hu => by rw [List.mem_singleton.1 hu]; exact Int.le_refl _⟩
  | s :: t :: x, _ => by
    obtain ⟨m, hm, hx⟩ := max_low f (t :: x) (by simp)
    by_cases h : f m.f0 ≤ f s.f0
    · exact ⟨s, by simp, fun u hu => by
        rcases List.mem_cons.1 hu with rfl | hu
        · exact Int.le_refl _
        · have := hx u hu; omega⟩
    · exact ⟨m, by simp [List.mem_cons.1 hm], fun u hu => by
        rcases List.mem_cons.1 hu with rfl | hu
        · omega
        · exact hx u hu⟩
theorem mul_zero_p {p : Int} (hp : primeB p = true) {a b q : Int} (a0 : 1 ≤ a) (a1 : a < p) (b0 : 1 ≤ b) (b1 : b < p) (h : a * b = p * q) : False := by
  obtain ⟨t, _, _, ht, _⟩ := inv_spec hp a0 a1
  obtain ⟨s, hs⟩ := ed (t * a) p
  rw [ht] at hs
  have e : b = p * (t * q - s * b) := by
    have : b = (t * a - p * s) * b := by rw [← hs]; omega
    grind
  have := primeB_ge hp
  by_cases h0 : t * q - s * b ≤ 0
  · have := Int.mul_nonneg (show (0 : Int) ≤ p by omega) (show 0 ≤ -(t * q - s * b) by omega)
    grind
  · have := Int.mul_le_mul_of_nonneg_left (show (1 : Int) ≤ t * q - s * b by omega) (show (0 : Int) ≤ p by omega)
    omega
theorem dist_inj {M : List (List S45)} (h : M.Pairwise (fun a b => lastR a ≠ lastR b)) {i j : Nat} (hi : i < M.length) (hj : j < M.length) (hne : i ≠ j) : lastR M[i] ≠ lastR M[j] := by
  rcases Nat.lt_or_gt_of_ne hne with hlt | hlt
  · exact List.pairwise_iff_getElem.1 h i j hi hj hlt
  · exact fun e => List.pairwise_iff_getElem.1 h j i hj hi hlt e.symm
end Go.Proofs.Ytojnnfhalpefmaa.P
end

section
namespace Go.Proofs.Ytojnnfhalpefmaa.P
open Go.RowKit Go.Proofs.YtojnnfhalpefmaaW.PrintWords Go.Proofs.Ytojnnfhalpefmaa.M Go.Proofs.Ytojnnfhalpefmaa.H
theorem dist_indep2 {p : Int} (hp : primeB p = true) {M : List (List S45)} (hu : ∀ c ∈ M, Up p (-1) c ∧ 0 < c.length) (hd : M.Pairwise (fun a b => lastR a ≠ lastR b)) {x : List S45} (hx : Up p (-1) x) (hlow : ∀ t ∈ x, t.f0 < (M.length : Int)) (h0 : ∀ r, ∃ q, dotG (fun t => cf (M.getD t.toNat []) r) x = p * q) : x = [] := by
  refine Classical.byContradiction fun hne => ?_
  obtain ⟨t, ht, hmax⟩ := max_low (fun j => lastR (M.getD j.toNat [])) x hne
  have tb := up_mem hx t ht
  have tl := hlow t ht
  have htl : t.f0.toNat < M.length := by omega
  have em (j : Nat) (hj : j < M.length) : M.getD j [] = M[j] := by simp [List.getD_eq_getElem?_getD, hj]
  obtain ⟨q, hq⟩ := h0 (lastR M[t.f0.toNat])
  have hc := hu _ (List.getElem_mem htl)
  have hl := last_cf hc.1 hc.2
  rw [dotG_one (fun t' => cf (M.getD t'.toNat []) (lastR M[t.f0.toNat])) x t hx ht (fun s hs hne' => by
    have sb := up_mem hx s hs
    have sl := hlow s hs
    have hsl : s.f0.toNat < M.length := by omega
    have h1 := hmax s hs
    simp only [em _ hsl, em _ htl] at h1
    have h2 := dist_inj hd hsl htl (by omega)
    show cf (M.getD s.f0.toNat []) _ = 0
    rw [em _ hsl]
    exact cf_above (hu _ (List.getElem_mem hsl)).1 (by omega))] at hq
  simp only [em _ htl] at hq
  exact mul_zero_p hp tb.2.2.1 tb.2.2.2 hl.2.2.1 hl.2.2.2.1 hq
theorem rest_one {p : Int} (hp : primeB p = true) {l : List (List S45)} (hu : ∀ a ∈ l, Up p (-1) a ∧ 0 < a.length) (hd : l.Pairwise (fun a b => lastR a ≠ lastR b)) (hl : l.length ≤ 12) {c0 c' rest used : List S45} {u' : List Int} (h : RP p l c0 c' u' (-1) 0) (g1 : Up p (-1) rest) (g2 : Up p (-1) used) (g3 : ∀ d ∈ l, cf rest (lastR d) = 0) (g4 : Sp p l (fun r => cf c0 r - cf rest r)) (g5 : ∀ t ∈ used, t.f0 < (l.length : Int))
    (g6 : ∀ r, ∃ q, cf rest r + dotG (fun t => cf (l.getD t.toNat []) r) used = cf c0 r + p * q) : c' = rest ∧ spS 0 u' = used := by
  obtain ⟨hp1, hp2⟩ := primeB_ge hp
  have hS : Sp p l (fun r => sumN 1024 (fun j => DV u' (j : Int) * cf (l.getD j []) r)) := (sp_sum (p := p) (P := l) (DV u') l.length (Nat.le_refl _) (K := l) (fun a ha => List.mem_of_mem_take ha)).congr (fun r => by
    obtain ⟨q, hq⟩ := sumN_cut (p := 0) (f := fun j => DV u' (j : Int) * cf (l.getD j []) r) l.length (fun i hi => ⟨0, by
      rw [List.getD_eq_getElem?_getD, List.getElem?_eq_none (by omega)]
      simp [cf]⟩) 1024 (by omega)
    exact ⟨0, by rw [hq]; simp⟩)
  have hz := dist_zero2 hp hu hd hl (v := fun r => cf c' r - cf rest r) ((g4.minus hS).congr (fun r => by
    obtain ⟨q, hq⟩ := h.sum r
    exact ⟨q, by grind⟩)) (fun d hd' => by
    obtain ⟨j, hj, rfl⟩ := List.getElem_of_mem hd'
    have hlw := last_cf (hu _ (List.getElem_mem hj)).1 (hu _ (List.getElem_mem hj)).2
    exact ⟨0, by rw [h.done j hj (.inl (by omega)), g3 _ (List.getElem_mem hj)]; simp⟩)
  have e1 : c' = rest := up_mod hp h.up g1 (fun r => by obtain ⟨q, hq⟩ := hz r; exact ⟨q, by grind⟩)
  refine ⟨e1, ?_⟩
  subst e1
  have hv := h.uv
  have hsu := (spS_up (p := p) u' 0 hv.2 (by rw [hv.1]; omega)).1
  have hk0 : 0 ≤ p - 1 := by omega
  have hk1 : p - 1 < p := by omega
  have hxu := colAdd_up hp1 hp2 hk0 hk1 hsu g2
  have hx : colAdd p (p - 1) (spS 0 u') used = [] := dist_indep2 hp hu hd hxu (fun t ht => by
    by_cases hlt : t.f0 < (l.length : Int)
    · exact hlt
    · have h1 := cf_mem hxu t ht
      have h2 := up_mem hxu t ht
      have h3 : cf used t.f0 = 0 := by
        by_cases h0 : cf used t.f0 = 0
        · exact h0
        · obtain ⟨s, hs, e⟩ := cf_pos h0
          have := g5 s hs; omega
      have h4 : cf (spS 0 u') t.f0 = 0 := DV_high hv (by omega)
      rw [colAdd_cf hp1 hp2 hk0 hk1 hsu g2, h3, h4] at h1
      simp at h1
      omega) (fun r => by
    obtain ⟨q1, f1⟩ := dotG_add hp1 hp2 hk0 hk1 (fun t => cf (l.getD t.toNat []) r) hsu g2
    obtain ⟨q2, f2⟩ := g6 r
    obtain ⟨q3, f3⟩ := h.sum r
    have f4 : dotG (fun t => cf (l.getD t.toNat []) r) (spS 0 u') = sumN 1024 (fun j => DV u' (j : Int) * cf (l.getD j []) r) := by
      rw [dotG_sum _ (spS 0 u') (Int.le_refl _) hsu]
      exact sumN_congr _ (fun i _ => by simp only [Int.toNat_natCast]; rfl)
    rw [f1, f4]
    exact ⟨q3 - q2 + dotG (fun t => cf (l.getD t.toNat []) r) used - q1, by grind⟩)
  exact up_mod hp hsu g2 (fun r => by
    have e := colAdd_cf hp1 hp2 hk0 hk1 hsu g2 r
    rw [hx, cf] at e
    obtain ⟨q, hq⟩ := ed (cf (spS 0 u') r + (p - 1) * cf used r) p
    rw [← e] at hq
    exact ⟨q - cf used r, by grind⟩)
end Go.Proofs.Ytojnnfhalpefmaa.P
end

section
namespace Go.Proofs.Ytojnnfhalpefmaa.P
open Go.RowKit Go.Proofs.YtojnnfhalpefmaaW.PrintWords Go.Proofs.Ytojnnfhalpefmaa.M Go.Proofs.Ytojnnfhalpefmaa.H
theorem all_up {p : Int} : ∀ (L : List (List S45)), checkAllB p L = 0 → ∀ c ∈ L, Up p (-1) c
  | [], _, c, hc => by cases hc
  | a :: L, h, c, hc => by
    obtain ⟨g1, g2⟩ := checkAllB_head h
    rcases List.mem_cons.1 hc with rfl | hc
    · exact (checkB_up g1).2
    · exact all_up L g2 c hc
theorem rest_ref {p : Int} {l : List (List S45)} (hl : l.length ≤ 12) (hc : ∀ c ∈ l, c.length ≤ 30) {c : List S45} (hx : c.length ≤ 30) :
    ∃ r u e, r.length ≤ 1024 ∧ u.length ≤ 1024 ∧ ∀ k, 60000 ≤ k → column_Rest.f k p l c = some (r, u, e) ∧ torusref04_Rest.f k p l c = some (r, u, e) := by
  have hlg : longest l ≤ 30 := longest_le hc
  have a1 (k : Nat) (hk : 60000 ≤ k) := checkAll_col p l (by omega) (fun c h => by have := hc c h; omega) k (by omega)
  have a2 (k : Nat) (hk : 60000 ≤ k) := checkAll_ref p l (by omega) (fun c h => by have := hc c h; omega) k (by omega)
  have b1 (k : Nat) (hk : 60000 ≤ k) := check_col p c (by omega) k (by omega)
  have b2 (k : Nat) (hk : 60000 ≤ k) := check_ref p c (by omega) k (by omega)
  by_cases h1 : checkAllB p l = 0
  · by_cases h2 : checkB p c = 0
    · obtain ⟨hp, hu⟩ := checkB_up h2
      obtain ⟨hp1, hp2⟩ := primeB_ge hp
      have hlu := all_up l h1
      have hlen : ∀ a ∈ l, a.length ≤ 1024 := fun a ha => up_len (hlu a ha)
      have hr0 : RInv p [] st0 := ⟨rfl, ⟨fun c hc => (by cases hc), fun y j hj => (by cases hj), fun c hc => (by cases hc)⟩, rfl, fun j hj => absurd hj (by simp), rfl⟩
      by_cases h3 : scanE [] l = 0
      · obtain ⟨s1, _, s3⟩ := scanE_ok l [] h3
        have hup : ∀ a ∈ l, Up p (-1) a ∧ 0 < a.length := fun a ha => ⟨hlu a ha, s1 a ha⟩
        obtain ⟨rest, used, g0, g1, g2, g3, g4, g5, g6⟩ := rest_spec hp hup s3 (by omega) hu
        obtain ⟨m, m1, m2, m3, m4⟩ := size_all (p := p) (L := c :: l) (fun a ha => by
          rcases List.mem_cons.1 ha with rfl | ha
          · exact hu
          · exact hlu a ha) (by simp; omega) (c :: l).length 0 0 (by omega) (Int.le_refl _) (by decide)
        obtain ⟨n, rfl⟩ := Int.eq_ofNat_of_zero_le m1
        obtain ⟨z1, z2⟩ := zero_vc (show 0 < p by omega) l.length
        have hlow : ∀ j (hj : j < l.length), lastR l[j] < (n : Int) := fun j hj => by
          have hm := List.getElem_mem hj
          have h5 : rd_T45 l[j] ((l[j].length : Int) - 1) ∈ l[j] := by
            have := s1 _ hm
            rw [show (l[j].length : Int) - 1 = ((l[j].length - 1 : Nat) : Int) by omega, rdT_nat (by omega)]
            exact List.getElem_mem _
          exact m3 (j + 1) (by simp; omega) (Nat.zero_le _) _ (by simpa using h5)
        have hRP : RP p l c c (List.replicate l.length 0) ((n : Int) - 1) 0 := ⟨hu, z1, fun r => ⟨0, by
          rw [sumN_congr (g := fun _ => 0) 1024 (fun j _ => by rw [z2, Int.zero_mul]), sumN_zero]
          omega⟩, fun j hj hd => by have := hlow j hj; omega, fun j hj _ => z2 _⟩
        obtain ⟨c', u', k1, k2⟩ := rp_l2 hp hup s3 hl n c _ (by omega) hRP
        obtain ⟨rfl, rfl⟩ := rest_one hp hup s3 hl k1 g1 g2 g3 g4 g5 g6
        refine ⟨c', spS 0 u', 0, up_len g1, up_len g2, fun k hk => ⟨g0 k (by omega), ?_⟩⟩
        unfold torusref04_Rest.f
        rw [if_neg (by omega), bind_of (a2 k hk), if_pos h1, bind_of (b2 k hk), if_pos h2]
        refine rscan_l0 hl hlen p c 40000 _ (fun _ k hk => ?_) (fun h => absurd h3 h) l.length 0 k (by omega) (fun a ha => by simp at ha) (by simp) (by omega)
        obtain ⟨k, rfl, _⟩ := ex_succ (show 0 + 1 ≤ k by omega)
        have hsz : torusref04_Size.f k (c :: l) = some (n : Int) := by
          unfold torusref04_Size.f
          exact m4 k (by simp only [List.length_cons]; omega)
        rw [torusref04_Rest.l0, if_neg (by omega), if_pos (by omega), if_pos (by omega)]
        refine (if_pos (show ([c] : List (List S45)).length + l.length < 5864062014805 by simp; omega)).trans ?_
        refine (bind_of hsz).trans ?_
        rw [Int.toNat_natCast, w64 (by omega) (by omega)]
        exact k2 k (by omega)
      · obtain ⟨s', f1⟩ := restPut_err hp l [] st0 hr0 hlu (by simp; omega) h3
        refine ⟨[], [], scanE [] l, by simp, by simp, fun k hk => ⟨?_, ?_⟩⟩
        · unfold column_Rest.f restF
          rw [if_neg (by omega), bind_of (a1 k hk), if_pos h1, bind_of (b1 k hk), if_pos h2]
          refine (bind_of f1).trans ?_
          exact if_neg h3
        · unfold torusref04_Rest.f
          rw [if_neg (by omega), bind_of (a2 k hk), if_pos h1, bind_of (b2 k hk), if_pos h2]
          exact rscan_l0 hl hlen p c 40000 _ (fun h => absurd h h3) (fun _ => rfl) l.length 0 k (by omega) (fun a ha => by simp at ha) (by simp) (by omega)
    · refine ⟨[], [], checkB p c, by simp, by simp, fun k hk => ⟨?_, ?_⟩⟩
      · unfold column_Rest.f restF
        rw [if_neg (by omega), bind_of (a1 k hk), if_pos h1, bind_of (b1 k hk), if_neg h2]
      · unfold torusref04_Rest.f
        rw [if_neg (by omega), bind_of (a2 k hk), if_pos h1, bind_of (b2 k hk), if_neg h2]
  · refine ⟨[], [], checkAllB p l, by simp, by simp, fun k hk => ⟨?_, ?_⟩⟩
    · unfold column_Rest.f restF
      rw [if_neg (by omega), bind_of (a1 k hk), if_neg h1]
    · unfold torusref04_Rest.f
      rw [if_neg (by omega), bind_of (a2 k hk), if_neg h1]
end Go.Proofs.Ytojnnfhalpefmaa.P
end

section
namespace Go.Proofs.Ytojnnfhalpefmaa.P
open Go.RowKit Go.Proofs.YtojnnfhalpefmaaW.PrintWords Go.Proofs.Ytojnnfhalpefmaa.M Go.Proofs.Ytojnnfhalpefmaa.H
theorem DV_take {p : Int} {N m : Nat} {L : List (Nat × List Int)} (h : EchV p N 0 L) {a : Nat × List Int} (ha : a ∈ L) (hm : a.1 < m) : spS 0 (a.2.take m) = spS 0 a.2 := (spS_cut (fun x hx => by
  have := h.top a ha (x : Int) (by omega)
  rwa [DV_nat] at this) 0).symm
theorem ech_take {p : Int} {N m : Nat} (hmN : m ≤ N) {L : List (Nat × List Int)} (h : EchV p N 0 L) : EchV p m 0 ((L.filter (fun a => decide (a.1 < m))).map (fun a => (a.1, a.2.take m))) := by
  have mem : ∀ b ∈ (L.filter (fun a => decide (a.1 < m))).map (fun a => (a.1, a.2.take m)), ∃ a ∈ L, a.1 < m ∧ b = (a.1, a.2.take m) := fun b hb => by
    obtain ⟨a, ha, rfl⟩ := List.mem_map.1 hb
    obtain ⟨h1, h2⟩ := List.mem_filter.1 ha
    exact ⟨a, h1, by simpa using h2, rfl⟩
  have dv : ∀ a ∈ L, a.1 < m → ∀ x, DV (a.2.take m) x = DV a.2 x := fun a ha hm x => by unfold DV; rw [DV_take h ha hm]
  refine ⟨fun b hb => ?_, ?_, fun b hb => ?_, fun b hb => ?_, fun b hb x hx => ?_, fun b hb c hc hne => ?_⟩
  · obtain ⟨a, ha, hm, rfl⟩ := mem b hb
    have hv := h.vc a ha
    exact ⟨by rw [List.length_take, hv.1, Nat.min_eq_left hmN], fun x hx => hv.2 x (List.mem_of_mem_take hx)⟩
  · rw [List.pairwise_map]
    exact (h.asc.filter _)
  · obtain ⟨a, ha, hm, rfl⟩ := mem b hb
    exact ⟨Nat.zero_le _, hm⟩
  · obtain ⟨a, ha, hm, rfl⟩ := mem b hb
    exact (dv a ha hm _).trans (h.one a ha)
  · obtain ⟨a, ha, hm, rfl⟩ := mem b hb
    exact (dv a ha hm _).trans (h.top a ha x hx)
  · obtain ⟨a, ha, hm, rfl⟩ := mem b hb
    obtain ⟨d, hd, hm2, rfl⟩ := mem c hc
    exact (dv a ha hm _).trans (h.cross a ha d hd hne)
theorem kernel_ref {p : Int} (hp : primeB p = true) {l : List (List S45)} (h : ∀ c ∈ l, Up p (-1) c) (hl : l.length ≤ 12) :
    ∃ K, (∀ k, 3400 ≤ k → column_Kernel.f k p l = some (K, 0)) ∧ K.length ≤ 12 ∧ (∀ c ∈ K, c.length ≤ 1024) ∧ ∀ k, 20000 ≤ k → torusref04_Kernel.f k p l = some (K, 0) := by
  obtain ⟨hp1, hp2⟩ := primeB_ge hp
  obtain ⟨K, e1, e2, e3, e4, e5, e6⟩ := kernel_spec2 hp h hl
  obtain ⟨B, _, _, _, b4⟩ := basis_ref hp h hl
  obtain ⟨n, n1, n2, n3⟩ := size_list h hl
  obtain ⟨m, hm⟩ : ∃ m, l.length = m := ⟨_, rfl⟩
  have hden : ∀ c ∈ l, Vc p n (denV n c) ∧ ∀ x, DV (denV n c) x = cf c x := fun c hc => den_vc hp (h c hc) (n2 c hc)
  have hgm : ∀ i, i < m → l.getD i [] ∈ l := fun i hi => by rw [List.getD_eq_getElem?_getD, List.getElem?_eq_getElem (by omega)]; exact List.getElem_mem _
  have hunit : ∀ i (hi : i < m), Vc p (m + n) (unitV m i (denV n (l.getD i []))) ∧ (∀ j : Nat, j < m → DV (unitV m i (denV n (l.getD i []))) (j : Int) = if j = i then 1 else 0) ∧ ∀ j : Nat, DV (unitV m i (denV n (l.getD i []))) ((m : Int) + j) = DV (denV n (l.getD i [])) j := fun i hi => unit_vc hp hi (hden _ (hgm i hi)).1
  have hget : ∀ i (hi : i < m), (allV n m 0 l)[i]? = some (unitV m i (denV n (l.getD i []))) := fun i hi => by
    rw [allV_get n m 0 l i (by omega), Nat.zero_add, List.getD_eq_getElem?_getD, List.getElem?_eq_getElem (by omega)]
    rfl
  have hO : ∀ r ∈ allV n m 0 l, Vc p (m + n) r := fun r hr => by
    obtain ⟨i, hi, rfl⟩ := List.getElem_of_mem hr
    rw [allV_len] at hi
    have := hget i (by omega)
    rw [List.getElem?_eq_getElem (by rw [allV_len]; exact hi)] at this
    rw [Option.some.inj this]
    exact (hunit i (by omega)).1
  obtain ⟨L, f1, f2, f3, f4⟩ := redv_spec hp (m + n) (allV n m 0 l) [] (Nat.le_refl _) (rinv0 hO)
  have hE := ech_take (m := m) (by omega) f2
  have hKE : (((L.filter (fun a => decide (a.1 < m))).map (fun a => (a.1, a.2.take m))).map Prod.snd).map (spS 0) = ((L.filter (fun a => decide (a.1 < m))).map Prod.snd).map (spS 0) := by
    rw [List.map_map, List.map_map, List.map_map]
    refine List.map_congr_left (fun a ha => ?_)
    obtain ⟨h1, h2⟩ := List.mem_filter.1 ha
    exact DV_take f2 h1 (by simpa using h2)
  have hred := ech_red hp (show m ≤ 1024 by omega) hE
  rw [hKE] at hred
  have hcarry : ∀ {v : Int → Int}, Sp p ((allV n m 0 l).map (spS 0)) v → ∀ r : Nat, ∃ q, v ((m : Int) + r) = sumN 1024 (fun i => v (i : Int) * cf (l.getD i []) r) + p * q := fun hv => carry hm (by omega) hden (fun i hi => (hunit i hi).2) hv
  have hK : K = ((L.filter (fun a => decide (a.1 < m))).map Prod.snd).map (spS 0) := by
    refine red_unique hp e2 hred (fun x hx => ?_) (fun c hc => ?_)
    · -- a combination that is 0, followed by zeros, lies in the span of the vectors
      have hxu := (e2.up x hx).1
      have hP : ((allV n m 0 l).map (spS 0)).length = m := by rw [List.length_map, allV_len, hm]
      have hW := sp_sum (p := p) (P := (allV n m 0 l).map (spS 0)) (cf x) m (by omega) (K := (allV n m 0 l).map (spS 0)) (fun c hc => List.mem_of_mem_take hc)
      have hpg : ∀ i, i < m → ((allV n m 0 l).map (spS 0)).getD i [] = spS 0 (unitV m i (denV n (l.getD i []))) := fun i hi => by
        rw [List.getD_eq_getElem?_getD, List.getElem?_map, hget i hi]; rfl
      have hsp : Sp p ((allV n m 0 l).map (spS 0)) (cf x) := hW.congr (fun y => by
        rcases Int.lt_or_le y 0 with hy | hy
        · rw [cf_low hxu (by omega)]
          refine ⟨0, ?_⟩
          rw [sumN_congr (g := fun _ => 0) m (fun i hi => by
            rw [hpg i hi, show cf (spS 0 (unitV m i (denV n (l.getD i [])))) y = 0 from DV_neg _ hy, Int.mul_zero]), sumN_zero]
          simp
        · obtain ⟨y, rfl⟩ := Int.eq_ofNat_of_zero_le hy
          rcases Nat.lt_or_ge y m with hlt | hge
          · refine ⟨0, ?_⟩
            rw [sumN_single (i := y) (fun j hj => ?_) m hlt]
            · have := (hunit y hlt).2.1 y hlt
              rw [if_pos rfl] at this
              rw [hpg y hlt, show cf (spS 0 (unitV m y (denV n (l.getD y [])))) (y : Int) = 1 from this]
              omega
            · rcases Nat.lt_or_ge j m with h2 | h2
              · have := (hunit j h2).2.1 y hlt
                rw [if_neg (fun e => hj e.symm)] at this
                rw [hpg j h2, show cf (spS 0 (unitV m j (denV n (l.getD j [])))) (y : Int) = 0 from this, Int.mul_zero]
              · rw [List.getD_eq_getElem?_getD, List.getElem?_eq_none (by omega)]
                simp [cf]
          · obtain ⟨r, rfl⟩ : ∃ r, y = m + r := ⟨y - m, by omega⟩
            have hx0 : cf x ((m + r : Nat) : Int) = 0 := by
              by_cases h0 : cf x ((m + r : Nat) : Int) = 0
              · exact h0
              · obtain ⟨t, ht, e⟩ := cf_pos h0
                have := e3 x hx t ht
                omega
            obtain ⟨q, hq⟩ := e5 x hx (r : Int)
            rw [dotG_sum (fun t => cf (l.getD t.toNat []) r) x (Int.le_refl _) hxu] at hq
            refine ⟨-q, ?_⟩
            rw [hx0]
            have e : sumN m (fun i => cf x (i : Int) * cf (((allV n m 0 l).map (spS 0)).getD i []) ((m + r : Nat) : Int)) = sumN m (fun i => cf x (i : Int) * cf (l.getD ((i : Int)).toNat []) (r : Int)) := sumN_congr _ (fun i hi => by
              rw [hpg i hi, Int.toNat_natCast]
              have h1 := (hunit i hi).2.2 r
              have h2 : cf (spS 0 (unitV m i (denV n (l.getD i [])))) ((m + r : Nat) : Int) = cf (l.getD i []) r := by
                rw [show ((m + r : Nat) : Int) = (m : Int) + r by omega]
                exact h1.trans ((hden _ (hgm i hi)).2 r)
              rw [h2])
            show (0 : Int) = sumN m (fun i => cf x (i : Int) * cf (((allV n m 0 l).map (spS 0)).getD i []) ((m + r : Nat) : Int)) + p * -q
            rw [e]
            have e7 : sumN 1024 (fun i => cf x (i : Int) * cf (l.getD ((i : Int)).toNat []) (r : Int)) = sumN m (fun i => cf x (i : Int) * cf (l.getD ((i : Int)).toNat []) (r : Int)) := by
              obtain ⟨q2, h2⟩ := sumN_cut (p := 0) (f := fun i => cf x (i : Int) * cf (l.getD ((i : Int)).toNat []) (r : Int)) m (fun i hi => ⟨0, by
                rw [Int.toNat_natCast, List.getD_eq_getElem?_getD, List.getElem?_eq_none (by omega)]
                simp [cf]⟩) 1024 (by omega)
              rw [h2]; omega
            rw [← e7, hq]
            grind)
      have hsL : Sp p ((L.map Prod.snd).map (spS 0)) (cf x) := hsp.transV f3
      exact (sumE_sp (p := p) (K := ((L.filter (fun a => decide (a.1 < m))).map Prod.snd).map (spS 0)) (v := cf x) L (fun a ha => by
        by_cases hs : a.1 < m
        · exact .inr (List.mem_map_of_mem (List.mem_map_of_mem (List.mem_filter.2 ⟨ha, by simpa using hs⟩)))
        · refine .inl ⟨0, ?_⟩
          rw [Int.mul_zero]
          by_cases h0 : cf x (a.1 : Int) = 0
          · exact h0
          · obtain ⟨t, ht, e⟩ := cf_pos h0
            have := e3 x hx t ht
            omega)).congr (fun y => ech_told f2 hsL y)
    · obtain ⟨r, hr, rfl⟩ := List.mem_map.1 hc
      obtain ⟨a, ha, rfl⟩ := List.mem_map.1 hr
      obtain ⟨haL, ham⟩ := List.mem_filter.1 ha
      have ham' : a.1 < m := by simpa using ham
      have hv := f4 a haL
      refine e6 (DV a.2) (fun i hi => ⟨0, ?_⟩) (fun r => ?_)
      · rw [Int.mul_zero]
        rcases hi with hi | hi
        · exact DV_neg _ hi
        · exact f2.top a haL i (by omega)
      · rcases Int.lt_or_le r 0 with hr | hr
        · refine ⟨0, ?_⟩
          rw [sumN_congr (g := fun _ => 0) 1024 (fun i hi => ?_), sumN_zero, Int.mul_zero]
          rcases Nat.lt_or_ge i m with h2 | h2
          · rw [cf_low (h _ (hgm i h2)) (by omega), Int.mul_zero]
          · rw [List.getD_eq_getElem?_getD, List.getElem?_eq_none (by omega)]
            simp [cf]
        · obtain ⟨r, rfl⟩ := Int.eq_ofNat_of_zero_le hr
          obtain ⟨q, hq⟩ := hcarry hv r
          rw [f2.top a haL ((m : Int) + r) (by omega)] at hq
          exact ⟨-q, by grind⟩
  have hKl : ((L.filter (fun a => decide (a.1 < m))).map Prod.snd).length ≤ 12 := by
    have := congrArg List.length hK
    simp only [List.length_map] at this ⊢
    omega
  have hLl := ech_len (p := p) L 0 f2.asc (fun a ha => f2.ge a ha) (Nat.zero_le _)
  refine ⟨K, e1, e4, fun c hc => up_len (e2.up c hc).1, fun k hk => ?_⟩
  subst hm
  have g1 := kerAll_of (p := p) (m := l.length) n1 (k := k) (by omega) l 0 h n2
  have g2 : torusref04_reduced.f k p (allV n l.length 0 l) ((l.length : Int) + (n : Int)) = some (L.map Prod.snd) := by
    have := redF_of hp (n := l.length + n) (by omega) hO (by rw [allV_len]; omega) (f1 k (by omega))
    rwa [show ((l.length + n : Nat) : Int) = (l.length : Int) + (n : Int) by omega] at this
  have g3 := kerSel_of (n := l.length + n) (m := l.length) (by omega) (k := k) (by omega) L [] (fun a ha => ⟨(f2.vc a ha).1, ech_low (by omega) f2 ha⟩) (by simp; omega)
  rw [List.nil_append, ← hK] at g3
  unfold torusref04_Kernel.f kerR
  rw [bind_of (b4 k hk)]
  refine (if_pos rfl).trans ?_
  rw [bind_of (n3 k (by omega)), if_pos ⟨by omega, by omega, by omega⟩, Int.toNat_natCast, bind_of g1, bind_of g2, bind_of g3]
end Go.Proofs.Ytojnnfhalpefmaa.P
end

section
namespace Go.Proofs.Ytojnnfhalpefmaa.P
open Go.RowKit Go.Proofs.YtojnnfhalpefmaaW.PrintWords Go.Proofs.Ytojnnfhalpefmaa.M Go.Proofs.Ytojnnfhalpefmaa.H
theorem copy_ref (l : List S45) (h : l.length < 8796093022208) : torusref04_Copy.f l = some l := by
  unfold torusref04_Copy.f
  rw [bind_of rfl, if_pos (by simpa using h), List.nil_append]
section
variable (a0 : Int) (l1 l2 : List S45) (a3 : Int) (x11 x12 : List S45)
end
end Go.Proofs.Ytojnnfhalpefmaa.P
end

section
namespace Go.Proofs.Ytojnnfhalpefmaa.P
open Go.RowKit Go.Proofs.YtojnnfhalpefmaaW.PrintWords Go.Proofs.Ytojnnfhalpefmaa.M Go.Proofs.Ytojnnfhalpefmaa.H
theorem long_l0 (L : List (List S45)) (hL : L.length ≤ 12) (hc : ∀ c ∈ L, c.length < 1000000000000000) : ∀ (n i : Nat), i + n = L.length → (∀ k, n + 1 ≤ k → toruslaw04_long.l0 k L i = some true) ∨ ((∀ k, n + 1 ≤ k → toruslaw04_long.l0 k L i = some false) ∧ ∀ c ∈ L.drop i, c.length ≤ 30)
  | 0, i, hi => .inr ⟨fun k hk => by
      obtain ⟨k, rfl, _⟩ := ex_succ (show 0 + 1 ≤ k by omega)
      rw [toruslaw04_long.l0, if_neg (by omega)], fun c hc => by rw [List.drop_of_length_le (by omega)] at hc; cases hc⟩
  | n + 1, i, hi => by
    have hlt : i < L.length := by omega
    have hw : wrap64 ((i : Int) + 1) = ((i + 1 : Nat) : Int) := by rw [w64 (by omega) (by omega)]; omega
    by_cases h : L[i].length ≤ 30
    · rcases long_l0 L hL hc n (i + 1) (by omega) with I | ⟨I1, I2⟩
      · refine .inl (fun k hk => ?_)
        obtain ⟨k, rfl, _⟩ := ex_succ (show 0 + 1 ≤ k by omega)
        rw [toruslaw04_long.l0, if_pos (by omega), if_pos (by omega), rdL_nat hlt, if_neg (by omega), hw]
        exact I k (by omega)
      · refine .inr ⟨fun k hk => ?_, fun c hc => ?_⟩
        · obtain ⟨k, rfl, _⟩ := ex_succ (show 0 + 1 ≤ k by omega)
          rw [toruslaw04_long.l0, if_pos (by omega), if_pos (by omega), rdL_nat hlt, if_neg (by omega), hw]
          exact I1 k (by omega)
        · rw [List.drop_eq_getElem_cons hlt] at hc
          rcases List.mem_cons.1 hc with rfl | hc
          · exact h
          · exact I2 c hc
    · refine .inl (fun k hk => ?_)
      obtain ⟨k, rfl, _⟩ := ex_succ (show 0 + 1 ≤ k by omega)
      rw [toruslaw04_long.l0, if_pos (by omega), if_pos (by omega), rdL_nat hlt, if_pos (by omega)]
theorem lists_ref {p : Int} {l : List (List S45)} (hl : l.length ≤ 12) (hc : ∀ c ∈ l, c.length ≤ 30) :
    ∃ B K n e, B.length ≤ 12 ∧ K.length ≤ 12 ∧ (∀ c ∈ B, c.length ≤ 1024) ∧ (∀ c ∈ K, c.length ≤ 1024) ∧ n = (B.length : Int) ∧ ∀ k, 60000 ≤ k → column_Basis.f k p l = some (B, e) ∧ torusref04_Basis.f k p l = some (B, e) ∧ column_Rank.f k p l = some (n, e) ∧ column_Kernel.f k p l = some (K, e) ∧ torusref04_Kernel.f k p l = some (K, e) := by
  have hlg : longest l ≤ 30 := longest_le hc
  have a1 (k : Nat) (hk : 60000 ≤ k) := checkAll_col p l (by omega) (fun c h => by have := hc c h; omega) k (by omega)
  have a2 (k : Nat) (hk : 60000 ≤ k) := checkAll_ref p l (by omega) (fun c h => by have := hc c h; omega) k (by omega)
  by_cases hp : primeB p = true
  · by_cases h1 : checkAllB p l = 0
    · obtain ⟨B, b1, b2, b3, b4⟩ := basis_ref hp (all_up l h1) hl
      obtain ⟨K, k1, k2, k3, k4⟩ := kernel_ref hp (all_up l h1) hl
      exact ⟨B, K, (B.length : Int), 0, b2, k2, b3, k3, rfl, fun k hk => ⟨(b1 k (by omega)).1, b4 k (by omega), (b1 k (by omega)).2, k1 k (by omega), k4 k (by omega)⟩⟩
    · have hbg (k : Nat) (hk : 60000 ≤ k) : column_begin.f k p l = some (checkAllB p l) := by
        unfold column_begin.f
        rw [if_neg (by omega), bind_of (prime_modp p k (by omega)), if_pos hp, bind_of (a1 k hk)]
      have hrb (k : Nat) (hk : 60000 ≤ k) : torusref04_Basis.f k p l = some ([], checkAllB p l) := by
        unfold torusref04_Basis.f
        rw [if_neg (by omega), bind_of (prime_ref p k (by omega)), if_pos hp, bind_of (a2 k hk), if_neg h1]
      refine ⟨[], [], 0, checkAllB p l, by simp, by simp, fun c h => (by cases h), fun c h => (by cases h), rfl, fun k hk => ⟨?_, hrb k hk, ?_, ?_, ?_⟩⟩
      · unfold column_Basis.f basisF; rw [bind_of (hbg k hk)]; exact if_neg h1
      · unfold column_Rank.f rankF; rw [bind_of (hbg k hk)]; exact if_neg h1
      · unfold column_Kernel.f kernelF; rw [bind_of (hbg k hk)]; exact if_neg h1
      · unfold torusref04_Kernel.f kerR; rw [bind_of (hrb k hk)]; exact if_neg h1
  · have hbg (k : Nat) (hk : 60000 ≤ k) : column_begin.f k p l = some 8 := by
      unfold column_begin.f
      rw [if_neg (by omega), bind_of (prime_modp p k (by omega)), if_neg hp]
    have hrb (k : Nat) (hk : 60000 ≤ k) : torusref04_Basis.f k p l = some ([], 8) := by
      unfold torusref04_Basis.f
      rw [if_neg (by omega), bind_of (prime_ref p k (by omega)), if_neg hp]
    refine ⟨[], [], 0, 8, by simp, by simp, fun c h => (by cases h), fun c h => (by cases h), rfl, fun k hk => ⟨?_, hrb k hk, ?_, ?_, ?_⟩⟩
    · unfold column_Basis.f basisF; rw [bind_of (hbg k hk)]; exact if_neg (by decide)
    · unfold column_Rank.f rankF; rw [bind_of (hbg k hk)]; exact if_neg (by decide)
    · unfold column_Kernel.f kernelF; rw [bind_of (hbg k hk)]; exact if_neg (by decide)
    · unfold torusref04_Kernel.f kerR; rw [bind_of (hrb k hk)]; exact if_neg (by decide)
theorem lists_true (a0 : Int) (l1 : List (List S45)) (h1 : l1.length < 5864062014806) (hi : ∀ l ∈ l1, l.length < 8796093022208) (l2 : List S45) (h2 : l2.length < 8796093022208) : ∃ k, toruslaw04_ColumnListsMatch.f k a0 l1 l2 = some true := by
  have haw : toruslaw04_awake.f = some true := rfl
  refine ⟨70003, ?_⟩
  unfold toruslaw04_ColumnListsMatch.f
  refine (if_pos (show ([l2] : List (List S45)).length + l1.length < 5864062014807 by simp; omega)).trans ?_
  show ((toruslaw04_long.f 70003 (l2 :: l1)).bind _) = _
  by_cases hl : l1.length ≤ 11
  · have hL : (l2 :: l1).length ≤ 12 := by simp; omega
    have hlf : toruslaw04_long.f 70003 (l2 :: l1) = toruslaw04_long.l0 70003 (l2 :: l1) ((0 : Nat) : Int) := by
      unfold toruslaw04_long.f
      rw [if_neg (by omega)]
      rfl
    rcases long_l0 (l2 :: l1) hL (fun c hc => by
      rcases List.mem_cons.1 hc with rfl | hc
      · omega
      · have := hi c hc; omega) (l2 :: l1).length 0 (by omega) with I | ⟨I1, I2⟩
    · rw [hlf, bind_of (I 70003 (by omega)), if_pos rfl, bind_of haw]
    · rw [List.drop_zero] at I2
      have c1 : l2.length ≤ 30 := I2 l2 (by simp)
      have c2 : ∀ c ∈ l1, c.length ≤ 30 := fun c hc => I2 c (by simp [hc])
      obtain ⟨x, d, x1, x2⟩ := combine_ref (p := a0) (l := l1) (by omega) c2 c1
      obtain ⟨r, u, e, r1, r2, r3⟩ := rest_ref (p := a0) (l := l1) (by omega) c2 c1
      obtain ⟨B, K, n, g, b1, b2, b3, b4, b5, b6⟩ := lists_ref (p := a0) (l := l1) (by omega) c2
      have s1 (z : List S45) (hz : z.length ≤ 1024) (k : Nat) (hk : 60000 ≤ k) := same_refl z (by omega) k (by omega)
      have s2 (Z : List (List S45)) (hZ : Z.length ≤ 12) (hz : ∀ c ∈ Z, c.length ≤ 1024) (k : Nat) (hk : 60000 ≤ k) := sameList_refl Z (by omega) hz k (by omega)
      have c3 : ∀ c ∈ l1, c.length ≤ 1024 := fun c hc => by have := c2 c hc; omega
      rw [hlf, bind_of (I1 70003 (by omega)), if_neg Bool.false_ne_true, bind_of (copyList_spec l1 (by omega) c3 70003 (by omega)), bind_of (copy_ref l2 (by omega)), bind_of (x2 70003 (by omega)).1, bind_of (x2 70003 (by omega)).2, bind_of (s1 x x1 70003 (by omega)), if_pos rfl, bne_self_eq_false]
      rw [toruslaw04_ColumnListsMatch.j0, if_neg Bool.false_ne_true, bind_of (r3 70002 (by omega)).1, bind_of (r3 70002 (by omega)).2, bind_of (s1 r r1 70002 (by omega)), if_pos rfl, bind_of (s1 u r2 70002 (by omega)), if_pos rfl, bne_self_eq_false]
      obtain ⟨q1, q2, q3, _, _⟩ := b6 70001 (by omega)
      obtain ⟨_, _, _, q4, q5⟩ := b6 70000 (by omega)
      rw [toruslaw04_ColumnListsMatch.j1, if_neg Bool.false_ne_true, bind_of q1, bind_of q2, bind_of q3, bind_of (s2 B b1 b3 70001 (by omega)), if_pos rfl]
      refine (if_pos rfl).trans ((if_pos b5).trans ?_)
      rw [bne_self_eq_false, toruslaw04_ColumnListsMatch.j2, if_neg Bool.false_ne_true, bind_of q4, bind_of q5, bind_of (s2 K b2 b4 70000 (by omega)), if_pos rfl]
      refine (if_pos rfl).trans ?_
      rw [bind_of (s2 l1 (by omega) c3 70000 (by omega)), if_pos rfl, bind_of (s1 l2 (by omega) 70000 (by omega)), if_pos rfl, bind_of haw]
  · have hlf : toruslaw04_long.f 70003 (l2 :: l1) = some true := by
      unfold toruslaw04_long.f
      rw [if_pos (by simp; omega)]
    rw [bind_of hlf, if_pos rfl, bind_of haw]
end Go.Proofs.Ytojnnfhalpefmaa.P
end

section
namespace Go.Proofs.Ytojnnfhalpefmaa.RCol
open Go.ChangeShapes Go.WideShapes Go.ChangeAt Go.RowKit Go.Proofs.YtojnnfhalpefmaaW.PrintWords Go.Proofs.Ytojnnfhalpefmaa.M
set_option maxRecDepth 100000
theorem own : ownKnob Try.prog.godebug = none := by kernel_rfl
theorem laidOut : laidOutB Try.prog = true := by kernel_rfl
theorem cells45 : Try.prog.cellsOf 45 = 2 := by kernel_rfl
theorem cells22 : Try.prog.cellsOf 22 = 1 := by kernel_rfl
theorem cells3 : Try.prog.cellsOf 3 = 1 := by kernel_rfl
theorem bytes45 : Try.prog.bytesOf 45 = 16 := by kernel_rfl
theorem bytes22 : Try.prog.bytesOf 22 = 24 := by kernel_rfl
theorem collect {α : Type} (P : Nat → α → Prop) : ∀ (n : Nat), (∀ i, i < n → ∃ x, P i x) → ∃ l : List α, l.length = n ∧ ∀ (i : Nat) x, l[i]? = some x → P i x
  | 0, _ => ⟨[], rfl, fun i x h => by simp at h⟩
  | n + 1, h => by
    obtain ⟨l, e1, e2⟩ := collect P n (fun i hi => h i (by omega))
    obtain ⟨x, hx⟩ := h n (by omega)
    refine ⟨l ++ [x], by simp [e1], fun i y hy => ?_⟩
    by_cases hi : i < n
    · rw [List.getElem?_append_left (by omega)] at hy
      exact e2 i y hy
    · have : i = n := by
        have := (List.getElem?_eq_some_iff.1 hy).1
        simp at this
        omega
      subst this
      rw [← e1] at hy
      simp at hy
      subst hy
      exact hx
theorem weightsAll_mem {H : Type} {P : Program} {e : TypeId} {x : Nat} : ∀ {ds : List (DataW H)} {d : DataW H}, d ∈ ds → x ∈ d.weights P e → x ∈ DataW.weightsAll P e ds
  | [], _, h, _ => by cases h
  | a :: ds, d, h, hx => by
    simp only [DataW.weightsAll, List.mem_append]
    rcases List.mem_cons.1 h with rfl | h
    · exact .inl hx
    · exact .inr (weightsAll_mem h hx)
section
variable {H : Type} {enc : TypeId × Value → H} {W : World} {sp : Nat → Bool} {held : Bool}
theorem term_of {m : Nat} {cs : List Value} {x : DataW H × List MemPlace} (h : DataW.trod enc Try.prog W 0 sp held m 45 cs = some x) (hl : cs.length = 2) : ∃ t : S45, cs = [.int .i64 t.f0, .int .i64 t.f1] := by
  obtain ⟨y0, y1, n, _, _, h0, h1⟩ := trod_struct2 Try.underlying45 h
  match cs, hl with
  | [c0, c1], _ =>
    rw [cells3] at h0 h1
    obtain ⟨a, ea, _, _⟩ := DataW.trod_int Try.underlying3 h0
    obtain ⟨b, eb, _, _⟩ := DataW.trod_int Try.underlying3 h1
    simp at ea eb
    exact ⟨⟨a, b⟩, by rw [ea, eb]⟩
theorem open_terms {m : Nat} {c : Value} {y : DataW H × List MemPlace} (h : DataW.trod enc Try.prog W 0 sp held m 22 [c] = some y) (hw : ∀ n ∈ y.1.weights Try.prog 22, n ≤ reachBytes) :
    ∃ (A : Option Addr) (cap : Nat) (E : List S45), c = .slice A E.length cap ∧ E.length ≤ cap ∧ Kd.C k45 W A E.length E ∧ E.length < 8796093022208 := by
  rcases DataW.trod_slice Try.underlying22 h with ⟨hcs, _⟩ | ⟨a, len, cap, elems, rest, n, _, hcs, rfl, hb, hl, hm, hlen, hel, hsp, hns⟩
  · injection hcs with hcs _
    subst hcs
    exact ⟨none, 0, [], rfl, Nat.le_refl _, ⟨rfl, by simp, fun h => absurd h (by simp)⟩, by simp⟩
  · injection hcs with hcs _
    subst hcs
    have hbytes : len < 8796093022208 := by
      have := hw ((elems.length + rest.length) * 16) (by simp [DataW.weights, Try.underlying22, bytes45])
      have : (elems.length + rest.length) * 16 ≤ 140737488351232 := this
      omega
    obtain ⟨E, e1, e2⟩ := collect (fun i (e : S45) => ∀ (j : Nat) u, [Value.int .i64 e.f0, .int .i64 e.f1][j]? = some u → W.cell? (a.add (i * 2 + j)) = some u) len (fun i hi => by
      have h1 := hel i hi
      rw [cells45, List.getElem?_eq_getElem (by omega), Option.bind_eq_some_iff] at h1
      obtain ⟨cs, hcs, ht⟩ := h1
      obtain ⟨_, hl2, hce⟩ := World.cells?_some hcs
      obtain ⟨t, rfl⟩ := term_of ht hl2
      refine ⟨t, fun j u hj => ?_⟩
      have hj2 : j < 2 := by
        have := (List.getElem?_eq_some_iff.1 hj).1
        simpa using this
      have := hce j hj2
      rw [hj] at this
      rw [← this, Go.Deep.add_add])
    subst e1
    exact ⟨some a, cap, E, rfl, hl, ⟨rfl, Nat.le_trans hl hm, fun _ => ⟨a, rfl, fun j p hp => ⟨_, rfl, k45_mk W p, fun i u hu => e2 j p hp i u hu⟩⟩⟩, hbytes⟩
theorem open_lists {m : Nat} {c : Value} {y : DataW H × List MemPlace} (h : DataW.trod enc Try.prog W 0 sp held m 37 [c] = some y) (hw : ∀ n ∈ y.1.weights Try.prog 37, n ≤ reachBytes) :
    ∃ (A : Option Addr) (cap : Nat) (L : List (List S45)), c = .slice A L.length cap ∧ L.length ≤ cap ∧ Kd.C (Kd.slice 45 k45) W A L.length L ∧ L.length < 5864062014806 ∧ ∀ l ∈ L, l.length < 8796093022208 := by
  rcases DataW.trod_slice Try.underlying37 h with ⟨hcs, _⟩ | ⟨a, len, cap, elems, rest, n, _, hcs, rfl, hb, hl, hm, hlen, hel, hsp, hns⟩
  · injection hcs with hcs _
    subst hcs
    exact ⟨none, 0, [], rfl, Nat.le_refl _, ⟨rfl, by simp, fun h => absurd h (by simp)⟩, by simp, by simp⟩
  · injection hcs with hcs _
    subst hcs
    have hbytes : len < 5864062014806 := by
      have := hw ((elems.length + rest.length) * 24) (by simp [DataW.weights, Try.underlying37, bytes22])
      have : (elems.length + rest.length) * 24 ≤ 140737488351232 := this
      omega
    obtain ⟨L, e1, e2⟩ := collect (fun i (l : List S45) => l.length < 8796093022208 ∧ ∃ (A : Option Addr) (cp : Nat), l.length ≤ cp ∧ Kd.C k45 W A l.length l ∧ W.cell? (a.add i) = some (.slice A l.length cp)) len (fun i hi => by
      have h1 := hel i hi
      have hie : i < elems.length := by omega
      rw [cells22, List.getElem?_eq_getElem hie, Option.bind_eq_some_iff] at h1
      obtain ⟨cs, hcs, ht⟩ := h1
      obtain ⟨_, hl2, hce⟩ := World.cells?_some hcs
      match cs, hl2 with
      | [c0], _ =>
        obtain ⟨A, cp, E, rfl, q1, q2, q3⟩ := open_terms ht (fun x hx => hw x (by
          have hm2 : elems[i].1 ∈ elems.map (·.1) := List.mem_map_of_mem (List.getElem_mem hie)
          simp only [DataW.weights, Try.underlying37]
          exact List.mem_cons_of_mem _ (List.mem_append_left _ (weightsAll_mem hm2 hx))))
        refine ⟨E, q3, A, cp, q1, q2, ?_⟩
        have := hce 0 (by omega)
        rw [Nat.mul_one, Go.Deep.add_add, Nat.add_zero] at this
        exact this)
    subst e1
    refine ⟨some a, cap, L, rfl, hl, ⟨rfl, Nat.le_trans hl hm, fun _ => ⟨a, rfl, fun j p hp => ?_⟩⟩, hbytes, fun l hm2 => ?_⟩
    · obtain ⟨_, A, cp, q1, q2, q3⟩ := e2 j p hp
      refine ⟨_, rfl, ⟨A, cp, rfl, q1, q2⟩, fun i u hu => ?_⟩
      match i, hu with
      | 0, hu =>
        cases hu
        have e : j * (Kd.slice 45 k45).sz + 0 = j := by show j * 1 + 0 = j; omega
        rw [e]
        exact q3
    · obtain ⟨j, hj, rfl⟩ := List.mem_iff_getElem.1 hm2
      exact (e2 j _ (List.getElem?_eq_getElem hj)).1
theorem open_column {r : Reach} {b0 : Nat} {v : Value} {d : DataW H} {p : List MemPlace}
    (hv : Value.okWide Try.prog W r b0 22 v) (h : DataW.Trod enc Try.prog W 0 sp held 22 v d p) (hw : ∀ n ∈ d.weights Try.prog 22, n ≤ reachBytes) :
    ∃ (A : Option Addr) (cap : Nat) (E : List S45), v = .slice A E.length cap ∧ E.length ≤ cap ∧ Kd.C k45 W A E.length E ∧ E.length < 8796093022208 := by
  obtain ⟨A, len, cap, rfl⟩ := Go.WideShapes.okWide_slice Try.underlying22 hv
  obtain ⟨fuel, hf⟩ := h
  exact open_terms (y := (d, p)) hf hw
theorem open_columns {r : Reach} {b0 : Nat} {v : Value} {d : DataW H} {p : List MemPlace}
    (hv : Value.okWide Try.prog W r b0 37 v) (h : DataW.Trod enc Try.prog W 0 sp held 37 v d p) (hw : ∀ n ∈ d.weights Try.prog 37, n ≤ reachBytes) :
    ∃ (A : Option Addr) (cap : Nat) (L : List (List S45)), v = .slice A L.length cap ∧ L.length ≤ cap ∧ Kd.C (Kd.slice 45 k45) W A L.length L ∧ L.length < 5864062014806 ∧ ∀ l ∈ L, l.length < 8796093022208 := by
  obtain ⟨A, len, cap, rfl⟩ := Go.WideShapes.okWide_slice Try.underlying37 hv
  obtain ⟨fuel, hf⟩ := h
  exact open_lists (y := (d, p)) hf hw
end
end Go.Proofs.Ytojnnfhalpefmaa.RCol
end

section
namespace Go.Proofs.Ytojnnfhalpefmaa.columnListsMatch
open Go.ChangeShapes Go.WideShapes Go.ChangeAt Go.RowKit Go.Proofs.YtojnnfhalpefmaaW.PrintWords
theorem walk (w : World) (a0 : Int) (A1 : Option Addr) (c1 : Nat) (l1 : List (List M.S45)) (hc1 : l1.length ≤ c1) (hr1 : Kd.C (Kd.slice 45 M.k45) w A1 l1.length l1) (hm1 : l1.length < 5864062014806) (hi1 : ∀ l ∈ l1, l.length < 8796093022208) (A2 : Option Addr) (c2 : Nat) (l2 : List M.S45) (hc2 : l2.length ≤ c2) (hr2 : Kd.C M.k45 w A2 l2.length l2) (hm2 : l2.length < 8796093022208) :
    Calls Try.prog 7 #[.int .i64 a0, .slice A1 l1.length c1, .slice A2 l2.length c2] w fun e w' => e = .returned (.bool true) ∧ Below w.heap.size w w' := by
  obtain ⟨k, hk⟩ := P.lists_true a0 l1 (by omega) hi1 l2 (by omega)
  exact M.toruslaw04_ColumnListsMatch.calls k a0 _ A1 c1 l1 _ A2 c2 l2 true w (Kd.V_mk hc1 (Kd.C_F (Kd.heap_slice 45 M.k45_heap) hr1)) (M.V_of_C hc2 hr2) hk rfl
set_option maxRecDepth 100000 in
theorem lifted (os : Os) (started : os.Started) (H : Type) (enc : TypeId × Value → H) :
    ReturnsInHanded {} Try.checked os 7 .any (Rows.columnListsMatchSpec.pre6 enc Try.prog Try.f7 Rows.columnListsMatchRow.domain false) (Rows.columnListsMatchSpec.post enc Try.prog Try.f7 false true false false) := by
  refine returnsInHanded_of_change_sized (C := Try.checked) RCol.own started (by kernel_rfl) Try.func7
    (ChangeSpec.witness6 (enc := enc) (C := Try.checked) false ⟨#[], #[.int .i64 0, .slice none 0 0, .slice none 0 0], []⟩ 8 (by kernel_rfl) (by kernel_rfl) (by kernel_rfl) (by kernel_rfl)) ?_
  intro W base args ds gs before hval0 hW hcnd hsz0 _
  have hval : ∀ (j : Nat) t v, Try.f7.params[j]? = some t → args[j]? = some v → Value.okWide Try.prog W .any base t v := hval0
  have hsz : (DataW.weightsEach Try.prog (Try.f7.params.toList ++ Rows.columnListsMatchSpec.plain.varTypes Try.prog) (ds ++ gs)).all (· ≤ reachBytes) = true := hsz0
  have hW' := hW
  obtain ⟨p, q, hA0, hV, rfl, hfz, hnd⟩ := hW
  have hA : DataW.TrodAll enc Try.prog W 0 (fun _ => true) true Try.f7.params.toList args.toList ds p := hA0
  rw [Try.params7] at hA hval hsz
  obtain ⟨v0, vs0, d0, ds0, p0, q0, hargs, rfl, rfl, h0, r0⟩ := trodAll_cons hA
  obtain ⟨v1, vs1, d1, ds1, p1, q1, rfl, rfl, rfl, h1, r1⟩ := trodAll_cons r0
  obtain ⟨v2, vs2, d2, ds2, p2, q2, rfl, rfl, rfl, h2, r2⟩ := trodAll_cons r1
  obtain ⟨rfl, rfl, rfl⟩ := trodAll_nil r2
  obtain rfl : args = #[v0, v1, v2] := by cases args; simp_all
  obtain ⟨rfl, rfl⟩ := trodVars_none hV
  have k0 := h0
  have k1 := h1
  have k2 := h2
  have lt0 : ∀ x ∈ p0, x.block < W.heap.size := by obtain ⟨m, hm⟩ := k0; exact DataW.trod_lt m _ _ _ hm
  have lt1 : ∀ x ∈ p1, x.block < W.heap.size := by obtain ⟨m, hm⟩ := k1; exact DataW.trod_lt m _ _ _ hm
  have lt2 : ∀ x ∈ p2, x.block < W.heap.size := by obtain ⟨m, hm⟩ := k2; exact DataW.trod_lt m _ _ _ hm
  have hw1 : ∀ n ∈ d1.weights Try.prog 37, n ≤ reachBytes := fun n hn => by
    have := List.all_eq_true.1 hsz _ (DataW.weights_mem_each (j := 1) (t := 37) (d := d1) rfl rfl n hn)
    simpa using this
  have hw2 : ∀ n ∈ d2.weights Try.prog 22, n ≤ reachBytes := fun n hn => by
    have := List.all_eq_true.1 hsz _ (DataW.weights_mem_each (j := 2) (t := 22) (d := d2) rfl rfl n hn)
    simpa using this
  obtain ⟨a0, rfl, _, _, x0⟩ := open_int Try.underlying3 (hval 0 3 v0 rfl rfl) h0
  obtain ⟨A1, c1, l1, rfl, hc1, hr1, hm1, hi1⟩ := RCol.open_columns (hval 1 37 v1 rfl rfl) h1 hw1
  obtain ⟨A2, c2, l2, rfl, hc2, hr2, hm2⟩ := RCol.open_column (hval 2 22 v2 rfl rfl) h2 hw2
  clear hA0 hval0 hsz0 hsz
  refine (walk W a0 A1 c1 l1 hc1 hr1 hm1 hi1 A2 c2 l2 hc2 hr2 hm2).mono fun e W' ⟨he, bel⟩ => ?_
  subst he
  exact ⟨_, rfl, _, _, _, [], _, [], hW', trodAll_mk1 (shut_bool Try.underlying4 _), (trodAll_cons_mk (Below.trod RCol.laidOut (by kernel_rfl) (of_decide_eq_true (by kernel_rfl)) k0 bel lt0) (trodAll_cons_mk (Below.trod RCol.laidOut (by kernel_rfl) (of_decide_eq_true (by kernel_rfl)) k1 bel lt1) (trodAll_cons_mk (Below.trod RCol.laidOut (by kernel_rfl) (of_decide_eq_true (by kernel_rfl)) k2 bel lt2) trodAll_mk0))), rfl, bel.frame _, fun h => by cases h⟩
theorem over : Rows.columnListsMatchRow.holds Try.pinned (OpenSpec.ofChange Rows.columnListsMatchSpec) :=
  OpenClaim.holds_of_wide 7 Try.f7 rfl rfl rfl rfl rfl rfl rfl ⟨rfl, rfl, rfl, rfl, rfl⟩ rfl rfl rfl rfl rfl (by kernel_rfl) Try.func7 (by kernel_rfl)
    (of_decide_eq_true (by kernel_rfl)) (by unfold Func.isWrapper; first | (rw [if_pos (by decide +kernel)]; kernel_rfl) | (rw [if_neg (by decide +kernel)]; exact ⟨rfl, rfl⟩))
    (fun os started H enc _ => lifted os started H enc)
theorem proved : Rows.ColumnListsMatchSaid := over
end Go.Proofs.Ytojnnfhalpefmaa.columnListsMatch
namespace Go.Proofs.Ytojnnfhalpefmaa
theorem columnListsMatch_holds : Rows.ColumnListsMatchSaid := columnListsMatch.proved
end Go.Proofs.Ytojnnfhalpefmaa
end
