/- Rest of package column: what it computes. -/
import Derived.Test.YtojnnfhalpefmaaPBasis
set_option linter.unusedVariables false
namespace Go.Proofs.Ytojnnfhalpefmaa.P
open Go.RowKit Go.Proofs.YtojnnfhalpefmaaW.PrintWords Go.Proofs.Ytojnnfhalpefmaa.M Go.Proofs.Ytojnnfhalpefmaa.H
theorem adds_shift {p : Int} (hp : primeB p = true) {L U : List (List S45)} (hL : ∀ c ∈ L, Up p (-1) c) (hU : U.length = L.length) (hUu : ∀ x ∈ U, Up p (-1) x) {g : Int → Int → Int} {v : Int → Int} (hg : ∀ j, j < L.length → ∀ r, ∃ q, cf (L.getD j []) r = dotG (g r) (U.getD j []) + p * q) {c x c' x' : List S45} (h : Adds p L U c x c' x') :
    Up p (-1) c → Up p (-1) x → (∀ r, ∃ q, cf c r = dotG (g r) x + v r + p * q) → ∀ r, ∃ q, cf c' r = dotG (g r) x' + v r + p * q := by
  obtain ⟨hp1, hp2⟩ := primeB_ge hp
  induction h with
  | refl c x => intro _ _ h; exact h
  | step j k hj h0 h1 _ ih =>
    intro hc hx hq
    have hl := hL _ (getD_mem hj)
    have hu := hUu _ (getD_mem (L := U) (j := j) (by omega))
    refine ih (colAdd_up hp1 hp2 h0 h1 hc hl) (colAdd_up hp1 hp2 h0 h1 hx hu) (fun r => ?_)
    rw [colAdd_cf hp1 hp2 h0 h1 hc hl]
    obtain ⟨q1, e1⟩ := ed (cf _ r + k * cf (L.getD j []) r) p
    obtain ⟨q2, e2⟩ := dotG_add hp1 hp2 h0 h1 (g r) hx hu
    obtain ⟨q3, e3⟩ := hq r
    obtain ⟨q4, e4⟩ := hg j hj r
    exact ⟨q3 + k * q4 - q1 + q2, by rw [e1, e2, e3, e4]; grind⟩
theorem copyList_l0 (L : List (List S45)) (hL : L.length < 1000000) (hl : ∀ c ∈ L, c.length ≤ 1024) : ∀ (m i : Nat) (k : Nat), i + m = L.length → m + 1 ≤ k → torusref04_CopyList.l0 k L (L.take i) i = some L
  | 0, i, k, hi, hk => by
    obtain ⟨k, rfl, _⟩ := ex_succ (show 0 + 1 ≤ k by omega)
    rw [torusref04_CopyList.l0, if_neg (by omega), List.take_of_length_le (by omega)]
  | m + 1, i, k, hi, hk => by
    obtain ⟨k, rfl, _⟩ := ex_succ (show 0 + 1 ≤ k by omega)
    have hlt : i < L.length := by omega
    have := hl _ (List.getElem_mem hlt)
    have hcp : torusref04_Copy.f L[i] = some L[i] := by
      unfold torusref04_Copy.f
      simp
      omega
    have c1 : (i : Int) < (L.length : Int) := by omega
    have c2 : (0 : Int) ≤ (i : Int) := by omega
    have c3 : i < 4611686018427387904 := by omega
    have c4 : (L.take i).length < 5864062014805 := by rw [List.length_take]; omega
    have I := copyList_l0 L hL hl m (i + 1) k (by omega) (by omega)
    rw [torusref04_CopyList.l0, if_pos c1, if_pos c2, rdL_nat hlt, bind_of hcp, if_pos c4, wnat c3, ← List.take_succ_eq_append_getElem hlt]
    exact I
theorem copyList_spec (L : List (List S45)) (hL : L.length < 1000000) (hl : ∀ c ∈ L, c.length ≤ 1024) (k : Nat) (hk : L.length + 1 ≤ k) : torusref04_CopyList.f k L = some L := by
  unfold torusref04_CopyList.f
  exact copyList_l0 L hL hl L.length 0 k (by omega) hk
structure RInv (p : Int) (P : List (List S45)) (s : St) : Prop where
  el : s.L = P
  piv : Piv p s.mp P
  ulen : s.U.length = P.length
  unit : ∀ j, j < P.length → s.U.getD j [] = [⟨(j : Int), 1⟩]
  zed : s.Z = []
theorem restPut_spec {p : Int} (hp : primeB p = true) : ∀ (l P : List (List S45)) (s : St), RInv p P s → (∀ c ∈ l, Up p (-1) c ∧ 0 < c.length) → (∀ a ∈ P, ∀ b ∈ l, lastR a ≠ lastR b) → l.Pairwise (fun a b => lastR a ≠ lastR b) → P.length + l.length ≤ 1000 →
    ∃ s', restPut l (P.length : Int) s = some (0, s') ∧ RInv p (P ++ l) s'
  | [], P, s, h, _, _, _, _ => ⟨s, by rw [restPut], by simpa using h⟩
  | c :: l, P, s, h, hl, hPl, hd, hn => by
    obtain ⟨hc, hcl⟩ := hl c (by simp)
    obtain ⟨d1, d2⟩ := List.pairwise_cons.1 hd
    obtain ⟨b0, b1, _⟩ := last_cf hc hcl
    simp only [List.length_cons] at hn
    have hnot : ¬ (s.mp (lastR c)).isSome = true := fun hs => by
      obtain ⟨j, hj⟩ := Option.isSome_iff_exists.1 hs
      obtain ⟨j0, j1, jl⟩ := h.piv.at_ _ _ hj
      have hmem : rd_L2 P j ∈ P := by
        obtain ⟨m, rfl⟩ : ∃ m : Nat, j = (m : Int) := ⟨j.toNat, by omega⟩
        rw [rdL_nat (by omega)]
        exact List.getElem_mem _
      exact hPl _ hmem c (by simp) jl
    have hel := h.el
    have hsl : s.L.length = P.length := by rw [hel]
    have hul := h.ulen
    have hzl : s.Z.length = 0 := by rw [h.zed]; rfl
    have hput : RInv p (P ++ [c]) (s.put c [⟨(P.length : Int), 1⟩]) := by
      have hpiv := piv_put h.piv hc hcl
      refine ⟨by show s.L ++ [c] = P ++ [c]; rw [hel], ?_, by show (s.U ++ [_]).length = _; simp [hul], fun j hj => ?_, h.zed⟩
      · show Piv p (fun y => if y = lastR c then some (s.L.length : Int) else s.mp y) (P ++ [c])
        rw [hsl]
        exact hpiv
      · show (s.U ++ [[(⟨(P.length : Int), 1⟩ : S45)]]).getD j [] = _
        rw [List.length_append, List.length_singleton] at hj
        by_cases e : j < P.length
        · rw [getD_app (by omega)]
          exact h.unit j e
        · have : j = P.length := by omega
          subst this
          rw [← hul, getD_new]
    obtain ⟨s', f1, f2⟩ := restPut_spec hp l (P ++ [c]) _ hput (fun b hb => hl b (by simp [hb])) (fun a ha b hb => by
      rcases List.mem_append.1 ha with ha | ha
      · exact hPl a ha b (by simp [hb])
      · rw [List.mem_singleton.1 ha]; exact d1 b hb) d2 (by simp; omega)
    have hcond : s.small ∧ rowOk (lastR c) := ⟨by unfold St.small; omega, by omega, by omega⟩
    refine ⟨s', ?_, by simpa using f2⟩
    rw [restPut, if_neg (Nat.ne_of_gt hcl), if_pos hcond, if_neg hnot]
    rw [List.length_append, List.length_singleton] at f1
    exact f1
theorem rest_spec {p : Int} (hp : primeB p = true) {l : List (List S45)} (hl : ∀ c ∈ l, Up p (-1) c ∧ 0 < c.length) (hd : l.Pairwise (fun a b => lastR a ≠ lastR b)) (hn : l.length ≤ 1000) {c : List S45} (hc : Up p (-1) c) :
    ∃ rest used, (∀ k, 3400 ≤ k → column_Rest.f k p l c = some (rest, used, 0)) ∧ Up p (-1) rest ∧ Up p (-1) used ∧ (∀ d ∈ l, cf rest (lastR d) = 0) ∧ Sp p l (fun r => cf c r - cf rest r) ∧ (∀ t ∈ used, t.f0 < (l.length : Int)) ∧
      ∀ r, ∃ q, cf rest r + dotG (fun t => cf (l.getD t.toNat []) r) used = cf c r + p * q := by
  obtain ⟨hp1, hp2⟩ := primeB_ge hp
  have h0 : RInv p [] st0 := ⟨rfl, ⟨fun c hc => (by cases hc), fun y j hj => (by cases hj), fun c hc => (by cases hc)⟩, rfl, fun j hj => absurd hj (by simp), rfl⟩
  obtain ⟨s, f1, f2⟩ := restPut_spec hp l [] st0 h0 hl (fun a ha => by cases ha) hd (by simpa using hn)
  rw [List.nil_append] at f2
  have hel := f2.el
  have hpiv : Piv p s.mp s.L := by rw [hel]; exact f2.piv
  have hul : s.U.length = s.L.length := by rw [hel]; exact f2.ulen
  have hunit : ∀ j, j < s.L.length → s.U.getD j [] = [⟨(j : Int), 1⟩] := fun j hj => f2.unit j (by rw [hel] at hj; exact hj)
  have hsl : s.L.length = l.length := by rw [hel]
  have huu : ∀ x ∈ s.U, ∃ j : Nat, j < l.length ∧ x = [⟨(j : Int), 1⟩] := fun x hx => by
    obtain ⟨j, hj, rfl⟩ := List.mem_iff_getElem.1 hx
    refine ⟨j, by omega, ?_⟩
    rw [← hunit j (by omega), List.getD_eq_getElem?_getD, List.getElem?_eq_getElem hj]
    rfl
  have hUu : ∀ x ∈ s.U, Up p (-1) x := fun x hx => by
    obtain ⟨j, hj, rfl⟩ := huu x hx
    exact ⟨by simp only; omega, by simp only; omega, Int.le_refl 1, by simp only; omega, trivial⟩
  obtain ⟨c', x', e1, e2, e3, e4, e5⟩ := clear_all hp hpiv hul hUu c [] hc (up_nil p) (piv_none hpiv)
  have hLu : ∀ d ∈ s.L, Up p (-1) d := fun d hd => (hpiv.up d hd).1
  have hsp := adds_sp hp hLu hul hUu e5 hc (up_nil p)
  have hcomb := adds_shift hp hLu hul hUu (g := fun r t => cf (l.getD t.toNat []) r) (v := cf c) (fun j hj r => ⟨0, by
    rw [hunit j hj, hel, dotG, dotG]
    simp⟩) e5 hc (up_nil p) (fun r => ⟨0, by rw [dotG]; simp⟩)
  have htop := adds_top hp hLu hul hUu e5 (y := (l.length : Int)) (fun u hu r hr => by
    obtain ⟨j, hj, rfl⟩ := huu u hu
    rw [cf_there (by simp only; omega), cf]) hc (up_nil p)
  have hk0 : 0 ≤ p - 1 := by omega
  have hk1 : p - 1 < p := by omega
  have hused := colAdd_up hp1 hp2 hk0 hk1 (up_nil p) e3
  have hucf := fun r => colAdd_cf hp1 hp2 hk0 hk1 (up_nil p) e3 r
  have hxl := up_len e3
  have hcl := up_len hc
  refine ⟨c', colAdd p (p - 1) [] x', fun k hk => ?_, e2, hused, fun d hd => e4 _ (hpiv.all d (by rw [hel]; exact hd)), by rw [hel] at hsp; exact hsp, fun t ht => ?_, fun r => ?_⟩
  · have hpl : column_plus.f p [] (p - 1) x' = some (colAdd p (p - 1) [] x') := plus_col (by omega) (by simp; omega)
    have hend : restEnd k p c s = some (c', colAdd p (p - 1) [] x', 0) := by
      unfold restEnd
      rw [if_pos (by omega), bind_of (e1 k (by omega)), w64 (x := p - 1) (by omega) (by omega)]
      exact bind_of hpl
    unfold column_Rest.f restF
    rw [if_neg (by omega), bind_of (checkAll_ok hp (fun d hd => (hl d hd).1) (by omega) k (by omega)), if_pos rfl, bind_of (check_col p c (by omega) k (by omega)), if_pos (checkB_of hp hc)]
    refine (bind_of f1).trans ?_
    refine (if_pos rfl).trans ?_
    exact hend
  · by_cases hlt : t.f0 < (l.length : Int)
    · exact hlt
    · have h1 := cf_mem hused t ht
      have h2 := up_mem hused t ht
      rw [hucf, htop t.f0 (by omega), cf] at h1
      simp at h1
      omega
  · obtain ⟨q1, h1⟩ := hcomb r
    obtain ⟨q2, h2⟩ := dotG_add hp1 hp2 hk0 hk1 (fun t => cf (l.getD t.toNat []) r) (up_nil p) e3
    rw [h2, dotG, h1]
    exact ⟨q1 + dotG (fun t => cf (l.getD t.toNat []) r) x' - q2, by grind⟩
/-- A column of the span of a reduced list leaves nothing. -/
theorem rest_none {p : Int} (hp : primeB p = true) {b : List (List S45)} (hb : Red p b) (hn : b.length ≤ 1000) {c : List S45} (hc : Up p (-1) c) (hs : Sp p b (cf c)) : ∃ used, ∀ k, 3400 ≤ k → column_Rest.f k p b c = some ([], used, 0) := by
  obtain ⟨rest, used, e1, e2, e3, e4, e5, _⟩ := rest_spec hp (fun c hc => ⟨(hb.up c hc).1, (hb.up c hc).2.1⟩) (asc_ne hb.asc) hn hc
  have hsr : Sp p b (cf rest) := (hs.minus e5).congr (fun r => ⟨0, by grind⟩)
  have hz := span_zero hb hsr (fun d hd => ⟨0, by rw [e4 d hd]; simp⟩)
  have : rest = [] := up_ext e2 (up_nil p) (fun r => cf_zero hp e2 (hz r))
  subst this
  exact ⟨used, e1⟩
theorem spans_true {p : Int} (hp : primeB p = true) {b : List (List S45)} (hb : Red p b) (hn : b.length ≤ 1000) {l : List (List S45)} (hl : ∀ c ∈ l, Up p (-1) c ∧ Sp p b (cf c)) (hll : l.length ≤ 1000) : ∀ (m i : Nat) (k : Nat), i + m = l.length → m + 3402 ≤ k → toruslaw04_spans.l0 k p b l (l.length : Int) i = some true
  | 0, i, k, hi, hk => by
    obtain ⟨k, rfl, _⟩ := ex_succ (show 0 + 1 ≤ k by omega)
    rw [toruslaw04_spans.l0, if_neg (by omega)]
  | m + 1, i, k, hi, hk => by
    obtain ⟨k, rfl, _⟩ := ex_succ (show 0 + 1 ≤ k by omega)
    have hlt : i < l.length := by omega
    obtain ⟨q1, q2⟩ := hl _ (List.getElem_mem hlt)
    obtain ⟨used, hu⟩ := rest_none hp hb hn q1 q2
    have c1 : (i : Int) < (l.length : Int) := by omega
    have c2 : (0 : Int) ≤ (i : Int) := by omega
    have c3 : i < 4611686018427387904 := by omega
    have I := spans_true hp hb hn hl hll m (i + 1) k (by omega) (by omega)
    rw [toruslaw04_spans.l0, if_pos c1, if_pos c2, if_pos c1, rdL_nat hlt]
    refine (bind_of (hu k (by omega))).trans ?_
    refine (if_pos rfl).trans ?_
    refine (if_neg (show ¬ ((0 : Int) > 0) from Int.lt_irrefl 0)).trans ?_
    rw [wnat c3]
    exact I
end Go.Proofs.Ytojnnfhalpefmaa.P
