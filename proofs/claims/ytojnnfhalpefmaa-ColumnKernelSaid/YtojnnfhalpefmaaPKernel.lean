/- The law ColumnKernel on what its functions compute. -/
import Derived.Test.YtojnnfhalpefmaaPBasis
import Derived.Test.YtojnnfhalpefmaaMx24
set_option linter.unusedVariables false
namespace Go.Proofs.Ytojnnfhalpefmaa.P
open Go.RowKit Go.Proofs.YtojnnfhalpefmaaW.PrintWords Go.Proofs.Ytojnnfhalpefmaa.M Go.Proofs.Ytojnnfhalpefmaa.H
/-- A linear function of the coefficients that is 0 on a list is 0 on its span. -/
theorem sum_span {p : Int} {Z : List (List S45)} (g : Int → Int) (hz : ∀ x ∈ Z, ∃ q, sumN 1024 (fun i => cf x (i : Int) * g (i : Int)) = p * q) {v : Int → Int} (hv : Sp p Z v) : ∃ q, sumN 1024 (fun i => v (i : Int) * g (i : Int)) = p * q := by
  induction hv with
  | @zero v h0 =>
    obtain ⟨q, hq⟩ := sumN_dvd (p := p) (k := 0) (f := fun i => v (i : Int) * g (i : Int)) (g := fun _ => 0) (h := fun _ => 0) 1024 (fun i _ => by
      obtain ⟨q, hq⟩ := h0 (i : Int)
      exact ⟨-(q * g (i : Int)), by rw [hq]; grind⟩)
    rw [sumN_zero] at hq
    exact ⟨-q, by rw [hq]; grind⟩
  | @add u v c k hc _ hv ih =>
    obtain ⟨q1, e1⟩ := sumN_dvd (p := p) (k := k) (f := fun i => v (i : Int) * g (i : Int)) (g := fun i => u (i : Int) * g (i : Int)) (h := fun i => cf c (i : Int) * g (i : Int)) 1024 (fun i _ => by
      obtain ⟨q, hq⟩ := hv (i : Int)
      exact ⟨-(q * g (i : Int)), by rw [hq]; grind⟩)
    obtain ⟨q2, e2⟩ := ih
    obtain ⟨q3, e3⟩ := hz c hc
    exact ⟨q2 + k * q3 - q1, by rw [e1, e2, e3]; grind⟩
theorem kernel_spec {p : Int} (hp : primeB p = true) {l : List (List S45)} (h : Cols p 10 l) (hl : l.length ≤ 12) :
    ∃ K, (∀ k, 3400 ≤ k → column_Kernel.f k p l = some (K, 0) ∧ column_Rank.f k p l = some ((l.length : Int) - (K.length : Int), 0)) ∧ Red p K ∧ Cols p (l.length : Int) K ∧ K.length ≤ l.length ∧
      ∀ x ∈ K, ∀ r, ∃ q, dotG (fun t => cf (l.getD t.toNat []) r) x = p * q := by
  obtain ⟨s, e1, e2⟩ := elim_list hp l (fun c hc => (h c hc).up) (by omega)
  have hcnt := e2.count
  obtain ⟨K, f1, f2, f3, f4, f5, f6⟩ := tidy_spec hp s.Z (fun x hx => ⟨(e2.zup x hx).1, (e2.zup x hx).2.1⟩) (asc_ne e2.zasc) (by omega)
  refine ⟨K, fun k hk => ⟨?_, ?_⟩, f2, fun c hc => ⟨(f2.up c hc).1, fun t ht => ?_⟩, by omega, fun x hx r => ?_⟩
  · unfold column_Kernel.f kernelF
    rw [bind_of (begin_ok hp (fun c hc => (h c hc).up) (by omega) k hk)]
    refine (if_pos rfl).trans ?_
    refine (bind_of (e1 k (by omega))).trans ?_
    exact bind_of (f1 k (by omega))
  · unfold column_Rank.f rankF
    rw [bind_of (begin_ok hp (fun c hc => (h c hc).up) (by omega) k hk)]
    refine (if_pos rfl).trans ?_
    refine (bind_of (e1 k (by omega))).trans ?_
    rw [show (s.L.length : Int) = (l.length : Int) - (K.length : Int) by omega]
  · obtain ⟨d, hd, e⟩ := f4 c hc
    have h1 := up_le_last (f2.up c hc).1 t ht
    have h2 := (e2.zup d hd).2.2.1
    omega
  · rw [dotG_sum _ x (Int.le_refl _) (f2.up x hx).1]
    exact sum_span (fun t => cf (l.getD t.toNat []) r) (fun z hz => by
      have h1 := e2.zcomb z hz r
      rw [dotG_sum (fun t => cf (l.getD t.toNat []) r) z (Int.le_refl _) (e2.zup z hz).1] at h1
      exact h1) (f6 x hx)
theorem kernel_loop {p : Int} (hp : primeB p = true) {l K : List (List S45)} (h : Cols p 10 l) (hl : l.length ≤ 8) (hr : Red p K) (hc : Cols p (l.length : Int) K) (hK : K.length ≤ 8)
    (hz : ∀ x ∈ K, ∀ r, ∃ q, dotG (fun t => cf (l.getD t.toNat []) r) x = p * q) : ∀ (m i : Nat) (k : Nat), i + m = K.length → m + 3500 ≤ k → toruslaw04_ColumnKernel.l0 k p l K K (K.length : Int) i = some true
  | 0, i, k, hi, hk => by
    obtain ⟨k, rfl, _⟩ := ex_succ (show 0 + 1 ≤ k by omega)
    have hb := (basis_red hp (n := (l.length : Int)) (by omega) (by omega) hc hr (by omega) k (by omega)).1
    have hs := sameList_refl K (by omega) (fun c hc' => up_len (hc c hc').up) k (by omega)
    rw [toruslaw04_ColumnKernel.l0, if_neg (by omega)]
    refine (bind_of hb).trans ?_
    refine (if_pos rfl).trans ?_
    refine (bind_of hs).trans ?_
    rfl
  | m + 1, i, k, hi, hk => by
    obtain ⟨k, rfl, _⟩ := ex_succ (show 0 + 1 ≤ k by omega)
    have hlt : i < K.length := by omega
    have hx := List.getElem_mem hlt
    obtain ⟨c, e1, e2, e3⟩ := combine_spec hp (fun d hd => (h d hd).up) (by omega) (hc _ hx).up (hc _ hx).lt
    have hc0 : c = [] := up_ext e2 (up_nil p) (fun r => by
      obtain ⟨q1, h1⟩ := e3 r
      obtain ⟨q2, h2⟩ := hz _ hx r
      exact cf_zero hp e2 ⟨q1 + q2, by rw [h1, h2]; grind⟩)
    subst hc0
    have c1 : (i : Int) < (K.length : Int) := by omega
    have c2 : (0 : Int) ≤ (i : Int) := by omega
    have c3 : i < 4611686018427387904 := by omega
    have I := kernel_loop hp h hl hr hc hK hz m (i + 1) k (by omega) (by omega)
    rw [toruslaw04_ColumnKernel.l0, if_pos c1, if_pos c2, if_pos c1, rdL_nat hlt]
    refine (bind_of (e1 k (by omega))).trans ?_
    refine (if_pos rfl).trans ?_
    refine (if_neg (by decide)).trans ?_
    rw [wnat c3]
    exact I
theorem kernel_true (a0 : Int) (l1 : List (List S45)) (h1 : l1.length < 1000000000000000) (hi : ∀ l ∈ l1, l.length < 8796093022208) : ∃ k, toruslaw04_ColumnKernel.f k a0 l1 = some true := by
  obtain ⟨p, hp, hf⟩ := field_spec a0
  obtain ⟨l, hc, hl, hfit⟩ := fitList_spec hp l1 h1 (fun c hc => by have := hi c hc; omega)
  obtain ⟨K, e1, e2, e3, e4, e5⟩ := kernel_spec hp hc (by omega)
  obtain ⟨k, hk⟩ : ∃ k, k = longest l1 + 5000 := ⟨_, rfl⟩
  have hr := (basis_red hp (n := (l.length : Int)) (by omega) (by omega) e3 e2 (by omega) k (by omega)).2
  obtain ⟨g1, g2⟩ := e1 k (by omega)
  refine ⟨k, ?_⟩
  unfold toruslaw04_ColumnKernel.f
  refine (bind_of (hf k (by omega))).trans ?_
  refine (bind_of (hfit k (by omega))).trans ?_
  refine (bind_of g1).trans ?_
  refine (bind_of g2).trans ?_
  refine (bind_of hr).trans ?_
  refine (if_pos rfl).trans ?_
  refine (if_pos rfl).trans ?_
  refine (if_pos rfl).trans ?_
  refine (if_pos ?_).trans ?_
  · show wrap64 ((l.length : Int) - (K.length : Int) + (K.length : Int)) = (l.length : Int)
    rw [w64 (by omega) (by omega)]
    omega
  obtain ⟨k1, rfl⟩ : ∃ k1, k = k1 + 1 := ⟨k - 1, by omega⟩
  have hne : ((K.length : Int) != (K.length : Int)) = false := by simp
  show toruslaw04_ColumnKernel.j0 (k1 + 1) p l K ((K.length : Int) != (K.length : Int)) = some true
  rw [hne, toruslaw04_ColumnKernel.j0, if_neg (by decide)]
  exact kernel_loop hp hc hl e2 e3 (by omega) e5 K.length 0 k1 (by omega) (by omega)
end Go.Proofs.Ytojnnfhalpefmaa.P
