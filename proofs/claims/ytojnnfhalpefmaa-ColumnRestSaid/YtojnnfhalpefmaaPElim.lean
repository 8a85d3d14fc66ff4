/- eliminate of package column: what it computes. -/
import Derived.Test.YtojnnfhalpefmaaPClear
import Derived.Test.YtojnnfhalpefmaaKFin
set_option linter.unusedVariables false
namespace Go.Proofs.Ytojnnfhalpefmaa.P
open Go.RowKit Go.Proofs.YtojnnfhalpefmaaW.PrintWords Go.Proofs.Ytojnnfhalpefmaa.M Go.Proofs.Ytojnnfhalpefmaa.H
/-! ### sums over rows -/
def sumN : Nat → (Nat → Int) → Int
  | 0, _ => 0
  | n + 1, f => sumN n f + f n
theorem sumN_congr {f g : Nat → Int} : ∀ (n : Nat), (∀ i, i < n → f i = g i) → sumN n f = sumN n g
  | 0, _ => rfl
  | n + 1, h => by rw [sumN, sumN, sumN_congr n (fun i hi => h i (by omega)), h n (by omega)]
theorem sumN_zero : ∀ (n : Nat), sumN n (fun _ => 0) = 0
  | 0 => rfl
  | n + 1 => by rw [sumN, sumN_zero n]; rfl
theorem sumN_add {f g : Nat → Int} : ∀ (n : Nat), sumN n (fun i => f i + g i) = sumN n f + sumN n g
  | 0 => rfl
  | n + 1 => by rw [sumN, sumN, sumN, sumN_add n]; omega
theorem sumN_one {m : Nat} {v : Int} : ∀ (n : Nat), sumN n (fun i => if i = m then v else 0) = if m < n then v else 0
  | 0 => by simp [sumN]
  | n + 1 => by
    rw [sumN, sumN_one n]
    by_cases h : n = m
    · subst h; rw [if_neg (by omega), if_pos rfl, if_pos (by omega)]; omega
    · rw [if_neg h]
      by_cases h2 : m < n
      · rw [if_pos h2, if_pos (by omega)]; omega
      · rw [if_neg h2, if_neg (by omega)]; rfl
theorem sumN_dvd {p k : Int} {f g h : Nat → Int} : ∀ (n : Nat), (∀ i, i < n → ∃ q, f i = g i + k * h i - p * q) → ∃ q, sumN n f = sumN n g + k * sumN n h - p * q
  | 0, _ => ⟨0, by simp [sumN]⟩
  | n + 1, hh => by
    obtain ⟨q1, h1⟩ := sumN_dvd n (fun i hi => hh i (by omega))
    obtain ⟨q2, h2⟩ := hh n (by omega)
    exact ⟨q1 + q2, by rw [sumN, sumN, sumN, h1, h2]; grind⟩
/-! ### combinations -/
def dotG (g : Int → Int) : List S45 → Int
  | [] => 0
  | t :: l => t.f1 * g t.f0 + dotG g l
theorem dotG_congr {g g' : Int → Int} : ∀ (l : List S45), (∀ t ∈ l, g t.f0 = g' t.f0) → dotG g l = dotG g' l
  | [], _ => rfl
  | t :: l, h => by rw [dotG, dotG, h t (by simp), dotG_congr l (fun s hs => h s (by simp [hs]))]
theorem dotG_sum {p : Int} (g : Int → Int) : ∀ {last : Int} (l : List S45), -1 ≤ last → Up p last l → dotG g l = sumN 1024 (fun i => cf l (i : Int) * g (i : Int))
  | last, [], _, _ => by
    rw [dotG, ← sumN_zero 1024]
    exact sumN_congr _ (fun i _ => by simp [cf])
  | last, t :: l, h0, h => by
    obtain ⟨h1, h2, h3, h4, h5⟩ := h
    rw [dotG, dotG_sum g l (last := t.f0) (by omega) h5]
    obtain ⟨m, hm⟩ : ∃ m : Nat, t.f0 = (m : Int) := ⟨t.f0.toNat, by omega⟩
    have : sumN 1024 (fun i => cf (t :: l) (i : Int) * g (i : Int)) = sumN 1024 (fun i => (if i = m then t.f1 * g t.f0 else 0) + cf l (i : Int) * g (i : Int)) := sumN_congr _ (fun i hi => by
      by_cases e : i = m
      · subst e
        rw [if_pos rfl, cf_here hm, ← hm, cf_low h5 (Int.le_refl _)]
        simp
      · rw [if_neg e, cf_there (by omega)]
        simp)
    rw [this, sumN_add, sumN_one, if_pos (by omega)]
theorem dotG_add {p k : Int} (hp : 2 ≤ p) (hp2 : p ≤ 251) (hk : 0 ≤ k) (hk2 : k < p) (g : Int → Int) {a b : List S45} (ha : Up p (-1) a) (hb : Up p (-1) b) : ∃ q, dotG g (colAdd p k a b) = dotG g a + k * dotG g b - p * q := by
  rw [dotG_sum g _ (Int.le_refl _) (colAdd_up hp hp2 hk hk2 ha hb), dotG_sum g _ (Int.le_refl _) ha, dotG_sum g _ (Int.le_refl _) hb]
  refine sumN_dvd 1024 (fun i hi => ?_)
  rw [colAdd_cf hp hp2 hk hk2 ha hb]
  obtain ⟨q, hq⟩ := ed (cf a i + k * cf b i) p
  exact ⟨q * g i, by rw [hq]; grind⟩
/-! ### spans -/
inductive Sp (p : Int) (L : List (List S45)) : (Int → Int) → Prop
  | zero {v : Int → Int} (h : ∀ r, ∃ q, v r = p * q) : Sp p L v
  | add {u v : Int → Int} (c : List S45) (k : Int) (hc : c ∈ L) (hu : Sp p L u) (h : ∀ r, ∃ q, v r = u r + k * cf c r + p * q) : Sp p L v
theorem Sp.congr {p : Int} {L : List (List S45)} {v w : Int → Int} (h : Sp p L v) (e : ∀ r, ∃ q, w r = v r + p * q) : Sp p L w := by
  cases h with
  | zero h => exact .zero (fun r => by obtain ⟨q, hq⟩ := h r; obtain ⟨q', hq'⟩ := e r; exact ⟨q + q', by grind⟩)
  | add c k hc hu h => exact .add c k hc hu (fun r => by obtain ⟨q, hq⟩ := h r; obtain ⟨q', hq'⟩ := e r; exact ⟨q + q', by grind⟩)
theorem Sp.plus {p : Int} {L : List (List S45)} {u v : Int → Int} (hu : Sp p L u) (hv : Sp p L v) : Sp p L (fun r => u r + v r) := by
  induction hv with
  | zero h => exact hu.congr (fun r => by obtain ⟨q, hq⟩ := h r; exact ⟨q, by grind⟩)
  | add c k hc _ h ih => exact .add c k hc ih (fun r => by obtain ⟨q, hq⟩ := h r; exact ⟨q, by grind⟩)
theorem Sp.smul {p : Int} {L : List (List S45)} {v : Int → Int} (m : Int) (hv : Sp p L v) : Sp p L (fun r => m * v r) := by
  induction hv with
  | zero h => exact .zero (fun r => by obtain ⟨q, hq⟩ := h r; exact ⟨m * q, by grind⟩)
  | add c k hc _ h ih => exact .add c (m * k) hc ih (fun r => by obtain ⟨q, hq⟩ := h r; exact ⟨m * q, by grind⟩)
theorem Sp.mem {p : Int} {L : List (List S45)} {c : List S45} (hc : c ∈ L) : Sp p L (cf c) := .add c 1 hc (.zero (v := fun _ => 0) (fun _ => ⟨0, by simp⟩)) (fun r => ⟨0, by simp⟩)
theorem Sp.trans {p : Int} {L L' : List (List S45)} {v : Int → Int} (h : Sp p L v) (hl : ∀ c ∈ L, Sp p L' (cf c)) : Sp p L' v := by
  induction h with
  | zero h => exact .zero h
  | add c k hc _ h ih => exact (ih.plus ((hl c hc).smul k)).congr h
theorem Sp.mono {p : Int} {L L' : List (List S45)} {v : Int → Int} (h : Sp p L v) (hl : ∀ c ∈ L, c ∈ L') : Sp p L' v := h.trans (fun c hc => .mem (hl c hc))
theorem Sp.minus {p : Int} {L : List (List S45)} {u v : Int → Int} (hu : Sp p L u) (hv : Sp p L v) : Sp p L (fun r => u r - v r) := (hu.plus (hv.smul (-1))).congr (fun r => ⟨0, by grind⟩)
/-! ### what a clearing adds -/
theorem getD_mem {L : List (List S45)} {j : Nat} (h : j < L.length) : L.getD j [] ∈ L := by
  rw [List.getD_eq_getElem?_getD, List.getElem?_eq_getElem h]; exact List.getElem_mem _
section
variable {p : Int} (hp : primeB p = true) {L U : List (List S45)} (hL : ∀ c ∈ L, Up p (-1) c) (hU : U.length = L.length) (hUu : ∀ x ∈ U, Up p (-1) x)
include hp hL hU hUu
/-- The difference lies in the span of the pivots. -/
theorem adds_sp {c x c' x' : List S45} (h : Adds p L U c x c' x') : Up p (-1) c → Up p (-1) x → Sp p L (fun r => cf c r - cf c' r) := by
  obtain ⟨hp1, hp2⟩ := primeB_ge hp
  induction h with
  | refl c x => intro _ _; exact .zero (fun r => ⟨0, by simp⟩)
  | step j k hj h0 h1 _ ih =>
    intro hc hx
    have hl := hL _ (getD_mem hj)
    have hu := hUu _ (getD_mem (L := U) (j := j) (by omega))
    have I := ih (colAdd_up hp1 hp2 h0 h1 hc hl) (colAdd_up hp1 hp2 h0 h1 hx hu)
    exact .add _ (-k) (getD_mem hj) I (fun r => by
      rw [colAdd_cf hp1 hp2 h0 h1 hc hl]
      obtain ⟨q, hq⟩ := ed (cf _ r + k * cf (L.getD j []) r) p
      exact ⟨q, by rw [hq]; grind⟩)
/-- The combination goes along. -/
theorem adds_comb {g : Int → Int → Int} (hg : ∀ j, j < L.length → ∀ r, ∃ q, cf (L.getD j []) r = dotG (g r) (U.getD j []) + p * q) {c x c' x' : List S45} (h : Adds p L U c x c' x') :
    Up p (-1) c → Up p (-1) x → (∀ r, ∃ q, cf c r = dotG (g r) x + p * q) → ∀ r, ∃ q, cf c' r = dotG (g r) x' + p * q := by
  obtain ⟨hp1, hp2⟩ := primeB_ge hp
  induction h with
  | refl c x => intro _ _ h; exact h
  | step j k hj h0 h1 _ ih =>
    intro hc hx hq
    have hl := hL _ (getD_mem hj)
    have hu := hUu _ (getD_mem (L := U) (j := j) (by omega))
    refine ih (colAdd_up hp1 hp2 h0 h1 hc hl) (colAdd_up hp1 hp2 h0 h1 hx hu) (fun r => ?_)
    rw [colAdd_cf hp1 hp2 h0 h1 hc hl]
    obtain ⟨q1, e1⟩ := ed (cf _ r + k * cf (L.getD j []) r) p
    obtain ⟨q2, e2⟩ := dotG_add hp1 hp2 h0 h1 (g r) hx hu
    obtain ⟨q3, e3⟩ := hq r
    obtain ⟨q4, e4⟩ := hg j hj r
    exact ⟨q3 + k * q4 - q1 + q2, by rw [e1, e2, e3, e4]; grind⟩
/-- A row above all rows of the combinations stays. -/
theorem adds_top {c x c' x' : List S45} (h : Adds p L U c x c' x') {y : Int} (hy : ∀ u ∈ U, ∀ r, y ≤ r → cf u r = 0) : Up p (-1) c → Up p (-1) x → (∀ r, y ≤ r → cf x' r = cf x r) := by
  obtain ⟨hp1, hp2⟩ := primeB_ge hp
  induction h with
  | refl c x => intro _ _ r _; rfl
  | @step c x _ _ j k hj h0 h1 _ ih =>
    intro hc hx r hr
    have hl := hL _ (getD_mem hj)
    have hum := getD_mem (L := U) (j := j) (by omega)
    have hu := hUu _ hum
    rw [ih (colAdd_up hp1 hp2 h0 h1 hc hl) (colAdd_up hp1 hp2 h0 h1 hx hu) r hr, colAdd_cf hp1 hp2 h0 h1 hx hu, hy _ hum r hr, Int.mul_zero, Int.add_zero]
    have := cf_range (show 0 < p by omega) r hx
    exact Int.emod_eq_of_lt this.1 this.2
theorem adds_topL {c x c' x' : List S45} (h : Adds p L U c x c' x') {y : Int} (hy : ∀ u ∈ L, ∀ r, y ≤ r → cf u r = 0) : Up p (-1) c → Up p (-1) x → (∀ r, y ≤ r → cf c' r = cf c r) := by
  obtain ⟨hp1, hp2⟩ := primeB_ge hp
  induction h with
  | refl c x => intro _ _ r _; rfl
  | @step c x _ _ j k hj h0 h1 _ ih =>
    intro hc hx r hr
    have hlm := getD_mem hj
    have hl := hL _ hlm
    have hu := hUu _ (getD_mem (L := U) (j := j) (by omega))
    rw [ih (colAdd_up hp1 hp2 h0 h1 hc hl) (colAdd_up hp1 hp2 h0 h1 hx hu) r hr, colAdd_cf hp1 hp2 h0 h1 hc hl, hy _ hlm r hr, Int.mul_zero, Int.add_zero]
    have := cf_range (show 0 < p by omega) r hc
    exact Int.emod_eq_of_lt this.1 this.2
end
/-- The last row is where the coefficients end. -/
theorem lastR_eq {p : Int} {c : List S45} (hc : Up p (-1) c) {y : Int} (h1 : cf c y ≠ 0) (h2 : ∀ r, y < r → cf c r = 0) : 0 < c.length ∧ lastR c = y := by
  obtain ⟨t, ht, e⟩ := cf_pos h1
  have hl : 0 < c.length := List.length_pos_of_mem ht
  obtain ⟨a1, a2, a3, a4, _⟩ := last_cf hc hl
  refine ⟨hl, ?_⟩
  have h3 := up_le_last hc t ht
  by_cases h4 : y < lastR c
  · have := h2 _ h4
    omega
  · omega
/-! ### eliminate -/
structure EInv (p : Int) (P : List (List S45)) (s : St) : Prop where
  piv : Piv p s.mp s.L
  ulen : s.U.length = s.L.length
  uup : ∀ x ∈ s.U, Up p (-1) x
  ulow : ∀ x ∈ s.U, ∀ r, (P.length : Int) ≤ r → cf x r = 0
  comb : ∀ j, j < s.L.length → ∀ r, ∃ q, cf (s.L.getD j []) r = dotG (fun t => cf (P.getD t.toNat []) r) (s.U.getD j []) + p * q
  zup : ∀ x ∈ s.Z, Up p (-1) x ∧ 0 < x.length ∧ lastR x < (P.length : Int) ∧ cf x (lastR x) = 1
  zcomb : ∀ x ∈ s.Z, ∀ r, ∃ q, dotG (fun t => cf (P.getD t.toNat []) r) x = p * q
  zasc : s.Z.Pairwise (fun a b => lastR a < lastR b)
  ldist : s.L.Pairwise (fun a b => lastR a ≠ lastR b)
  count : s.L.length + s.Z.length = P.length
  span1 : ∀ c ∈ P, Sp p s.L (cf c)
  span2 : ∀ c ∈ s.L, Sp p P (cf c)
theorem piv_none {p : Int} {mp : Int → Option Int} {L : List (List S45)} (h : Piv p mp L) : ∀ y, 1024 ≤ y → mp y = none := fun y hy => by
  cases hm : mp y with
  | none => rfl
  | some j =>
    obtain ⟨j0, j1, jl⟩ := h.at_ _ _ hm
    have hmem : rd_L2 L j ∈ L := by
      obtain ⟨m, rfl⟩ : ∃ m : Nat, j = (m : Int) := ⟨j.toNat, by omega⟩
      rw [rdL_nat (by omega)]
      exact List.getElem_mem _
    obtain ⟨hu, hl⟩ := h.up _ hmem
    have := last_cf hu hl
    omega
theorem piv_put {p : Int} {mp : Int → Option Int} {L : List (List S45)} (h : Piv p mp L) {c : List S45} (hc : Up p (-1) c) (hl : 0 < c.length) : Piv p (fun y => if y = lastR c then some (L.length : Int) else mp y) (L ++ [c]) := by
  refine ⟨fun d hd => ?_, fun y j hj => ?_, fun d hd => ?_⟩
  · rcases List.mem_append.1 hd with hd | hd
    · exact h.up d hd
    · rw [List.mem_singleton.1 hd]; exact ⟨hc, hl⟩
  · replace hj : (if y = lastR c then some (L.length : Int) else mp y) = some j := hj
    by_cases e : y = lastR c
    · rw [if_pos e] at hj
      cases hj
      refine ⟨by omega, by rw [List.length_append, List.length_singleton]; omega, ?_⟩
      rw [rdL_nat (by simp)]
      simp [e]
    · rw [if_neg e] at hj
      obtain ⟨j0, j1, jl⟩ := h.at_ _ _ hj
      refine ⟨j0, by simp; omega, ?_⟩
      obtain ⟨m, rfl⟩ : ∃ m : Nat, j = (m : Int) := ⟨j.toNat, by omega⟩
      rw [rdL_nat (by omega)] at jl
      rw [rdL_nat (by simp; omega), List.getElem_append_left (by omega)]
      exact jl
  · show (if lastR d = lastR c then some (L.length : Int) else mp (lastR d)).isSome = true
    rcases List.mem_append.1 hd with hd | hd
    · split
      · rfl
      · exact h.all d hd
    · rw [List.mem_singleton.1 hd, if_pos rfl]; rfl
theorem getD_app {L : List (List S45)} {c : List S45} {j : Nat} (h : j < L.length) : (L ++ [c]).getD j [] = L.getD j [] := by
  rw [List.getD_eq_getElem?_getD, List.getElem?_append_left h, ← List.getD_eq_getElem?_getD]
theorem getD_new (L : List (List S45)) (c : List S45) : (L ++ [c]).getD L.length [] = c := by simp [List.getD_eq_getElem?_getD]
theorem comb_app {P : List (List S45)} {c0 : List S45} {r : Int} {x : List S45} {p : Int} (hx : Up p (-1) x) (hlow : ∀ r, (P.length : Int) ≤ r → cf x r = 0) :
    dotG (fun t => cf ((P ++ [c0]).getD t.toNat []) r) x = dotG (fun t => cf (P.getD t.toNat []) r) x := dotG_congr x (fun t ht => by
  have h1 := cf_mem hx t ht
  have h2 := up_mem hx t ht
  have : t.f0 < (P.length : Int) := by
    by_cases h : t.f0 < (P.length : Int)
    · exact h
    · have := hlow t.f0 (by omega)
      omega
  rw [getD_app (by omega)])
theorem elim_step {p : Int} (hp : primeB p = true) {P : List (List S45)} {s : St} (h : EInv p P s) {c : List S45} (hc : Up p (-1) c) (hn : P.length < 1000) :
    ∃ c' x', (∀ k, 1064 ≤ k → clearL p s.mp s.L s.U k c [⟨(P.length : Int), 1⟩] (wrap64 ((c.length : Int) - 1)) = some (c', x')) ∧ Up p (-1) c' ∧
      (c'.length = 0 → EInv p (P ++ [c]) (s.zero x')) ∧ (0 < c'.length → rowOk (lastR c') ∧ EInv p (P ++ [c]) (s.put c' x')) := by
  obtain ⟨hp1, hp2⟩ := primeB_ge hp
  have hx0 : Up p (-1) [⟨(P.length : Int), 1⟩] := ⟨by simp only; omega, by simp only; omega, Int.le_refl 1, by simp only; omega, trivial⟩
  obtain ⟨c', x', e1, e2, e3, e4, e5⟩ := clear_all hp h.piv h.ulen h.uup c _ hc hx0 (piv_none h.piv)
  have hLu : ∀ d ∈ s.L, Up p (-1) d := fun d hd => (h.piv.up d hd).1
  have hsp := adds_sp hp hLu h.ulen h.uup e5 hc hx0
  have hcomb' : ∀ j, j < s.L.length → ∀ r, ∃ q, cf (s.L.getD j []) r = dotG (fun t => cf ((P ++ [c]).getD t.toNat []) r) (s.U.getD j []) + p * q := fun j hj r => by
    have hum := getD_mem (L := s.U) (j := j) (by rw [h.ulen]; exact hj)
    rw [comb_app (h.uup _ hum) (h.ulow _ hum)]
    exact h.comb j hj r
  have hnew := adds_comb hp hLu h.ulen h.uup hcomb' e5 hc hx0 (fun r => ⟨0, by
    rw [dotG, dotG]
    simp⟩)
  have htop := adds_top hp hLu h.ulen h.uup e5 (y := (P.length : Int)) h.ulow hc hx0
  have hx1 : cf x' (P.length : Int) = 1 := by rw [htop _ (Int.le_refl _), cf_here rfl]
  have hx2 : ∀ r, (P.length : Int) < r → cf x' r = 0 := fun r hr => by rw [htop r (by omega), cf_there (by simp only; omega), cf]
  obtain ⟨xl, xr⟩ := lastR_eq e3 (y := (P.length : Int)) (by omega) hx2
  have uapp : ∀ x ∈ s.U, ∀ r, ((P ++ [c]).length : Int) ≤ r → cf x r = 0 := fun x hx r hr => h.ulow x hx r (by simp at hr; omega)
  refine ⟨c', x', e1, e2, fun hz => ?_, fun hz => ?_⟩
  · have hc0 : c' = [] := List.eq_nil_of_length_eq_zero hz
    subst hc0
    refine ⟨h.piv, h.ulen, h.uup, uapp, hcomb', fun x hx => ?_, fun x hx r => ?_, ?_, h.ldist, ?_, fun d hd => ?_, fun d hd => ?_⟩
    · rcases List.mem_append.1 hx with hx | hx
      · obtain ⟨a, b, d, e⟩ := h.zup x hx
        exact ⟨a, b, by simp; omega, e⟩
      · rw [List.mem_singleton.1 hx]
        exact ⟨e3, xl, by simp; omega, by rw [xr]; exact hx1⟩
    · rcases List.mem_append.1 hx with hx | hx
      · obtain ⟨a, b, d, e⟩ := h.zup x hx
        rw [comb_app a (fun r hr => cf_above a (by omega))]
        exact h.zcomb x hx r
      · rw [List.mem_singleton.1 hx]
        obtain ⟨q, hq⟩ := hnew r
        rw [cf] at hq
        exact ⟨-q, by grind⟩
    · show (s.Z ++ [x']).Pairwise _
      rw [List.pairwise_append]
      refine ⟨h.zasc, List.pairwise_singleton _ _, fun a ha b hb => ?_⟩
      rw [List.mem_singleton.1 hb, xr]
      exact (h.zup a ha).2.2.1
    · show s.L.length + (s.Z ++ [x']).length = (P ++ [c]).length
      have := h.count
      simp only [List.length_append, List.length_singleton]
      omega
    · rcases List.mem_append.1 hd with hd | hd
      · exact h.span1 d hd
      · rw [List.mem_singleton.1 hd]
        exact hsp.congr (fun r => ⟨0, by rw [cf]; simp⟩)
    · exact (h.span2 d hd).mono (fun a ha => by simp [ha])
  · obtain ⟨b0, b1, b2, b3, _⟩ := last_cf e2 hz
    refine ⟨⟨by omega, by omega⟩, ?_⟩
    have hne : ∀ d ∈ s.L, lastR d ≠ lastR c' := fun d hd e => by
      have := e4 _ (h.piv.all d hd)
      rw [e] at this
      omega
    refine ⟨piv_put h.piv e2 hz, ?_, fun x hx => ?_, fun x hx r hr => ?_, fun j hj r => ?_, fun x hx => ?_, fun x hx r => ?_, h.zasc, ?_, ?_, fun d hd => ?_, fun d hd => ?_⟩
    · show (s.U ++ [x']).length = (s.L ++ [c']).length
      simp [h.ulen]
    · rcases List.mem_append.1 hx with hx | hx
      · exact h.uup x hx
      · rw [List.mem_singleton.1 hx]; exact e3
    · rcases List.mem_append.1 hx with hx | hx
      · exact uapp x hx r hr
      · rw [List.mem_singleton.1 hx]
        exact hx2 r (by simp at hr; omega)
    · show ∃ q, cf ((s.L ++ [c']).getD j []) r = dotG _ ((s.U ++ [x']).getD j []) + p * q
      have hj2 : j < s.L.length + 1 := by have : j < (s.L ++ [c']).length := hj; simpa using this
      by_cases e : j < s.L.length
      · rw [getD_app e, getD_app (by rw [h.ulen]; exact e)]
        exact hcomb' j e r
      · have : j = s.L.length := by omega
        subst this
        rw [getD_new, ← h.ulen, getD_new]
        exact hnew r
    · obtain ⟨a, b, d, e⟩ := h.zup x hx
      exact ⟨a, b, by simp; omega, e⟩
    · obtain ⟨a, b, d, e⟩ := h.zup x hx
      rw [comb_app a (fun r hr => cf_above a (by omega))]
      exact h.zcomb x hx r
    · show (s.L ++ [c']).Pairwise _
      rw [List.pairwise_append]
      refine ⟨h.ldist, List.pairwise_singleton _ _, fun a ha b hb => ?_⟩
      rw [List.mem_singleton.1 hb]
      exact hne a ha
    · show (s.L ++ [c']).length + s.Z.length = (P ++ [c]).length
      have := h.count
      simp only [List.length_append, List.length_singleton]
      omega
    · show Sp p (s.L ++ [c']) (cf d)
      rcases List.mem_append.1 hd with hd | hd
      · exact (h.span1 d hd).mono (fun a ha => by simp [ha])
      · rw [List.mem_singleton.1 hd]
        exact ((hsp.mono (L' := s.L ++ [c']) (fun a ha => by simp [ha])).plus (Sp.mem (c := c') (by simp))).congr (fun r => ⟨0, by simp⟩)
    · rcases List.mem_append.1 hd with hd | hd
      · exact (h.span2 d hd).mono (fun a ha => by simp [ha])
      · rw [List.mem_singleton.1 hd]
        have q1 : Sp p (P ++ [c]) (fun r => cf c r - cf c' r) := hsp.trans (fun a ha => (h.span2 a ha).mono (fun b hb => by simp [hb]))
        exact ((Sp.mem (c := c) (L := P ++ [c]) (by simp)).minus q1).congr (fun r => ⟨0, by grind⟩)
theorem elim_spec {p : Int} (hp : primeB p = true) : ∀ (l P : List (List S45)) (s : St), EInv p P s → (∀ c ∈ l, Up p (-1) c) → P.length + l.length ≤ 1000 →
    ∃ s', (∀ k, 1064 ≤ k → elimL p k l (P.length : Int) s = some s') ∧ EInv p (P ++ l) s'
  | [], P, s, h, _, _ => ⟨s, fun k _ => by rw [elimL], by simpa using h⟩
  | c :: l, P, s, h, hl, hn => by
    have hc := hl c (by simp)
    simp only [List.length_cons] at hn
    obtain ⟨c', x', e1, e2, e3, e4⟩ := elim_step hp h hc (by omega)
    have hcnt := h.count
    have hul := h.ulen
    have hlen := up_len hc
    have hsm : c.length < 8796093022208 ∧ s.small := ⟨by omega, by unfold St.small; omega⟩
    rcases Nat.eq_zero_or_pos c'.length with hz | hz
    · obtain ⟨s', f1, f2⟩ := elim_spec hp l (P ++ [c]) (s.zero x') (e3 hz) (fun d hd => hl d (by simp [hd])) (by simp; omega)
      refine ⟨s', fun k hk => ?_, by simpa using f2⟩
      rw [elimL, if_pos hsm, bind_of (e1 k hk), if_pos hz]
      have := f1 k hk
      rw [List.length_append, List.length_singleton] at this
      exact this
    · obtain ⟨g1, g2⟩ := e4 hz
      obtain ⟨s', f1, f2⟩ := elim_spec hp l (P ++ [c]) (s.put c' x') g2 (fun d hd => hl d (by simp [hd])) (by simp; omega)
      refine ⟨s', fun k hk => ?_, by simpa using f2⟩
      rw [elimL, if_pos hsm, bind_of (e1 k hk), if_neg (Nat.ne_of_gt hz), if_pos g1]
      have := f1 k hk
      rw [List.length_append, List.length_singleton] at this
      exact this
theorem einv0 (p : Int) : EInv p [] st0 :=
  ⟨⟨fun c hc => (by cases hc), fun y j hj => (by cases hj), fun c hc => (by cases hc)⟩, rfl, fun x hx => (by cases hx), fun x hx => (by cases hx), fun j hj => absurd hj (by simp [st0]), fun x hx => (by cases hx), fun x hx => (by cases hx), List.Pairwise.nil, List.Pairwise.nil, rfl, fun c hc => (by cases hc), fun c hc => (by cases hc)⟩
/-- eliminate over a list of columns. -/
theorem elim_list {p : Int} (hp : primeB p = true) (l : List (List S45)) (hl : ∀ c ∈ l, Up p (-1) c) (hn : l.length ≤ 1000) : ∃ s, (∀ k, 1064 ≤ k → elimL p k l 0 st0 = some s) ∧ EInv p l s := by
  obtain ⟨s, h1, h2⟩ := elim_spec hp l [] st0 (einv0 p) hl (by simpa using hn)
  exact ⟨s, h1, by simpa using h2⟩
end Go.Proofs.Ytojnnfhalpefmaa.P
