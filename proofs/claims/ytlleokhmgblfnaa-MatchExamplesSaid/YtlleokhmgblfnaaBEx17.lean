/- A part of the proof: texts of this seat joined (printed and by hand), without what is not used. -/
import Derived.Test.YtlleokhmgblfnaaBEx16
set_option linter.unusedVariables false
set_option linter.unusedSimpArgs false
set_option linter.unusedSectionVars false
section
namespace Go.Proofs.Ytlleokhmgblfnaa.P
def cnt : Nat → (Int → Bool) → Nat
 | 0, _ => 0
 | n + 1, p => cnt n p + if p n then 1 else 0
theorem cnt_succ (n : Nat) (p : Int → Bool) : cnt (n + 1) p = cnt n p + if p n then 1 else 0 := rfl
theorem cnt_le (p : Int → Bool) : ∀ n, cnt n p ≤ n
 | 0 => Nat.le_refl _
 | n + 1 => by have := cnt_le p n; unfold cnt; split <;> omega
theorem cnt_congr {p q : Int → Bool} : ∀ n : Nat, (∀ i : Int, 0 ≤ i → i < n → p i = q i) → cnt n p = cnt n q
 | 0, _ => rfl
 | n + 1, h => by
  unfold cnt
  rw [cnt_congr n (fun i h0 h1 => h i h0 (by omega)), h n (by omega) (by omega)]
theorem cnt_mono {p q : Int → Bool} : ∀ n : Nat, (∀ i : Int, 0 ≤ i → i < n → p i = true → q i = true) → cnt n p ≤ cnt n q
 | 0, _ => Nat.le_refl _
 | n + 1, h => by
  unfold cnt
  have h1 := cnt_mono n (fun i h0 h1 => h i h0 (by omega))
  have h2 := h n (by omega) (by omega)
  by_cases hp : p n = true
  ·rw [if_pos hp, if_pos (h2 hp)]; omega
  ·rw [if_neg hp]; omega
theorem cnt_zero {p : Int → Bool} (n : Nat) (h : ∀ i : Int, 0 ≤ i → i < n → p i = false) : cnt n p = 0 := by
 induction n with
 | zero => rfl
 | succ n ih =>
  unfold cnt
  rw [ih (fun i h0 h1 => h i h0 (by omega)), h n (by omega) (by omega)]
  rfl
theorem cnt_all {p : Int → Bool} (n : Nat) (h : ∀ i : Int, 0 ≤ i → i < n → p i = true) : cnt n p = n := by
 induction n with
 | zero => rfl
 | succ n ih =>
  unfold cnt
  rw [ih (fun i h0 h1 => h i h0 (by omega)), h n (by omega) (by omega)]
  rfl
theorem cnt_not (p : Int → Bool) : ∀ n, cnt n p + cnt n (fun i => !p i) = n
 | 0 => rfl
 | n + 1 => by
  have := cnt_not p n
  unfold cnt
  cases hp : p n <;> simp [hp] <;> omega
theorem cnt_split (p q : Int → Bool) : ∀ n, cnt n p = cnt n (fun i => p i && q i) + cnt n (fun i => p i && !q i)
 | 0 => rfl
 | n + 1 => by
  have := cnt_split p q n
  unfold cnt
  cases hp : p n <;> cases hq : q n <;> simp [hp, hq] <;> omega
theorem cnt_out (p : Int → Bool) (j : Int) : ∀ n : Nat, 0 ≤ j → j < n → p j = true → cnt n p = cnt n (fun i => p i && i != j) + 1
 | 0, h0, h1, _ => by omega
 | n + 1, h0, h1, hp => by
  unfold cnt
  by_cases e : j = n
  ·subst e
   have : cnt n (fun i => p i && i != (n : Int)) = cnt n p := cnt_congr n (fun i h0 h1 => by
    have : (i != (n : Int)) = true := by simp; omega
    rw [this, Bool.and_true])
   rw [this, hp]
   simp
  ·have := cnt_out p j n h0 (by omega) hp
   rw [this]
   have e2 : (p n && (n : Int) != j) = p n := by
    have : ((n : Int) != j) = true := by simp; omega
    rw [this, Bool.and_true]
   show _ = cnt n (fun i => p i && i != j) + (if (p n && (n : Int) != j) = true then 1 else 0) + 1
   rw [e2]
   omega
theorem cnt_put (p : Int → Bool) (j : Int) (n : Nat) (h0 : 0 ≤ j) (h1 : j < n) (hp : p j = false) : cnt n (fun i => p i || i == j) = cnt n p + 1 := by
 rw [cnt_out (fun i => p i || i == j) j n h0 h1 (by simp)]
 congr 1
 refine cnt_congr n (fun i _ _ => ?_)
 by_cases e : i = j
 ·subst e; simp [hp]
 ·have : (i == j) = false := by simpa using e
  simp [this, e]
theorem cnt_inj {p : Int → Bool} (f : Int → Int) (m : Nat) : ∀ (n : Nat) (q : Int → Bool), (∀ i : Int, 0 ≤ i → i < n → p i = true → 0 ≤ f i ∧ f i < m ∧ q (f i) = true) →
  (∀ i j : Int, 0 ≤ i → i < n → 0 ≤ j → j < n → p i = true → p j = true → f i = f j → i = j) → cnt n p ≤ cnt m q
 | 0, _, _, _ => Nat.zero_le _
 | n + 1, q, h, hi => by
  rw [cnt_succ]
  by_cases hp : p n = true
  ·rw [if_pos hp]
   obtain ⟨a, b, c⟩ := h n (by omega) (by omega) hp
   rw [cnt_out q (f n) m a b c]
   have := cnt_inj f m n (fun i => q i && i != f n) (fun i h0 h1 hpi => by
    obtain ⟨a', b', c'⟩ := h i h0 (by omega) hpi
    refine ⟨a', b', ?_⟩
    have : f i ≠ f n := fun e => by have := hi i n h0 (by omega) (by omega) (by omega) hpi hp e; omega
    simp [c', this]) (fun i j a1 a2 a3 a4 a5 a6 a7 => hi i j a1 (by omega) a3 (by omega) a5 a6 a7)
   omega
  ·rw [if_neg hp]
   exact cnt_inj f m n q (fun i h0 h1 => h i h0 (by omega)) (fun i j a1 a2 a3 a4 => hi i j a1 (by omega) a3 (by omega))
structure IsM (n R : Nat) (Adj : Int → Int → Prop) (M : Int → Int) : Prop where
 lt : ∀ v : Int, 0 ≤ v → v < n → 0 ≤ M v → M v < R
 adj : ∀ v : Int, 0 ≤ v → v < n → 0 ≤ M v → Adj v (M v)
 inj : ∀ v v' : Int, 0 ≤ v → v < n → 0 ≤ v' → v' < n → 0 ≤ M v → M v = M v' → v = v'
def has (M : Int → Int) (v : Int) : Bool := decide (0 ≤ M v)
def msize (n : Nat) (M : Int → Int) : Nat := cnt n (has M)
structure IsMax (n R : Nat) (Adj : Int → Int → Prop) (s : Nat) : Prop where
 some : ∃ M, IsM n R Adj M ∧ msize n M = s
 all : ∀ M, IsM n R Adj M → msize n M ≤ s
theorem IsMax.eq {n R : Nat} {Adj : Int → Int → Prop} {s t : Nat} (h : IsMax n R Adj s) (k : IsMax n R Adj t) : s = t := by
 obtain ⟨M, hM, e⟩ := h.some
 obtain ⟨M', hM', e'⟩ := k.some
 have := h.all M' hM'
 have := k.all M hM
 omega
theorem cover_bound {n R : Nat} {Adj : Int → Int → Prop} {M : Int → Int} (h : IsM n R Adj M) (CL CR : Int → Bool) (hc : ∀ v w : Int, 0 ≤ v → v < n → 0 ≤ w → w < R → Adj v w → CL v = true ∨ CR w = true) :
  msize n M ≤ cnt n CL + cnt R CR := by
 unfold msize
 rw [cnt_split (has M) CL n]
 have h1 : cnt n (fun i => has M i && CL i) ≤ cnt n CL := cnt_mono n (fun i _ _ hi => by simp at hi; exact hi.2)
 have h2 : cnt n (fun i => has M i && !CL i) ≤ cnt R CR := by
  refine cnt_inj M R n CR (fun i h0 h1 hp => ?_) (fun i j a1 a2 a3 a4 a5 a6 a7 => ?_)
  ·simp [has] at hp
   refine ⟨hp.1, h.lt i h0 h1 hp.1, ?_⟩
   rcases hc i (M i) h0 h1 hp.1 (h.lt i h0 h1 hp.1) (h.adj i h0 h1 hp.1) with h3 | h3
   ·rw [hp.2] at h3; cases h3
   ·exact h3
  ·simp [has] at a5
   exact h.inj i j a1 a2 a3 a4 a5.1 a7
 omega
end Go.Proofs.Ytlleokhmgblfnaa.P
namespace Go.Proofs.Ytlleokhmgblfnaa.P
open Go.RowKit Go.Proofs.YtlleokhmgblfnaaW.PrintWords Go.Proofs.Ytlleokhmgblfnaa.H
theorem rd_set (xs : List Int) (i j y : Int) (h0 : 0 ≤ i) (h1 : i < xs.length) (hj : 0 ≤ j) : rd (xs.set i.toNat y) j = if j = i then y else rd xs j := by
 unfold rd
 rw [List.getD_eq_getElem?_getD, List.getD_eq_getElem?_getD, List.getElem?_set]
 by_cases e : j = i
 ·subst e
  rw [if_pos rfl, if_pos rfl, if_pos (by omega)]
  rfl
 ·rw [if_neg (by omega), if_neg e]
theorem rd_set_eq {xs : List Int} {i y : Int} (h0 : 0 ≤ i) (h1 : i < xs.length) : rd (xs.set i.toNat y) i = y := by rw [rd_set xs i i y h0 h1 h0, if_pos rfl]
theorem rd_set_ne {xs : List Int} {i j y : Int} (h0 : 0 ≤ i) (h1 : i < xs.length) (hj : 0 ≤ j) (hne : j ≠ i) : rd (xs.set i.toNat y) j = rd xs j := by rw [rd_set xs i j y h0 h1 hj, if_neg hne]
theorem rd_mem {xs : List Int} {i : Int} (h0 : 0 ≤ i) (h1 : i < xs.length) : rd xs i ∈ xs := by
 unfold rd
 rw [List.getD_eq_getElem?_getD, List.getElem?_eq_getElem (by omega)]
 exact List.getElem_mem _
theorem mem_rd {xs : List Int} {x : Int} (h : x ∈ xs) : ∃ i : Int, 0 ≤ i ∧ i < xs.length ∧ rd xs i = x := by
 obtain ⟨i, hi, e⟩ := List.getElem_of_mem h
 exact ⟨i, by omega, by omega, by simp [rd, hi, e]⟩
theorem extG_mono_k (next : List (List Int)) (v j : Int) (m b l : List Int) : ∀ k, LeO ((fun k => extG next k v j m b l) k) ((fun k => extG next k v j m b l) (k + 1)) := fun k => extG_mono next k v j m b l
def NV (next : List (List Int)) (R : Nat) : Prop := ∀ v : Int, 0 ≤ v → v < next.length → ∀ w ∈ rdL next v, 0 ≤ w ∧ w < R
structure Hole (next : List (List Int)) (R : Nat) (m b : List Int) (h : Int) : Prop where
 lm : m.length = next.length
 lb : b.length = R
 mm : ∀ v : Int, 0 ≤ v → v < next.length → 0 ≤ rd m v → rd m v < R ∧ rd m v ∈ rdL next v ∧ rd b (rd m v) = v ∧ rd m v ≠ h
 bb : ∀ w : Int, 0 ≤ w → w < R → w ≠ h → 0 ≤ rd b w → rd b w < next.length ∧ rd m (rd b w) = w
theorem Hole.fill {next : List (List Int)} {R : Nat} {m b : List Int} {w v : Int} (h : Hole next R m b w) (hv0 : 0 ≤ v) (hv1 : v < next.length) (hw0 : 0 ≤ w) (hw1 : w < R) (ha : w ∈ rdL next v) :
  Hole next R (m.set v.toNat w) (b.set w.toNat v) (rd m v) := by
 have l1 := h.lm
 have l2 := h.lb
 refine ⟨by rw [List.length_set]; exact l1, by rw [List.length_set]; exact l2, fun x hx0 hx1 hx => ?_, fun y hy0 hy1 hne hy => ?_⟩
 ·by_cases e : x = v
  ·subst e
   rw [rd_set_eq hx0 (by omega)] at hx ⊢
   refine ⟨hw1, ha, by rw [rd_set_eq hw0 (by omega)], fun e2 => ?_⟩
   exact (h.mm x hx0 hx1 (e2 ▸ hw0)).2.2.2 e2.symm
  ·rw [rd_set_ne hv0 (by omega) hx0 e] at hx ⊢
   obtain ⟨a1, a2, a3, a4⟩ := h.mm x hx0 hx1 hx
   refine ⟨a1, a2, by rw [rd_set_ne hw0 (by omega) hx a4]; exact a3, fun e2 => ?_⟩
   by_cases hv : 0 ≤ rd m v
   ·have := (h.mm v hv0 hv1 hv).2.2.1
    rw [← e2, a3] at this
    exact e this
   ·omega
 ·by_cases e : y = w
  ·subst e
   rw [rd_set_eq hy0 (by omega)] at hy ⊢
   exact ⟨hv1, by rw [rd_set_eq hv0 (by omega)]⟩
  ·rw [rd_set_ne hw0 (by omega) hy0 e] at hy ⊢
   obtain ⟨a1, a2⟩ := h.bb y hy0 hy1 e hy
   refine ⟨a1, ?_⟩
   rw [rd_set_ne hv0 (by omega) hy]
   ·exact a2
   ·intro e2
    rw [e2] at a2
    exact hne a2.symm
theorem Hole.other {next : List (List Int)} {R : Nat} {m b : List Int} {w : Int} (h : Hole next R m b (-1)) (hw0 : 0 ≤ w) (hw1 : w < R) (hb : rd b w < 0) : Hole next R m b w :=
 ⟨h.lm, h.lb, fun v a c d => ⟨(h.mm v a c d).1, (h.mm v a c d).2.1, (h.mm v a c d).2.2.1, fun e => by have := (h.mm v a c d).2.2.1; rw [e] at this; omega⟩, fun y a c _ d => h.bb y a c (by omega) d⟩
theorem Hole.neg {next : List (List Int)} {R : Nat} {m b : List Int} {w : Int} (h : Hole next R m b w) (hw : w < 0) : Hole next R m b (-1) :=
 ⟨h.lm, h.lb, fun v a c d => ⟨(h.mm v a c d).1, (h.mm v a c d).2.1, (h.mm v a c d).2.2.1, by omega⟩, fun y a c _ d => h.bb y a c (by omega) d⟩
def Base (n : Nat) (l0 l : List Int) : Prop := ∀ x : Int, 0 ≤ x → x < n → rd l x = rd l0 x ∨ rd l x = -1
def DC (next : List (List Int)) (b l0 l : List Int) : Prop :=
 ∀ x : Int, 0 ≤ x → x < next.length → 0 ≤ rd l0 x → rd l x = -1 → ∀ w ∈ rdL next x, 0 ≤ rd b w ∧ (rd l0 (rd b w) = rd l0 x + 1 → rd l (rd b w) = -1)
structure ExtSpec (next : List (List Int)) (R : Nat) (m b l : List Int) (v : Int) (q : Bool × List Int × List Int × List Int) : Prop where
 ll : q.2.2.2.length = next.length
 lv : ∀ x : Int, 0 ≤ x → x < next.length → rd q.2.2.2 x = rd l x ∨ (rd q.2.2.2 x = -1 ∧ (x = v ∨ rd l v < rd l x))
 ok : q.1 = true → Hole next R q.2.1 q.2.2.1 (rd m v) ∧ (∀ x : Int, 0 ≤ x → x < next.length → (0 ≤ rd q.2.1 x ↔ 0 ≤ rd m x ∨ x = v)) ∧ (∀ x : Int, 0 ≤ x → x < next.length → rd l x < rd l v → rd q.2.1 x = rd m x)
 no : q.1 = false → q.2.1 = m ∧ q.2.2.1 = b ∧ rd q.2.2.2 v = -1
 dc : q.1 = false → ∀ l0, Base next.length l0 l → DC next b l0 l → DC next b l0 q.2.2.2
theorem ext_spec {next : List (List Int)} {R : Nat} (hn : next.length ≤ 35184372088832) (hNV : NV next R) {m b : List Int} (hg : Hole next R m b (-1)) :
  ∀ (d : Nat) (v : Int) (l : List Int), 0 ≤ v → v < next.length → l.length = next.length → (∀ x : Int, 0 ≤ x → x < next.length → -1 ≤ rd l x ∧ rd l x ≤ next.length) → 0 ≤ rd l v → (next.length : Int) < rd l v + d →
   ∃ K q, extG next K v 0 m b l = some q ∧ ExtSpec next R m b l v q := by
 intro d
 induction d with
 | zero => intro v l h0 h1 h2 h3 h4 h5; have := h3 v h0 h1; omega
 | succ d ih =>
  intro v l hv0 hv1 hl hL hlv hd
  have wr : wrap64 (rd l v + 1) = rd l v + 1 := by have := hL v hv0 hv1; unfold wrap64; omega
  have key : ∀ (e : Nat) (j : Int) (l' : List Int), (rdL next v).length ≤ j + e → 0 ≤ j → l'.length = next.length → rd l' v = rd l v →
    (∀ x : Int, 0 ≤ x → x < next.length → rd l' x = rd l x ∨ (rd l' x = -1 ∧ rd l v < rd l x)) →
    (∀ j' : Int, 0 ≤ j' → j' < j → 0 ≤ rd b (rd (rdL next v) j')) →
    (∀ l0, Base next.length l0 l → DC next b l0 l → DC next b l0 l' ∧ (∀ j' : Int, 0 ≤ j' → j' < j → rd l0 (rd b (rd (rdL next v) j')) = rd l0 v + 1 → rd l' (rd b (rd (rdL next v) j')) = -1)) →
    ∃ K q, extG next K v j m b l' = some q ∧ ExtSpec next R m b l v q := by
   intro e
   induction e with
   | zero =>
    intro j l' he hj hl' hlv' hlx hs hp
    refine ⟨1, (false, m, b, l'.set v.toNat (-1)), by rw [extG, if_neg (by omega)], ?_⟩
    refine ⟨by simpa using hl', fun x h0 h1 => ?_, (fun h => by cases h), fun _ => ⟨rfl, rfl, rd_set_eq hv0 (by omega)⟩, fun _ l0 hb0 hd0 => ?_⟩
    ·by_cases ex : x = v
     ·subst ex
      exact .inr ⟨rd_set_eq h0 (by omega), .inl rfl⟩
     ·show rd (l'.set v.toNat (-1)) x = _ ∨ (rd (l'.set v.toNat (-1)) x = -1 ∧ _)
      rw [rd_set_ne hv0 (by omega) h0 ex]
      rcases hlx x h0 h1 with h | ⟨h, h'⟩
      ·exact .inl h
      ·exact .inr ⟨h, .inr h'⟩
    ·obtain ⟨p1, p2⟩ := hp l0 hb0 hd0
     intro x h0 h1 h2 h3 w hw
     show 0 ≤ rd b w ∧ (_ → rd (l'.set v.toNat (-1)) (rd b w) = -1)
     by_cases ex : x = v
     ·subst ex
      obtain ⟨i, i0, i1, rfl⟩ := mem_rd hw
      have hb := hs i i0 (by omega)
      refine ⟨hb, fun h4 => ?_⟩
      have h5 := p2 i i0 (by omega) h4
      by_cases ey : rd b (rd (rdL next x) i) = x
      ·rw [ey]; exact rd_set_eq h0 (by omega)
      ·rw [rd_set_ne h0 (by omega) hb ey]; exact h5
     ·have h3' : rd l' x = -1 := by
       have : rd (l'.set v.toNat (-1)) x = -1 := h3
       rwa [rd_set_ne hv0 (by omega) h0 ex] at this
      obtain ⟨hb, h5⟩ := p1 x h0 h1 h2 h3' w hw
      refine ⟨hb, fun h4 => ?_⟩
      by_cases ey : rd b w = v
      ·rw [ey]; exact rd_set_eq hv0 (by omega)
      ·rw [rd_set_ne hv0 (by omega) hb ey]; exact h5 h4
   | succ e ihe =>
    intro j l' he hj hl' hlv' hlx hs hp
    by_cases hlt : j < (rdL next v).length
    case neg => exact ihe j l' (by omega) hj hl' hlv' hlx hs hp
    obtain ⟨x, hx⟩ : ∃ x, rd (rdL next v) j = x := ⟨_, rfl⟩
    have hxm : x ∈ rdL next v := hx ▸ rd_mem hj hlt
    obtain ⟨hx0, hx1⟩ := hNV v hv0 hv1 x hxm
    obtain ⟨u, hu⟩ : ∃ u, rd b x = u := ⟨_, rfl⟩
    have hlb := hg.lb
    have hlm := hg.lm
    by_cases hu0 : u < 0
    ·refine ⟨1, (true, m.set v.toNat x, b.set x.toNat v, l'), by rw [extG, if_pos hlt, hx, if_pos hx0, if_pos (by omega), hu, if_pos hu0], ?_⟩
     refine ⟨hl', fun y h0 h1 => ?_, fun _ => ⟨(hg.other hx0 hx1 (by omega)).fill hv0 hv1 hx0 hx1 hxm, fun y h0 h1 => ?_, fun y h0 h1 h2 => ?_⟩, (fun h => by cases h), (fun h => by cases h)⟩
     ·rcases hlx y h0 h1 with h | ⟨h, h'⟩
      ·exact .inl h
      ·exact .inr ⟨h, .inr h'⟩
     ·show 0 ≤ rd (m.set v.toNat x) y ↔ _
      by_cases ey : y = v
      ·subst ey; rw [rd_set_eq h0 (by omega)]; simp [hx0]
      ·rw [rd_set_ne hv0 (by omega) h0 ey]; simp [ey]
     ·exact rd_set_ne hv0 (by omega) h0 (fun ey => by rw [ey] at h2; omega)
    have hu0' : 0 ≤ u := by omega
    obtain ⟨hun, hum⟩ := hg.bb x hx0 hx1 (by omega) (by omega)
    rw [hu] at hun hum
    by_cases hlu : rd l' u = wrap64 (rd l' v + 1)
    ·have hlu2 : rd l' u = rd l v + 1 := by rw [hlu, hlv', wr]
     have hL' : ∀ y : Int, 0 ≤ y → y < next.length → -1 ≤ rd l' y ∧ rd l' y ≤ next.length := fun y h0 h1 => by
      rcases hlx y h0 h1 with h | ⟨h, _⟩
      ·rw [h]; exact hL y h0 h1
      ·rw [h]; omega
     obtain ⟨K1, q, hq, S⟩ := ih u l' hu0' hun hl' hL' (by omega) (by omega)
     have hqx : ∀ y : Int, 0 ≤ y → y < next.length → rd q.2.2.2 y = rd l y ∨ (rd q.2.2.2 y = -1 ∧ rd l v < rd l y) := fun y h0 h1 => by
      rcases S.lv y h0 h1 with h | ⟨h, h' | h'⟩
      ·rw [h]; exact hlx y h0 h1
      ·rcases hlx y h0 h1 with h2 | ⟨h2, _⟩
       ·exact .inr ⟨h, by rw [h'] at h2 ⊢; omega⟩
       ·rw [h'] at h2; omega
      ·rcases hlx y h0 h1 with h2 | ⟨h2, _⟩
       ·exact .inr ⟨h, by omega⟩
       ·omega
     obtain ⟨q0, qm, qb, ql⟩ := q
     cases q0 with
     | true =>
      obtain ⟨s1, s2, s3⟩ := S.ok rfl
      refine ⟨K1 + 1, (true, qm.set v.toNat x, qb.set x.toNat v, ql), by rw [extG, if_pos hlt, hx, if_pos hx0, if_pos (by omega), hu, if_neg hu0, if_pos (by omega), if_pos hun, if_pos hlu, hq], ?_⟩
      rw [hum] at s1
      have e1 : rd qm v = rd m v := s3 v hv0 hv1 (by omega)
      have lqm : qm.length = next.length := s1.lm
      refine ⟨S.ll, fun y h0 h1 => ?_, fun _ => ⟨?_, fun y h0 h1 => ?_, fun y h0 h1 h2 => ?_⟩, (fun h => by cases h), (fun h => by cases h)⟩
      ·rcases hqx y h0 h1 with h | ⟨h, h'⟩
       ·exact .inl h
       ·exact .inr ⟨h, .inr h'⟩
      ·have := s1.fill hv0 hv1 hx0 hx1 hxm
       rw [e1] at this
       exact this
      ·show 0 ≤ rd (qm.set v.toNat x) y ↔ _
       by_cases ey : y = v
       ·subst ey; rw [rd_set_eq h0 (by omega)]; simp [hx0]
       ·rw [rd_set_ne hv0 (by omega) h0 ey, s2 y h0 h1]
        constructor
        ·rintro (h | h)
         ·exact .inl h
         ·subst h; exact .inl (by omega)
        ·rintro (h | h)
         ·exact .inl h
         ·exact absurd h ey
      ·have ey : y ≠ v := fun ey => by rw [ey] at h2; omega
       show rd (qm.set v.toNat x) y = _
       rw [rd_set_ne hv0 (by omega) h0 ey]
       refine s3 y h0 h1 ?_
       rcases hlx y h0 h1 with h | ⟨h, h'⟩
       ·omega
       ·omega
     | false =>
      obtain ⟨s1, s2, s3⟩ := S.no rfl
      have s1' : qm = m := s1
      have s2' : qb = b := s2
      subst s1' s2'
      have hqv : rd ql v = rd l v := by
       rcases hqx v hv0 hv1 with h | ⟨h, h'⟩
       ·exact h
       ·omega
      obtain ⟨K2, q2, hq2, S2⟩ := ihe (j + 1) ql (by omega) (by omega) S.ll hqv hqx
       (fun j' h0 h1 => by
        by_cases ej : j' = j
        ·subst ej; rw [hx, hu]; exact hu0'
        ·exact hs j' h0 (by omega))
       (fun l0 hb0 hd0 => by
        obtain ⟨p1, p2⟩ := hp l0 hb0 hd0
        have hb1 : Base next.length l0 l' := fun y h0 h1 => by
         rcases hlx y h0 h1 with h | ⟨h, _⟩
         ·rw [h]; exact hb0 y h0 h1
         ·exact .inr h
        refine ⟨S.dc rfl l0 hb1 p1, fun j' h0 h1 h2 => ?_⟩
        by_cases ej : j' = j
        ·subst ej; rw [hx, hu]; exact s3
        ·have h3 := p2 j' h0 (by omega) h2
         have hb3 := hs j' h0 (by omega)
         have hm3 : rd (rdL next v) j' ∈ rdL next v := rd_mem h0 (by omega)
         obtain ⟨w0, w1⟩ := hNV v hv0 hv1 _ hm3
         obtain ⟨b1, _⟩ := hg.bb _ w0 w1 (by omega) hb3
         rcases S.lv _ hb3 b1 with h | ⟨h, _⟩
         ·exact h.trans h3
         ·exact h)
      refine ⟨max K1 K2 + 1, q2, ?_, S2⟩
      have a1 := at_rounds (extG_mono_k next u 0 qm qb l') (Nat.le_max_left K1 K2) hq
      have a2 := at_rounds (extG_mono_k next v (j + 1) qm qb ql) (Nat.le_max_right K1 K2) hq2
      rw [extG, if_pos hlt, hx, if_pos hx0, if_pos (by omega), hu, if_neg hu0, if_pos (by omega), if_pos hun, if_pos hlu, a1]
      exact a2
    ·obtain ⟨K2, q2, hq2, S2⟩ := ihe (j + 1) l' (by omega) (by omega) hl' hlv' hlx
      (fun j' h0 h1 => by
       by_cases ej : j' = j
       ·subst ej; rw [hx, hu]; exact hu0'
       ·exact hs j' h0 (by omega))
      (fun l0 hb0 hd0 => by
       obtain ⟨p1, p2⟩ := hp l0 hb0 hd0
       refine ⟨p1, fun j' h0 h1 h2 => ?_⟩
       by_cases ej : j' = j
       ·subst ej
        rw [hx, hu] at h2 ⊢
        rw [hlv', wr] at hlu
        have b1 := hb0 u hu0' hun
        have b2 := hb0 v hv0 hv1
        have b3 := hlx u hu0' hun
        omega
       ·exact p2 j' h0 (by omega) h2)
     refine ⟨K2 + 1, q2, ?_, S2⟩
     rw [extG, if_pos hlt, hx, if_pos hx0, if_pos (by omega), hu, if_neg hu0, if_pos (by omega), if_pos hun, if_neg hlu]
     exact hq2
  exact key (rdL next v).length 0 l (by omega) (by omega) hl rfl (fun x _ _ => .inl rfl) (fun j' h0 h1 => by omega) (fun l0 hb hd => ⟨hd, fun j' h0 h1 => by omega⟩)
end Go.Proofs.Ytlleokhmgblfnaa.P
end

section
namespace Go.Proofs.Ytlleokhmgblfnaa.P
open Go.RowKit Go.Proofs.YtlleokhmgblfnaaW.PrintWords Go.Proofs.Ytlleokhmgblfnaa.H
theorem nodup_cnt (i : Nat) : ∀ q : List Int, q.Nodup → (∀ j ∈ q, 0 ≤ j ∧ j < i) → q.length ≤ cnt i (fun x => decide (x ∈ q))
 | [], _, _ => Nat.zero_le _
 | j :: q, hn, hr => by
  rw [List.nodup_cons] at hn
  have ih := nodup_cnt i q hn.2 (fun x hx => hr x (List.mem_cons_of_mem _ hx))
  have hj := hr j List.mem_cons_self
  have e := cnt_put (fun x => decide (x ∈ q)) j i hj.1 hj.2 (by simpa using hn.1)
  have e2 : cnt i (fun x => decide (x ∈ j :: q)) = cnt i (fun x => decide (x ∈ q) || x == j) := cnt_congr i (fun x _ _ => by
   by_cases h1 : x = j <;> by_cases h2 : x ∈ q <;> simp [h1, h2])
  rw [e2, e, List.length_cons]
  omega
theorem nodup_len {i : Nat} {q : List Int} (hn : q.Nodup) (hr : ∀ j ∈ q, 0 ≤ j ∧ j < i) : q.length ≤ i :=
 Nat.le_trans (nodup_cnt i q hn hr) (cnt_le _ _)
theorem miss_some (m : Int) (row : Int → Int) (a0 : Int) (h1 : a0 < m) (h2 : row a0 < 0) : ∀ (k : Nat) (c : Int), c ≤ a0 → m < c + k → ∃ a, missF m row k c = some a ∧ c ≤ a ∧ a < m ∧ row a < 0
 | 0, c, h, hk => by omega
 | k + 1, c, h, hk => by
  unfold missF
  rw [if_pos (by omega)]
  by_cases h3 : 0 ≤ row c
  ·rw [if_pos h3]
   have : c ≠ a0 := fun e => by subst e; omega
   obtain ⟨a, e1, e2, e3, e4⟩ := miss_some m row a0 h1 h2 k (c + 1) (by omega) (by omega)
   exact ⟨a, e1, by omega, e3, e4⟩
  ·rw [if_neg h3]
   exact ⟨c, rfl, by omega, by omega, by omega⟩
structure Gr (n m e L : Int) (X Y : Int → Int) : Prop where
 x0 : ∀ j, 0 ≤ j → j < e → 0 ≤ X j
 x1 : ∀ j, 0 ≤ j → j < e → X j < L
 y0 : ∀ j, 0 ≤ j → j < e → L ≤ Y j
 y1 : ∀ j, 0 ≤ j → j < e → Y j < n
structure Inv (n m : Int) (X Y : Int → Int) (i : Int) (T : Tab) (O : Int → Int) : Prop where
 col : ∀ j, 0 ≤ j → j < i → 0 ≤ O j ∧ O j < m
 row : ∀ v c, 0 ≤ v → v < n → 0 ≤ c → c < m → T v c = -1 ∨ (0 ≤ T v c ∧ T v c < i ∧ (X (T v c) = v ∨ Y (T v c) = v) ∧ O (T v c) = c)
 inX : ∀ j, 0 ≤ j → j < i → T (X j) (O j) = j
 inY : ∀ j, 0 ≤ j → j < i → T (Y j) (O j) = j
section
variable {n m e L i : Int} {X Y : Int → Int} {T : Tab} {O : Int → Int} {w a b : Int}
theorem Inv.at_ (h : Inv n m X Y i T O) {j v : Int} (j0 : 0 ≤ j) (j1 : j < i) (hv : X j = v ∨ Y j = v) : T v (O j) = j := by
 rcases hv with rfl | rfl
 ·exact h.inX j j0 j1
 ·exact h.inY j j0 j1
inductive Way (X Y : Int → Int) (T : Tab) (w a b : Int) : List Int → Int → Int → Prop
 | nil : Way X Y T w a b [] w a
 | cons {q : List Int} {u c j : Int} : Way X Y T w a b q u c → T u c = j → 0 ≤ j → Way X Y T w a b (j :: q) (X j + Y j - u) (a + b - c)
structure Set1 (n m e L i : Int) (X Y : Int → Int) (T : Tab) (O : Int → Int) (w a b : Int) : Prop where
 gr : Gr n m e L X Y
 inv : Inv n m X Y i T O
 ie : i ≤ e
 L0 : 0 ≤ L
 Ln : L ≤ n
 w0 : L ≤ w
 w1 : w < n
 a0 : 0 ≤ a
 a1 : a < m
 b0 : 0 ≤ b
 b1 : b < m
 ab : a ≠ b
 wb : T w b = -1
theorem Set1.edge (s : Set1 n m e L i X Y T O w a b) {u c : Int} (u0 : 0 ≤ u) (u1 : u < n) (c0 : 0 ≤ c) (c1 : c < m) (h : 0 ≤ T u c) : T u c < i ∧ (X (T u c) = u ∨ Y (T u c) = u) ∧ O (T u c) = c := by
 rcases s.inv.row u c u0 u1 c0 c1 with h1 | h1
 ·omega
 ·exact h1.2
theorem Way.side (s : Set1 n m e L i X Y T O w a b) {q : List Int} {u c : Int} (h : Way X Y T w a b q u c) : (c = a ∧ L ≤ u ∧ u < n) ∨ (c = b ∧ 0 ≤ u ∧ u < L) := by
 induction h with
 | nil => exact .inl ⟨rfl, s.w0, s.w1⟩
 | @cons q u c j h hj j0 ih =>
  have L0 := s.L0
  have Ln := s.Ln
  have hs : 0 ≤ u ∧ u < n ∧ 0 ≤ c ∧ c < m := by
   have := s.a0; have := s.a1; have := s.b0; have := s.b1
   omega
  have he := s.edge hs.1 hs.2.1 hs.2.2.1 hs.2.2.2 (by rw [hj]; exact j0)
  rw [hj] at he
  have ie := s.ie
  have x0 := s.gr.x0 j j0 (by omega)
  have x1 := s.gr.x1 j j0 (by omega)
  have y0 := s.gr.y0 j j0 (by omega)
  have y1 := s.gr.y1 j j0 (by omega)
  omega
theorem Way.rng (s : Set1 n m e L i X Y T O w a b) {q : List Int} {u c : Int} (h : Way X Y T w a b q u c) : 0 ≤ u ∧ u < n ∧ 0 ≤ c ∧ c < m := by
 have := h.side s
 have := s.L0; have := s.Ln; have := s.a0; have := s.a1; have := s.b0; have := s.b1
 omega
theorem Way.came (s : Set1 n m e L i X Y T O w a b) {q : List Int} {u c : Int} (h : Way X Y T w a b q u c) : (q = [] ∧ u = w ∧ c = a) ∨ ∃ j q', q = j :: q' ∧ 0 ≤ j ∧ j < i ∧ T u (a + b - c) = j := by
 cases h with
 | nil => exact .inl ⟨rfl, rfl, rfl⟩
 | @cons q u c j h hj j0 =>
  have hs := h.rng s
  have he := s.edge hs.1 hs.2.1 hs.2.2.1 hs.2.2.2 (by rw [hj]; exact j0)
  rw [hj] at he
  refine .inr ⟨j, q, rfl, j0, he.1, ?_⟩
  have h2 := s.inv.at_ (v := X j + Y j - u) j0 he.1 (by omega)
  rw [he.2.2] at h2
  rw [show a + b - (a + b - c) = c by omega]
  exact h2
theorem Way.one (s : Set1 n m e L i X Y T O w a b) : ∀ {q q' : List Int} {u c : Int}, Way X Y T w a b q u c → Way X Y T w a b q' u c → q = q' := by
 intro q
 induction q with
 | nil =>
  intro q' u c h h'
  cases h with
  | nil =>
   rcases h'.came s with h2 | ⟨j, q2, e, j0, j1, ht⟩
   ·exact h2.1.symm
   ·rw [show a + b - a = b by omega, s.wb] at ht; omega
 | cons j q ih =>
  intro q' u c h h'
  rcases h.came s with h2 | ⟨j1, q1, e1, p0, p1, t1⟩
  ·cases h2.1
  ·rcases h'.came s with h3 | ⟨j2, q2, e2, r0, r1, t2⟩
   ·obtain ⟨_, rfl, rfl⟩ := h3
    rw [show c + b - c = b by omega, s.wb] at t1; omega
   ·have ej : j1 = j2 := t1.symm.trans t2
    subst ej
    cases e1
    subst e2
    generalize hu : u = u1 at h
    generalize hc : c = c1 at h
    cases h with
    | @cons _ u3 c3 _ h4 hj4 _ =>
     generalize hu' : u = u2 at h'
     generalize hc' : c = c2 at h'
     cases h' with
     | @cons _ u5 c5 _ h6 hj6 _ =>
      have eu : u5 = u3 := by omega
      have ec : c5 = c3 := by omega
      subst eu ec
      rw [ih h4 h6]
theorem Way.part {q : List Int} {u c : Int} (h : Way X Y T w a b q u c) : ∀ j ∈ q, ∃ q0 u0 c0, q0.length < q.length ∧ Way X Y T w a b q0 u0 c0 ∧ T u0 c0 = j ∧ 0 ≤ j := by
 induction h with
 | nil => intro j hj; cases hj
 | @cons q u c j0 h hj j00 ih =>
  intro j hjm
  rcases List.mem_cons.1 hjm with rfl | hjm
  ·exact ⟨q, u, c, by simp, h, hj, j00⟩
  ·obtain ⟨q0, u0, c0, h1, h2, h3, h4⟩ := ih j hjm
   exact ⟨q0, u0, c0, by simp; omega, h2, h3, h4⟩
theorem Way.edge (s : Set1 n m e L i X Y T O w a b) {q : List Int} {u c : Int} (h : Way X Y T w a b q u c) : ∀ j ∈ q, 0 ≤ j ∧ j < i ∧ (O j = a ∨ O j = b) := by
 intro j hj
 obtain ⟨q0, u0, c0, h1, h2, h3, h4⟩ := h.part j hj
 have hs := h2.rng s
 have he := s.edge hs.1 hs.2.1 hs.2.2.1 hs.2.2.2 (by rw [h3]; exact h4)
 rw [h3] at he
 have := h2.side s
 omega
theorem Way.fresh (s : Set1 n m e L i X Y T O w a b) {q : List Int} {u c : Int} (h : Way X Y T w a b q u c) (hj : 0 ≤ T u c) : T u c ∉ q := by
 intro hm
 obtain ⟨q0, u0, c0, h1, h2, h3, h4⟩ := h.part _ hm
 have hs := h.rng s
 have hs0 := h2.rng s
 have he := s.edge hs.1 hs.2.1 hs.2.2.1 hs.2.2.2 hj
 have he0 := s.edge hs0.1 hs0.2.1 hs0.2.2.1 hs0.2.2.2 (by rw [h3]; exact h4)
 rw [h3] at he0
 have ec : c0 = c := by omega
 have s1 := h.side s
 have s2 := h2.side s
 have ie := s.ie
 have x0 := s.gr.x0 _ h4 (by omega)
 have x1 := s.gr.x1 _ h4 (by omega)
 have y0 := s.gr.y0 _ h4 (by omega)
 have ab := s.ab
 have eu : u0 = u := by omega
 subst ec eu
 rw [h2.one s h] at h1
 omega
theorem Way.nodup (s : Set1 n m e L i X Y T O w a b) {q : List Int} {u c : Int} (h : Way X Y T w a b q u c) : q.Nodup := by
 induction h with
 | nil => exact List.nodup_nil
 | @cons q u c j h hj j0 ih =>
  rw [List.nodup_cons]
  refine ⟨?_, ih⟩
  rw [← hj]
  exact h.fresh s (by rw [hj]; exact j0)
theorem Way.shut (s : Set1 n m e L i X Y T O w a b) {q : List Int} {u c : Int} (h : Way X Y T w a b q u c) : ∀ j ∈ q, ∀ z, (X j = z ∨ Y j = z) → T z (a + b - O j) = -1 ∨ T z (a + b - O j) ∈ q ∨ (z = u ∧ a + b - O j = c) := by
 induction h with
 | nil => intro j hj; cases hj
 | @cons q u c j0 h hj j00 ih =>
  intro j hjm z hz
  have hs := h.rng s
  have he := s.edge hs.1 hs.2.1 hs.2.2.1 hs.2.2.2 (by rw [hj]; exact j00)
  rw [hj] at he
  rcases List.mem_cons.1 hjm with rfl | hjm
  ·rw [he.2.2]
   by_cases e : z = u
   ·subst e
    rcases h.came s with ⟨_, rfl, rfl⟩ | ⟨j1, q1, rfl, p0, p1, t1⟩
    ·left; rw [show c + b - c = b by omega]; exact s.wb
    ·right; left; rw [t1]; simp
   ·right; right
    have ie := s.ie
    have x1 := s.gr.x1 _ j00 (by omega)
    have y0 := s.gr.y0 _ j00 (by omega)
    omega
  ·rcases ih j hjm z hz with h1 | h1 | ⟨h1, h2⟩
   ·exact .inl h1
   ·exact .inr (.inl (List.mem_cons_of_mem _ h1))
   ·right; left
    rw [h2, h1, hj]
    exact List.mem_cons_self
theorem Way.left (s : Set1 n m e L i X Y T O w a b) {q : List Int} {u c : Int} (h : Way X Y T w a b q u c) : ∀ j ∈ q, O j = b → 0 ≤ T (X j) a := by
 intro j hj ho
 obtain ⟨q0, u0, c0, h1, h2, h3, h4⟩ := h.part j hj
 have hs := h2.rng s
 have he := s.edge hs.1 hs.2.1 hs.2.2.1 hs.2.2.2 (by rw [h3]; exact h4)
 rw [h3] at he
 have ab := s.ab
 have ie := s.ie
 have x1 := s.gr.x1 _ h4 (by omega)
 have y0 := s.gr.y0 _ h4 (by omega)
 have eu : X j = u0 := by have := h2.side s; omega
 rcases h2.came s with ⟨_, _, hc⟩ | ⟨j1, q1, e1, p0, p1, t1⟩
 ·omega
 ·rw [show a + b - c0 = a by omega] at t1
  rw [eu, t1]; exact p0
theorem Way.first (s : Set1 n m e L i X Y T O w a b) {q : List Int} {u c : Int} (h : Way X Y T w a b q u c) : q = [] ∧ u = w ∧ c = a ∨ T w a ∈ q := by
 induction h with
 | nil => exact .inl ⟨rfl, rfl, rfl⟩
 | @cons q u c j0 h hj j00 ih =>
  right
  rcases ih with ⟨rfl, rfl, rfl⟩ | h1
  ·rw [hj]; exact List.mem_cons_self
  ·exact List.mem_cons_of_mem _ h1
theorem path_ok (s : Set1 n m e L i X Y T O w a b) (he : e ≤ 65536) (hi : 0 ≤ i) : ∀ (k : Nat) (q : List Int) (u c : Int), Way X Y T w a b q u c → i < q.length + k →
  ∃ q' u' c', pathF n m e X Y (a + b) T k u c q.reverse = some q'.reverse ∧ Way X Y T w a b q' u' c' ∧ T u' c' < 0
 | 0, q, u, c, h, hk => by
  have := nodup_len (i := i.toNat) (h.nodup s) (fun j hj => by have := h.edge s j hj; omega)
  omega
 | k + 1, q, u, c, h, hk => by
  have hs := h.rng s
  unfold pathF
  rw [if_pos hs]
  by_cases hj : 0 ≤ T u c
  ·rw [if_pos hj]
   have hed := s.edge hs.1 hs.2.1 hs.2.2.1 hs.2.2.2 hj
   have h2 : Way X Y T w a b (T u c :: q) (X (T u c) + Y (T u c) - u) (a + b - c) := .cons h rfl hj
   have hlen := nodup_len (i := i.toNat) (h2.nodup s) (fun j hj => by have := h2.edge s j hj; omega)
   have ie := s.ie
   rw [List.length_cons] at hlen
   rw [if_pos ⟨by omega, by rw [List.length_reverse]; omega⟩, show q.reverse ++ [T u c] = (T u c :: q).reverse by simp]
   exact path_ok s he hi k _ _ _ h2 (by rw [List.length_cons]; omega)
  ·rw [if_neg hj]
   exact ⟨q, u, c, rfl, h, by omega⟩
end
end Go.Proofs.Ytlleokhmgblfnaa.P
end

section
namespace Go.Proofs.Ytlleokhmgblfnaa.P
open Go.RowKit Go.Proofs.YtlleokhmgblfnaaW.PrintWords Go.Proofs.Ytlleokhmgblfnaa.H
section
variable {n m e L i : Int} {X Y : Int → Int} {T : Tab} {O : Int → Int} {w a b : Int}
theorem upd2 (T : Tab) (x y c j v d : Int) : upd (upd T x c j) y c j v d = if (x = v ∨ y = v) ∧ c = d then j else T v d := by
 unfold upd
 by_cases h1 : v = y ∧ d = c
 ·rw [if_pos h1, if_pos ⟨.inr h1.1.symm, h1.2.symm⟩]
 ·rw [if_neg h1]
  by_cases h2 : v = x ∧ d = c
  ·rw [if_pos h2, if_pos ⟨.inl h2.1.symm, h2.2.symm⟩]
  ·rw [if_neg h2, if_neg (fun h => h.1.elim (fun h3 => h2 ⟨h3.symm, h.2.symm⟩) (fun h3 => h1 ⟨h3.symm, h.2.symm⟩))]
theorem clear_ok : ∀ (p : List Int) (T : Tab), (∀ j ∈ p, 0 ≤ j ∧ j < e ∧ 0 ≤ O j ∧ O j < m) →
  ∃ T2, clearF m e X Y O p T = some T2 ∧ ∀ v c, T2 v c = T v c ∧ (∀ j ∈ p, ¬ ((X j = v ∨ Y j = v) ∧ O j = c)) ∨ T2 v c = -1 ∧ (∃ j ∈ p, (X j = v ∨ Y j = v) ∧ O j = c)
 | [], T, _ => ⟨T, rfl, fun v c => .inl ⟨rfl, fun j hj => by cases hj⟩⟩
 | j :: p, T, h => by
  have hj := h j List.mem_cons_self
  obtain ⟨T2, h1, h2⟩ := clear_ok p (upd (upd T (X j) (O j) (-1)) (Y j) (O j) (-1)) (fun x hx => h x (List.mem_cons_of_mem _ hx))
  refine ⟨T2, ?_, fun v c => ?_⟩
  ·unfold clearF
   rw [if_pos hj]
   exact h1
  ·rcases h2 v c with ⟨h3, h4⟩ | ⟨h3, j', h4, h5⟩
   ·rw [upd2] at h3
    by_cases h6 : (X j = v ∨ Y j = v) ∧ O j = c
    ·rw [if_pos h6] at h3
     exact .inr ⟨h3, j, List.mem_cons_self, h6⟩
    ·rw [if_neg h6] at h3
     refine .inl ⟨h3, fun x hx => ?_⟩
     rcases List.mem_cons.1 hx with rfl | hx
     ·exact h6
     ·exact h4 x hx
   ·exact .inr ⟨h3, j', List.mem_cons_of_mem _ h4, h5⟩
theorem set_ok (s : Int) : ∀ (p : List Int) (T : Tab) (O : Int → Int), p.Nodup → (∀ j ∈ p, 0 ≤ j ∧ j < e ∧ 0 ≤ O j ∧ O j < m ∧ 0 ≤ s - O j ∧ s - O j < m) →
  (∀ j ∈ p, ∀ j' ∈ p, ∀ v, (X j = v ∨ Y j = v) → (X j' = v ∨ Y j' = v) → O j = O j' → j = j') →
  ∃ T3 O3, setF m e X Y s p T O = some (T3, O3) ∧ (∀ j, j ∉ p → O3 j = O j) ∧ (∀ j ∈ p, O3 j = s - O j) ∧
   (∀ v c, T3 v c = T v c ∧ (∀ j ∈ p, ¬ ((X j = v ∨ Y j = v) ∧ s - O j = c)) ∨ ∃ j ∈ p, (X j = v ∨ Y j = v) ∧ s - O j = c ∧ T3 v c = j)
 | [], T, O, _, _, _ => ⟨T, O, rfl, fun j _ => rfl, fun j hj => absurd hj List.not_mem_nil, fun v c => .inl ⟨rfl, fun j hj => absurd hj List.not_mem_nil⟩⟩
 | j :: p, T, O, hn, h, hu => by
  rw [List.nodup_cons] at hn
  have hj := h j List.mem_cons_self
  have hO : ∀ x, x ∈ p → updO O j (s - O j) x = O x := fun x hx => by
   unfold updO
   rw [if_neg (fun h => hn.1 (by rw [← h]; exact hx))]
  obtain ⟨T3, O3, h1, h2, h3, h4⟩ := set_ok s p (upd (upd T (X j) (s - O j) j) (Y j) (s - O j) j) (updO O j (s - O j)) hn.2
   (fun x hx => by rw [hO x hx]; exact h x (List.mem_cons_of_mem _ hx))
   (fun x hx x' hx' v hv hv' he => hu x (List.mem_cons_of_mem _ hx) x' (List.mem_cons_of_mem _ hx') v hv hv' (by rw [hO x hx, hO x' hx'] at he; exact he))
  refine ⟨T3, O3, ?_, fun x hx => ?_, fun x hx => ?_, fun v c => ?_⟩
  ·unfold setF
   rw [if_pos hj]
   exact h1
  ·rw [h2 x (fun hp => hx (List.mem_cons_of_mem _ hp))]
   unfold updO
   rw [if_neg (fun e => hx (by rw [e]; exact List.mem_cons_self))]
  ·rcases List.mem_cons.1 hx with rfl | hx
   ·rw [h2 x hn.1]
    unfold updO
    rw [if_pos rfl]
   ·rw [h3 x hx, hO x hx]
  ·rcases h4 v c with ⟨h5, h6⟩ | ⟨j', h5, h6, h7, h8⟩
   ·rw [upd2] at h5
    by_cases h9 : (X j = v ∨ Y j = v) ∧ s - O j = c
    ·rw [if_pos h9] at h5
     exact .inr ⟨j, List.mem_cons_self, h9.1, h9.2, h5⟩
    ·rw [if_neg h9] at h5
     refine .inl ⟨h5, fun x hx => ?_⟩
     rcases List.mem_cons.1 hx with rfl | hx
     ·exact h9
     ·have := h6 x hx
      rw [hO x hx] at this
      exact this
   ·rw [hO j' h5] at h7
    exact .inr ⟨j', List.mem_cons_of_mem _ h5, h6, h7, h8⟩
theorem flip_in {q qr : List Int} {T2 T3 : Tab} {O3 : Int → Int} (s : Set1 n m e L i X Y T O w a b) (hed : ∀ j ∈ q, 0 ≤ j ∧ j < i ∧ (O j = a ∨ O j = b)) (hmem : ∀ j, j ∈ qr ↔ j ∈ q)
  (one : ∀ j, 0 ≤ j → j < i → ∀ j', 0 ≤ j' → j' < i → ∀ v, (X j = v ∨ Y j = v) → (X j' = v ∨ Y j' = v) → O j = O j' → j = j')
  (shut2 : ∀ j ∈ q, ∀ z, (X j = z ∨ Y j = z) → T z (a + b - O j) = -1 ∨ T z (a + b - O j) ∈ q)
  (hT2 : ∀ v c, T2 v c = T v c ∧ (∀ j ∈ qr, ¬ ((X j = v ∨ Y j = v) ∧ O j = c)) ∨ T2 v c = -1 ∧ (∃ j ∈ qr, (X j = v ∨ Y j = v) ∧ O j = c))
  (hO1 : ∀ j, j ∉ qr → O3 j = O j) (hO2 : ∀ j ∈ qr, O3 j = a + b - O j)
  (hT3 : ∀ v c, T3 v c = T2 v c ∧ (∀ j ∈ qr, ¬ ((X j = v ∨ Y j = v) ∧ a + b - O j = c)) ∨ ∃ j ∈ qr, (X j = v ∨ Y j = v) ∧ a + b - O j = c ∧ T3 v c = j) :
  ∀ j, 0 ≤ j → j < i → ∀ v, (X j = v ∨ Y j = v) → T3 v (O3 j) = j := by
 intro j j0 j1 v hv
 by_cases hj : j ∈ q
 ·have hjr := (hmem j).2 hj
  rw [hO2 j hjr]
  rcases hT3 v (a + b - O j) with ⟨_, h5⟩ | ⟨j', h4, h5, h6, h7⟩
  ·exact absurd ⟨hv, rfl⟩ (h5 j hjr)
  ·rw [h7]
   have hj' := hed j' ((hmem j').1 h4)
   exact one j' hj'.1 hj'.2.1 j j0 j1 v h5 hv (by omega)
 ·have hjr : j ∉ qr := fun h => hj ((hmem j).1 h)
  rw [hO1 j hjr]
  have e1 := s.inv.at_ j0 j1 hv
  rcases hT3 v (O j) with ⟨h4, h5⟩ | ⟨j', h4, h5, h6, h7⟩
  ·rw [h4]
   rcases hT2 v (O j) with ⟨h6, h7⟩ | ⟨h6, j', h7, h8, h9⟩
   ·rw [h6]; exact e1
   ·have hj' := hed j' ((hmem j').1 h7)
    have := one j' hj'.1 hj'.2.1 j j0 j1 v h8 hv h9
    exact absurd (this ▸ h7) hjr
  ·have hj' := hed j' ((hmem j').1 h4)
   rcases shut2 j' ((hmem j').1 h4) v h5 with h8 | h8
   ·rw [h6, e1] at h8; omega
   ·rw [h6, e1] at h8; exact absurd h8 hj
theorem flip_ok (s : Set1 n m e L i X Y T O w a b) (he : e ≤ 65536) (hi : 0 ≤ i) (K : Nat) (hK : i < K) :
  ∃ T3 O3, flipF n m e X Y K T O w a b = some (T3, O3) ∧ Inv n m X Y i T3 O3 ∧ T3 w a = -1 ∧ ∀ v, 0 ≤ v → v < L → T v a = -1 → T3 v a = -1 := by
 obtain ⟨q, u, c, h1, hw, hend⟩ := path_ok s he hi K [] w a .nil (by simpa using hK)
 have hed := hw.edge s
 have hshut := hw.shut s
 have hleft := hw.left s
 have hrng := hw.rng s
 have huc : T u c = -1 := by
  rcases s.inv.row u c hrng.1 hrng.2.1 hrng.2.2.1 hrng.2.2.2 with h | h
  ·exact h
  ·omega
 have nd := hw.nodup s
 have ie := s.ie
 have a0 := s.a0
 have a1 := s.a1
 have b0 := s.b0
 have b1 := s.b1
 have ab := s.ab
 have hmem : ∀ j, j ∈ q.reverse ↔ j ∈ q := fun j => List.mem_reverse
 have one : ∀ j, 0 ≤ j → j < i → ∀ j', 0 ≤ j' → j' < i → ∀ v, (X j = v ∨ Y j = v) → (X j' = v ∨ Y j' = v) → O j = O j' → j = j' := fun j p0 p1 j' r0 r1 v hv hv' ho => by
  have e1 := s.inv.at_ p0 p1 hv
  have e2 := s.inv.at_ r0 r1 hv'
  rw [← e1, ← e2, ho]
 obtain ⟨T2, h2, hT2⟩ := clear_ok (m := m) (e := e) (X := X) (Y := Y) (O := O) q.reverse T (fun j hj => by have := hed j ((hmem j).1 hj); omega)
 obtain ⟨T3, O3, h3, hO1, hO2, hT3⟩ := set_ok (m := m) (e := e) (X := X) (Y := Y) (a + b) q.reverse T2 O (List.pairwise_reverse.2 (nd.imp fun h => h.symm)) (fun j hj => by have := hed j ((hmem j).1 hj); omega)
  (fun j hj j' hj' v hv hv' ho => one j (hed j ((hmem j).1 hj)).1 (hed j ((hmem j).1 hj)).2.1 j' (hed j' ((hmem j').1 hj')).1 (hed j' ((hmem j').1 hj')).2.1 v hv hv' ho)
 have shut2 : ∀ j ∈ q, ∀ z, (X j = z ∨ Y j = z) → T z (a + b - O j) = -1 ∨ T z (a + b - O j) ∈ q := fun j hj z hz => by
  rcases hshut j hj z hz with h | h | ⟨rfl, h⟩
  ·exact .inl h
  ·exact .inr h
  ·left; rw [h]; exact huc
 refine ⟨T3, O3, ?_, ⟨fun j j0 j1 => ?_, fun v d v0 v1 d0 d1 => ?_, ?_, ?_⟩, ?_, fun v v0 v1 hv => ?_⟩
 ·unfold flipF
  rw [show (([] : List Int)) = [].reverse by rfl, h1]
  simp only [Option.bind_some]
  rw [h2]
  exact h3
 ·by_cases hj : j ∈ q
  ·rw [hO2 j ((hmem j).2 hj)]
   have := hed j hj
   omega
  ·rw [hO1 j (fun h => hj ((hmem j).1 h))]
   exact s.inv.col j j0 j1
 ·rcases hT3 v d with ⟨h4, h5⟩ | ⟨j, h4, h5, h6, h7⟩
  ·rcases hT2 v d with ⟨h6, h7⟩ | ⟨h6, _⟩
   ·rw [h4, h6]
    rcases s.inv.row v d v0 v1 d0 d1 with h8 | ⟨h8, h9, h10, h11⟩
    ·exact .inl h8
    ·refine .inr ⟨h8, h9, h10, ?_⟩
     rw [hO1 _ (fun h => h7 _ h ⟨h10, h11⟩)]
     exact h11
   ·rw [h4, h6]; exact .inl rfl
  ·have hj := hed j ((hmem j).1 h4)
   rw [h7]
   exact .inr ⟨hj.1, hj.2.1, h5, by rw [hO2 j h4]; exact h6⟩
 ·intro j j0 j1
  exact flip_in s hed hmem one shut2 hT2 hO1 hO2 hT3 j j0 j1 (X j) (.inl rfl)
 ·intro j j0 j1
  exact flip_in s hed hmem one shut2 hT2 hO1 hO2 hT3 j j0 j1 (Y j) (.inr rfl)
 ·rcases hT3 w a with ⟨h4, h5⟩ | ⟨j, h4, h5, h6, h7⟩
  ·rw [h4]
   rcases hT2 w a with ⟨h6, h7⟩ | ⟨h6, _⟩
   ·rw [h6]
    rcases hw.first s with ⟨rfl, rfl, rfl⟩ | hm
    ·exact huc
    ·have hj := hed _ hm
     have hwr : T w a < i ∧ (X (T w a) = w ∨ Y (T w a) = w) ∧ O (T w a) = a := s.edge (by have := s.L0; have := s.w0; omega) s.w1 a0 a1 hj.1
     exact absurd hwr.2 (h7 _ ((hmem _).2 hm))
   ·exact h6
  ·have hj := hed j ((hmem j).1 h4)
   have e1 := s.inv.at_ hj.1 hj.2.1 h5
   rw [show O j = b by omega, s.wb] at e1
   omega
 ·rcases hT3 v a with ⟨h4, h5⟩ | ⟨j, h4, h5, h6, h7⟩
  ·rw [h4]
   rcases hT2 v a with ⟨h6, _⟩ | ⟨h6, _⟩
   ·rw [h6]; exact hv
   ·exact h6
  ·have hj := hed j ((hmem j).1 h4)
   have hb : O j = b := by omega
   have := hleft j ((hmem j).1 h4) hb
   have y0 := s.gr.y0 j hj.1 (by omega)
   have ex : X j = v := by omega
   rw [ex, hv] at this
   omega
end
end Go.Proofs.Ytlleokhmgblfnaa.P
end

section
namespace Go.Proofs.Ytlleokhmgblfnaa.P
open Go.RowKit Go.Proofs.YtlleokhmgblfnaaW.PrintWords Go.Proofs.Ytlleokhmgblfnaa.H
def inc (X Y : Int → Int) (v : Int) : Int → Bool := fun j => decide (X j = v ∨ Y j = v)
theorem cnt_up (p : Int → Bool) {i k : Nat} (h : i ≤ k) : cnt i p ≤ cnt k p := by
  induction k with
  | zero => have : i = 0 := by omega
            subst this; exact Nat.le_refl _
  | succ k ih =>
    by_cases e : i = k + 1
    · rw [e]; exact Nat.le_refl _
    · rw [cnt_succ]; have := ih (by omega); omega
section
variable {n m L : Int} {e : Nat} {X Y : Int → Int} {T : Tab} {O : Int → Int} {a b : Int}
theorem lack {i : Nat} (h : Inv n m X Y i T O) (hi : i < e) (hm : 0 ≤ m) {v : Int} (v0 : 0 ≤ v) (v1 : v < n) (hv : X i = v ∨ Y i = v) (hd : (cnt e (inc X Y v) : Int) ≤ m) : ∃ c, 0 ≤ c ∧ c < m ∧ T v c < 0 := by
  apply Classical.byContradiction
  intro hn
  have all : ∀ c, 0 ≤ c → c < m → 0 ≤ T v c ∧ T v c < i ∧ (X (T v c) = v ∨ Y (T v c) = v) ∧ O (T v c) = c := fun c c0 c1 => by
    rcases h.row v c v0 v1 c0 c1 with h1 | h1
    · exact absurd ⟨c, c0, c1, by omega⟩ hn
    · exact h1
  have h1 := cnt_inj (p := fun _ => true) (fun c => T v c) i m.toNat (inc X Y v) (fun c c0 c1 _ => by
      have := all c c0 (by omega)
      exact ⟨this.1, this.2.1, by unfold inc; simpa using this.2.2.1⟩)
    (fun c d c0 c1 d0 d1 _ _ hcd => by
      have e1 := (all c c0 (by omega)).2.2.2
      have e2 := (all d d0 (by omega)).2.2.2
      have hcd' : T v c = T v d := hcd
      rw [← e1, ← e2, hcd'])
  rw [cnt_all m.toNat (fun _ _ _ => rfl)] at h1
  have h2 := cnt_up (inc X Y v) (show i + 1 ≤ e by omega)
  have h3 : inc X Y v (i : Int) = true := by unfold inc; simpa using hv
  rw [cnt_succ, h3] at h2
  simp only [if_true] at h2
  omega
theorem next_ok {i : Nat} (g : Gr n m e L X Y) (h : Inv n m X Y i T O) (hi : i < e) (a0 : 0 ≤ a) (a1 : a < m) (hx : T (X i) a = -1) (hy : T (Y i) a = -1) :
    Inv n m X Y ((i : Int) + 1) (upd (upd T (X i) a i) (Y i) a i) (updO O i a) := by
  have nv : ∀ j : Int, 0 ≤ j → j < i → ∀ v, (X j = v ∨ Y j = v) → ¬ ((X i = v ∨ Y i = v) ∧ a = O j) := fun j j0 j1 v hv hc => by
    have e1 := h.at_ j0 j1 hv
    rw [← hc.2] at e1
    rcases hc.1 with rfl | rfl <;> omega
  have old : ∀ j : Int, j < i → updO O i a j = O j := fun j hj => by unfold updO; rw [if_neg (by omega)]
  have new : updO O i a i = a := by unfold updO; rw [if_pos rfl]
  have key : ∀ j : Int, 0 ≤ j → j < (i : Int) + 1 → ∀ v, (X j = v ∨ Y j = v) → upd (upd T (X i) a i) (Y i) a i v (updO O i a j) = j := fun j j0 j1 v hv => by
    rw [upd2]
    by_cases hj : j = i
    · subst hj
      rw [new, if_pos ⟨hv, rfl⟩]
    · rw [old j (by omega), if_neg (nv j j0 (by omega) v hv)]
      exact h.at_ j0 (by omega) hv
  refine ⟨fun j j0 j1 => ?_, fun v c v0 v1 c0 c1 => ?_, fun j j0 j1 => key j j0 j1 _ (.inl rfl), fun j j0 j1 => key j j0 j1 _ (.inr rfl)⟩
  · by_cases hj : j = i
    · rw [hj, new]; exact ⟨a0, a1⟩
    · rw [old j (by omega)]; exact h.col j j0 (by omega)
  · rw [upd2]
    by_cases hc : (X i = v ∨ Y i = v) ∧ a = c
    · rw [if_pos hc]
      exact .inr ⟨by omega, by omega, hc.1, by rw [new]; exact hc.2⟩
    · rw [if_neg hc]
      rcases h.row v c v0 v1 c0 c1 with h1 | ⟨h1, h2, h3, h4⟩
      · exact .inl h1
      · exact .inr ⟨h1, by omega, h3, by rw [old _ h2]; exact h4⟩
theorem main_ok (g : Gr n m e L X Y) (L0 : 0 ≤ L) (Ln : L ≤ n) (he : e ≤ 65536) (hm : 0 ≤ m) (hd : ∀ v, 0 ≤ v → v < n → (cnt e (inc X Y v) : Int) ≤ m) (K : Nat) (hK : e < K) (hKm : m < K) :
    ∀ (d i : Nat) (T : Tab) (O : Int → Int), i + d = e → Inv n m X Y i T O → ∀ k, d < k → ∃ O', mainF n m e X Y K k i T O = some O' ∧ ∃ T', Inv n m X Y e T' O'
  | 0, i, T, O, hi, h, k, hk => by
    obtain ⟨k, rfl⟩ : ∃ k', k = k' + 1 := ⟨k - 1, by omega⟩
    refine ⟨O, ?_, T, by have : i = e := by omega
                         rw [← this]; exact h⟩
    unfold mainF
    rw [if_neg (by omega)]
  | d + 1, i, T, O, hi, h, k, hk => by
    obtain ⟨k, rfl⟩ : ∃ k', k = k' + 1 := ⟨k - 1, by omega⟩
    have x0 := g.x0 i (by omega) (by omega)
    have x1 := g.x1 i (by omega) (by omega)
    have y0 := g.y0 i (by omega) (by omega)
    have y1 := g.y1 i (by omega) (by omega)
    obtain ⟨ca, ca0, ca1, ca2⟩ := lack h (by omega) hm x0 (by omega) (.inl rfl) (hd _ x0 (by omega))
    obtain ⟨cb, cb0, cb1, cb2⟩ := lack h (by omega) hm (by omega) y1 (.inr rfl) (hd _ (by omega) y1)
    obtain ⟨a, ha, a0, a1, a2⟩ := miss_some m (T (X i)) ca ca1 ca2 K 0 ca0 (by omega)
    obtain ⟨b, hb, b0, b1, b2⟩ := miss_some m (T (Y i)) cb cb1 cb2 K 0 cb0 (by omega)
    have ta : T (X i) a = -1 := by
      rcases h.row (X i) a x0 (by omega) a0 a1 with h1 | h1
      · exact h1
      · omega
    have tb : T (Y i) b = -1 := by
      rcases h.row (Y i) b (by omega) y1 b0 b1 with h1 | h1
      · exact h1
      · omega
    unfold mainF
    rw [if_pos (by omega), ha]
    simp only [Option.bind_some]
    rw [hb]
    simp only [Option.bind_some]
    by_cases hab : a = b
    · rw [if_pos hab]
      rw [← hab] at tb
      have := main_ok g L0 Ln he hm hd K hK hKm d (i + 1) _ _ (by omega) (by have := next_ok g h (by omega) a0 a1 ta tb; simpa using this) k (by omega)
      simpa using this
    · rw [if_neg hab]
      obtain ⟨T3, O3, h3, h4, h5, h6⟩ := flip_ok (K := K) (L := L) (e := e) (w := Y i) (a := a) (b := b) ⟨g, h, by omega, L0, Ln, y0, y1, a0, a1, b0, b1, hab, tb⟩ (by omega) (by omega) (by omega)
      rw [h3]
      simp only [Option.bind_some]
      have := main_ok g L0 Ln he hm hd K hK hKm d (i + 1) _ _ (by omega) (by have := next_ok g h4 (by omega) a0 a1 (h6 _ x0 x1 ta) h5; simpa using this) k (by omega)
      simpa using this
theorem inv_start (X Y : Int → Int) : Inv n m X Y ((0 : Nat) : Int) (fun _ _ => -1) (fun _ => 0) :=
  ⟨fun j j0 j1 => by omega, fun _ _ _ _ _ _ => .inl rfl, fun j j0 j1 => by omega, fun j j0 j1 => by omega⟩
theorem proper {i : Int} (h : Inv n m X Y i T O) {j k : Int} (j0 : 0 ≤ j) (j1 : j < i) (k0 : 0 ≤ k) (k1 : k < i) (hn : j ≠ k) {v : Int} (hj : X j = v ∨ Y j = v) (hk : X k = v ∨ Y k = v) : O j ≠ O k := fun ho => by
  have e1 := h.at_ j0 j1 hj
  have e2 := h.at_ k0 k1 hk
  rw [ho, e2] at e1
  exact hn e1.symm
end
end Go.Proofs.Ytlleokhmgblfnaa.P
end

section
namespace Go.Proofs.Ytlleokhmgblfnaa.P
open Go.RowKit Go.Proofs.YtlleokhmgblfnaaW.PrintWords Go.Proofs.Ytlleokhmgblfnaa.H
theorem degS_two (x y : Int) (h : x ≠ y) (D : Int → Int) (mo : Int) (v : Int) : (degS [x, y] D mo).1 v = D v + if v = x ∨ v = y then 1 else 0 := by
 unfold degS degS degS updO
 simp only
 by_cases h1 : v = y
 ·subst h1
  rw [if_pos rfl, if_neg (Ne.symm h), if_pos (.inr rfl)]
 ·rw [if_neg h1]
  by_cases h2 : v = x
  ·subst h2
   rw [if_pos rfl, if_pos (.inl rfl)]
  ·rw [if_neg h2, if_neg (by rintro (h3 | h3); exact h2 h3; exact h1 h3)]
   omega
theorem degS_most (x y : Int) (h : x ≠ y) (D : Int → Int) (mo : Int) : mo ≤ (degS [x, y] D mo).2 ∧ D x + 1 ≤ (degS [x, y] D mo).2 ∧ D y + 1 ≤ (degS [x, y] D mo).2 ∧ ((degS [x, y] D mo).2 = mo ∨ (degS [x, y] D mo).2 = D x + 1 ∨ (degS [x, y] D mo).2 = D y + 1) := by
 unfold degS degS degS updO
 simp only
 rw [if_neg (Ne.symm h)]
 split <;> split <;> omega
theorem deg_go {L n m : Int} {E : List (Int × Int)} {X Y : Int → Int} (hXY : ∀ pre x suf, E = pre ++ x :: suf → X pre.length = x.1 ∧ Y pre.length = L + x.2) (g : Gr n m E.length L X Y) (L0 : 0 ≤ L) (Ln : L ≤ n) :
  ∀ (suf pre : List (Int × Int)) (D : Int → Int) (mo : Int), E = pre ++ suf → (∀ v, D v = cnt pre.length (inc X Y v)) → (∀ v, D v ≤ mo) → 0 ≤ mo → (mo = 0 ∨ ∃ v, 0 ≤ v ∧ v < n ∧ mo ≤ cnt pre.length (inc X Y v)) →
   (∀ v, (cnt E.length (inc X Y v) : Int) ≤ degF L suf D mo) ∧ 0 ≤ degF L suf D mo ∧ (degF L suf D mo = 0 ∨ ∃ v, 0 ≤ v ∧ v < n ∧ degF L suf D mo ≤ cnt E.length (inc X Y v))
 | [], pre, D, mo, hE, hD, hm, m0, ha => by
  have : E = pre := by simpa using hE
  subst this
  exact ⟨fun v => by rw [← hD v]; exact hm v, m0, ha⟩
 | x :: suf, pre, D, mo, hE, hD, hm, m0, ha => by
  have h1 := hXY pre x suf hE
  have hlen : E.length = pre.length + (suf.length + 1) := by rw [hE]; simp
  have x0 := g.x0 pre.length (by omega) (by omega)
  have x1 := g.x1 pre.length (by omega) (by omega)
  have y0 := g.y0 pre.length (by omega) (by omega)
  have y1 := g.y1 pre.length (by omega) (by omega)
  rw [h1.1] at x0 x1
  rw [h1.2] at y0 y1
  have hne : x.1 ≠ L + x.2 := by omega
  have hmo := degS_most x.1 (L + x.2) hne D mo
  have hcnt : ∀ v, (cnt (pre.length + 1) (inc X Y v) : Int) = D v + if v = x.1 ∨ v = L + x.2 then 1 else 0 := fun v => by
   rw [cnt_succ, hD v]
   unfold inc
   rw [h1.1, h1.2]
   by_cases h2 : v = x.1 ∨ v = L + x.2
   ·rw [if_pos h2, if_pos (by simp; omega)]; omega
   ·rw [if_neg h2, if_neg (by simp; omega)]; omega
  have := deg_go hXY g L0 Ln suf (pre ++ [x]) (degS [x.1, L + x.2] D mo).1 (degS [x.1, L + x.2] D mo).2 (by rw [hE]; simp)
   (fun v => by rw [degS_two _ _ hne, List.length_append]; exact (hcnt v).symm)
   (fun v => by
    rw [degS_two _ _ hne]
    have := hm v
    by_cases h2 : v = x.1 ∨ v = L + x.2
    ·rw [if_pos h2]
     rcases h2 with rfl | rfl <;> omega
    ·rw [if_neg h2]; omega)
   (by omega)
   (by
    rw [List.length_append]
    show _ ∨ ∃ v, 0 ≤ v ∧ v < n ∧ _ ≤ ((cnt (pre.length + 1) (inc X Y v) : Nat) : Int)
    rcases hmo.2.2.2 with e | e | e
    ·rcases ha with ha | ⟨v, v0, v1, hv⟩
     ·exact .inl (by omega)
     ·refine .inr ⟨v, v0, v1, ?_⟩
      rw [e, cnt_succ]
      omega
    ·refine .inr ⟨x.1, x0, by omega, ?_⟩
     rw [hcnt, if_pos (.inl rfl)]; omega
    ·refine .inr ⟨L + x.2, by omega, y1, ?_⟩
     rw [hcnt, if_pos (.inr rfl)]; omega)
  unfold degF
  exact this
end Go.Proofs.Ytlleokhmgblfnaa.P
end

section
namespace Go.Proofs.Ytlleokhmgblfnaa.P
open Go.RowKit Go.Proofs.YtlleokhmgblfnaaW.PrintWords Go.Proofs.Ytlleokhmgblfnaa.H
theorem levA_spec {m : List Int} {n : Nat} (hm : m.length = n) (hn : n ≤ 1000000) : ∀ (d : Nat) (i : Int) (l q : List Int), (n : Int) = i + d → 0 ≤ i → l.length = n →
    (∀ x : Int, 0 ≤ x → x < i → rd l x = if rd m x < 0 then 0 else -1) → (∀ x ∈ q, 0 ≤ x ∧ x < i ∧ rd m x < 0) → (∀ x : Int, 0 ≤ x → x < i → rd m x < 0 → x ∈ q) → (q.length + cnt i.toNat (fun x => decide (0 ≤ rd m x)) = i.toNat) →
    ∃ K l' q', levA m n K i l q = some (l', q') ∧ l'.length = n ∧ (∀ x : Int, 0 ≤ x → x < n → rd l' x = if rd m x < 0 then 0 else -1) ∧ (∀ x ∈ q', 0 ≤ x ∧ x < n ∧ rd m x < 0) ∧ (∀ x : Int, 0 ≤ x → x < n → rd m x < 0 → x ∈ q') ∧ q'.length + cnt n (fun x => decide (0 ≤ rd m x)) = n := by
  intro d
  induction d with
  | zero =>
    intro i l q hd hi hl h1 h2 h3 h4
    have e : i = n := by omega
    subst e
    exact ⟨1, l, q, by rw [levA, if_neg (by omega)], hl, h1, h2, h3, by simpa using h4⟩
  | succ d ih =>
    intro i l q hd hi hl h1 h2 h3 h4
    have ei : (i + 1).toNat = i.toNat + 1 := by omega
    have ec : ((i.toNat : Nat) : Int) = i := by omega
    have cs : cnt (i + 1).toNat (fun x => decide (0 ≤ rd m x)) = cnt i.toNat (fun x => decide (0 ≤ rd m x)) + if decide (0 ≤ rd m i) = true then 1 else 0 := by
      rw [ei, cnt_succ, ec]
    by_cases hneg : rd m i < 0
    · have hq : q.length < 17592186044416 := by have := cnt_le (fun x => decide (0 ≤ rd m x)) i.toNat; omega
      obtain ⟨K, l', q', hK, r⟩ := ih (i + 1) ((l.set i.toNat (-1)).set i.toNat 0) (q ++ [i]) (by omega) (by omega) (by simpa using hl) (fun x h0 hx => by
          by_cases e : x = i
          · subst e
            rw [rd_set_eq h0 (by simp; omega), if_pos hneg]
          · rw [rd_set_ne hi (by simp; omega) h0 e, rd_set_ne hi (by omega) h0 e]
            exact h1 x h0 (by omega)) (fun x hx => by
          rcases List.mem_append.1 hx with hx | hx
          · have := h2 x hx; exact ⟨this.1, by omega, this.2.2⟩
          · rw [List.mem_singleton.1 hx]; exact ⟨hi, by omega, hneg⟩) (fun x h0 hx hm => by
          by_cases e : x = i
          · subst e; simp
          · exact List.mem_append_left _ (h3 x h0 (by omega) hm)) (by
          rw [cs, if_neg (by simp; omega)]
          simp
          omega)
      exact ⟨K + 1, l', q', by rw [levA, if_pos (by omega), if_pos (by omega), if_pos (by omega), if_pos hneg, if_pos hq]; exact hK, r⟩
    · obtain ⟨K, l', q', hK, r⟩ := ih (i + 1) (l.set i.toNat (-1)) q (by omega) (by omega) (by simpa using hl) (fun x h0 hx => by
          by_cases e : x = i
          · subst e
            rw [rd_set_eq h0 (by omega), if_neg hneg]
          · rw [rd_set_ne hi (by omega) h0 e]
            exact h1 x h0 (by omega)) (fun x hx => by have := h2 x hx; exact ⟨this.1, by omega, this.2.2⟩) (fun x h0 hx hm => by
          by_cases e : x = i
          · subst e; exact absurd hm hneg
          · exact h3 x h0 (by omega) hm) (by
          rw [cs, if_pos (by simp; omega)]
          omega)
      exact ⟨K + 1, l', q', by rw [levA, if_pos (by omega), if_pos (by omega), if_pos (by omega), if_neg hneg]; exact hK, r⟩
def unr (n : Nat) (l : List Int) : Nat := cnt n (fun x => decide (rd l x < 0))
structure LInv (next : List (List Int)) (m b : List Int) (v j : Int) (f : Bool) (l q : List Int) : Prop where
  ll : l.length = next.length
  lo : ∀ x : Int, 0 ≤ x → x < next.length → -1 ≤ rd l x
  hi : ∀ x : Int, 0 ≤ x → x < next.length → rd l x + unr next.length l < next.length
  fr : ∀ x : Int, 0 ≤ x → x < next.length → (rd m x < 0 ↔ rd l x = 0)
  qr : ∀ x ∈ q, 0 ≤ x ∧ x < next.length ∧ 0 ≤ rd l x
  pr : ∀ x : Int, 0 ≤ x → x < next.length → 0 < rd l x → ∃ p : Int, 0 ≤ p ∧ p < next.length ∧ rd l p = rd l x - 1 ∧ ∃ w ∈ rdL next p, rd b w = x
  cl : ∀ x : Int, 0 ≤ x → x < next.length → 0 ≤ rd l x → x ∉ q → x ≠ v → ∀ w ∈ rdL next x, (rd b w < 0 → f = true) ∧ (0 ≤ rd b w → 0 ≤ rd l (rd b w))
  cv : 0 ≤ v → ∀ j' : Int, 0 ≤ j' → j' < j → j' < (rdL next v).length → (rd b (rd (rdL next v) j') < 0 → f = true) ∧ (0 ≤ rd b (rd (rdL next v) j') → 0 ≤ rd l (rd b (rd (rdL next v) j')))
  fo : f = true → ∃ x : Int, 0 ≤ x ∧ x < next.length ∧ 0 ≤ rd l x ∧ ∃ w ∈ rdL next x, rd b w < 0
theorem levC_spec {next : List (List Int)} {R : Nat} (hn : next.length ≤ 1000000) (hNV : NV next R) {m b : List Int} (hg : Hole next R m b (-1)) (v : Int) (hv0 : 0 ≤ v) (hv1 : v < next.length) :
    ∀ (e : Nat) (j : Int) (f : Bool) (l q : List Int), (rdL next v).length ≤ j + e → 0 ≤ j → LInv next m b v j f l q → 0 ≤ rd l v → q.length + unr next.length l ≤ next.length →
      ∃ K s, levC b (rdL next v) v K j f l q = some s ∧ LInv next m b (-1) 0 s.1 s.2.1 s.2.2 ∧ s.2.2.length + unr next.length s.2.1 = q.length + unr next.length l := by
  intro e
  induction e with
  | zero =>
    intro j f l q he hj hI hlv hq
    refine ⟨1, (f, l, q), by rw [levC, if_neg (by omega)], ⟨hI.ll, hI.lo, hI.hi, hI.fr, hI.qr, hI.pr, fun x h0 h1 h2 h3 _ w hw => ?_, fun h => by omega, hI.fo⟩, rfl⟩
    by_cases ex : x = v
    · subst ex
      obtain ⟨i, i0, i1, rfl⟩ := mem_rd hw
      exact hI.cv h0 i i0 (by omega) i1
    · exact hI.cl x h0 h1 h2 h3 ex w hw
  | succ e ih =>
    intro j f l q he hj hI hlv hq
    by_cases hlt : j < (rdL next v).length
    case neg => exact ih j f l q (by omega) hj hI hlv hq
    obtain ⟨x, hx⟩ : ∃ x, rd (rdL next v) j = x := ⟨_, rfl⟩
    have hxm : x ∈ rdL next v := hx ▸ rd_mem hj hlt
    obtain ⟨hx0, hx1⟩ := hNV v hv0 hv1 x hxm
    obtain ⟨u, hu⟩ : ∃ u, rd b x = u := ⟨_, rfl⟩
    have hlb := hg.lb
    have hll := hI.ll
    by_cases hu0 : u < 0
    · have hI' : LInv next m b v (j + 1) true l q := by
        refine ⟨hI.ll, hI.lo, hI.hi, hI.fr, hI.qr, hI.pr, fun y h0 h1 h2 h3 h4 w hw => ⟨fun _ => rfl, (hI.cl y h0 h1 h2 h3 h4 w hw).2⟩, fun _ j' h0 h1 h2 => ⟨fun _ => rfl, fun h3 => ?_⟩, fun _ => ⟨v, hv0, hv1, hlv, x, hxm, by omega⟩⟩
        by_cases ej : j' = j
        · subst ej; rw [hx, hu] at h3; omega
        · exact (hI.cv hv0 j' h0 (by omega) h2).2 h3
      obtain ⟨K, s, hK, r⟩ := ih (j + 1) true l q (by omega) (by omega) hI' hlv hq
      exact ⟨K + 1, s, by rw [levC, if_pos hlt, hx, if_pos hx0, if_pos (by omega), hu, if_pos hu0]; exact hK, r⟩
    have hu0' : 0 ≤ u := by omega
    obtain ⟨hun, hum⟩ := hg.bb x hx0 hx1 (by omega) (by omega)
    rw [hu] at hun hum
    by_cases hlu : rd l u < 0
    · have hlu1 : rd l u = -1 := by have := hI.lo u hu0' hun; omega
      have huv : u ≠ v := fun e => by rw [e] at hlu; omega
      have hvb := hI.hi v hv0 hv1
      have hub : unr next.length l ≤ next.length := cnt_le _ _
      have wr : wrap64 (rd l v + 1) = rd l v + 1 := by unfold wrap64; omega
      have hun2 : unr next.length (l.set u.toNat (rd l v + 1)) + 1 = unr next.length l := by
        unfold unr
        rw [cnt_out (fun x => decide (rd l x < 0)) u next.length hu0' hun (by simpa using hlu)]
        congr 1
        refine cnt_congr _ (fun y h0 h1 => ?_)
        by_cases ey : y = u
        · subst ey
          rw [rd_set_eq h0 (by omega)]
          have : ¬ rd l v + 1 < 0 := by omega
          simp [this]
        · rw [rd_set_ne hu0' (by omega) h0 ey]
          have : (y != u) = true := by simpa using ey
          rw [this, Bool.and_true]
      have hset : ∀ y : Int, 0 ≤ y → y ≠ u → rd (l.set u.toNat (rd l v + 1)) y = rd l y := fun y h0 ey => rd_set_ne hu0' (by omega) h0 ey
      have hsetu : rd (l.set u.toNat (rd l v + 1)) u = rd l v + 1 := rd_set_eq hu0' (by omega)
      have hge : ∀ y : Int, 0 ≤ y → 0 ≤ rd l y → 0 ≤ rd (l.set u.toNat (rd l v + 1)) y := fun y h0 h => by
        by_cases ey : y = u
        · subst ey; rw [hsetu]; omega
        · rw [hset y h0 ey]; exact h
      have hI' : LInv next m b v (j + 1) f (l.set u.toNat (rd l v + 1)) (q ++ [u]) := by
       refine ⟨by simpa using hll, fun y h0 h1 => ?_, fun y h0 h1 => ?_, fun y h0 h1 => ?_, fun y hy => ?_, fun y h0 h1 h2 => ?_, fun y h0 h1 h2 h3 h4 w hw => ?_, fun _ j' h0 h1 h2 => ?_, fun h => ?_⟩
       · by_cases ey : y = u
         · subst ey; rw [hsetu]; omega
         · rw [hset y h0 ey]; exact hI.lo y h0 h1
       · by_cases ey : y = u
         · subst ey; rw [hsetu]; omega
         · rw [hset y h0 ey]; have := hI.hi y h0 h1; omega
       · by_cases ey : y = u
         · subst ey; rw [hsetu, hum]; omega
         · rw [hset y h0 ey]; exact hI.fr y h0 h1
       · rcases List.mem_append.1 hy with hy | hy
         · obtain ⟨a1, a2, a3⟩ := hI.qr y hy; exact ⟨a1, a2, hge y a1 a3⟩
         · rw [List.mem_singleton.1 hy]; exact ⟨hu0', hun, by rw [hsetu]; omega⟩
       · by_cases ey : y = u
         · subst ey
           exact ⟨v, hv0, hv1, by rw [hsetu, hset v hv0 huv.symm]; omega, x, hxm, hu⟩
         · rw [hset y h0 ey] at h2
           obtain ⟨p, p0, p1, p2, w, hw, p3⟩ := hI.pr y h0 h1 h2
           have ep : p ≠ u := fun e => by rw [e] at p2; omega
           exact ⟨p, p0, p1, by rw [hset y h0 ey, hset p p0 ep]; exact p2, w, hw, p3⟩
       · have ey : y ≠ u := fun e => h3 (by rw [e]; simp)
         rw [hset y h0 ey] at h2
         obtain ⟨c1, c2⟩ := hI.cl y h0 h1 h2 (fun h => h3 (List.mem_append_left _ h)) h4 w hw
         exact ⟨c1, fun h => hge _ h (c2 h)⟩
       · by_cases ej : j' = j
         · subst ej
           rw [hx, hu]
           exact ⟨fun h => by omega, fun _ => by rw [hsetu]; omega⟩
         · obtain ⟨c1, c2⟩ := hI.cv hv0 j' h0 (by omega) h2
           exact ⟨c1, fun h => hge _ h (c2 h)⟩
       · obtain ⟨y, y0, y1, y2, r⟩ := hI.fo h
         exact ⟨y, y0, y1, hge y y0 y2, r⟩
      obtain ⟨K, s, hK, r1, r2⟩ := ih (j + 1) f (l.set u.toNat (rd l v + 1)) (q ++ [u]) (by omega) (by omega) hI' (by rw [hset v hv0 huv.symm]; omega) (by simp; omega)
      refine ⟨K + 1, s, ?_, r1, by rw [r2]; simp; omega⟩
      rw [levC, if_pos hlt, hx, if_pos hx0, if_pos (by omega), hu, if_neg hu0, if_pos (by omega), if_pos hlu, if_pos (by omega), if_pos (by omega), wr]
      exact hK
    · have hI' : LInv next m b v (j + 1) f l q := by
        refine ⟨hI.ll, hI.lo, hI.hi, hI.fr, hI.qr, hI.pr, hI.cl, fun _ j' h0 h1 h2 => ?_, hI.fo⟩
        by_cases ej : j' = j
        · subst ej
          rw [hx, hu]
          exact ⟨fun h => by omega, fun _ => by omega⟩
        · exact hI.cv hv0 j' h0 (by omega) h2
      obtain ⟨K, s, hK, r⟩ := ih (j + 1) f l q (by omega) (by omega) hI' hlv hq
      exact ⟨K + 1, s, by rw [levC, if_pos hlt, hx, if_pos hx0, if_pos (by omega), hu, if_neg hu0, if_pos (by omega), if_neg hlu]; exact hK, r⟩
theorem levB_spec {next : List (List Int)} {R : Nat} (hn : next.length ≤ 1000000) (hNV : NV next R) {m b : List Int} (hg : Hole next R m b (-1)) :
    ∀ (d : Nat) (f : Bool) (l q : List Int), q.length + unr next.length l ≤ d → d ≤ next.length → LInv next m b (-1) 0 f l q →
      ∃ K s, levB next b K f l q = some s ∧ LInv next m b (-1) 0 s.1 s.2 [] := by
  intro d
  induction d with
  | zero =>
    intro f l q hd hdn hI
    have : q = [] := List.length_eq_zero_iff.1 (by omega)
    subst this
    exact ⟨1, (f, l), rfl, hI⟩
  | succ d ih =>
    intro f l q hd hdn hI
    cases q with
    | nil => exact ⟨1, (f, l), rfl, hI⟩
    | cons v q =>
      obtain ⟨hv0, hv1, hlv⟩ := hI.qr v (by simp)
      simp only [List.length_cons] at hd
      obtain ⟨K1, s, hK1, hI1, he⟩ := levC_spec hn hNV hg v hv0 hv1 (rdL next v).length 0 f l q (by omega) (by omega)
        ⟨hI.ll, hI.lo, hI.hi, hI.fr, fun x hx => hI.qr x (by simp [hx]), hI.pr, fun x h0 h1 h2 h3 h4 w hw => hI.cl x h0 h1 h2 (by simp [h3, h4]) (by omega) w hw, fun _ j' h0 h1 => by omega, hI.fo⟩ hlv (by omega)
      obtain ⟨K2, t, hK2, hI2⟩ := ih s.1 s.2.1 s.2.2 (by omega) (by omega) hI1
      refine ⟨max K1 K2 + 1, t, ?_, hI2⟩
      rw [levB, if_pos hv0, if_pos hv1, at_rounds (g := fun k => levC b (rdL next v) v k 0 f l q) (fun k => levC_mono _ _ _ _ _ _ _ _) (Nat.le_max_left K1 K2) hK1]
      exact at_rounds (g := fun k => levB next b k s.1 s.2.1 s.2.2) (fun k => levB_mono _ _ _ _ _ _) (Nat.le_max_right K1 K2) hK2
theorem levF_spec {next : List (List Int)} {R : Nat} (hn : next.length ≤ 1000000) (hNV : NV next R) {m b : List Int} (hg : Hole next R m b (-1)) (l : List Int) (hl : l.length = next.length) :
    ∃ K s, levF next m b K l = some s ∧ LInv next m b (-1) 0 s.1 s.2 [] := by
  obtain ⟨K1, l1, q1, hK1, a1, a2, a3, a4, a5⟩ := levA_spec hg.lm hn next.length 0 l [] (by omega) (by omega) hl (fun x h0 h1 => by omega) (fun x hx => by cases hx) (fun x h0 h1 => by omega) rfl
  have hu : unr next.length l1 = cnt next.length (fun x => decide (0 ≤ rd m x)) := by
    refine cnt_congr _ (fun x h0 h1 => ?_)
    rw [a2 x h0 h1]
    by_cases h : rd m x < 0
    · rw [if_pos h]
      have : ¬ 0 ≤ rd m x := by omega
      simp [this]
    · rw [if_neg h]
      have : 0 ≤ rd m x := by omega
      simp [this]
  have hI0 : LInv next m b (-1) 0 false l1 q1 := by
   refine ⟨a1, fun x h0 h1 => by rw [a2 x h0 h1]; split <;> omega, fun x h0 h1 => ?_, fun x h0 h1 => by rw [a2 x h0 h1]; split <;> omega, fun x hx => ?_, fun x h0 h1 h2 => ?_, fun x h0 h1 h2 h3 => ?_, fun h => by omega, (fun h => by cases h)⟩
   · rw [a2 x h0 h1]
     split
     · have hx := a4 x h0 h1 (by assumption)
       have : 0 < q1.length := List.length_pos_of_mem hx
       omega
     · have := cnt_le (fun x => decide (0 ≤ rd m x)) next.length
       omega
   · obtain ⟨x0, x1, x2⟩ := a3 x hx
     exact ⟨x0, x1, by rw [a2 x x0 x1, if_pos x2]; omega⟩
   · rw [a2 x h0 h1] at h2
     split at h2 <;> omega
   · rw [a2 x h0 h1] at h2
     split at h2
     · exact absurd (a4 x h0 h1 (by assumption)) h3
     · omega
  obtain ⟨K2, s, hK2, hI⟩ := levB_spec hn hNV hg next.length false l1 q1 (by omega) (Nat.le_refl _) hI0
  refine ⟨max K1 K2, s, ?_, hI⟩
  unfold levF
  rw [at_rounds (g := fun k => levA m next.length k 0 l []) (fun k => levA_mono _ _ _ _ _ _) (Nat.le_max_left K1 K2) hK1]
  exact at_rounds (g := fun k => levB next b k false l1 q1) (fun k => levB_mono _ _ _ _ _ _) (Nat.le_max_right K1 K2) hK2
end Go.Proofs.Ytlleokhmgblfnaa.P
namespace Go.Proofs.Ytlleokhmgblfnaa.P
open Go.RowKit Go.Proofs.YtlleokhmgblfnaaW.PrintWords Go.Proofs.Ytlleokhmgblfnaa.H
def msz (n : Nat) (m : List Int) : Nat := cnt n (fun x => decide (0 ≤ rd m x))
theorem phase_spec {next : List (List Int)} {R : Nat} (hn : next.length ≤ 1000000) (hNV : NV next R) {m0 b0 l0 : List Int} :
    ∀ (e : Nat) (v : Int) (m b l : List Int), next.length ≤ v + e → 0 ≤ v → Hole next R m b (-1) → l.length = next.length →
      (∀ x : Int, 0 ≤ x → x < next.length → -1 ≤ rd l x ∧ rd l x ≤ next.length) →
      (∀ x : Int, v ≤ x → x < next.length → rd m x < 0 → rd l x = 0) →
      (∀ x : Int, 0 ≤ x → x < next.length → 0 ≤ rd m0 x → 0 ≤ rd m x) →
      ((∃ x : Int, 0 ≤ x ∧ x < next.length ∧ rd m0 x < 0 ∧ 0 ≤ rd m x) ∨ (m = m0 ∧ b = b0 ∧ Base next.length l0 l ∧ DC next b0 l0 l ∧ ∀ x : Int, 0 ≤ x → x < v → x < next.length → rd m0 x < 0 → rd l x = -1)) →
      ∃ K t, phase next K v m b l = some t ∧ Hole next R t.1 t.2.1 (-1) ∧ t.2.2.length = next.length ∧ (∀ x : Int, 0 ≤ x → x < next.length → 0 ≤ rd m0 x → 0 ≤ rd t.1 x) ∧
        ((∃ x : Int, 0 ≤ x ∧ x < next.length ∧ rd m0 x < 0 ∧ 0 ≤ rd t.1 x) ∨ (t.1 = m0 ∧ t.2.1 = b0 ∧ Base next.length l0 t.2.2 ∧ DC next b0 l0 t.2.2 ∧ ∀ x : Int, 0 ≤ x → x < next.length → rd m0 x < 0 → rd t.2.2 x = -1)) := by
  intro e
  induction e with
  | zero =>
    intro v m b l he hv hg hl hL hfr hmo hp
    refine ⟨1, (m, b, l), by rw [phase, if_neg (by omega)], hg, hl, hmo, ?_⟩
    rcases hp with hp | ⟨p1, p2, p3, p4, p5⟩
    · exact .inl hp
    · exact .inr ⟨p1, p2, p3, p4, fun x h0 h1 => p5 x h0 (by omega) h1⟩
  | succ e ih =>
    intro v m b l he hv hg hl hL hfr hmo hp
    by_cases hlt : v < next.length
    case neg => exact ih v m b l (by omega) hv hg hl hL hfr hmo hp
    by_cases hneg : rd m v < 0
    · have hl0 := hfr v (Int.le_refl _) hlt hneg
      obtain ⟨K1, q, hK1, S⟩ := ext_spec (by omega) hNV hg (next.length + 1) v l hv hlt hl hL (by omega) (by omega)
      have hLq : ∀ x : Int, 0 ≤ x → x < next.length → -1 ≤ rd q.2.2.2 x ∧ rd q.2.2.2 x ≤ next.length := fun x h0 h1 => by
        rcases S.lv x h0 h1 with h | ⟨h, _⟩
        · rw [h]; exact hL x h0 h1
        · rw [h]; omega
      have hfq : ∀ x : Int, v + 1 ≤ x → x < next.length → rd m x < 0 → rd q.2.2.2 x = 0 := fun x h0 h1 h2 => by
        have h3 := hfr x (by omega) h1 h2
        rcases S.lv x (by omega) h1 with h | ⟨h, h' | h'⟩
        · omega
        · omega
        · omega
      obtain ⟨q0, qm, qb, ql⟩ := q
      cases q0 with
      | true =>
        obtain ⟨s1, s2, s3⟩ := S.ok rfl
        have hm0v : rd m0 v < 0 := by
          by_cases h : 0 ≤ rd m0 v
          · have := hmo v hv hlt h; omega
          · omega
        have hqm : ∀ x : Int, 0 ≤ x → x < next.length → 0 ≤ rd m0 x → 0 ≤ rd qm x := fun x h0 h1 h2 => (s2 x h0 h1).2 (.inl (hmo x h0 h1 h2))
        obtain ⟨K2, t, hK2, r⟩ := ih (v + 1) qm qb ql (by omega) (by omega) (s1.neg hneg) S.ll hLq
          (fun x h0 h1 h2 => hfq x h0 h1 (by
            by_cases h : 0 ≤ rd m x
            · have := (s2 x (by omega) h1).2 (.inl h)
              have h2' : rd qm x < 0 := h2
              have this' : 0 ≤ rd qm x := this
              omega
            · omega)) hqm
          (.inl ⟨v, hv, hlt, hm0v, (s2 v hv hlt).2 (.inr rfl)⟩)
        refine ⟨max K1 K2 + 1, t, ?_, r⟩
        rw [phase, if_pos hlt, if_pos hneg, at_rounds (extG_mono_k next v 0 m b l) (Nat.le_max_left K1 K2) hK1]
        exact at_rounds (g := fun k => phase next k (v + 1) qm qb ql) (fun k => phase_mono _ _ _ _ _ _) (Nat.le_max_right K1 K2) hK2
      | false =>
        obtain ⟨s1, s2, s3⟩ := S.no rfl
        have s1' : qm = m := s1
        have s2' : qb = b := s2
        subst s1' s2'
        obtain ⟨K2, t, hK2, r⟩ := ih (v + 1) qm qb ql (by omega) (by omega) hg S.ll hLq hfq hmo
          (by
            rcases hp with hp | ⟨p1, p2, p3, p4, p5⟩
            · exact .inl hp
            · subst p1 p2
              refine .inr ⟨rfl, rfl, fun x h0 h1 => ?_, S.dc rfl l0 p3 p4, fun x h0 h1 h2 h3 => ?_⟩
              · rcases S.lv x h0 h1 with h | ⟨h, _⟩
                · rw [h]; exact p3 x h0 h1
                · exact .inr h
              · by_cases ex : x = v
                · subst ex; exact s3
                · have h4 := p5 x h0 (by omega) h2 h3
                  rcases S.lv x h0 h2 with h | ⟨h, _⟩
                  · exact h.trans h4
                  · exact h)
        refine ⟨max K1 K2 + 1, t, ?_, r⟩
        rw [phase, if_pos hlt, if_pos hneg, at_rounds (extG_mono_k next v 0 qm qb l) (Nat.le_max_left K1 K2) hK1]
        exact at_rounds (g := fun k => phase next k (v + 1) qm qb ql) (fun k => phase_mono _ _ _ _ _ _) (Nat.le_max_right K1 K2) hK2
    · obtain ⟨K, t, hK, r⟩ := ih (v + 1) m b l (by omega) (by omega) hg hl hL (fun x h0 h1 => hfr x (by omega) h1) hmo
        (by
          rcases hp with hp | ⟨p1, p2, p3, p4, p5⟩
          · exact .inl hp
          · refine .inr ⟨p1, p2, p3, p4, fun x h0 h1 h2 h3 => ?_⟩
            by_cases ex : x = v
            · subst ex; rw [p1] at hneg; exact absurd h3 hneg
            · exact p5 x h0 (by omega) h2 h3)
      exact ⟨K + 1, t, by rw [phase, if_pos hlt, if_neg hneg]; exact hK, r⟩
theorem phase_gains {next : List (List Int)} {m b l0 l : List Int} (hI : LInv next m b (-1) 0 true l0 []) (hB : Base next.length l0 l) (hD : DC next b l0 l) (hf : ∀ x : Int, 0 ≤ x → x < next.length → rd m x < 0 → rd l x = -1) : False := by
  have dead : ∀ (i : Nat) (x : Int), 0 ≤ x → x < next.length → rd l0 x = i → rd l x = -1 := by
    intro i
    induction i with
    | zero => intro x h0 h1 h2; exact hf x h0 h1 ((hI.fr x h0 h1).2 h2)
    | succ i ih =>
      intro x h0 h1 h2
      obtain ⟨p, p0, p1, p2, w, hw, p3⟩ := hI.pr x h0 h1 (by omega)
      have hp := ih p p0 p1 (by omega)
      obtain ⟨_, h⟩ := hD p p0 p1 (by omega) hp w hw
      rw [p3] at h
      exact h (by omega)
  obtain ⟨x, x0, x1, x2, w, hw, hb⟩ := hI.fo rfl
  have := hD x x0 x1 x2 (dead (rd l0 x).toNat x x0 x1 (by omega)) w hw
  omega
theorem great_spec {next : List (List Int)} {R : Nat} (hn : next.length ≤ 1000000) (hNV : NV next R) :
    ∀ (d : Nat) (m b l : List Int), Hole next R m b (-1) → l.length = next.length → next.length - msz next.length m < d →
      ∃ K r, great next K m b l = some r ∧ Hole next R r.1 r.2 (-1) ∧ ∃ l', LInv next r.1 r.2 (-1) 0 false l' [] := by
  intro d
  induction d with
  | zero => intro m b l hg hl hd; omega
  | succ d ih =>
    intro m b l hg hl hd
    obtain ⟨K1, s, hK1, hI⟩ := levF_spec hn hNV hg l hl
    obtain ⟨f, l0⟩ := s
    cases f with
    | false =>
      exact ⟨K1 + 1, (m, b), by rw [great, hK1]; rfl, hg, l0, hI⟩
    | true =>
      have hub : unr next.length l0 ≤ next.length := cnt_le _ _
      obtain ⟨K2, t, hK2, h1, h2, h3, h4⟩ := phase_spec hn hNV (m0 := m) (b0 := b) (l0 := l0) next.length 0 m b l0 (by omega) (by omega) hg hI.ll
        (fun x h0 h1 => ⟨hI.lo x h0 h1, by have := hI.hi x h0 h1; simp only at this ⊢; omega⟩) (fun x h0 h1 h2 => (hI.fr x h0 h1).1 h2) (fun x _ _ h => h)
        (.inr ⟨rfl, rfl, fun x _ _ => .inl rfl, fun x h0 h1 h2 h3 => by omega, fun x h0 h1 => by omega⟩)
      have hgain : msz next.length m < msz next.length t.1 := by
        rcases h4 with ⟨x, x0, x1, x2, x3⟩ | ⟨e1, e2, e3, e4, e5⟩
        · unfold msz
          rw [cnt_out (fun y => decide (0 ≤ rd t.1 y)) x next.length x0 x1 (by simpa using x3)]
          refine Nat.lt_succ_of_le (cnt_mono _ (fun y h0 h1 hy => ?_))
          have hy' : 0 ≤ rd m y := by simpa using hy
          have : y ≠ x := fun e => by rw [e] at hy'; omega
          simp [h3 y h0 h1 hy', this]
        · exact absurd (phase_gains hI e3 e4 e5) (by simp)
      have hle : msz next.length t.1 ≤ next.length := cnt_le _ _
      obtain ⟨K3, r, hK3, hr⟩ := ih t.1 t.2.1 t.2.2 h1 h2 (by omega)
      refine ⟨max K1 (max K2 K3) + 1, r, ?_, hr⟩
      rw [great, at_rounds (g := fun k => levF next m b k l) (fun k => levF_mono _ _ _ _ _) (Nat.le_max_left K1 _) hK1]
      simp only [Option.bind_some, if_true]
      rw [at_rounds (g := fun k => phase next k 0 m b l0) (fun k => phase_mono _ _ _ _ _ _) (Nat.le_trans (Nat.le_max_left K2 K3) (Nat.le_max_right K1 _)) hK2]
      exact at_rounds (g := fun k => great next k t.1 t.2.1 t.2.2) (fun k => great_mono _ _ _ _ _) (Nat.le_trans (Nat.le_max_right K2 K3) (Nat.le_max_right K1 _)) hK3
theorem rd_nones (n : Nat) (x : Int) (h0 : 0 ≤ x) (h1 : x < n) : rd (nones n) x = -1 := by
  unfold rd nones
  rw [List.getD_eq_getElem?_getD, List.getElem?_replicate, if_pos (by omega)]
  rfl
theorem greatF_spec {next : List (List Int)} {R : Nat} (hn : next.length ≤ 1000000) (hR : R ≤ 1000000) (hNV : NV next R) :
    ∃ K m b, greatF K next R = some (m, b) ∧ Hole next R m b (-1) ∧ ∃ l, LInv next m b (-1) 0 false l [] := by
  have hg : Hole next R (nones next.length) (nones R) (-1) :=
    ⟨by simp [nones], by simp [nones], fun v h0 h1 h2 => by rw [rd_nones _ _ h0 h1] at h2; omega, fun w h0 h1 _ h2 => by rw [rd_nones _ _ h0 h1] at h2; omega⟩
  obtain ⟨K, r, hK, h⟩ := great_spec hn hNV (next.length + 1) (nones next.length) (nones R) (List.replicate next.length 0) hg (by simp) (by omega)
  refine ⟨K, r.1, r.2, ?_, h⟩
  unfold greatF
  rw [if_pos (by omega), if_pos (by omega), if_pos (by omega)]
  exact hK
end Go.Proofs.Ytlleokhmgblfnaa.P
end
