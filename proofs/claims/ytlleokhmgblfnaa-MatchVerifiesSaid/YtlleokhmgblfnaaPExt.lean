/- What extG does to a matching: it augments it along a path of rising levels, or marks vertices as dead. -/
import Derived.Test.YtlleokhmgblfnaaEGreat
namespace Go.Proofs.Ytlleokhmgblfnaa.P

/-- The number of i below n with p i. -/
def cnt : Nat → (Int → Bool) → Nat
  | 0, _ => 0
  | n + 1, p => cnt n p + if p n then 1 else 0
theorem cnt_succ (n : Nat) (p : Int → Bool) : cnt (n + 1) p = cnt n p + if p n then 1 else 0 := rfl
theorem cnt_le (p : Int → Bool) : ∀ n, cnt n p ≤ n
  | 0 => Nat.le_refl _
  | n + 1 => by have := cnt_le p n; unfold cnt; split <;> omega
theorem cnt_congr {p q : Int → Bool} : ∀ n : Nat, (∀ i : Int, 0 ≤ i → i < n → p i = q i) → cnt n p = cnt n q
  | 0, _ => rfl
  | n + 1, h => by
    unfold cnt
    rw [cnt_congr n (fun i h0 h1 => h i h0 (by omega)), h n (by omega) (by omega)]
theorem cnt_mono {p q : Int → Bool} : ∀ n : Nat, (∀ i : Int, 0 ≤ i → i < n → p i = true → q i = true) → cnt n p ≤ cnt n q
  | 0, _ => Nat.le_refl _
  | n + 1, h => by
    unfold cnt
    have h1 := cnt_mono n (fun i h0 h1 => h i h0 (by omega))
    have h2 := h n (by omega) (by omega)
    by_cases hp : p n = true
    · rw [if_pos hp, if_pos (h2 hp)]; omega
    · rw [if_neg hp]; omega
theorem cnt_zero {p : Int → Bool} (n : Nat) (h : ∀ i : Int, 0 ≤ i → i < n → p i = false) : cnt n p = 0 := by
  induction n with
  | zero => rfl
  | succ n ih =>
    unfold cnt
    rw [ih (fun i h0 h1 => h i h0 (by omega)), h n (by omega) (by omega)]
    rfl
theorem cnt_all {p : Int → Bool} (n : Nat) (h : ∀ i : Int, 0 ≤ i → i < n → p i = true) : cnt n p = n := by
  induction n with
  | zero => rfl
  | succ n ih =>
    unfold cnt
    rw [ih (fun i h0 h1 => h i h0 (by omega)), h n (by omega) (by omega)]
    rfl
theorem cnt_not (p : Int → Bool) : ∀ n, cnt n p + cnt n (fun i => !p i) = n
  | 0 => rfl
  | n + 1 => by
    have := cnt_not p n
    unfold cnt
    cases hp : p n <;> simp [hp] <;> omega
theorem cnt_split (p q : Int → Bool) : ∀ n, cnt n p = cnt n (fun i => p i && q i) + cnt n (fun i => p i && !q i)
  | 0 => rfl
  | n + 1 => by
    have := cnt_split p q n
    unfold cnt
    cases hp : p n <;> cases hq : q n <;> simp [hp, hq] <;> omega
/-- One number taken out. -/
theorem cnt_out (p : Int → Bool) (j : Int) : ∀ n : Nat, 0 ≤ j → j < n → p j = true → cnt n p = cnt n (fun i => p i && i != j) + 1
  | 0, h0, h1, _ => by omega
  | n + 1, h0, h1, hp => by
    unfold cnt
    by_cases e : j = n
    · subst e
      have : cnt n (fun i => p i && i != (n : Int)) = cnt n p := cnt_congr n (fun i h0 h1 => by
        have : (i != (n : Int)) = true := by simp; omega
        rw [this, Bool.and_true])
      rw [this, hp]
      simp
    · have := cnt_out p j n h0 (by omega) hp
      rw [this]
      have e2 : (p n && (n : Int) != j) = p n := by
        have : ((n : Int) != j) = true := by simp; omega
        rw [this, Bool.and_true]
      show _ = cnt n (fun i => p i && i != j) + (if (p n && (n : Int) != j) = true then 1 else 0) + 1
      rw [e2]
      omega
theorem cnt_put (p : Int → Bool) (j : Int) (n : Nat) (h0 : 0 ≤ j) (h1 : j < n) (hp : p j = false) : cnt n (fun i => p i || i == j) = cnt n p + 1 := by
  rw [cnt_out (fun i => p i || i == j) j n h0 h1 (by simp)]
  congr 1
  refine cnt_congr n (fun i _ _ => ?_)
  by_cases e : i = j
  · subst e; simp [hp]
  · have : (i == j) = false := by simpa using e
    simp [this, e]
theorem cnt_inj {p : Int → Bool} (f : Int → Int) (m : Nat) : ∀ (n : Nat) (q : Int → Bool), (∀ i : Int, 0 ≤ i → i < n → p i = true → 0 ≤ f i ∧ f i < m ∧ q (f i) = true) →
    (∀ i j : Int, 0 ≤ i → i < n → 0 ≤ j → j < n → p i = true → p j = true → f i = f j → i = j) → cnt n p ≤ cnt m q
  | 0, _, _, _ => Nat.zero_le _
  | n + 1, q, h, hi => by
    rw [cnt_succ]
    by_cases hp : p n = true
    · rw [if_pos hp]
      obtain ⟨a, b, c⟩ := h n (by omega) (by omega) hp
      rw [cnt_out q (f n) m a b c]
      have := cnt_inj f m n (fun i => q i && i != f n) (fun i h0 h1 hpi => by
        obtain ⟨a', b', c'⟩ := h i h0 (by omega) hpi
        refine ⟨a', b', ?_⟩
        have : f i ≠ f n := fun e => by have := hi i n h0 (by omega) (by omega) (by omega) hpi hp e; omega
        simp [c', this]) (fun i j a1 a2 a3 a4 a5 a6 a7 => hi i j a1 (by omega) a3 (by omega) a5 a6 a7)
      omega
    · rw [if_neg hp]
      exact cnt_inj f m n q (fun i h0 h1 => h i h0 (by omega)) (fun i j a1 a2 a3 a4 => hi i j a1 (by omega) a3 (by omega))

/-- A matching between n left and R right vertices: M v is the mate of v, negative for none. -/
structure IsM (n R : Nat) (Adj : Int → Int → Prop) (M : Int → Int) : Prop where
  lt : ∀ v : Int, 0 ≤ v → v < n → 0 ≤ M v → M v < R
  adj : ∀ v : Int, 0 ≤ v → v < n → 0 ≤ M v → Adj v (M v)
  inj : ∀ v v' : Int, 0 ≤ v → v < n → 0 ≤ v' → v' < n → 0 ≤ M v → M v = M v' → v = v'
def has (M : Int → Int) (v : Int) : Bool := decide (0 ≤ M v)
def msize (n : Nat) (M : Int → Int) : Nat := cnt n (has M)
/-- The greatest size of a matching. -/
structure IsMax (n R : Nat) (Adj : Int → Int → Prop) (s : Nat) : Prop where
  some : ∃ M, IsM n R Adj M ∧ msize n M = s
  all : ∀ M, IsM n R Adj M → msize n M ≤ s
theorem IsMax.eq {n R : Nat} {Adj : Int → Int → Prop} {s t : Nat} (h : IsMax n R Adj s) (k : IsMax n R Adj t) : s = t := by
  obtain ⟨M, hM, e⟩ := h.some
  obtain ⟨M', hM', e'⟩ := k.some
  have := h.all M' hM'
  have := k.all M hM
  omega
/-- No matching has more edges than a cover has vertices. -/
theorem cover_bound {n R : Nat} {Adj : Int → Int → Prop} {M : Int → Int} (h : IsM n R Adj M) (CL CR : Int → Bool) (hc : ∀ v w : Int, 0 ≤ v → v < n → 0 ≤ w → w < R → Adj v w → CL v = true ∨ CR w = true) :
    msize n M ≤ cnt n CL + cnt R CR := by
  unfold msize
  rw [cnt_split (has M) CL n]
  have h1 : cnt n (fun i => has M i && CL i) ≤ cnt n CL := cnt_mono n (fun i _ _ hi => by simp at hi; exact hi.2)
  have h2 : cnt n (fun i => has M i && !CL i) ≤ cnt R CR := by
    refine cnt_inj M R n CR (fun i h0 h1 hp => ?_) (fun i j a1 a2 a3 a4 a5 a6 a7 => ?_)
    · simp [has] at hp
      refine ⟨hp.1, h.lt i h0 h1 hp.1, ?_⟩
      rcases hc i (M i) h0 h1 hp.1 (h.lt i h0 h1 hp.1) (h.adj i h0 h1 hp.1) with h3 | h3
      · rw [hp.2] at h3; cases h3
      · exact h3
    · simp [has] at a5
      exact h.inj i j a1 a2 a3 a4 a5.1 a7
  omega
end Go.Proofs.Ytlleokhmgblfnaa.P

set_option linter.unusedVariables false
namespace Go.Proofs.Ytlleokhmgblfnaa.P
open Go.RowKit Go.Proofs.YtlleokhmgblfnaaW.PrintWords Go.Proofs.Ytlleokhmgblfnaa.H

theorem rd_set (xs : List Int) (i j y : Int) (h0 : 0 ≤ i) (h1 : i < xs.length) (hj : 0 ≤ j) : rd (xs.set i.toNat y) j = if j = i then y else rd xs j := by
  unfold rd
  rw [List.getD_eq_getElem?_getD, List.getD_eq_getElem?_getD, List.getElem?_set]
  by_cases e : j = i
  · subst e
    rw [if_pos rfl, if_pos rfl, if_pos (by omega)]
    rfl
  · rw [if_neg (by omega), if_neg e]
theorem rd_set_eq {xs : List Int} {i y : Int} (h0 : 0 ≤ i) (h1 : i < xs.length) : rd (xs.set i.toNat y) i = y := by rw [rd_set xs i i y h0 h1 h0, if_pos rfl]
theorem rd_set_ne {xs : List Int} {i j y : Int} (h0 : 0 ≤ i) (h1 : i < xs.length) (hj : 0 ≤ j) (hne : j ≠ i) : rd (xs.set i.toNat y) j = rd xs j := by rw [rd_set xs i j y h0 h1 hj, if_neg hne]
theorem rd_mem {xs : List Int} {i : Int} (h0 : 0 ≤ i) (h1 : i < xs.length) : rd xs i ∈ xs := by
  unfold rd
  rw [List.getD_eq_getElem?_getD, List.getElem?_eq_getElem (by omega)]
  exact List.getElem_mem _
theorem mem_rd {xs : List Int} {x : Int} (h : x ∈ xs) : ∃ i : Int, 0 ≤ i ∧ i < xs.length ∧ rd xs i = x := by
  obtain ⟨i, hi, e⟩ := List.getElem_of_mem h
  exact ⟨i, by omega, by omega, by simp [rd, hi, e]⟩

theorem extG_mono_k (next : List (List Int)) (v j : Int) (m b l : List Int) : ∀ k, LeO ((fun k => extG next k v j m b l) k) ((fun k => extG next k v j m b l) (k + 1)) := fun k => extG_mono next k v j m b l
/-- Neighbours are right vertices. -/
def NV (next : List (List Int)) (R : Nat) : Prop := ∀ v : Int, 0 ≤ v → v < next.length → ∀ w ∈ rdL next v, 0 ≤ w ∧ w < R
/-- Mates on both sides fit together, but for the right vertex h, whose mate is out of date and which is nobody's mate. -/
structure Hole (next : List (List Int)) (R : Nat) (m b : List Int) (h : Int) : Prop where
  lm : m.length = next.length
  lb : b.length = R
  mm : ∀ v : Int, 0 ≤ v → v < next.length → 0 ≤ rd m v → rd m v < R ∧ rd m v ∈ rdL next v ∧ rd b (rd m v) = v ∧ rd m v ≠ h
  bb : ∀ w : Int, 0 ≤ w → w < R → w ≠ h → 0 ≤ rd b w → rd b w < next.length ∧ rd m (rd b w) = w
/-- The hole w is given to v: the hole is then where v's mate was. -/
theorem Hole.fill {next : List (List Int)} {R : Nat} {m b : List Int} {w v : Int} (h : Hole next R m b w) (hv0 : 0 ≤ v) (hv1 : v < next.length) (hw0 : 0 ≤ w) (hw1 : w < R) (ha : w ∈ rdL next v) :
    Hole next R (m.set v.toNat w) (b.set w.toNat v) (rd m v) := by
  have l1 := h.lm
  have l2 := h.lb
  refine ⟨by rw [List.length_set]; exact l1, by rw [List.length_set]; exact l2, fun x hx0 hx1 hx => ?_, fun y hy0 hy1 hne hy => ?_⟩
  · by_cases e : x = v
    · subst e
      rw [rd_set_eq hx0 (by omega)] at hx ⊢
      refine ⟨hw1, ha, by rw [rd_set_eq hw0 (by omega)], fun e2 => ?_⟩
      exact (h.mm x hx0 hx1 (e2 ▸ hw0)).2.2.2 e2.symm
    · rw [rd_set_ne hv0 (by omega) hx0 e] at hx ⊢
      obtain ⟨a1, a2, a3, a4⟩ := h.mm x hx0 hx1 hx
      refine ⟨a1, a2, by rw [rd_set_ne hw0 (by omega) hx a4]; exact a3, fun e2 => ?_⟩
      by_cases hv : 0 ≤ rd m v
      · have := (h.mm v hv0 hv1 hv).2.2.1
        rw [← e2, a3] at this
        exact e this
      · omega
  · by_cases e : y = w
    · subst e
      rw [rd_set_eq hy0 (by omega)] at hy ⊢
      exact ⟨hv1, by rw [rd_set_eq hv0 (by omega)]⟩
    · rw [rd_set_ne hw0 (by omega) hy0 e] at hy ⊢
      obtain ⟨a1, a2⟩ := h.bb y hy0 hy1 e hy
      refine ⟨a1, ?_⟩
      rw [rd_set_ne hv0 (by omega) hy]
      · exact a2
      · intro e2
        rw [e2] at a2
        exact hne a2.symm
theorem Hole.other {next : List (List Int)} {R : Nat} {m b : List Int} {w : Int} (h : Hole next R m b (-1)) (hw0 : 0 ≤ w) (hw1 : w < R) (hb : rd b w < 0) : Hole next R m b w :=
  ⟨h.lm, h.lb, fun v a c d => ⟨(h.mm v a c d).1, (h.mm v a c d).2.1, (h.mm v a c d).2.2.1, fun e => by have := (h.mm v a c d).2.2.1; rw [e] at this; omega⟩, fun y a c _ d => h.bb y a c (by omega) d⟩
theorem Hole.neg {next : List (List Int)} {R : Nat} {m b : List Int} {w : Int} (h : Hole next R m b w) (hw : w < 0) : Hole next R m b (-1) :=
  ⟨h.lm, h.lb, fun v a c d => ⟨(h.mm v a c d).1, (h.mm v a c d).2.1, (h.mm v a c d).2.2.1, by omega⟩, fun y a c _ d => h.bb y a c (by omega) d⟩

def Base (n : Nat) (l0 l : List Int) : Prop := ∀ x : Int, 0 ≤ x → x < n → rd l x = rd l0 x ∨ rd l x = -1
def DC (next : List (List Int)) (b l0 l : List Int) : Prop :=
  ∀ x : Int, 0 ≤ x → x < next.length → 0 ≤ rd l0 x → rd l x = -1 → ∀ w ∈ rdL next x, 0 ≤ rd b w ∧ (rd l0 (rd b w) = rd l0 x + 1 → rd l (rd b w) = -1)
structure ExtSpec (next : List (List Int)) (R : Nat) (m b l : List Int) (v : Int) (q : Bool × List Int × List Int × List Int) : Prop where
  ll : q.2.2.2.length = next.length
  lv : ∀ x : Int, 0 ≤ x → x < next.length → rd q.2.2.2 x = rd l x ∨ (rd q.2.2.2 x = -1 ∧ (x = v ∨ rd l v < rd l x))
  ok : q.1 = true → Hole next R q.2.1 q.2.2.1 (rd m v) ∧ (∀ x : Int, 0 ≤ x → x < next.length → (0 ≤ rd q.2.1 x ↔ 0 ≤ rd m x ∨ x = v)) ∧ (∀ x : Int, 0 ≤ x → x < next.length → rd l x < rd l v → rd q.2.1 x = rd m x)
  no : q.1 = false → q.2.1 = m ∧ q.2.2.1 = b ∧ rd q.2.2.2 v = -1
  dc : q.1 = false → ∀ l0, Base next.length l0 l → DC next b l0 l → DC next b l0 q.2.2.2

theorem ext_spec {next : List (List Int)} {R : Nat} (hn : next.length ≤ 35184372088832) (hNV : NV next R) {m b : List Int} (hg : Hole next R m b (-1)) :
    ∀ (d : Nat) (v : Int) (l : List Int), 0 ≤ v → v < next.length → l.length = next.length → (∀ x : Int, 0 ≤ x → x < next.length → -1 ≤ rd l x ∧ rd l x ≤ next.length) → 0 ≤ rd l v → (next.length : Int) < rd l v + d →
      ∃ K q, extG next K v 0 m b l = some q ∧ ExtSpec next R m b l v q := by
  intro d
  induction d with
  | zero => intro v l h0 h1 h2 h3 h4 h5; have := h3 v h0 h1; omega
  | succ d ih =>
    intro v l hv0 hv1 hl hL hlv hd
    have wr : wrap64 (rd l v + 1) = rd l v + 1 := by have := hL v hv0 hv1; unfold wrap64; omega
    have key : ∀ (e : Nat) (j : Int) (l' : List Int), (rdL next v).length ≤ j + e → 0 ≤ j → l'.length = next.length → rd l' v = rd l v →
        (∀ x : Int, 0 ≤ x → x < next.length → rd l' x = rd l x ∨ (rd l' x = -1 ∧ rd l v < rd l x)) →
        (∀ j' : Int, 0 ≤ j' → j' < j → 0 ≤ rd b (rd (rdL next v) j')) →
        (∀ l0, Base next.length l0 l → DC next b l0 l → DC next b l0 l' ∧ (∀ j' : Int, 0 ≤ j' → j' < j → rd l0 (rd b (rd (rdL next v) j')) = rd l0 v + 1 → rd l' (rd b (rd (rdL next v) j')) = -1)) →
        ∃ K q, extG next K v j m b l' = some q ∧ ExtSpec next R m b l v q := by
      intro e
      induction e with
      | zero =>
        intro j l' he hj hl' hlv' hlx hs hp
        refine ⟨1, (false, m, b, l'.set v.toNat (-1)), by rw [extG, if_neg (by omega)], ?_⟩
        refine ⟨by simpa using hl', fun x h0 h1 => ?_, (fun h => by cases h), fun _ => ⟨rfl, rfl, rd_set_eq hv0 (by omega)⟩, fun _ l0 hb0 hd0 => ?_⟩
        · by_cases ex : x = v
          · subst ex
            exact .inr ⟨rd_set_eq h0 (by omega), .inl rfl⟩
          · show rd (l'.set v.toNat (-1)) x = _ ∨ (rd (l'.set v.toNat (-1)) x = -1 ∧ _)
            rw [rd_set_ne hv0 (by omega) h0 ex]
            rcases hlx x h0 h1 with h | ⟨h, h'⟩
            · exact .inl h
            · exact .inr ⟨h, .inr h'⟩
        · obtain ⟨p1, p2⟩ := hp l0 hb0 hd0
          intro x h0 h1 h2 h3 w hw
          show 0 ≤ rd b w ∧ (_ → rd (l'.set v.toNat (-1)) (rd b w) = -1)
          by_cases ex : x = v
          · subst ex
            obtain ⟨i, i0, i1, rfl⟩ := mem_rd hw
            have hb := hs i i0 (by omega)
            refine ⟨hb, fun h4 => ?_⟩
            have h5 := p2 i i0 (by omega) h4
            by_cases ey : rd b (rd (rdL next x) i) = x
            · rw [ey]; exact rd_set_eq h0 (by omega)
            · rw [rd_set_ne h0 (by omega) hb ey]; exact h5
          · have h3' : rd l' x = -1 := by
              have : rd (l'.set v.toNat (-1)) x = -1 := h3
              rwa [rd_set_ne hv0 (by omega) h0 ex] at this
            obtain ⟨hb, h5⟩ := p1 x h0 h1 h2 h3' w hw
            refine ⟨hb, fun h4 => ?_⟩
            by_cases ey : rd b w = v
            · rw [ey]; exact rd_set_eq hv0 (by omega)
            · rw [rd_set_ne hv0 (by omega) hb ey]; exact h5 h4
      | succ e ihe =>
        intro j l' he hj hl' hlv' hlx hs hp
        by_cases hlt : j < (rdL next v).length
        case neg => exact ihe j l' (by omega) hj hl' hlv' hlx hs hp
        obtain ⟨x, hx⟩ : ∃ x, rd (rdL next v) j = x := ⟨_, rfl⟩
        have hxm : x ∈ rdL next v := hx ▸ rd_mem hj hlt
        obtain ⟨hx0, hx1⟩ := hNV v hv0 hv1 x hxm
        obtain ⟨u, hu⟩ : ∃ u, rd b x = u := ⟨_, rfl⟩
        have hlb := hg.lb
        have hlm := hg.lm
        by_cases hu0 : u < 0
        · refine ⟨1, (true, m.set v.toNat x, b.set x.toNat v, l'), by rw [extG, if_pos hlt, hx, if_pos hx0, if_pos (by omega), hu, if_pos hu0], ?_⟩
          refine ⟨hl', fun y h0 h1 => ?_, fun _ => ⟨(hg.other hx0 hx1 (by omega)).fill hv0 hv1 hx0 hx1 hxm, fun y h0 h1 => ?_, fun y h0 h1 h2 => ?_⟩, (fun h => by cases h), (fun h => by cases h)⟩
          · rcases hlx y h0 h1 with h | ⟨h, h'⟩
            · exact .inl h
            · exact .inr ⟨h, .inr h'⟩
          · show 0 ≤ rd (m.set v.toNat x) y ↔ _
            by_cases ey : y = v
            · subst ey; rw [rd_set_eq h0 (by omega)]; simp [hx0]
            · rw [rd_set_ne hv0 (by omega) h0 ey]; simp [ey]
          · exact rd_set_ne hv0 (by omega) h0 (fun ey => by rw [ey] at h2; omega)
        have hu0' : 0 ≤ u := by omega
        obtain ⟨hun, hum⟩ := hg.bb x hx0 hx1 (by omega) (by omega)
        rw [hu] at hun hum
        by_cases hlu : rd l' u = wrap64 (rd l' v + 1)
        · have hlu2 : rd l' u = rd l v + 1 := by rw [hlu, hlv', wr]
          have hL' : ∀ y : Int, 0 ≤ y → y < next.length → -1 ≤ rd l' y ∧ rd l' y ≤ next.length := fun y h0 h1 => by
            rcases hlx y h0 h1 with h | ⟨h, _⟩
            · rw [h]; exact hL y h0 h1
            · rw [h]; omega
          obtain ⟨K1, q, hq, S⟩ := ih u l' hu0' hun hl' hL' (by omega) (by omega)
          have hqx : ∀ y : Int, 0 ≤ y → y < next.length → rd q.2.2.2 y = rd l y ∨ (rd q.2.2.2 y = -1 ∧ rd l v < rd l y) := fun y h0 h1 => by
            rcases S.lv y h0 h1 with h | ⟨h, h' | h'⟩
            · rw [h]; exact hlx y h0 h1
            · rcases hlx y h0 h1 with h2 | ⟨h2, _⟩
              · exact .inr ⟨h, by rw [h'] at h2 ⊢; omega⟩
              · rw [h'] at h2; omega
            · rcases hlx y h0 h1 with h2 | ⟨h2, _⟩
              · exact .inr ⟨h, by omega⟩
              · omega
          obtain ⟨q0, qm, qb, ql⟩ := q
          cases q0 with
          | true =>
            obtain ⟨s1, s2, s3⟩ := S.ok rfl
            refine ⟨K1 + 1, (true, qm.set v.toNat x, qb.set x.toNat v, ql), by rw [extG, if_pos hlt, hx, if_pos hx0, if_pos (by omega), hu, if_neg hu0, if_pos (by omega), if_pos hun, if_pos hlu, hq], ?_⟩
            rw [hum] at s1
            have e1 : rd qm v = rd m v := s3 v hv0 hv1 (by omega)
            have lqm : qm.length = next.length := s1.lm
            refine ⟨S.ll, fun y h0 h1 => ?_, fun _ => ⟨?_, fun y h0 h1 => ?_, fun y h0 h1 h2 => ?_⟩, (fun h => by cases h), (fun h => by cases h)⟩
            · rcases hqx y h0 h1 with h | ⟨h, h'⟩
              · exact .inl h
              · exact .inr ⟨h, .inr h'⟩
            · have := s1.fill hv0 hv1 hx0 hx1 hxm
              rw [e1] at this
              exact this
            · show 0 ≤ rd (qm.set v.toNat x) y ↔ _
              by_cases ey : y = v
              · subst ey; rw [rd_set_eq h0 (by omega)]; simp [hx0]
              · rw [rd_set_ne hv0 (by omega) h0 ey, s2 y h0 h1]
                constructor
                · rintro (h | h)
                  · exact .inl h
                  · subst h; exact .inl (by omega)
                · rintro (h | h)
                  · exact .inl h
                  · exact absurd h ey
            · have ey : y ≠ v := fun ey => by rw [ey] at h2; omega
              show rd (qm.set v.toNat x) y = _
              rw [rd_set_ne hv0 (by omega) h0 ey]
              refine s3 y h0 h1 ?_
              rcases hlx y h0 h1 with h | ⟨h, h'⟩
              · omega
              · omega
          | false =>
            obtain ⟨s1, s2, s3⟩ := S.no rfl
            have s1' : qm = m := s1
            have s2' : qb = b := s2
            subst s1' s2'
            have hqv : rd ql v = rd l v := by
              rcases hqx v hv0 hv1 with h | ⟨h, h'⟩
              · exact h
              · omega
            obtain ⟨K2, q2, hq2, S2⟩ := ihe (j + 1) ql (by omega) (by omega) S.ll hqv hqx
              (fun j' h0 h1 => by
                by_cases ej : j' = j
                · subst ej; rw [hx, hu]; exact hu0'
                · exact hs j' h0 (by omega))
              (fun l0 hb0 hd0 => by
                obtain ⟨p1, p2⟩ := hp l0 hb0 hd0
                have hb1 : Base next.length l0 l' := fun y h0 h1 => by
                  rcases hlx y h0 h1 with h | ⟨h, _⟩
                  · rw [h]; exact hb0 y h0 h1
                  · exact .inr h
                refine ⟨S.dc rfl l0 hb1 p1, fun j' h0 h1 h2 => ?_⟩
                by_cases ej : j' = j
                · subst ej; rw [hx, hu]; exact s3
                · have h3 := p2 j' h0 (by omega) h2
                  have hb3 := hs j' h0 (by omega)
                  have hm3 : rd (rdL next v) j' ∈ rdL next v := rd_mem h0 (by omega)
                  obtain ⟨w0, w1⟩ := hNV v hv0 hv1 _ hm3
                  obtain ⟨b1, _⟩ := hg.bb _ w0 w1 (by omega) hb3
                  rcases S.lv _ hb3 b1 with h | ⟨h, _⟩
                  · exact h.trans h3
                  · exact h)
            refine ⟨max K1 K2 + 1, q2, ?_, S2⟩
            have a1 := at_rounds (extG_mono_k next u 0 qm qb l') (Nat.le_max_left K1 K2) hq
            have a2 := at_rounds (extG_mono_k next v (j + 1) qm qb ql) (Nat.le_max_right K1 K2) hq2
            rw [extG, if_pos hlt, hx, if_pos hx0, if_pos (by omega), hu, if_neg hu0, if_pos (by omega), if_pos hun, if_pos hlu, a1]
            exact a2
        · obtain ⟨K2, q2, hq2, S2⟩ := ihe (j + 1) l' (by omega) (by omega) hl' hlv' hlx
            (fun j' h0 h1 => by
              by_cases ej : j' = j
              · subst ej; rw [hx, hu]; exact hu0'
              · exact hs j' h0 (by omega))
            (fun l0 hb0 hd0 => by
              obtain ⟨p1, p2⟩ := hp l0 hb0 hd0
              refine ⟨p1, fun j' h0 h1 h2 => ?_⟩
              by_cases ej : j' = j
              · subst ej
                rw [hx, hu] at h2 ⊢
                rw [hlv', wr] at hlu
                have b1 := hb0 u hu0' hun
                have b2 := hb0 v hv0 hv1
                have b3 := hlx u hu0' hun
                omega
              · exact p2 j' h0 (by omega) h2)
          refine ⟨K2 + 1, q2, ?_, S2⟩
          rw [extG, if_pos hlt, hx, if_pos hx0, if_pos (by omega), hu, if_neg hu0, if_pos (by omega), if_pos hun, if_neg hlu]
          exact hq2
    exact key (rdL next v).length 0 l (by omega) (by omega) hl rfl (fun x _ _ => .inl rfl) (fun j' h0 h1 => by omega) (fun l0 hb hd => ⟨hd, fun j' h0 h1 => by omega⟩)
end Go.Proofs.Ytlleokhmgblfnaa.P
