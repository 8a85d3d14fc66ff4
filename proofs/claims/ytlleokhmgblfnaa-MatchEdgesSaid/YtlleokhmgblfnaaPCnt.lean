/- How many numbers below n meet a test; matchings and covers of a graph between two rows of vertices. -/
namespace Go.Proofs.Ytlleokhmgblfnaa.P

/-- The number of i below n with p i. -/
def cnt : Nat → (Int → Bool) → Nat
  | 0, _ => 0
  | n + 1, p => cnt n p + if p n then 1 else 0
theorem cnt_succ (n : Nat) (p : Int → Bool) : cnt (n + 1) p = cnt n p + if p n then 1 else 0 := rfl
theorem cnt_le (p : Int → Bool) : ∀ n, cnt n p ≤ n
  | 0 => Nat.le_refl _
  | n + 1 => by have := cnt_le p n; unfold cnt; split <;> omega
theorem cnt_congr {p q : Int → Bool} : ∀ n : Nat, (∀ i : Int, 0 ≤ i → i < n → p i = q i) → cnt n p = cnt n q
  | 0, _ => rfl
  | n + 1, h => by
    unfold cnt
    rw [cnt_congr n (fun i h0 h1 => h i h0 (by omega)), h n (by omega) (by omega)]
theorem cnt_mono {p q : Int → Bool} : ∀ n : Nat, (∀ i : Int, 0 ≤ i → i < n → p i = true → q i = true) → cnt n p ≤ cnt n q
  | 0, _ => Nat.le_refl _
  | n + 1, h => by
    unfold cnt
    have h1 := cnt_mono n (fun i h0 h1 => h i h0 (by omega))
    have h2 := h n (by omega) (by omega)
    by_cases hp : p n = true
    · rw [if_pos hp, if_pos (h2 hp)]; omega
    · rw [if_neg hp]; omega
theorem cnt_zero {p : Int → Bool} (n : Nat) (h : ∀ i : Int, 0 ≤ i → i < n → p i = false) : cnt n p = 0 := by
  induction n with
  | zero => rfl
  | succ n ih =>
    unfold cnt
    rw [ih (fun i h0 h1 => h i h0 (by omega)), h n (by omega) (by omega)]
    rfl
theorem cnt_all {p : Int → Bool} (n : Nat) (h : ∀ i : Int, 0 ≤ i → i < n → p i = true) : cnt n p = n := by
  induction n with
  | zero => rfl
  | succ n ih =>
    unfold cnt
    rw [ih (fun i h0 h1 => h i h0 (by omega)), h n (by omega) (by omega)]
    rfl
theorem cnt_not (p : Int → Bool) : ∀ n, cnt n p + cnt n (fun i => !p i) = n
  | 0 => rfl
  | n + 1 => by
    have := cnt_not p n
    unfold cnt
    cases hp : p n <;> simp [hp] <;> omega
theorem cnt_split (p q : Int → Bool) : ∀ n, cnt n p = cnt n (fun i => p i && q i) + cnt n (fun i => p i && !q i)
  | 0 => rfl
  | n + 1 => by
    have := cnt_split p q n
    unfold cnt
    cases hp : p n <;> cases hq : q n <;> simp [hp, hq] <;> omega
/-- One number taken out. -/
theorem cnt_out (p : Int → Bool) (j : Int) : ∀ n : Nat, 0 ≤ j → j < n → p j = true → cnt n p = cnt n (fun i => p i && i != j) + 1
  | 0, h0, h1, _ => by omega
  | n + 1, h0, h1, hp => by
    unfold cnt
    by_cases e : j = n
    · subst e
      have : cnt n (fun i => p i && i != (n : Int)) = cnt n p := cnt_congr n (fun i h0 h1 => by
        have : (i != (n : Int)) = true := by simp; omega
        rw [this, Bool.and_true])
      rw [this, hp]
      simp
    · have := cnt_out p j n h0 (by omega) hp
      rw [this]
      have e2 : (p n && (n : Int) != j) = p n := by
        have : ((n : Int) != j) = true := by simp; omega
        rw [this, Bool.and_true]
      show _ = cnt n (fun i => p i && i != j) + (if (p n && (n : Int) != j) = true then 1 else 0) + 1
      rw [e2]
      omega
theorem cnt_put (p : Int → Bool) (j : Int) (n : Nat) (h0 : 0 ≤ j) (h1 : j < n) (hp : p j = false) : cnt n (fun i => p i || i == j) = cnt n p + 1 := by
  rw [cnt_out (fun i => p i || i == j) j n h0 h1 (by simp)]
  congr 1
  refine cnt_congr n (fun i _ _ => ?_)
  by_cases e : i = j
  · subst e; simp [hp]
  · have : (i == j) = false := by simpa using e
    simp [this, e]
theorem cnt_inj {p : Int → Bool} (f : Int → Int) (m : Nat) : ∀ (n : Nat) (q : Int → Bool), (∀ i : Int, 0 ≤ i → i < n → p i = true → 0 ≤ f i ∧ f i < m ∧ q (f i) = true) →
    (∀ i j : Int, 0 ≤ i → i < n → 0 ≤ j → j < n → p i = true → p j = true → f i = f j → i = j) → cnt n p ≤ cnt m q
  | 0, _, _, _ => Nat.zero_le _
  | n + 1, q, h, hi => by
    rw [cnt_succ]
    by_cases hp : p n = true
    · rw [if_pos hp]
      obtain ⟨a, b, c⟩ := h n (by omega) (by omega) hp
      rw [cnt_out q (f n) m a b c]
      have := cnt_inj f m n (fun i => q i && i != f n) (fun i h0 h1 hpi => by
        obtain ⟨a', b', c'⟩ := h i h0 (by omega) hpi
        refine ⟨a', b', ?_⟩
        have : f i ≠ f n := fun e => by have := hi i n h0 (by omega) (by omega) (by omega) hpi hp e; omega
        simp [c', this]) (fun i j a1 a2 a3 a4 a5 a6 a7 => hi i j a1 (by omega) a3 (by omega) a5 a6 a7)
      omega
    · rw [if_neg hp]
      exact cnt_inj f m n q (fun i h0 h1 => h i h0 (by omega)) (fun i j a1 a2 a3 a4 => hi i j a1 (by omega) a3 (by omega))

/-- A matching between n left and R right vertices: M v is the mate of v, negative for none. -/
structure IsM (n R : Nat) (Adj : Int → Int → Prop) (M : Int → Int) : Prop where
  lt : ∀ v : Int, 0 ≤ v → v < n → 0 ≤ M v → M v < R
  adj : ∀ v : Int, 0 ≤ v → v < n → 0 ≤ M v → Adj v (M v)
  inj : ∀ v v' : Int, 0 ≤ v → v < n → 0 ≤ v' → v' < n → 0 ≤ M v → M v = M v' → v = v'
def has (M : Int → Int) (v : Int) : Bool := decide (0 ≤ M v)
def msize (n : Nat) (M : Int → Int) : Nat := cnt n (has M)
/-- The greatest size of a matching. -/
structure IsMax (n R : Nat) (Adj : Int → Int → Prop) (s : Nat) : Prop where
  some : ∃ M, IsM n R Adj M ∧ msize n M = s
  all : ∀ M, IsM n R Adj M → msize n M ≤ s
theorem IsMax.eq {n R : Nat} {Adj : Int → Int → Prop} {s t : Nat} (h : IsMax n R Adj s) (k : IsMax n R Adj t) : s = t := by
  obtain ⟨M, hM, e⟩ := h.some
  obtain ⟨M', hM', e'⟩ := k.some
  have := h.all M' hM'
  have := k.all M hM
  omega
/-- No matching has more edges than a cover has vertices. -/
theorem cover_bound {n R : Nat} {Adj : Int → Int → Prop} {M : Int → Int} (h : IsM n R Adj M) (CL CR : Int → Bool) (hc : ∀ v w : Int, 0 ≤ v → v < n → 0 ≤ w → w < R → Adj v w → CL v = true ∨ CR w = true) :
    msize n M ≤ cnt n CL + cnt R CR := by
  unfold msize
  rw [cnt_split (has M) CL n]
  have h1 : cnt n (fun i => has M i && CL i) ≤ cnt n CL := cnt_mono n (fun i _ _ hi => by simp at hi; exact hi.2)
  have h2 : cnt n (fun i => has M i && !CL i) ≤ cnt R CR := by
    refine cnt_inj M R n CR (fun i h0 h1 hp => ?_) (fun i j a1 a2 a3 a4 a5 a6 a7 => ?_)
    · simp [has] at hp
      refine ⟨hp.1, h.lt i h0 h1 hp.1, ?_⟩
      rcases hc i (M i) h0 h1 hp.1 (h.lt i h0 h1 hp.1) (h.adj i h0 h1 hp.1) with h3 | h3
      · rw [hp.2] at h3; cases h3
      · exact h3
    · simp [has] at a5
      exact h.inj i j a1 a2 a3 a4 a5.1 a7
  omega
end Go.Proofs.Ytlleokhmgblfnaa.P
