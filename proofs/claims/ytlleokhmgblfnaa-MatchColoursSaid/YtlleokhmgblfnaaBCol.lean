/- The law MatchColours: whatever the input, it returns true and the input reads as it did. No conditions. -/
import Derived.Test.YtlleokhmgblfnaaBCol4
set_option linter.unusedVariables false
set_option linter.unusedSimpArgs false
set_option linter.unusedSectionVars false
section
namespace Go.Proofs.Ytlleokhmgblfnaa.P
open Go.RowKit Go.Proofs.YtlleokhmgblfnaaW.PrintWords Go.Proofs.Ytlleokhmgblfnaa.H
theorem nodup_cnt (i : Nat) : ∀ q : List Int, q.Nodup → (∀ j ∈ q, 0 ≤ j ∧ j < i) → q.length ≤ cnt i (fun x => decide (x ∈ q))
  | [], _, _ => Nat.zero_le _
  | j :: q, hn, hr => by
    rw [List.nodup_cons] at hn
    have ih := nodup_cnt i q hn.2 (fun x hx => hr x (List.mem_cons_of_mem _ hx))
    have hj := hr j List.mem_cons_self
    have e := cnt_put (fun x => decide (x ∈ q)) j i hj.1 hj.2 (by simpa using hn.1)
    have e2 : cnt i (fun x => decide (x ∈ j :: q)) = cnt i (fun x => decide (x ∈ q) || x == j) := cnt_congr i (fun x _ _ => by
      by_cases h1 : x = j <;> by_cases h2 : x ∈ q <;> simp [h1, h2])
    rw [e2, e, List.length_cons]
    omega
theorem nodup_len {i : Nat} {q : List Int} (hn : q.Nodup) (hr : ∀ j ∈ q, 0 ≤ j ∧ j < i) : q.length ≤ i :=
  Nat.le_trans (nodup_cnt i q hn hr) (cnt_le _ _)
theorem miss_some (m : Int) (row : Int → Int) (a0 : Int) (h1 : a0 < m) (h2 : row a0 < 0) : ∀ (k : Nat) (c : Int), c ≤ a0 → m < c + k → ∃ a, missF m row k c = some a ∧ c ≤ a ∧ a < m ∧ row a < 0
  | 0, c, h, hk => by omega
  | k + 1, c, h, hk => by
    unfold missF
    rw [if_pos (by omega)]
    by_cases h3 : 0 ≤ row c
    · rw [if_pos h3]
      have : c ≠ a0 := fun e => by subst e; omega
      obtain ⟨a, e1, e2, e3, e4⟩ := miss_some m row a0 h1 h2 k (c + 1) (by omega) (by omega)
      exact ⟨a, e1, by omega, e3, e4⟩
    · rw [if_neg h3]
      exact ⟨c, rfl, by omega, by omega, by omega⟩
structure Gr (n m e L : Int) (X Y : Int → Int) : Prop where
  x0 : ∀ j, 0 ≤ j → j < e → 0 ≤ X j
  x1 : ∀ j, 0 ≤ j → j < e → X j < L
  y0 : ∀ j, 0 ≤ j → j < e → L ≤ Y j
  y1 : ∀ j, 0 ≤ j → j < e → Y j < n
structure Inv (n m : Int) (X Y : Int → Int) (i : Int) (T : Tab) (O : Int → Int) : Prop where
  col : ∀ j, 0 ≤ j → j < i → 0 ≤ O j ∧ O j < m
  row : ∀ v c, 0 ≤ v → v < n → 0 ≤ c → c < m → T v c = -1 ∨ (0 ≤ T v c ∧ T v c < i ∧ (X (T v c) = v ∨ Y (T v c) = v) ∧ O (T v c) = c)
  inX : ∀ j, 0 ≤ j → j < i → T (X j) (O j) = j
  inY : ∀ j, 0 ≤ j → j < i → T (Y j) (O j) = j
section
variable {n m e L i : Int} {X Y : Int → Int} {T : Tab} {O : Int → Int} {w a b : Int}
theorem Inv.at_ (h : Inv n m X Y i T O) {j v : Int} (j0 : 0 ≤ j) (j1 : j < i) (hv : X j = v ∨ Y j = v) : T v (O j) = j := by
  rcases hv with rfl | rfl
  · exact h.inX j j0 j1
  · exact h.inY j j0 j1
inductive Way (X Y : Int → Int) (T : Tab) (w a b : Int) : List Int → Int → Int → Prop
  | nil : Way X Y T w a b [] w a
  | cons {q : List Int} {u c j : Int} : Way X Y T w a b q u c → T u c = j → 0 ≤ j → Way X Y T w a b (j :: q) (X j + Y j - u) (a + b - c)
structure Set1 (n m e L i : Int) (X Y : Int → Int) (T : Tab) (O : Int → Int) (w a b : Int) : Prop where
  gr : Gr n m e L X Y
  inv : Inv n m X Y i T O
  ie : i ≤ e
  L0 : 0 ≤ L
  Ln : L ≤ n
  w0 : L ≤ w
  w1 : w < n
  a0 : 0 ≤ a
  a1 : a < m
  b0 : 0 ≤ b
  b1 : b < m
  ab : a ≠ b
  wb : T w b = -1
theorem Set1.edge (s : Set1 n m e L i X Y T O w a b) {u c : Int} (u0 : 0 ≤ u) (u1 : u < n) (c0 : 0 ≤ c) (c1 : c < m) (h : 0 ≤ T u c) : T u c < i ∧ (X (T u c) = u ∨ Y (T u c) = u) ∧ O (T u c) = c := by
  rcases s.inv.row u c u0 u1 c0 c1 with h1 | h1
  · omega
  · exact h1.2
theorem Way.side (s : Set1 n m e L i X Y T O w a b) {q : List Int} {u c : Int} (h : Way X Y T w a b q u c) : (c = a ∧ L ≤ u ∧ u < n) ∨ (c = b ∧ 0 ≤ u ∧ u < L) := by
  induction h with
  | nil => exact .inl ⟨rfl, s.w0, s.w1⟩
  | @cons q u c j h hj j0 ih =>
    have L0 := s.L0
    have Ln := s.Ln
    have hs : 0 ≤ u ∧ u < n ∧ 0 ≤ c ∧ c < m := by
      have := s.a0; have := s.a1; have := s.b0; have := s.b1
      omega
    have he := s.edge hs.1 hs.2.1 hs.2.2.1 hs.2.2.2 (by rw [hj]; exact j0)
    rw [hj] at he
    have ie := s.ie
    have x0 := s.gr.x0 j j0 (by omega)
    have x1 := s.gr.x1 j j0 (by omega)
    have y0 := s.gr.y0 j j0 (by omega)
    have y1 := s.gr.y1 j j0 (by omega)
    omega
theorem Way.rng (s : Set1 n m e L i X Y T O w a b) {q : List Int} {u c : Int} (h : Way X Y T w a b q u c) : 0 ≤ u ∧ u < n ∧ 0 ≤ c ∧ c < m := by
  have := h.side s
  have := s.L0; have := s.Ln; have := s.a0; have := s.a1; have := s.b0; have := s.b1
  omega
theorem Way.came (s : Set1 n m e L i X Y T O w a b) {q : List Int} {u c : Int} (h : Way X Y T w a b q u c) : (q = [] ∧ u = w ∧ c = a) ∨ ∃ j q', q = j :: q' ∧ 0 ≤ j ∧ j < i ∧ T u (a + b - c) = j := by
  cases h with
  | nil => exact .inl ⟨rfl, rfl, rfl⟩
  | @cons q u c j h hj j0 =>
    have hs := h.rng s
    have he := s.edge hs.1 hs.2.1 hs.2.2.1 hs.2.2.2 (by rw [hj]; exact j0)
    rw [hj] at he
    refine .inr ⟨j, q, rfl, j0, he.1, ?_⟩
    have h2 := s.inv.at_ (v := X j + Y j - u) j0 he.1 (by omega)
    rw [he.2.2] at h2
    rw [show a + b - (a + b - c) = c by omega]
    exact h2
theorem Way.one (s : Set1 n m e L i X Y T O w a b) : ∀ {q q' : List Int} {u c : Int}, Way X Y T w a b q u c → Way X Y T w a b q' u c → q = q' := by
  intro q
  induction q with
  | nil =>
    intro q' u c h h'
    cases h with
    | nil =>
      rcases h'.came s with h2 | ⟨j, q2, e, j0, j1, ht⟩
      · exact h2.1.symm
      · rw [show a + b - a = b by omega, s.wb] at ht; omega
  | cons j q ih =>
    intro q' u c h h'
    rcases h.came s with h2 | ⟨j1, q1, e1, p0, p1, t1⟩
    · cases h2.1
    · rcases h'.came s with h3 | ⟨j2, q2, e2, r0, r1, t2⟩
      · obtain ⟨_, rfl, rfl⟩ := h3
        rw [show c + b - c = b by omega, s.wb] at t1; omega
      · have ej : j1 = j2 := t1.symm.trans t2
        subst ej
        cases e1
        subst e2
        generalize hu : u = u1 at h
        generalize hc : c = c1 at h
        cases h with
        | @cons _ u3 c3 _ h4 hj4 _ =>
          generalize hu' : u = u2 at h'
          generalize hc' : c = c2 at h'
          cases h' with
          | @cons _ u5 c5 _ h6 hj6 _ =>
            have eu : u5 = u3 := by omega
            have ec : c5 = c3 := by omega
            subst eu ec
            rw [ih h4 h6]
theorem Way.part {q : List Int} {u c : Int} (h : Way X Y T w a b q u c) : ∀ j ∈ q, ∃ q0 u0 c0, q0.length < q.length ∧ Way X Y T w a b q0 u0 c0 ∧ T u0 c0 = j ∧ 0 ≤ j := by
  induction h with
  | nil => intro j hj; cases hj
  | @cons q u c j0 h hj j00 ih =>
    intro j hjm
    rcases List.mem_cons.1 hjm with rfl | hjm
    · exact ⟨q, u, c, by simp, h, hj, j00⟩
    · obtain ⟨q0, u0, c0, h1, h2, h3, h4⟩ := ih j hjm
      exact ⟨q0, u0, c0, by simp; omega, h2, h3, h4⟩
theorem Way.edge (s : Set1 n m e L i X Y T O w a b) {q : List Int} {u c : Int} (h : Way X Y T w a b q u c) : ∀ j ∈ q, 0 ≤ j ∧ j < i ∧ (O j = a ∨ O j = b) := by
  intro j hj
  obtain ⟨q0, u0, c0, h1, h2, h3, h4⟩ := h.part j hj
  have hs := h2.rng s
  have he := s.edge hs.1 hs.2.1 hs.2.2.1 hs.2.2.2 (by rw [h3]; exact h4)
  rw [h3] at he
  have := h2.side s
  omega
theorem Way.fresh (s : Set1 n m e L i X Y T O w a b) {q : List Int} {u c : Int} (h : Way X Y T w a b q u c) (hj : 0 ≤ T u c) : T u c ∉ q := by
  intro hm
  obtain ⟨q0, u0, c0, h1, h2, h3, h4⟩ := h.part _ hm
  have hs := h.rng s
  have hs0 := h2.rng s
  have he := s.edge hs.1 hs.2.1 hs.2.2.1 hs.2.2.2 hj
  have he0 := s.edge hs0.1 hs0.2.1 hs0.2.2.1 hs0.2.2.2 (by rw [h3]; exact h4)
  rw [h3] at he0
  have ec : c0 = c := by omega
  have s1 := h.side s
  have s2 := h2.side s
  have ie := s.ie
  have x0 := s.gr.x0 _ h4 (by omega)
  have x1 := s.gr.x1 _ h4 (by omega)
  have y0 := s.gr.y0 _ h4 (by omega)
  have ab := s.ab
  have eu : u0 = u := by omega
  subst ec eu
  rw [h2.one s h] at h1
  omega
theorem Way.nodup (s : Set1 n m e L i X Y T O w a b) {q : List Int} {u c : Int} (h : Way X Y T w a b q u c) : q.Nodup := by
  induction h with
  | nil => exact List.nodup_nil
  | @cons q u c j h hj j0 ih =>
    rw [List.nodup_cons]
    refine ⟨?_, ih⟩
    rw [← hj]
    exact h.fresh s (by rw [hj]; exact j0)
theorem Way.shut (s : Set1 n m e L i X Y T O w a b) {q : List Int} {u c : Int} (h : Way X Y T w a b q u c) : ∀ j ∈ q, ∀ z, (X j = z ∨ Y j = z) → T z (a + b - O j) = -1 ∨ T z (a + b - O j) ∈ q ∨ (z = u ∧ a + b - O j = c) := by
  induction h with
  | nil => intro j hj; cases hj
  | @cons q u c j0 h hj j00 ih =>
    intro j hjm z hz
    have hs := h.rng s
    have he := s.edge hs.1 hs.2.1 hs.2.2.1 hs.2.2.2 (by rw [hj]; exact j00)
    rw [hj] at he
    rcases List.mem_cons.1 hjm with rfl | hjm
    · rw [he.2.2]
      by_cases e : z = u
      · subst e
        rcases h.came s with ⟨_, rfl, rfl⟩ | ⟨j1, q1, rfl, p0, p1, t1⟩
        · left; rw [show c + b - c = b by omega]; exact s.wb
        · right; left; rw [t1]; simp
      · right; right
        have ie := s.ie
        have x1 := s.gr.x1 _ j00 (by omega)
        have y0 := s.gr.y0 _ j00 (by omega)
        omega
    · rcases ih j hjm z hz with h1 | h1 | ⟨h1, h2⟩
      · exact .inl h1
      · exact .inr (.inl (List.mem_cons_of_mem _ h1))
      · right; left
        rw [h2, h1, hj]
        exact List.mem_cons_self
theorem Way.left (s : Set1 n m e L i X Y T O w a b) {q : List Int} {u c : Int} (h : Way X Y T w a b q u c) : ∀ j ∈ q, O j = b → 0 ≤ T (X j) a := by
  intro j hj ho
  obtain ⟨q0, u0, c0, h1, h2, h3, h4⟩ := h.part j hj
  have hs := h2.rng s
  have he := s.edge hs.1 hs.2.1 hs.2.2.1 hs.2.2.2 (by rw [h3]; exact h4)
  rw [h3] at he
  have ab := s.ab
  have ie := s.ie
  have x1 := s.gr.x1 _ h4 (by omega)
  have y0 := s.gr.y0 _ h4 (by omega)
  have eu : X j = u0 := by have := h2.side s; omega
  rcases h2.came s with ⟨_, _, hc⟩ | ⟨j1, q1, e1, p0, p1, t1⟩
  · omega
  · rw [show a + b - c0 = a by omega] at t1
    rw [eu, t1]; exact p0
theorem Way.first (s : Set1 n m e L i X Y T O w a b) {q : List Int} {u c : Int} (h : Way X Y T w a b q u c) : q = [] ∧ u = w ∧ c = a ∨ T w a ∈ q := by
  induction h with
  | nil => exact .inl ⟨rfl, rfl, rfl⟩
  | @cons q u c j0 h hj j00 ih =>
    right
    rcases ih with ⟨rfl, rfl, rfl⟩ | h1
    · rw [hj]; exact List.mem_cons_self
    · exact List.mem_cons_of_mem _ h1
theorem path_ok (s : Set1 n m e L i X Y T O w a b) (he : e ≤ 65536) (hi : 0 ≤ i) : ∀ (k : Nat) (q : List Int) (u c : Int), Way X Y T w a b q u c → i < q.length + k →
    ∃ q' u' c', pathF n m e X Y (a + b) T k u c q.reverse = some q'.reverse ∧ Way X Y T w a b q' u' c' ∧ T u' c' < 0
  | 0, q, u, c, h, hk => by
    have := nodup_len (i := i.toNat) (h.nodup s) (fun j hj => by have := h.edge s j hj; omega)
    omega
  | k + 1, q, u, c, h, hk => by
    have hs := h.rng s
    unfold pathF
    rw [if_pos hs]
    by_cases hj : 0 ≤ T u c
    · rw [if_pos hj]
      have hed := s.edge hs.1 hs.2.1 hs.2.2.1 hs.2.2.2 hj
      have h2 : Way X Y T w a b (T u c :: q) (X (T u c) + Y (T u c) - u) (a + b - c) := .cons h rfl hj
      have hlen := nodup_len (i := i.toNat) (h2.nodup s) (fun j hj => by have := h2.edge s j hj; omega)
      have ie := s.ie
      rw [List.length_cons] at hlen
      rw [if_pos ⟨by omega, by rw [List.length_reverse]; omega⟩, show q.reverse ++ [T u c] = (T u c :: q).reverse by simp]
      exact path_ok s he hi k _ _ _ h2 (by rw [List.length_cons]; omega)
    · rw [if_neg hj]
      exact ⟨q, u, c, rfl, h, by omega⟩
end
end Go.Proofs.Ytlleokhmgblfnaa.P
end

section
namespace Go.Proofs.Ytlleokhmgblfnaa.P
open Go.RowKit Go.Proofs.YtlleokhmgblfnaaW.PrintWords Go.Proofs.Ytlleokhmgblfnaa.H
section
variable {n m e L i : Int} {X Y : Int → Int} {T : Tab} {O : Int → Int} {w a b : Int}
theorem upd2 (T : Tab) (x y c j v d : Int) : upd (upd T x c j) y c j v d = if (x = v ∨ y = v) ∧ c = d then j else T v d := by
  unfold upd
  by_cases h1 : v = y ∧ d = c
  · rw [if_pos h1, if_pos ⟨.inr h1.1.symm, h1.2.symm⟩]
  · rw [if_neg h1]
    by_cases h2 : v = x ∧ d = c
    · rw [if_pos h2, if_pos ⟨.inl h2.1.symm, h2.2.symm⟩]
    · rw [if_neg h2, if_neg (fun h => h.1.elim (fun h3 => h2 ⟨h3.symm, h.2.symm⟩) (fun h3 => h1 ⟨h3.symm, h.2.symm⟩))]
theorem clear_ok : ∀ (p : List Int) (T : Tab), (∀ j ∈ p, 0 ≤ j ∧ j < e ∧ 0 ≤ O j ∧ O j < m) →
    ∃ T2, clearF m e X Y O p T = some T2 ∧ ∀ v c, T2 v c = T v c ∧ (∀ j ∈ p, ¬ ((X j = v ∨ Y j = v) ∧ O j = c)) ∨ T2 v c = -1 ∧ (∃ j ∈ p, (X j = v ∨ Y j = v) ∧ O j = c)
  | [], T, _ => ⟨T, rfl, fun v c => .inl ⟨rfl, fun j hj => by cases hj⟩⟩
  | j :: p, T, h => by
    have hj := h j List.mem_cons_self
    obtain ⟨T2, h1, h2⟩ := clear_ok p (upd (upd T (X j) (O j) (-1)) (Y j) (O j) (-1)) (fun x hx => h x (List.mem_cons_of_mem _ hx))
    refine ⟨T2, ?_, fun v c => ?_⟩
    · unfold clearF
      rw [if_pos hj]
      exact h1
    · rcases h2 v c with ⟨h3, h4⟩ | ⟨h3, j', h4, h5⟩
      · rw [upd2] at h3
        by_cases h6 : (X j = v ∨ Y j = v) ∧ O j = c
        · rw [if_pos h6] at h3
          exact .inr ⟨h3, j, List.mem_cons_self, h6⟩
        · rw [if_neg h6] at h3
          refine .inl ⟨h3, fun x hx => ?_⟩
          rcases List.mem_cons.1 hx with rfl | hx
          · exact h6
          · exact h4 x hx
      · exact .inr ⟨h3, j', List.mem_cons_of_mem _ h4, h5⟩
theorem set_ok (s : Int) : ∀ (p : List Int) (T : Tab) (O : Int → Int), p.Nodup → (∀ j ∈ p, 0 ≤ j ∧ j < e ∧ 0 ≤ O j ∧ O j < m ∧ 0 ≤ s - O j ∧ s - O j < m) →
    (∀ j ∈ p, ∀ j' ∈ p, ∀ v, (X j = v ∨ Y j = v) → (X j' = v ∨ Y j' = v) → O j = O j' → j = j') →
    ∃ T3 O3, setF m e X Y s p T O = some (T3, O3) ∧ (∀ j, j ∉ p → O3 j = O j) ∧ (∀ j ∈ p, O3 j = s - O j) ∧
      (∀ v c, T3 v c = T v c ∧ (∀ j ∈ p, ¬ ((X j = v ∨ Y j = v) ∧ s - O j = c)) ∨ ∃ j ∈ p, (X j = v ∨ Y j = v) ∧ s - O j = c ∧ T3 v c = j)
  | [], T, O, _, _, _ => ⟨T, O, rfl, fun j _ => rfl, fun j hj => absurd hj List.not_mem_nil, fun v c => .inl ⟨rfl, fun j hj => absurd hj List.not_mem_nil⟩⟩
  | j :: p, T, O, hn, h, hu => by
    rw [List.nodup_cons] at hn
    have hj := h j List.mem_cons_self
    have hO : ∀ x, x ∈ p → updO O j (s - O j) x = O x := fun x hx => by
      unfold updO
      rw [if_neg (fun h => hn.1 (by rw [← h]; exact hx))]
    obtain ⟨T3, O3, h1, h2, h3, h4⟩ := set_ok s p (upd (upd T (X j) (s - O j) j) (Y j) (s - O j) j) (updO O j (s - O j)) hn.2
      (fun x hx => by rw [hO x hx]; exact h x (List.mem_cons_of_mem _ hx))
      (fun x hx x' hx' v hv hv' he => hu x (List.mem_cons_of_mem _ hx) x' (List.mem_cons_of_mem _ hx') v hv hv' (by rw [hO x hx, hO x' hx'] at he; exact he))
    refine ⟨T3, O3, ?_, fun x hx => ?_, fun x hx => ?_, fun v c => ?_⟩
    · unfold setF
      rw [if_pos hj]
      exact h1
    · rw [h2 x (fun hp => hx (List.mem_cons_of_mem _ hp))]
      unfold updO
      rw [if_neg (fun e => hx (by rw [e]; exact List.mem_cons_self))]
    · rcases List.mem_cons.1 hx with rfl | hx
      · rw [h2 x hn.1]
        unfold updO
        rw [if_pos rfl]
      · rw [h3 x hx, hO x hx]
    · rcases h4 v c with ⟨h5, h6⟩ | ⟨j', h5, h6, h7, h8⟩
      · rw [upd2] at h5
        by_cases h9 : (X j = v ∨ Y j = v) ∧ s - O j = c
        · rw [if_pos h9] at h5
          exact .inr ⟨j, List.mem_cons_self, h9.1, h9.2, h5⟩
        · rw [if_neg h9] at h5
          refine .inl ⟨h5, fun x hx => ?_⟩
          rcases List.mem_cons.1 hx with rfl | hx
          · exact h9
          · have := h6 x hx
            rw [hO x hx] at this
            exact this
      · rw [hO j' h5] at h7
        exact .inr ⟨j', List.mem_cons_of_mem _ h5, h6, h7, h8⟩
theorem flip_in {q qr : List Int} {T2 T3 : Tab} {O3 : Int → Int} (s : Set1 n m e L i X Y T O w a b) (hed : ∀ j ∈ q, 0 ≤ j ∧ j < i ∧ (O j = a ∨ O j = b)) (hmem : ∀ j, j ∈ qr ↔ j ∈ q)
    (one : ∀ j, 0 ≤ j → j < i → ∀ j', 0 ≤ j' → j' < i → ∀ v, (X j = v ∨ Y j = v) → (X j' = v ∨ Y j' = v) → O j = O j' → j = j')
    (shut2 : ∀ j ∈ q, ∀ z, (X j = z ∨ Y j = z) → T z (a + b - O j) = -1 ∨ T z (a + b - O j) ∈ q)
    (hT2 : ∀ v c, T2 v c = T v c ∧ (∀ j ∈ qr, ¬ ((X j = v ∨ Y j = v) ∧ O j = c)) ∨ T2 v c = -1 ∧ (∃ j ∈ qr, (X j = v ∨ Y j = v) ∧ O j = c))
    (hO1 : ∀ j, j ∉ qr → O3 j = O j) (hO2 : ∀ j ∈ qr, O3 j = a + b - O j)
    (hT3 : ∀ v c, T3 v c = T2 v c ∧ (∀ j ∈ qr, ¬ ((X j = v ∨ Y j = v) ∧ a + b - O j = c)) ∨ ∃ j ∈ qr, (X j = v ∨ Y j = v) ∧ a + b - O j = c ∧ T3 v c = j) :
    ∀ j, 0 ≤ j → j < i → ∀ v, (X j = v ∨ Y j = v) → T3 v (O3 j) = j := by
  intro j j0 j1 v hv
  by_cases hj : j ∈ q
  · have hjr := (hmem j).2 hj
    rw [hO2 j hjr]
    rcases hT3 v (a + b - O j) with ⟨_, h5⟩ | ⟨j', h4, h5, h6, h7⟩
    · exact absurd ⟨hv, rfl⟩ (h5 j hjr)
    · rw [h7]
      have hj' := hed j' ((hmem j').1 h4)
      exact one j' hj'.1 hj'.2.1 j j0 j1 v h5 hv (by omega)
  · have hjr : j ∉ qr := fun h => hj ((hmem j).1 h)
    rw [hO1 j hjr]
    have e1 := s.inv.at_ j0 j1 hv
    rcases hT3 v (O j) with ⟨h4, h5⟩ | ⟨j', h4, h5, h6, h7⟩
    · rw [h4]
      rcases hT2 v (O j) with ⟨h6, h7⟩ | ⟨h6, j', h7, h8, h9⟩
      · rw [h6]; exact e1
      · have hj' := hed j' ((hmem j').1 h7)
        have := one j' hj'.1 hj'.2.1 j j0 j1 v h8 hv h9
        exact absurd (this ▸ h7) hjr
    · have hj' := hed j' ((hmem j').1 h4)
      rcases shut2 j' ((hmem j').1 h4) v h5 with h8 | h8
      · rw [h6, e1] at h8; omega
      · rw [h6, e1] at h8; exact absurd h8 hj
theorem flip_ok (s : Set1 n m e L i X Y T O w a b) (he : e ≤ 65536) (hi : 0 ≤ i) (K : Nat) (hK : i < K) :
    ∃ T3 O3, flipF n m e X Y K T O w a b = some (T3, O3) ∧ Inv n m X Y i T3 O3 ∧ T3 w a = -1 ∧ ∀ v, 0 ≤ v → v < L → T v a = -1 → T3 v a = -1 := by
  obtain ⟨q, u, c, h1, hw, hend⟩ := path_ok s he hi K [] w a .nil (by simpa using hK)
  have hed := hw.edge s
  have hshut := hw.shut s
  have hleft := hw.left s
  have hrng := hw.rng s
  have huc : T u c = -1 := by
    rcases s.inv.row u c hrng.1 hrng.2.1 hrng.2.2.1 hrng.2.2.2 with h | h
    · exact h
    · omega
  have nd := hw.nodup s
  have ie := s.ie
  have a0 := s.a0
  have a1 := s.a1
  have b0 := s.b0
  have b1 := s.b1
  have ab := s.ab
  have hmem : ∀ j, j ∈ q.reverse ↔ j ∈ q := fun j => List.mem_reverse
  have one : ∀ j, 0 ≤ j → j < i → ∀ j', 0 ≤ j' → j' < i → ∀ v, (X j = v ∨ Y j = v) → (X j' = v ∨ Y j' = v) → O j = O j' → j = j' := fun j p0 p1 j' r0 r1 v hv hv' ho => by
    have e1 := s.inv.at_ p0 p1 hv
    have e2 := s.inv.at_ r0 r1 hv'
    rw [← e1, ← e2, ho]
  obtain ⟨T2, h2, hT2⟩ := clear_ok (m := m) (e := e) (X := X) (Y := Y) (O := O) q.reverse T (fun j hj => by have := hed j ((hmem j).1 hj); omega)
  obtain ⟨T3, O3, h3, hO1, hO2, hT3⟩ := set_ok (m := m) (e := e) (X := X) (Y := Y) (a + b) q.reverse T2 O (List.pairwise_reverse.2 (nd.imp fun h => h.symm)) (fun j hj => by have := hed j ((hmem j).1 hj); omega)
    (fun j hj j' hj' v hv hv' ho => one j (hed j ((hmem j).1 hj)).1 (hed j ((hmem j).1 hj)).2.1 j' (hed j' ((hmem j').1 hj')).1 (hed j' ((hmem j').1 hj')).2.1 v hv hv' ho)
  have shut2 : ∀ j ∈ q, ∀ z, (X j = z ∨ Y j = z) → T z (a + b - O j) = -1 ∨ T z (a + b - O j) ∈ q := fun j hj z hz => by
    rcases hshut j hj z hz with h | h | ⟨rfl, h⟩
    · exact .inl h
    · exact .inr h
    · left; rw [h]; exact huc
  refine ⟨T3, O3, ?_, ⟨fun j j0 j1 => ?_, fun v d v0 v1 d0 d1 => ?_, ?_, ?_⟩, ?_, fun v v0 v1 hv => ?_⟩
  · unfold flipF
    rw [show (([] : List Int)) = [].reverse by rfl, h1]
    simp only [Option.bind_some]
    rw [h2]
    exact h3
  · by_cases hj : j ∈ q
    · rw [hO2 j ((hmem j).2 hj)]
      have := hed j hj
      omega
    · rw [hO1 j (fun h => hj ((hmem j).1 h))]
      exact s.inv.col j j0 j1
  · rcases hT3 v d with ⟨h4, h5⟩ | ⟨j, h4, h5, h6, h7⟩
    · rcases hT2 v d with ⟨h6, h7⟩ | ⟨h6, _⟩
      · rw [h4, h6]
        rcases s.inv.row v d v0 v1 d0 d1 with h8 | ⟨h8, h9, h10, h11⟩
        · exact .inl h8
        · refine .inr ⟨h8, h9, h10, ?_⟩
          rw [hO1 _ (fun h => h7 _ h ⟨h10, h11⟩)]
          exact h11
      · rw [h4, h6]; exact .inl rfl
    · have hj := hed j ((hmem j).1 h4)
      rw [h7]
      exact .inr ⟨hj.1, hj.2.1, h5, by rw [hO2 j h4]; exact h6⟩
  · intro j j0 j1
    exact flip_in s hed hmem one shut2 hT2 hO1 hO2 hT3 j j0 j1 (X j) (.inl rfl)
  · intro j j0 j1
    exact flip_in s hed hmem one shut2 hT2 hO1 hO2 hT3 j j0 j1 (Y j) (.inr rfl)
  · rcases hT3 w a with ⟨h4, h5⟩ | ⟨j, h4, h5, h6, h7⟩
    · rw [h4]
      rcases hT2 w a with ⟨h6, h7⟩ | ⟨h6, _⟩
      · rw [h6]
        rcases hw.first s with ⟨rfl, rfl, rfl⟩ | hm
        · exact huc
        · have hj := hed _ hm
          have hwr : T w a < i ∧ (X (T w a) = w ∨ Y (T w a) = w) ∧ O (T w a) = a := s.edge (by have := s.L0; have := s.w0; omega) s.w1 a0 a1 hj.1
          exact absurd hwr.2 (h7 _ ((hmem _).2 hm))
      · exact h6
    · have hj := hed j ((hmem j).1 h4)
      have e1 := s.inv.at_ hj.1 hj.2.1 h5
      rw [show O j = b by omega, s.wb] at e1
      omega
  · rcases hT3 v a with ⟨h4, h5⟩ | ⟨j, h4, h5, h6, h7⟩
    · rw [h4]
      rcases hT2 v a with ⟨h6, _⟩ | ⟨h6, _⟩
      · rw [h6]; exact hv
      · exact h6
    · have hj := hed j ((hmem j).1 h4)
      have hb : O j = b := by omega
      have := hleft j ((hmem j).1 h4) hb
      have y0 := s.gr.y0 j hj.1 (by omega)
      have ex : X j = v := by omega
      rw [ex, hv] at this
      omega
end
end Go.Proofs.Ytlleokhmgblfnaa.P
end

section
namespace Go.Proofs.Ytlleokhmgblfnaa.P
open Go.RowKit Go.Proofs.YtlleokhmgblfnaaW.PrintWords Go.Proofs.Ytlleokhmgblfnaa.H
def inc (X Y : Int → Int) (v : Int) : Int → Bool := fun j => decide (X j = v ∨ Y j = v)
theorem cnt_up (p : Int → Bool) {i k : Nat} (h : i ≤ k) : cnt i p ≤ cnt k p := by
  induction k with
  | zero => have : i = 0 := by omega
            subst this; exact Nat.le_refl _
  | succ k ih =>
    by_cases e : i = k + 1
    · rw [e]; exact Nat.le_refl _
    · rw [cnt_succ]; have := ih (by omega); omega
section
variable {n m L : Int} {e : Nat} {X Y : Int → Int} {T : Tab} {O : Int → Int} {a b : Int}
theorem lack {i : Nat} (h : Inv n m X Y i T O) (hi : i < e) (hm : 0 ≤ m) {v : Int} (v0 : 0 ≤ v) (v1 : v < n) (hv : X i = v ∨ Y i = v) (hd : (cnt e (inc X Y v) : Int) ≤ m) : ∃ c, 0 ≤ c ∧ c < m ∧ T v c < 0 := by
  apply Classical.byContradiction
  intro hn
  have all : ∀ c, 0 ≤ c → c < m → 0 ≤ T v c ∧ T v c < i ∧ (X (T v c) = v ∨ Y (T v c) = v) ∧ O (T v c) = c := fun c c0 c1 => by
    rcases h.row v c v0 v1 c0 c1 with h1 | h1
    · exact absurd ⟨c, c0, c1, by omega⟩ hn
    · exact h1
  have h1 := cnt_inj (p := fun _ => true) (fun c => T v c) i m.toNat (inc X Y v) (fun c c0 c1 _ => by
      have := all c c0 (by omega)
      exact ⟨this.1, this.2.1, by unfold inc; simpa using this.2.2.1⟩)
    (fun c d c0 c1 d0 d1 _ _ hcd => by
      have e1 := (all c c0 (by omega)).2.2.2
      have e2 := (all d d0 (by omega)).2.2.2
      have hcd' : T v c = T v d := hcd
      rw [← e1, ← e2, hcd'])
  rw [cnt_all m.toNat (fun _ _ _ => rfl)] at h1
  have h2 := cnt_up (inc X Y v) (show i + 1 ≤ e by omega)
  have h3 : inc X Y v (i : Int) = true := by unfold inc; simpa using hv
  rw [cnt_succ, h3] at h2
  simp only [if_true] at h2
  omega
theorem next_ok {i : Nat} (g : Gr n m e L X Y) (h : Inv n m X Y i T O) (hi : i < e) (a0 : 0 ≤ a) (a1 : a < m) (hx : T (X i) a = -1) (hy : T (Y i) a = -1) :
    Inv n m X Y ((i : Int) + 1) (upd (upd T (X i) a i) (Y i) a i) (updO O i a) := by
  have nv : ∀ j : Int, 0 ≤ j → j < i → ∀ v, (X j = v ∨ Y j = v) → ¬ ((X i = v ∨ Y i = v) ∧ a = O j) := fun j j0 j1 v hv hc => by
    have e1 := h.at_ j0 j1 hv
    rw [← hc.2] at e1
    rcases hc.1 with rfl | rfl <;> omega
  have old : ∀ j : Int, j < i → updO O i a j = O j := fun j hj => by unfold updO; rw [if_neg (by omega)]
  have new : updO O i a i = a := by unfold updO; rw [if_pos rfl]
  have key : ∀ j : Int, 0 ≤ j → j < (i : Int) + 1 → ∀ v, (X j = v ∨ Y j = v) → upd (upd T (X i) a i) (Y i) a i v (updO O i a j) = j := fun j j0 j1 v hv => by
    rw [upd2]
    by_cases hj : j = i
    · subst hj
      rw [new, if_pos ⟨hv, rfl⟩]
    · rw [old j (by omega), if_neg (nv j j0 (by omega) v hv)]
      exact h.at_ j0 (by omega) hv
  refine ⟨fun j j0 j1 => ?_, fun v c v0 v1 c0 c1 => ?_, fun j j0 j1 => key j j0 j1 _ (.inl rfl), fun j j0 j1 => key j j0 j1 _ (.inr rfl)⟩
  · by_cases hj : j = i
    · rw [hj, new]; exact ⟨a0, a1⟩
    · rw [old j (by omega)]; exact h.col j j0 (by omega)
  · rw [upd2]
    by_cases hc : (X i = v ∨ Y i = v) ∧ a = c
    · rw [if_pos hc]
      exact .inr ⟨by omega, by omega, hc.1, by rw [new]; exact hc.2⟩
    · rw [if_neg hc]
      rcases h.row v c v0 v1 c0 c1 with h1 | ⟨h1, h2, h3, h4⟩
      · exact .inl h1
      · exact .inr ⟨h1, by omega, h3, by rw [old _ h2]; exact h4⟩
theorem main_ok (g : Gr n m e L X Y) (L0 : 0 ≤ L) (Ln : L ≤ n) (he : e ≤ 65536) (hm : 0 ≤ m) (hd : ∀ v, 0 ≤ v → v < n → (cnt e (inc X Y v) : Int) ≤ m) (K : Nat) (hK : e < K) (hKm : m < K) :
    ∀ (d i : Nat) (T : Tab) (O : Int → Int), i + d = e → Inv n m X Y i T O → ∀ k, d < k → ∃ O', mainF n m e X Y K k i T O = some O' ∧ ∃ T', Inv n m X Y e T' O'
  | 0, i, T, O, hi, h, k, hk => by
    obtain ⟨k, rfl⟩ : ∃ k', k = k' + 1 := ⟨k - 1, by omega⟩
    refine ⟨O, ?_, T, by have : i = e := by omega
                         rw [← this]; exact h⟩
    unfold mainF
    rw [if_neg (by omega)]
  | d + 1, i, T, O, hi, h, k, hk => by
    obtain ⟨k, rfl⟩ : ∃ k', k = k' + 1 := ⟨k - 1, by omega⟩
    have x0 := g.x0 i (by omega) (by omega)
    have x1 := g.x1 i (by omega) (by omega)
    have y0 := g.y0 i (by omega) (by omega)
    have y1 := g.y1 i (by omega) (by omega)
    obtain ⟨ca, ca0, ca1, ca2⟩ := lack h (by omega) hm x0 (by omega) (.inl rfl) (hd _ x0 (by omega))
    obtain ⟨cb, cb0, cb1, cb2⟩ := lack h (by omega) hm (by omega) y1 (.inr rfl) (hd _ (by omega) y1)
    obtain ⟨a, ha, a0, a1, a2⟩ := miss_some m (T (X i)) ca ca1 ca2 K 0 ca0 (by omega)
    obtain ⟨b, hb, b0, b1, b2⟩ := miss_some m (T (Y i)) cb cb1 cb2 K 0 cb0 (by omega)
    have ta : T (X i) a = -1 := by
      rcases h.row (X i) a x0 (by omega) a0 a1 with h1 | h1
      · exact h1
      · omega
    have tb : T (Y i) b = -1 := by
      rcases h.row (Y i) b (by omega) y1 b0 b1 with h1 | h1
      · exact h1
      · omega
    unfold mainF
    rw [if_pos (by omega), ha]
    simp only [Option.bind_some]
    rw [hb]
    simp only [Option.bind_some]
    by_cases hab : a = b
    · rw [if_pos hab]
      rw [← hab] at tb
      have := main_ok g L0 Ln he hm hd K hK hKm d (i + 1) _ _ (by omega) (by have := next_ok g h (by omega) a0 a1 ta tb; simpa using this) k (by omega)
      simpa using this
    · rw [if_neg hab]
      obtain ⟨T3, O3, h3, h4, h5, h6⟩ := flip_ok (K := K) (L := L) (e := e) (w := Y i) (a := a) (b := b) ⟨g, h, by omega, L0, Ln, y0, y1, a0, a1, b0, b1, hab, tb⟩ (by omega) (by omega) (by omega)
      rw [h3]
      simp only [Option.bind_some]
      have := main_ok g L0 Ln he hm hd K hK hKm d (i + 1) _ _ (by omega) (by have := next_ok g h4 (by omega) a0 a1 (h6 _ x0 x1 ta) h5; simpa using this) k (by omega)
      simpa using this
theorem inv_start (X Y : Int → Int) : Inv n m X Y ((0 : Nat) : Int) (fun _ _ => -1) (fun _ => 0) :=
  ⟨fun j j0 j1 => by omega, fun _ _ _ _ _ _ => .inl rfl, fun j j0 j1 => by omega, fun j j0 j1 => by omega⟩
theorem proper {i : Int} (h : Inv n m X Y i T O) {j k : Int} (j0 : 0 ≤ j) (j1 : j < i) (k0 : 0 ≤ k) (k1 : k < i) (hn : j ≠ k) {v : Int} (hj : X j = v ∨ Y j = v) (hk : X k = v ∨ Y k = v) : O j ≠ O k := fun ho => by
  have e1 := h.at_ j0 j1 hj
  have e2 := h.at_ k0 k1 hk
  rw [ho, e2] at e1
  exact hn e1.symm
end
end Go.Proofs.Ytlleokhmgblfnaa.P
end

section
namespace Go.Proofs.Ytlleokhmgblfnaa.P
open Go.RowKit Go.Proofs.YtlleokhmgblfnaaW.PrintWords Go.Proofs.Ytlleokhmgblfnaa.H
theorem degS_two (x y : Int) (h : x ≠ y) (D : Int → Int) (mo : Int) (v : Int) : (degS [x, y] D mo).1 v = D v + if v = x ∨ v = y then 1 else 0 := by
  unfold degS degS degS updO
  simp only
  by_cases h1 : v = y
  · subst h1
    rw [if_pos rfl, if_neg (Ne.symm h), if_pos (.inr rfl)]
  · rw [if_neg h1]
    by_cases h2 : v = x
    · subst h2
      rw [if_pos rfl, if_pos (.inl rfl)]
    · rw [if_neg h2, if_neg (by rintro (h3 | h3); exact h2 h3; exact h1 h3)]
      omega
theorem degS_most (x y : Int) (h : x ≠ y) (D : Int → Int) (mo : Int) : mo ≤ (degS [x, y] D mo).2 ∧ D x + 1 ≤ (degS [x, y] D mo).2 ∧ D y + 1 ≤ (degS [x, y] D mo).2 ∧ ((degS [x, y] D mo).2 = mo ∨ (degS [x, y] D mo).2 = D x + 1 ∨ (degS [x, y] D mo).2 = D y + 1) := by
  unfold degS degS degS updO
  simp only
  rw [if_neg (Ne.symm h)]
  split <;> split <;> omega
theorem deg_go {L n m : Int} {E : List (Int × Int)} {X Y : Int → Int} (hXY : ∀ pre x suf, E = pre ++ x :: suf → X pre.length = x.1 ∧ Y pre.length = L + x.2) (g : Gr n m E.length L X Y) (L0 : 0 ≤ L) (Ln : L ≤ n) :
    ∀ (suf pre : List (Int × Int)) (D : Int → Int) (mo : Int), E = pre ++ suf → (∀ v, D v = cnt pre.length (inc X Y v)) → (∀ v, D v ≤ mo) → 0 ≤ mo → (mo = 0 ∨ ∃ v, 0 ≤ v ∧ v < n ∧ mo ≤ cnt pre.length (inc X Y v)) →
      (∀ v, (cnt E.length (inc X Y v) : Int) ≤ degF L suf D mo) ∧ 0 ≤ degF L suf D mo ∧ (degF L suf D mo = 0 ∨ ∃ v, 0 ≤ v ∧ v < n ∧ degF L suf D mo ≤ cnt E.length (inc X Y v))
  | [], pre, D, mo, hE, hD, hm, m0, ha => by
    have : E = pre := by simpa using hE
    subst this
    exact ⟨fun v => by rw [← hD v]; exact hm v, m0, ha⟩
  | x :: suf, pre, D, mo, hE, hD, hm, m0, ha => by
    have h1 := hXY pre x suf hE
    have hlen : E.length = pre.length + (suf.length + 1) := by rw [hE]; simp
    have x0 := g.x0 pre.length (by omega) (by omega)
    have x1 := g.x1 pre.length (by omega) (by omega)
    have y0 := g.y0 pre.length (by omega) (by omega)
    have y1 := g.y1 pre.length (by omega) (by omega)
    rw [h1.1] at x0 x1
    rw [h1.2] at y0 y1
    have hne : x.1 ≠ L + x.2 := by omega
    have hmo := degS_most x.1 (L + x.2) hne D mo
    have hcnt : ∀ v, (cnt (pre.length + 1) (inc X Y v) : Int) = D v + if v = x.1 ∨ v = L + x.2 then 1 else 0 := fun v => by
      rw [cnt_succ, hD v]
      unfold inc
      rw [h1.1, h1.2]
      by_cases h2 : v = x.1 ∨ v = L + x.2
      · rw [if_pos h2, if_pos (by simp; omega)]; omega
      · rw [if_neg h2, if_neg (by simp; omega)]; omega
    have := deg_go hXY g L0 Ln suf (pre ++ [x]) (degS [x.1, L + x.2] D mo).1 (degS [x.1, L + x.2] D mo).2 (by rw [hE]; simp)
      (fun v => by rw [degS_two _ _ hne, List.length_append]; exact (hcnt v).symm)
      (fun v => by
        rw [degS_two _ _ hne]
        have := hm v
        by_cases h2 : v = x.1 ∨ v = L + x.2
        · rw [if_pos h2]
          rcases h2 with rfl | rfl <;> omega
        · rw [if_neg h2]; omega)
      (by omega)
      (by
        rw [List.length_append]
        show _ ∨ ∃ v, 0 ≤ v ∧ v < n ∧ _ ≤ ((cnt (pre.length + 1) (inc X Y v) : Nat) : Int)
        rcases hmo.2.2.2 with e | e | e
        · rcases ha with ha | ⟨v, v0, v1, hv⟩
          · exact .inl (by omega)
          · refine .inr ⟨v, v0, v1, ?_⟩
            rw [e, cnt_succ]
            omega
        · refine .inr ⟨x.1, x0, by omega, ?_⟩
          rw [hcnt, if_pos (.inl rfl)]; omega
        · refine .inr ⟨L + x.2, by omega, y1, ?_⟩
          rw [hcnt, if_pos (.inr rfl)]; omega)
    unfold degF
    exact this
end Go.Proofs.Ytlleokhmgblfnaa.P
end

section
namespace Go.Proofs.Ytlleokhmgblfnaa.P
open Go.RowKit Go.Proofs.YtlleokhmgblfnaaW.PrintWords Go.Proofs.Ytlleokhmgblfnaa.H
theorem levA_spec {m : List Int} {n : Nat} (hm : m.length = n) (hn : n ≤ 1000000) : ∀ (d : Nat) (i : Int) (l q : List Int), (n : Int) = i + d → 0 ≤ i → l.length = n →
    (∀ x : Int, 0 ≤ x → x < i → rd l x = if rd m x < 0 then 0 else -1) → (∀ x ∈ q, 0 ≤ x ∧ x < i ∧ rd m x < 0) → (∀ x : Int, 0 ≤ x → x < i → rd m x < 0 → x ∈ q) → (q.length + cnt i.toNat (fun x => decide (0 ≤ rd m x)) = i.toNat) →
    ∃ K l' q', levA m n K i l q = some (l', q') ∧ l'.length = n ∧ (∀ x : Int, 0 ≤ x → x < n → rd l' x = if rd m x < 0 then 0 else -1) ∧ (∀ x ∈ q', 0 ≤ x ∧ x < n ∧ rd m x < 0) ∧ (∀ x : Int, 0 ≤ x → x < n → rd m x < 0 → x ∈ q') ∧ q'.length + cnt n (fun x => decide (0 ≤ rd m x)) = n := by
  intro d
  induction d with
  | zero =>
    intro i l q hd hi hl h1 h2 h3 h4
    have e : i = n := by omega
    subst e
    exact ⟨1, l, q, by rw [levA, if_neg (by omega)], hl, h1, h2, h3, by simpa using h4⟩
  | succ d ih =>
    intro i l q hd hi hl h1 h2 h3 h4
    have ei : (i + 1).toNat = i.toNat + 1 := by omega
    have ec : ((i.toNat : Nat) : Int) = i := by omega
    have cs : cnt (i + 1).toNat (fun x => decide (0 ≤ rd m x)) = cnt i.toNat (fun x => decide (0 ≤ rd m x)) + if decide (0 ≤ rd m i) = true then 1 else 0 := by
      rw [ei, cnt_succ, ec]
    by_cases hneg : rd m i < 0
    · have hq : q.length < 17592186044416 := by have := cnt_le (fun x => decide (0 ≤ rd m x)) i.toNat; omega
      obtain ⟨K, l', q', hK, r⟩ := ih (i + 1) ((l.set i.toNat (-1)).set i.toNat 0) (q ++ [i]) (by omega) (by omega) (by simpa using hl) (fun x h0 hx => by
          by_cases e : x = i
          · subst e
            rw [rd_set_eq h0 (by simp; omega), if_pos hneg]
          · rw [rd_set_ne hi (by simp; omega) h0 e, rd_set_ne hi (by omega) h0 e]
            exact h1 x h0 (by omega)) (fun x hx => by
          rcases List.mem_append.1 hx with hx | hx
          · have := h2 x hx; exact ⟨this.1, by omega, this.2.2⟩
          · rw [List.mem_singleton.1 hx]; exact ⟨hi, by omega, hneg⟩) (fun x h0 hx hm => by
          by_cases e : x = i
          · subst e; simp
          · exact List.mem_append_left _ (h3 x h0 (by omega) hm)) (by
          rw [cs, if_neg (by simp; omega)]
          simp
          omega)
      exact ⟨K + 1, l', q', by rw [levA, if_pos (by omega), if_pos (by omega), if_pos (by omega), if_pos hneg, if_pos hq]; exact hK, r⟩
    · obtain ⟨K, l', q', hK, r⟩ := ih (i + 1) (l.set i.toNat (-1)) q (by omega) (by omega) (by simpa using hl) (fun x h0 hx => by
          by_cases e : x = i
          · subst e
            rw [rd_set_eq h0 (by omega), if_neg hneg]
          · rw [rd_set_ne hi (by omega) h0 e]
            exact h1 x h0 (by omega)) (fun x hx => by have := h2 x hx; exact ⟨this.1, by omega, this.2.2⟩) (fun x h0 hx hm => by
          by_cases e : x = i
          · subst e; exact absurd hm hneg
          · exact h3 x h0 (by omega) hm) (by
          rw [cs, if_pos (by simp; omega)]
          omega)
      exact ⟨K + 1, l', q', by rw [levA, if_pos (by omega), if_pos (by omega), if_pos (by omega), if_neg hneg]; exact hK, r⟩
def unr (n : Nat) (l : List Int) : Nat := cnt n (fun x => decide (rd l x < 0))
structure LInv (next : List (List Int)) (m b : List Int) (v j : Int) (f : Bool) (l q : List Int) : Prop where
  ll : l.length = next.length
  lo : ∀ x : Int, 0 ≤ x → x < next.length → -1 ≤ rd l x
  hi : ∀ x : Int, 0 ≤ x → x < next.length → rd l x + unr next.length l < next.length
  fr : ∀ x : Int, 0 ≤ x → x < next.length → (rd m x < 0 ↔ rd l x = 0)
  qr : ∀ x ∈ q, 0 ≤ x ∧ x < next.length ∧ 0 ≤ rd l x
  pr : ∀ x : Int, 0 ≤ x → x < next.length → 0 < rd l x → ∃ p : Int, 0 ≤ p ∧ p < next.length ∧ rd l p = rd l x - 1 ∧ ∃ w ∈ rdL next p, rd b w = x
  cl : ∀ x : Int, 0 ≤ x → x < next.length → 0 ≤ rd l x → x ∉ q → x ≠ v → ∀ w ∈ rdL next x, (rd b w < 0 → f = true) ∧ (0 ≤ rd b w → 0 ≤ rd l (rd b w))
  cv : 0 ≤ v → ∀ j' : Int, 0 ≤ j' → j' < j → j' < (rdL next v).length → (rd b (rd (rdL next v) j') < 0 → f = true) ∧ (0 ≤ rd b (rd (rdL next v) j') → 0 ≤ rd l (rd b (rd (rdL next v) j')))
  fo : f = true → ∃ x : Int, 0 ≤ x ∧ x < next.length ∧ 0 ≤ rd l x ∧ ∃ w ∈ rdL next x, rd b w < 0
theorem levC_spec {next : List (List Int)} {R : Nat} (hn : next.length ≤ 1000000) (hNV : NV next R) {m b : List Int} (hg : Hole next R m b (-1)) (v : Int) (hv0 : 0 ≤ v) (hv1 : v < next.length) :
    ∀ (e : Nat) (j : Int) (f : Bool) (l q : List Int), (rdL next v).length ≤ j + e → 0 ≤ j → LInv next m b v j f l q → 0 ≤ rd l v → q.length + unr next.length l ≤ next.length →
      ∃ K s, levC b (rdL next v) v K j f l q = some s ∧ LInv next m b (-1) 0 s.1 s.2.1 s.2.2 ∧ s.2.2.length + unr next.length s.2.1 = q.length + unr next.length l := by
  intro e
  induction e with
  | zero =>
    intro j f l q he hj hI hlv hq
    refine ⟨1, (f, l, q), by rw [levC, if_neg (by omega)], ⟨hI.ll, hI.lo, hI.hi, hI.fr, hI.qr, hI.pr, fun x h0 h1 h2 h3 _ w hw => ?_, fun h => by omega, hI.fo⟩, rfl⟩
    by_cases ex : x = v
    · subst ex
      obtain ⟨i, i0, i1, rfl⟩ := mem_rd hw
      exact hI.cv h0 i i0 (by omega) i1
    · exact hI.cl x h0 h1 h2 h3 ex w hw
  | succ e ih =>
    intro j f l q he hj hI hlv hq
    by_cases hlt : j < (rdL next v).length
    case neg => exact ih j f l q (by omega) hj hI hlv hq
    obtain ⟨x, hx⟩ : ∃ x, rd (rdL next v) j = x := ⟨_, rfl⟩
    have hxm : x ∈ rdL next v := hx ▸ rd_mem hj hlt
    obtain ⟨hx0, hx1⟩ := hNV v hv0 hv1 x hxm
    obtain ⟨u, hu⟩ : ∃ u, rd b x = u := ⟨_, rfl⟩
    have hlb := hg.lb
    have hll := hI.ll
    by_cases hu0 : u < 0
    · have hI' : LInv next m b v (j + 1) true l q := by
        refine ⟨hI.ll, hI.lo, hI.hi, hI.fr, hI.qr, hI.pr, fun y h0 h1 h2 h3 h4 w hw => ⟨fun _ => rfl, (hI.cl y h0 h1 h2 h3 h4 w hw).2⟩, fun _ j' h0 h1 h2 => ⟨fun _ => rfl, fun h3 => ?_⟩, fun _ => ⟨v, hv0, hv1, hlv, x, hxm, by omega⟩⟩
        by_cases ej : j' = j
        · subst ej; rw [hx, hu] at h3; omega
        · exact (hI.cv hv0 j' h0 (by omega) h2).2 h3
      obtain ⟨K, s, hK, r⟩ := ih (j + 1) true l q (by omega) (by omega) hI' hlv hq
      exact ⟨K + 1, s, by rw [levC, if_pos hlt, hx, if_pos hx0, if_pos (by omega), hu, if_pos hu0]; exact hK, r⟩
    have hu0' : 0 ≤ u := by omega
    obtain ⟨hun, hum⟩ := hg.bb x hx0 hx1 (by omega) (by omega)
    rw [hu] at hun hum
    by_cases hlu : rd l u < 0
    · have hlu1 : rd l u = -1 := by have := hI.lo u hu0' hun; omega
      have huv : u ≠ v := fun e => by rw [e] at hlu; omega
      have hvb := hI.hi v hv0 hv1
      have hub : unr next.length l ≤ next.length := cnt_le _ _
      have wr : wrap64 (rd l v + 1) = rd l v + 1 := by unfold wrap64; omega
      have hun2 : unr next.length (l.set u.toNat (rd l v + 1)) + 1 = unr next.length l := by
        unfold unr
        rw [cnt_out (fun x => decide (rd l x < 0)) u next.length hu0' hun (by simpa using hlu)]
        congr 1
        refine cnt_congr _ (fun y h0 h1 => ?_)
        by_cases ey : y = u
        · subst ey
          rw [rd_set_eq h0 (by omega)]
          have : ¬ rd l v + 1 < 0 := by omega
          simp [this]
        · rw [rd_set_ne hu0' (by omega) h0 ey]
          have : (y != u) = true := by simpa using ey
          rw [this, Bool.and_true]
      have hset : ∀ y : Int, 0 ≤ y → y ≠ u → rd (l.set u.toNat (rd l v + 1)) y = rd l y := fun y h0 ey => rd_set_ne hu0' (by omega) h0 ey
      have hsetu : rd (l.set u.toNat (rd l v + 1)) u = rd l v + 1 := rd_set_eq hu0' (by omega)
      have hge : ∀ y : Int, 0 ≤ y → 0 ≤ rd l y → 0 ≤ rd (l.set u.toNat (rd l v + 1)) y := fun y h0 h => by
        by_cases ey : y = u
        · subst ey; rw [hsetu]; omega
        · rw [hset y h0 ey]; exact h
      have hI' : LInv next m b v (j + 1) f (l.set u.toNat (rd l v + 1)) (q ++ [u]) := by
       refine ⟨by simpa using hll, fun y h0 h1 => ?_, fun y h0 h1 => ?_, fun y h0 h1 => ?_, fun y hy => ?_, fun y h0 h1 h2 => ?_, fun y h0 h1 h2 h3 h4 w hw => ?_, fun _ j' h0 h1 h2 => ?_, fun h => ?_⟩
       · by_cases ey : y = u
         · subst ey; rw [hsetu]; omega
         · rw [hset y h0 ey]; exact hI.lo y h0 h1
       · by_cases ey : y = u
         · subst ey; rw [hsetu]; omega
         · rw [hset y h0 ey]; have := hI.hi y h0 h1; omega
       · by_cases ey : y = u
         · subst ey; rw [hsetu, hum]; omega
         · rw [hset y h0 ey]; exact hI.fr y h0 h1
       · rcases List.mem_append.1 hy with hy | hy
         · obtain ⟨a1, a2, a3⟩ := hI.qr y hy; exact ⟨a1, a2, hge y a1 a3⟩
         · rw [List.mem_singleton.1 hy]; exact ⟨hu0', hun, by rw [hsetu]; omega⟩
       · by_cases ey : y = u
         · subst ey
           exact ⟨v, hv0, hv1, by rw [hsetu, hset v hv0 huv.symm]; omega, x, hxm, hu⟩
         · rw [hset y h0 ey] at h2
           obtain ⟨p, p0, p1, p2, w, hw, p3⟩ := hI.pr y h0 h1 h2
           have ep : p ≠ u := fun e => by rw [e] at p2; omega
           exact ⟨p, p0, p1, by rw [hset y h0 ey, hset p p0 ep]; exact p2, w, hw, p3⟩
       · have ey : y ≠ u := fun e => h3 (by rw [e]; simp)
         rw [hset y h0 ey] at h2
         obtain ⟨c1, c2⟩ := hI.cl y h0 h1 h2 (fun h => h3 (List.mem_append_left _ h)) h4 w hw
         exact ⟨c1, fun h => hge _ h (c2 h)⟩
       · by_cases ej : j' = j
         · subst ej
           rw [hx, hu]
           exact ⟨fun h => by omega, fun _ => by rw [hsetu]; omega⟩
         · obtain ⟨c1, c2⟩ := hI.cv hv0 j' h0 (by omega) h2
           exact ⟨c1, fun h => hge _ h (c2 h)⟩
       · obtain ⟨y, y0, y1, y2, r⟩ := hI.fo h
         exact ⟨y, y0, y1, hge y y0 y2, r⟩
      obtain ⟨K, s, hK, r1, r2⟩ := ih (j + 1) f (l.set u.toNat (rd l v + 1)) (q ++ [u]) (by omega) (by omega) hI' (by rw [hset v hv0 huv.symm]; omega) (by simp; omega)
      refine ⟨K + 1, s, ?_, r1, by rw [r2]; simp; omega⟩
      rw [levC, if_pos hlt, hx, if_pos hx0, if_pos (by omega), hu, if_neg hu0, if_pos (by omega), if_pos hlu, if_pos (by omega), if_pos (by omega), wr]
      exact hK
    · have hI' : LInv next m b v (j + 1) f l q := by
        refine ⟨hI.ll, hI.lo, hI.hi, hI.fr, hI.qr, hI.pr, hI.cl, fun _ j' h0 h1 h2 => ?_, hI.fo⟩
        by_cases ej : j' = j
        · subst ej
          rw [hx, hu]
          exact ⟨fun h => by omega, fun _ => by omega⟩
        · exact hI.cv hv0 j' h0 (by omega) h2
      obtain ⟨K, s, hK, r⟩ := ih (j + 1) f l q (by omega) (by omega) hI' hlv hq
      exact ⟨K + 1, s, by rw [levC, if_pos hlt, hx, if_pos hx0, if_pos (by omega), hu, if_neg hu0, if_pos (by omega), if_neg hlu]; exact hK, r⟩
theorem levB_spec {next : List (List Int)} {R : Nat} (hn : next.length ≤ 1000000) (hNV : NV next R) {m b : List Int} (hg : Hole next R m b (-1)) :
    ∀ (d : Nat) (f : Bool) (l q : List Int), q.length + unr next.length l ≤ d → d ≤ next.length → LInv next m b (-1) 0 f l q →
      ∃ K s, levB next b K f l q = some s ∧ LInv next m b (-1) 0 s.1 s.2 [] := by
  intro d
  induction d with
  | zero =>
    intro f l q hd hdn hI
    have : q = [] := List.length_eq_zero_iff.1 (by omega)
    subst this
    exact ⟨1, (f, l), rfl, hI⟩
  | succ d ih =>
    intro f l q hd hdn hI
    cases q with
    | nil => exact ⟨1, (f, l), rfl, hI⟩
    | cons v q =>
      obtain ⟨hv0, hv1, hlv⟩ := hI.qr v (by simp)
      simp only [List.length_cons] at hd
      obtain ⟨K1, s, hK1, hI1, he⟩ := levC_spec hn hNV hg v hv0 hv1 (rdL next v).length 0 f l q (by omega) (by omega)
        ⟨hI.ll, hI.lo, hI.hi, hI.fr, fun x hx => hI.qr x (by simp [hx]), hI.pr, fun x h0 h1 h2 h3 h4 w hw => hI.cl x h0 h1 h2 (by simp [h3, h4]) (by omega) w hw, fun _ j' h0 h1 => by omega, hI.fo⟩ hlv (by omega)
      obtain ⟨K2, t, hK2, hI2⟩ := ih s.1 s.2.1 s.2.2 (by omega) (by omega) hI1
      refine ⟨max K1 K2 + 1, t, ?_, hI2⟩
      rw [levB, if_pos hv0, if_pos hv1, at_rounds (g := fun k => levC b (rdL next v) v k 0 f l q) (fun k => levC_mono _ _ _ _ _ _ _ _) (Nat.le_max_left K1 K2) hK1]
      exact at_rounds (g := fun k => levB next b k s.1 s.2.1 s.2.2) (fun k => levB_mono _ _ _ _ _ _) (Nat.le_max_right K1 K2) hK2
theorem levF_spec {next : List (List Int)} {R : Nat} (hn : next.length ≤ 1000000) (hNV : NV next R) {m b : List Int} (hg : Hole next R m b (-1)) (l : List Int) (hl : l.length = next.length) :
    ∃ K s, levF next m b K l = some s ∧ LInv next m b (-1) 0 s.1 s.2 [] := by
  obtain ⟨K1, l1, q1, hK1, a1, a2, a3, a4, a5⟩ := levA_spec hg.lm hn next.length 0 l [] (by omega) (by omega) hl (fun x h0 h1 => by omega) (fun x hx => by cases hx) (fun x h0 h1 => by omega) rfl
  have hu : unr next.length l1 = cnt next.length (fun x => decide (0 ≤ rd m x)) := by
    refine cnt_congr _ (fun x h0 h1 => ?_)
    rw [a2 x h0 h1]
    by_cases h : rd m x < 0
    · rw [if_pos h]
      have : ¬ 0 ≤ rd m x := by omega
      simp [this]
    · rw [if_neg h]
      have : 0 ≤ rd m x := by omega
      simp [this]
  have hI0 : LInv next m b (-1) 0 false l1 q1 := by
   refine ⟨a1, fun x h0 h1 => by rw [a2 x h0 h1]; split <;> omega, fun x h0 h1 => ?_, fun x h0 h1 => by rw [a2 x h0 h1]; split <;> omega, fun x hx => ?_, fun x h0 h1 h2 => ?_, fun x h0 h1 h2 h3 => ?_, fun h => by omega, (fun h => by cases h)⟩
   · rw [a2 x h0 h1]
     split
     · have hx := a4 x h0 h1 (by assumption)
       have : 0 < q1.length := List.length_pos_of_mem hx
       omega
     · have := cnt_le (fun x => decide (0 ≤ rd m x)) next.length
       omega
   · obtain ⟨x0, x1, x2⟩ := a3 x hx
     exact ⟨x0, x1, by rw [a2 x x0 x1, if_pos x2]; omega⟩
   · rw [a2 x h0 h1] at h2
     split at h2 <;> omega
   · rw [a2 x h0 h1] at h2
     split at h2
     · exact absurd (a4 x h0 h1 (by assumption)) h3
     · omega
  obtain ⟨K2, s, hK2, hI⟩ := levB_spec hn hNV hg next.length false l1 q1 (by omega) (Nat.le_refl _) hI0
  refine ⟨max K1 K2, s, ?_, hI⟩
  unfold levF
  rw [at_rounds (g := fun k => levA m next.length k 0 l []) (fun k => levA_mono _ _ _ _ _ _) (Nat.le_max_left K1 K2) hK1]
  exact at_rounds (g := fun k => levB next b k false l1 q1) (fun k => levB_mono _ _ _ _ _ _) (Nat.le_max_right K1 K2) hK2
end Go.Proofs.Ytlleokhmgblfnaa.P
namespace Go.Proofs.Ytlleokhmgblfnaa.P
open Go.RowKit Go.Proofs.YtlleokhmgblfnaaW.PrintWords Go.Proofs.Ytlleokhmgblfnaa.H
def msz (n : Nat) (m : List Int) : Nat := cnt n (fun x => decide (0 ≤ rd m x))
theorem phase_spec {next : List (List Int)} {R : Nat} (hn : next.length ≤ 1000000) (hNV : NV next R) {m0 b0 l0 : List Int} :
    ∀ (e : Nat) (v : Int) (m b l : List Int), next.length ≤ v + e → 0 ≤ v → Hole next R m b (-1) → l.length = next.length →
      (∀ x : Int, 0 ≤ x → x < next.length → -1 ≤ rd l x ∧ rd l x ≤ next.length) →
      (∀ x : Int, v ≤ x → x < next.length → rd m x < 0 → rd l x = 0) →
      (∀ x : Int, 0 ≤ x → x < next.length → 0 ≤ rd m0 x → 0 ≤ rd m x) →
      ((∃ x : Int, 0 ≤ x ∧ x < next.length ∧ rd m0 x < 0 ∧ 0 ≤ rd m x) ∨ (m = m0 ∧ b = b0 ∧ Base next.length l0 l ∧ DC next b0 l0 l ∧ ∀ x : Int, 0 ≤ x → x < v → x < next.length → rd m0 x < 0 → rd l x = -1)) →
      ∃ K t, phase next K v m b l = some t ∧ Hole next R t.1 t.2.1 (-1) ∧ t.2.2.length = next.length ∧ (∀ x : Int, 0 ≤ x → x < next.length → 0 ≤ rd m0 x → 0 ≤ rd t.1 x) ∧
        ((∃ x : Int, 0 ≤ x ∧ x < next.length ∧ rd m0 x < 0 ∧ 0 ≤ rd t.1 x) ∨ (t.1 = m0 ∧ t.2.1 = b0 ∧ Base next.length l0 t.2.2 ∧ DC next b0 l0 t.2.2 ∧ ∀ x : Int, 0 ≤ x → x < next.length → rd m0 x < 0 → rd t.2.2 x = -1)) := by
  intro e
  induction e with
  | zero =>
    intro v m b l he hv hg hl hL hfr hmo hp
    refine ⟨1, (m, b, l), by rw [phase, if_neg (by omega)], hg, hl, hmo, ?_⟩
    rcases hp with hp | ⟨p1, p2, p3, p4, p5⟩
    · exact .inl hp
    · exact .inr ⟨p1, p2, p3, p4, fun x h0 h1 => p5 x h0 (by omega) h1⟩
  | succ e ih =>
    intro v m b l he hv hg hl hL hfr hmo hp
    by_cases hlt : v < next.length
    case neg => exact ih v m b l (by omega) hv hg hl hL hfr hmo hp
    by_cases hneg : rd m v < 0
    · have hl0 := hfr v (Int.le_refl _) hlt hneg
      obtain ⟨K1, q, hK1, S⟩ := ext_spec (by omega) hNV hg (next.length + 1) v l hv hlt hl hL (by omega) (by omega)
      have hLq : ∀ x : Int, 0 ≤ x → x < next.length → -1 ≤ rd q.2.2.2 x ∧ rd q.2.2.2 x ≤ next.length := fun x h0 h1 => by
        rcases S.lv x h0 h1 with h | ⟨h, _⟩
        · rw [h]; exact hL x h0 h1
        · rw [h]; omega
      have hfq : ∀ x : Int, v + 1 ≤ x → x < next.length → rd m x < 0 → rd q.2.2.2 x = 0 := fun x h0 h1 h2 => by
        have h3 := hfr x (by omega) h1 h2
        rcases S.lv x (by omega) h1 with h | ⟨h, h' | h'⟩
        · omega
        · omega
        · omega
      obtain ⟨q0, qm, qb, ql⟩ := q
      cases q0 with
      | true =>
        obtain ⟨s1, s2, s3⟩ := S.ok rfl
        have hm0v : rd m0 v < 0 := by
          by_cases h : 0 ≤ rd m0 v
          · have := hmo v hv hlt h; omega
          · omega
        have hqm : ∀ x : Int, 0 ≤ x → x < next.length → 0 ≤ rd m0 x → 0 ≤ rd qm x := fun x h0 h1 h2 => (s2 x h0 h1).2 (.inl (hmo x h0 h1 h2))
        obtain ⟨K2, t, hK2, r⟩ := ih (v + 1) qm qb ql (by omega) (by omega) (s1.neg hneg) S.ll hLq
          (fun x h0 h1 h2 => hfq x h0 h1 (by
            by_cases h : 0 ≤ rd m x
            · have := (s2 x (by omega) h1).2 (.inl h)
              have h2' : rd qm x < 0 := h2
              have this' : 0 ≤ rd qm x := this
              omega
            · omega)) hqm
          (.inl ⟨v, hv, hlt, hm0v, (s2 v hv hlt).2 (.inr rfl)⟩)
        refine ⟨max K1 K2 + 1, t, ?_, r⟩
        rw [phase, if_pos hlt, if_pos hneg, at_rounds (extG_mono_k next v 0 m b l) (Nat.le_max_left K1 K2) hK1]
        exact at_rounds (g := fun k => phase next k (v + 1) qm qb ql) (fun k => phase_mono _ _ _ _ _ _) (Nat.le_max_right K1 K2) hK2
      | false =>
        obtain ⟨s1, s2, s3⟩ := S.no rfl
        have s1' : qm = m := s1
        have s2' : qb = b := s2
        subst s1' s2'
        obtain ⟨K2, t, hK2, r⟩ := ih (v + 1) qm qb ql (by omega) (by omega) hg S.ll hLq hfq hmo
          (by
            rcases hp with hp | ⟨p1, p2, p3, p4, p5⟩
            · exact .inl hp
            · subst p1 p2
              refine .inr ⟨rfl, rfl, fun x h0 h1 => ?_, S.dc rfl l0 p3 p4, fun x h0 h1 h2 h3 => ?_⟩
              · rcases S.lv x h0 h1 with h | ⟨h, _⟩
                · rw [h]; exact p3 x h0 h1
                · exact .inr h
              · by_cases ex : x = v
                · subst ex; exact s3
                · have h4 := p5 x h0 (by omega) h2 h3
                  rcases S.lv x h0 h2 with h | ⟨h, _⟩
                  · exact h.trans h4
                  · exact h)
        refine ⟨max K1 K2 + 1, t, ?_, r⟩
        rw [phase, if_pos hlt, if_pos hneg, at_rounds (extG_mono_k next v 0 qm qb l) (Nat.le_max_left K1 K2) hK1]
        exact at_rounds (g := fun k => phase next k (v + 1) qm qb ql) (fun k => phase_mono _ _ _ _ _ _) (Nat.le_max_right K1 K2) hK2
    · obtain ⟨K, t, hK, r⟩ := ih (v + 1) m b l (by omega) (by omega) hg hl hL (fun x h0 h1 => hfr x (by omega) h1) hmo
        (by
          rcases hp with hp | ⟨p1, p2, p3, p4, p5⟩
          · exact .inl hp
          · refine .inr ⟨p1, p2, p3, p4, fun x h0 h1 h2 h3 => ?_⟩
            by_cases ex : x = v
            · subst ex; rw [p1] at hneg; exact absurd h3 hneg
            · exact p5 x h0 (by omega) h2 h3)
      exact ⟨K + 1, t, by rw [phase, if_pos hlt, if_neg hneg]; exact hK, r⟩
theorem phase_gains {next : List (List Int)} {m b l0 l : List Int} (hI : LInv next m b (-1) 0 true l0 []) (hB : Base next.length l0 l) (hD : DC next b l0 l) (hf : ∀ x : Int, 0 ≤ x → x < next.length → rd m x < 0 → rd l x = -1) : False := by
  have dead : ∀ (i : Nat) (x : Int), 0 ≤ x → x < next.length → rd l0 x = i → rd l x = -1 := by
    intro i
    induction i with
    | zero => intro x h0 h1 h2; exact hf x h0 h1 ((hI.fr x h0 h1).2 h2)
    | succ i ih =>
      intro x h0 h1 h2
      obtain ⟨p, p0, p1, p2, w, hw, p3⟩ := hI.pr x h0 h1 (by omega)
      have hp := ih p p0 p1 (by omega)
      obtain ⟨_, h⟩ := hD p p0 p1 (by omega) hp w hw
      rw [p3] at h
      exact h (by omega)
  obtain ⟨x, x0, x1, x2, w, hw, hb⟩ := hI.fo rfl
  have := hD x x0 x1 x2 (dead (rd l0 x).toNat x x0 x1 (by omega)) w hw
  omega
theorem great_spec {next : List (List Int)} {R : Nat} (hn : next.length ≤ 1000000) (hNV : NV next R) :
    ∀ (d : Nat) (m b l : List Int), Hole next R m b (-1) → l.length = next.length → next.length - msz next.length m < d →
      ∃ K r, great next K m b l = some r ∧ Hole next R r.1 r.2 (-1) ∧ ∃ l', LInv next r.1 r.2 (-1) 0 false l' [] := by
  intro d
  induction d with
  | zero => intro m b l hg hl hd; omega
  | succ d ih =>
    intro m b l hg hl hd
    obtain ⟨K1, s, hK1, hI⟩ := levF_spec hn hNV hg l hl
    obtain ⟨f, l0⟩ := s
    cases f with
    | false =>
      exact ⟨K1 + 1, (m, b), by rw [great, hK1]; rfl, hg, l0, hI⟩
    | true =>
      have hub : unr next.length l0 ≤ next.length := cnt_le _ _
      obtain ⟨K2, t, hK2, h1, h2, h3, h4⟩ := phase_spec hn hNV (m0 := m) (b0 := b) (l0 := l0) next.length 0 m b l0 (by omega) (by omega) hg hI.ll
        (fun x h0 h1 => ⟨hI.lo x h0 h1, by have := hI.hi x h0 h1; simp only at this ⊢; omega⟩) (fun x h0 h1 h2 => (hI.fr x h0 h1).1 h2) (fun x _ _ h => h)
        (.inr ⟨rfl, rfl, fun x _ _ => .inl rfl, fun x h0 h1 h2 h3 => by omega, fun x h0 h1 => by omega⟩)
      have hgain : msz next.length m < msz next.length t.1 := by
        rcases h4 with ⟨x, x0, x1, x2, x3⟩ | ⟨e1, e2, e3, e4, e5⟩
        · unfold msz
          rw [cnt_out (fun y => decide (0 ≤ rd t.1 y)) x next.length x0 x1 (by simpa using x3)]
          refine Nat.lt_succ_of_le (cnt_mono _ (fun y h0 h1 hy => ?_))
          have hy' : 0 ≤ rd m y := by simpa using hy
          have : y ≠ x := fun e => by rw [e] at hy'; omega
          simp [h3 y h0 h1 hy', this]
        · exact absurd (phase_gains hI e3 e4 e5) (by simp)
      have hle : msz next.length t.1 ≤ next.length := cnt_le _ _
      obtain ⟨K3, r, hK3, hr⟩ := ih t.1 t.2.1 t.2.2 h1 h2 (by omega)
      refine ⟨max K1 (max K2 K3) + 1, r, ?_, hr⟩
      rw [great, at_rounds (g := fun k => levF next m b k l) (fun k => levF_mono _ _ _ _ _) (Nat.le_max_left K1 _) hK1]
      simp only [Option.bind_some, if_true]
      rw [at_rounds (g := fun k => phase next k 0 m b l0) (fun k => phase_mono _ _ _ _ _ _) (Nat.le_trans (Nat.le_max_left K2 K3) (Nat.le_max_right K1 _)) hK2]
      exact at_rounds (g := fun k => great next k t.1 t.2.1 t.2.2) (fun k => great_mono _ _ _ _ _) (Nat.le_trans (Nat.le_max_right K2 K3) (Nat.le_max_right K1 _)) hK3
theorem rd_nones (n : Nat) (x : Int) (h0 : 0 ≤ x) (h1 : x < n) : rd (nones n) x = -1 := by
  unfold rd nones
  rw [List.getD_eq_getElem?_getD, List.getElem?_replicate, if_pos (by omega)]
  rfl
theorem greatF_spec {next : List (List Int)} {R : Nat} (hn : next.length ≤ 1000000) (hR : R ≤ 1000000) (hNV : NV next R) :
    ∃ K m b, greatF K next R = some (m, b) ∧ Hole next R m b (-1) ∧ ∃ l, LInv next m b (-1) 0 false l [] := by
  have hg : Hole next R (nones next.length) (nones R) (-1) :=
    ⟨by simp [nones], by simp [nones], fun v h0 h1 h2 => by rw [rd_nones _ _ h0 h1] at h2; omega, fun w h0 h1 _ h2 => by rw [rd_nones _ _ h0 h1] at h2; omega⟩
  obtain ⟨K, r, hK, h⟩ := great_spec hn hNV (next.length + 1) (nones next.length) (nones R) (List.replicate next.length 0) hg (by simp) (by omega)
  refine ⟨K, r.1, r.2, ?_, h⟩
  unfold greatF
  rw [if_pos (by omega), if_pos (by omega), if_pos (by omega)]
  exact hK
end Go.Proofs.Ytlleokhmgblfnaa.P
end

section
namespace Go.Proofs.Ytlleokhmgblfnaa.P
open Go.RowKit Go.Proofs.YtlleokhmgblfnaaW.PrintWords Go.Proofs.Ytlleokhmgblfnaa.H Go.Proofs.Ytlleokhmgblfnaa.M
theorem w64 {x : Int} (h0 : -9223372036854775808 ≤ x) (h1 : x ≤ 9223372036854775807) : wrap64 x = x := by unfold wrap64; omega
theorem fuel {k d : Nat} (h : d < k) : ∃ k', k = k' + 1 := ⟨k - 1, by omega⟩
theorem getD_set {α : Type} (d : α) (xs : List α) (i j : Int) (y : α) (h0 : 0 ≤ i) (h1 : i < xs.length) (hj : 0 ≤ j) : (xs.set i.toNat y).getD j.toNat d = if j = i then y else xs.getD j.toNat d := by
  rw [List.getD_eq_getElem?_getD, List.getD_eq_getElem?_getD, List.getElem?_set]
  by_cases e : j = i
  · subst e
    rw [if_pos rfl, if_pos rfl, if_pos (by omega)]
    rfl
  · rw [if_neg (by omega), if_neg e]
theorem getD_rep {α : Type} (d : α) (n i : Nat) : (List.replicate n d).getD i d = d := by
  rw [List.getD_eq_getElem?_getD, List.getElem?_replicate]
  split <;> rfl
def Adj (E : List S40) (v w : Int) : Prop := ∃ j : Int, 0 ≤ j ∧ j < E.length ∧ (rd_T40 E j).f0 = v ∧ (rd_T40 E j).f1 = w
structure GOK (L R : Nat) (E : List S40) : Prop where
  L1 : L ≤ 1024
  R1 : R ≤ 1024
  len : E.length ≤ 65536
  rng : ∀ j : Int, 0 ≤ j → j < E.length → 0 ≤ (rd_T40 E j).f0 ∧ (rd_T40 E j).f0 < L ∧ 0 ≤ (rd_T40 E j).f1 ∧ (rd_T40 E j).f1 < R
theorem nbr_l0 {L R : Nat} {E : List S40} (g : GOK L R E) :
    ∀ (d : Nat) (i : Int) (x : List (List Int)), (E.length : Int) = i + d → 0 ≤ i → x.length = L →
      (∀ v w : Int, 0 ≤ v → v < L → (w ∈ rd_L5 x v ↔ ∃ j : Int, 0 ≤ j ∧ j < i ∧ (rd_T40 E j).f0 = v ∧ (rd_T40 E j).f1 = w)) →
      (∀ v : Int, 0 ≤ v → v < L → (rd_L5 x v).length ≤ i) →
      ∃ r, (∀ k, d < k → match_Graph_neighbours.l0 k x E E.length i = some r) ∧ r.length = L ∧ (∀ v w : Int, 0 ≤ v → v < L → (w ∈ rd_L5 r v ↔ Adj E v w)) ∧ ∀ v : Int, 0 ≤ v → v < L → (rd_L5 r v).length ≤ 1000000 := by
  have hl := g.len
  intro d
  induction d with
  | zero =>
    intro i x hd hi hx h1 h2
    refine ⟨x, fun k hk => ?_, hx, fun v w h3 h4 => ?_, fun v h3 h4 => by have := h2 v h3 h4; omega⟩
    · obtain ⟨k, rfl⟩ := fuel hk
      rw [match_Graph_neighbours.l0, if_neg (by omega)]
    · rw [h1 v w h3 h4, show i = (E.length : Int) by omega]; rfl
  | succ d ih =>
    intro i x hd hi hx h1 h2
    obtain ⟨a0, a1, a2, a3⟩ := g.rng i hi (by omega)
    obtain ⟨e, he⟩ : ∃ e, rd_T40 E i = e := ⟨_, rfl⟩
    rw [he] at a0 a1 a2 a3
    have hs : ∀ v : Int, 0 ≤ v → rd_L5 (x.set e.f0.toNat ((rd_L5 x e.f0) ++ [e.f1])) v = if v = e.f0 then (rd_L5 x e.f0) ++ [e.f1] else rd_L5 x v := fun v h => getD_set _ x e.f0 v _ a0 (by omega) h
    obtain ⟨r, hr, r1, r2⟩ := ih (i + 1) (x.set e.f0.toNat ((rd_L5 x e.f0) ++ [e.f1])) (by omega) (by omega) (by simpa using hx)
      (fun v w h3 h4 => by
        rw [hs v h3]
        by_cases ev : v = e.f0
        · subst ev
          rw [if_pos rfl, List.mem_append, h1 e.f0 w h3 h4, List.mem_singleton]
          constructor
          · rintro (⟨j, b0, b1, b2⟩ | h)
            · exact ⟨j, b0, by omega, b2⟩
            · exact ⟨i, hi, by omega, by rw [he], by rw [he, h]⟩
          · rintro ⟨j, b0, b1, b2, b3⟩
            by_cases ej : j = i
            · subst ej; rw [he] at b3; exact .inr b3.symm
            · exact .inl ⟨j, b0, by omega, b2, b3⟩
        · rw [if_neg ev, h1 v w h3 h4]
          constructor
          · rintro ⟨j, b0, b1, b2⟩; exact ⟨j, b0, by omega, b2⟩
          · rintro ⟨j, b0, b1, b2, b3⟩
            have ej : j ≠ i := fun ej => by subst ej; rw [he] at b2; exact ev b2.symm
            exact ⟨j, b0, by omega, b2, b3⟩)
      (fun v h3 h4 => by
        rw [hs v h3]
        split
        · have := h2 e.f0 a0 a1; simp; omega
        · have := h2 v h3 h4; omega)
    refine ⟨r, fun k hk => ?_, r1, r2⟩
    obtain ⟨k, rfl⟩ := fuel hk
    have := h2 e.f0 a0 a1
    rw [match_Graph_neighbours.l0, if_pos (by omega), if_pos hi, if_pos (by omega), he, if_pos a0, if_pos (by omega), if_pos (by omega), w64 (by omega) (by omega)]
    exact hr k (by omega)
theorem nbr_spec {L R : Nat} {E : List S40} (g : GOK L R E) :
    ∃ r, (∀ k, E.length < k → match_Graph_neighbours.f k L R E = some r) ∧ r.length = L ∧ (∀ v w : Int, 0 ≤ v → v < L → (w ∈ rdL r v ↔ Adj E v w)) ∧ ∀ v : Int, 0 ≤ v → v < L → (rdL r v).length ≤ 1000000 := by
  have hL := g.L1
  obtain ⟨r, hr, h⟩ := nbr_l0 g E.length 0 (List.replicate L []) (by omega) (by omega) (by simp)
    (fun v w h0 h1 => by
      unfold rd_L5
      rw [getD_rep]
      constructor
      · intro h; cases h
      · rintro ⟨j, b0, b1, _⟩; omega)
    (fun v h0 h1 => by
      unfold rd_L5
      rw [getD_rep]; simp)
  refine ⟨r, fun k hk => ?_, h⟩
  unfold match_Graph_neighbours.f
  rw [if_pos (by omega), if_pos (by omega)]
  exact hr k hk
theorem size_l0 (e : Int) (m : List Int) (hm : m.length ≤ 1000000) : ∀ (d : Nat) (i : Int), (m.length : Int) = i + d → 0 ≤ i →
    ∀ k, d < k → match_Size.l0 k e (cnt i.toNat (fun x => decide (0 ≤ rd m x)) : Nat) m m.length i = some ((msz m.length m : Int), e) := by
  intro d
  induction d with
  | zero =>
    intro i hd hi k hk
    obtain ⟨k, rfl⟩ := fuel hk
    have : i = (m.length : Int) := by omega
    subst this
    rw [match_Size.l0, if_neg (by omega)]
    rfl
  | succ d ih =>
    intro i hd hi k hk
    obtain ⟨k, rfl⟩ := fuel hk
    have ei : (i + 1).toNat = i.toNat + 1 := by omega
    have ec : ((i.toNat : Nat) : Int) = i := by omega
    have := ih (i + 1) (by omega) (by omega) k (by omega)
    rw [ei, cnt_succ, ec] at this
    have hle := cnt_le (fun x => decide (0 ≤ rd m x)) i.toNat
    rw [match_Size.l0, if_pos (by omega), if_pos hi, if_pos (by omega), w64 (x := i + 1) (by omega) (by omega)]
    by_cases h : 0 ≤ rd m i
    · rw [if_pos h, w64 (by omega) (by omega), ← this]
      simp [h]
    · rw [if_neg h, ← this]
      simp [h]
def sel : Nat → (Int → Bool) → List Int
  | 0, _ => []
  | n + 1, p => if p n = true then sel n p ++ [(n : Int)] else sel n p
theorem sel_length (p : Int → Bool) : ∀ n, (sel n p).length = cnt n p
  | 0 => rfl
  | n + 1 => by
    unfold sel cnt
    by_cases h : p n = true
    · rw [if_pos h, if_pos h]; simp [sel_length p n]
    · rw [if_neg h, if_neg h]; simp [sel_length p n]
theorem chosen_spec (want : Bool) (l : List Bool) (hl : l.length ≤ 1000000) : ∀ k, l.length < k → pairing_Chosen.f k l want = some (sel l.length (fun x => rdOf false l x == want)) := by
  have key : ∀ (d : Nat) (i : Int), (l.length : Int) = i + d → 0 ≤ i → ∀ k, d < k → pairing_Chosen.l0 k want (sel i.toNat (fun x => rdOf false l x == want)) l l.length i = some (sel l.length (fun x => rdOf false l x == want)) := by
    intro d
    induction d with
    | zero =>
      intro i hd hi k hk
      obtain ⟨k, rfl⟩ := fuel hk
      have : i = (l.length : Int) := by omega
      subst this
      rw [pairing_Chosen.l0, if_neg (by omega)]
      rfl
    | succ d ih =>
      intro i hd hi k hk
      obtain ⟨k, rfl⟩ := fuel hk
      have ei : (i + 1).toNat = i.toNat + 1 := by omega
      have ec : ((i.toNat : Nat) : Int) = i := by omega
      have := ih (i + 1) (by omega) (by omega) k (by omega)
      rw [ei, sel, ec] at this
      have hle := cnt_le (fun x => rdOf false l x == want) i.toNat
      rw [pairing_Chosen.l0, if_pos (by omega), if_pos hi, if_pos (by omega), w64 (x := i + 1) (by omega) (by omega)]
      by_cases h : (rdOf false l i == want) = true
      · rw [if_pos h, if_pos (by rw [sel_length]; omega), ← this, if_pos h]
      · rw [if_neg h, ← this, if_neg h]
  exact key l.length 0 (by omega) (by omega)
end Go.Proofs.Ytlleokhmgblfnaa.P
namespace Go.Proofs.Ytlleokhmgblfnaa.P
open Go.RowKit Go.Proofs.YtlleokhmgblfnaaW.PrintWords Go.Proofs.Ytlleokhmgblfnaa.H Go.Proofs.Ytlleokhmgblfnaa.M
abbrev tr (l : List Bool) (x : Int) : Bool := rdOf false l x
theorem tr_set (l : List Bool) (i j : Int) (y : Bool) (h0 : 0 ≤ i) (h1 : i < l.length) (hj : 0 ≤ j) : tr (l.set i.toNat y) j = if j = i then y else tr l j := getD_set _ _ _ _ _ h0 h1 hj
def Closed (next : List (List Int)) (m b : List Int) (P : Int → Prop) : Prop :=
  (∀ x : Int, 0 ≤ x → x < next.length → rd m x < 0 → P x) ∧ (∀ x : Int, 0 ≤ x → x < next.length → P x → ∀ w ∈ rdL next x, 0 ≤ rd b w → P (rd b w))
structure RInv (next : List (List Int)) (R : Nat) (m b : List Int) (v j : Int) (l r : List Bool) (q : List Int) : Prop where
  ll : l.length = next.length
  lr : r.length = R
  fr : ∀ x : Int, 0 ≤ x → x < next.length → rd m x < 0 → tr l x = true
  qr : ∀ x ∈ q, 0 ≤ x ∧ x < next.length ∧ tr l x = true
  cl : ∀ x : Int, 0 ≤ x → x < next.length → tr l x = true → x ∉ q → x ≠ v → ∀ w ∈ rdL next x, tr r w = true ∧ (0 ≤ rd b w → tr l (rd b w) = true)
  cv : 0 ≤ v → ∀ j' : Int, 0 ≤ j' → j' < j → j' < (rdL next v).length → tr r (rd (rdL next v) j') = true ∧ (0 ≤ rd b (rd (rdL next v) j') → tr l (rd b (rd (rdL next v) j')) = true)
  ri : ∀ w : Int, 0 ≤ w → w < R → tr r w = true → ∃ x : Int, 0 ≤ x ∧ x < next.length ∧ tr l x = true ∧ w ∈ rdL next x
  le : ∀ P : Int → Prop, Closed next m b P → ∀ x : Int, 0 ≤ x → x < next.length → tr l x = true → P x
def un (n : Nat) (l : List Bool) : Nat := cnt n (fun x => !tr l x)
theorem reach_l2 {next : List (List Int)} {R : Nat} (hn : next.length ≤ 1000000) (hNV : NV next R) {m b : List Int} (hg : Hole next R m b (-1)) (v : Int) (hv0 : 0 ≤ v) (hv1 : v < next.length) (hlen : (rdL next v).length ≤ 1000000000000) :
    ∀ (e : Nat) (j : Int) (l r : List Bool) (q : List Int), (rdL next v).length = j + e → 0 ≤ j → RInv next R m b v j l r q → tr l v = true → q.length + un next.length l ≤ next.length →
      ∃ l' r' q', (∀ G s, (∀ k, G ≤ k → pairing_Reach.l1 k next b l' r' q' = some s) → ∀ k, G + e < k → pairing_Reach.l2 k next b l r q (rdL next v) (rdL next v).length j = some s) ∧ RInv next R m b (-1) 0 l' r' q' ∧ q'.length + un next.length l' = q.length + un next.length l := by
  have hlb := hg.lb
  intro e
  induction e with
  | zero =>
    intro j l r q he hj hI hlv hq
    refine ⟨l, r, q, fun G s hG k hk => ?_, ⟨hI.ll, hI.lr, hI.fr, hI.qr, fun x h0 h1 h2 h3 _ w hw => ?_, fun h => by omega, hI.ri, hI.le⟩, rfl⟩
    · obtain ⟨k, rfl⟩ : ∃ k', k = k' + 1 := ⟨k - 1, by omega⟩
      rw [pairing_Reach.l2, if_neg (by omega)]
      exact hG k (by omega)
    · by_cases ex : x = v
      · subst ex
        obtain ⟨i, i0, i1, rfl⟩ := mem_rd hw
        exact hI.cv h0 i i0 (by omega) i1
      · exact hI.cl x h0 h1 h2 h3 ex w hw
  | succ e ih =>
    intro j l r q he hj hI hlv hq
    have hlr := hI.lr
    have hll := hI.ll
    obtain ⟨x, hx⟩ : ∃ x, rd (rdL next v) j = x := ⟨_, rfl⟩
    have hxm : x ∈ rdL next v := hx ▸ rd_mem hj (by omega)
    obtain ⟨hx0, hx1⟩ := hNV v hv0 hv1 x hxm
    obtain ⟨u, hu⟩ : ∃ u, rd b x = u := ⟨_, rfl⟩
    have hrs : ∀ y : Int, 0 ≤ y → tr (r.set x.toNat true) y = if y = x then true else tr r y := fun y h => tr_set r x y true hx0 (by omega) h
    have hru : ∀ y : Int, 0 ≤ y → tr r y = true → tr (r.set x.toNat true) y = true := fun y h h1 => by rw [hrs y h]; split <;> simp [*]
    have hnn : ∀ y : Int, 0 ≤ y → y < next.length → ∀ w ∈ rdL next y, 0 ≤ w := fun y h0 h1 w hw => (hNV y h0 h1 w hw).1
    have step : ∀ l1 q1, RInv next R m b v (j + 1) l1 (r.set x.toNat true) q1 → tr l1 v = true → q1.length + un next.length l1 = q.length + un next.length l →
        (∀ k s, pairing_Reach.l2 k next b l1 (r.set x.toNat true) q1 (rdL next v) (rdL next v).length (wrap64 (j + 1)) = some s → pairing_Reach.l2 (k + 1) next b l r q (rdL next v) (rdL next v).length j = some s) →
        ∃ l' r' q', (∀ G s, (∀ k, G ≤ k → pairing_Reach.l1 k next b l' r' q' = some s) → ∀ k, G + (e + 1) < k → pairing_Reach.l2 k next b l r q (rdL next v) (rdL next v).length j = some s) ∧ RInv next R m b (-1) 0 l' r' q' ∧ q'.length + un next.length l' = q.length + un next.length l := by
      intro l1 q1 hI1 hv hq1 hstep
      obtain ⟨l', r', q', h1, h2, h3⟩ := ih (j + 1) l1 (r.set x.toNat true) q1 (by omega) (by omega) hI1 hv (by omega)
      refine ⟨l', r', q', fun G s hG k hk => ?_, h2, by omega⟩
      obtain ⟨k, rfl⟩ : ∃ k', k = k' + 1 := ⟨k - 1, by omega⟩
      refine hstep k s ?_
      rw [w64 (by omega) (by omega)]
      exact h1 G s hG k (by omega)
    by_cases hu0 : 0 ≤ u
    · obtain ⟨hun, hum⟩ := hg.bb x hx0 hx1 (by omega) (by omega)
      rw [hu] at hun hum
      by_cases hlu : tr l u = true
      · refine step l q ⟨hll, by simpa using hlr, hI.fr, hI.qr, fun y h0 h1 h2 h3 h4 w hw => ?_, fun _ j' h0 h1 h2 => ?_, fun w h0 h1 h2 => ?_, hI.le⟩ hlv rfl (fun k s hk => ?_)
        · obtain ⟨c1, c2⟩ := hI.cl y h0 h1 h2 h3 h4 w hw
          exact ⟨hru w (hnn y h0 h1 w hw) c1, c2⟩
        · by_cases ej : j' = j
          · subst ej
            rw [hx, hu]
            exact ⟨by rw [hrs x hx0, if_pos rfl], fun _ => hlu⟩
          · obtain ⟨c1, c2⟩ := hI.cv hv0 j' h0 (by omega) h2
            exact ⟨hru _ (hnn v hv0 hv1 _ (rd_mem h0 h2)) c1, c2⟩
        · by_cases ew : w = x
          · subst ew; exact ⟨v, hv0, hv1, hlv, hxm⟩
          · rw [hrs w h0, if_neg ew] at h2; exact hI.ri w h0 h1 h2
        · rw [pairing_Reach.l2, if_pos (by omega), if_pos hj, if_pos (by omega), hx, if_pos hx0, if_pos (by omega)]
          simp only [Option.bind_some]
          rw [if_pos (by omega), hu, if_pos hu0, if_pos hu0, if_pos (by omega), if_pos hlu]
          exact hk
      · have hls : ∀ y : Int, 0 ≤ y → tr (l.set u.toNat true) y = if y = u then true else tr l y := fun y h => tr_set l u y true hu0 (by omega) h
        have hlup : ∀ y : Int, 0 ≤ y → tr l y = true → tr (l.set u.toNat true) y = true := fun y h h1 => by rw [hls y h]; split <;> simp [*]
        have huv : u ≠ v := fun e => hlu (e ▸ hlv)
        have hlu' : tr l u = false := by simpa using hlu
        have hun2 : un next.length l = un next.length (l.set u.toNat true) + 1 := by
          unfold un
          rw [cnt_out (fun x => !tr l x) u next.length hu0 hun (by simp [hlu'])]
          congr 1
          refine cnt_congr _ (fun y h0 h1 => ?_)
          rw [hls y h0]
          by_cases ey : y = u
          · subst ey; simp
          · rw [if_neg ey]; simp [ey]
        have hql : q.length < next.length := by omega
        refine step (l.set u.toNat true) (q ++ [u]) ⟨by simpa using hll, by simpa using hlr, fun y h0 h1 h2 => hlup y h0 (hI.fr y h0 h1 h2), fun y hy => ?_, fun y h0 h1 h2 h3 h4 w hw => ?_, fun _ j' h0 h1 h2 => ?_, fun w h0 h1 h2 => ?_, fun P hP y h0 h1 h2 => ?_⟩ (hlup v hv0 hlv) (by simp; omega) (fun k s hk => ?_)
        · rcases List.mem_append.1 hy with hy | hy
          · obtain ⟨a1, a2, a3⟩ := hI.qr y hy; exact ⟨a1, a2, hlup y a1 a3⟩
          · rw [List.mem_singleton.1 hy]; exact ⟨hu0, hun, by rw [hls u hu0, if_pos rfl]⟩
        · have ey : y ≠ u := fun e => h3 (by rw [e]; simp)
          rw [hls y h0, if_neg ey] at h2
          obtain ⟨c1, c2⟩ := hI.cl y h0 h1 h2 (fun h => h3 (List.mem_append_left _ h)) h4 w hw
          exact ⟨hru w (hnn y h0 h1 w hw) c1, fun h => hlup _ h (c2 h)⟩
        · by_cases ej : j' = j
          · subst ej
            rw [hx, hu]
            exact ⟨by rw [hrs x hx0, if_pos rfl], fun _ => by rw [hls u hu0, if_pos rfl]⟩
          · obtain ⟨c1, c2⟩ := hI.cv hv0 j' h0 (by omega) h2
            exact ⟨hru _ (hnn v hv0 hv1 _ (rd_mem h0 h2)) c1, fun h => hlup _ h (c2 h)⟩
        · by_cases ew : w = x
          · subst ew; exact ⟨v, hv0, hv1, hlup v hv0 hlv, hxm⟩
          · rw [hrs w h0, if_neg ew] at h2
            obtain ⟨y, y0, y1, y2, y3⟩ := hI.ri w h0 h1 h2
            exact ⟨y, y0, y1, hlup y y0 y2, y3⟩
        · by_cases ey : y = u
          · subst ey
            have := hP.2 v hv0 hv1 (hI.le P hP v hv0 hv1 hlv) x hxm (by omega)
            rwa [hu] at this
          · rw [hls y h0, if_neg ey] at h2; exact hI.le P hP y h0 h1 h2
        · rw [pairing_Reach.l2, if_pos (by omega), if_pos hj, if_pos (by omega), hx, if_pos hx0, if_pos (by omega)]
          simp only [Option.bind_some]
          rw [if_pos (by omega), hu, if_pos hu0, if_pos hu0, if_pos (by omega), if_neg hlu, if_pos (by omega)]
          exact hk
    · refine step l q ⟨hll, by simpa using hlr, hI.fr, hI.qr, fun y h0 h1 h2 h3 h4 w hw => ?_, fun _ j' h0 h1 h2 => ?_, fun w h0 h1 h2 => ?_, hI.le⟩ hlv rfl (fun k s hk => ?_)
      · obtain ⟨c1, c2⟩ := hI.cl y h0 h1 h2 h3 h4 w hw
        exact ⟨hru w (hnn y h0 h1 w hw) c1, c2⟩
      · by_cases ej : j' = j
        · subst ej
          rw [hx, hu]
          exact ⟨by rw [hrs x hx0, if_pos rfl], fun h => absurd h hu0⟩
        · obtain ⟨c1, c2⟩ := hI.cv hv0 j' h0 (by omega) h2
          exact ⟨hru _ (hnn v hv0 hv1 _ (rd_mem h0 h2)) c1, c2⟩
      · by_cases ew : w = x
        · subst ew; exact ⟨v, hv0, hv1, hlv, hxm⟩
        · rw [hrs w h0, if_neg ew] at h2; exact hI.ri w h0 h1 h2
      · rw [pairing_Reach.l2, if_pos (by omega), if_pos hj, if_pos (by omega), hx, if_pos hx0, if_pos (by omega)]
        simp only [Option.bind_some]
        rw [if_pos (by omega), hu, if_neg hu0]
        exact hk
theorem reach_l1 {next : List (List Int)} {R : Nat} (hn : next.length ≤ 1000000) (hNV : NV next R) (hlen : ∀ v : Int, 0 ≤ v → v < next.length → (rdL next v).length ≤ 1000000000000) {m b : List Int} (hg : Hole next R m b (-1)) :
    ∀ (d : Nat) (l r : List Bool) (q : List Int), q.length + un next.length l ≤ d → d ≤ next.length → RInv next R m b (-1) 0 l r q →
      ∃ K l' r', (∀ k, K ≤ k → pairing_Reach.l1 k next b l r q = some (l', r')) ∧ RInv next R m b (-1) 0 l' r' [] := by
  intro d
  induction d with
  | zero =>
    intro l r q hd hdn hI
    have : q = [] := List.length_eq_zero_iff.1 (by omega)
    subst this
    refine ⟨1, l, r, fun k hk => ?_, hI⟩
    obtain ⟨k, rfl⟩ : ∃ k', k = k' + 1 := ⟨k - 1, by omega⟩
    rfl
  | succ d ih =>
    intro l r q hd hdn hI
    cases q with
    | nil =>
      refine ⟨1, l, r, fun k hk => ?_, hI⟩
      obtain ⟨k, rfl⟩ : ∃ k', k = k' + 1 := ⟨k - 1, by omega⟩
      rfl
    | cons v q =>
      obtain ⟨hv0, hv1, hlv⟩ := hI.qr v (by simp)
      simp only [List.length_cons] at hd
      obtain ⟨l1, r1, q1, h1, hI1, he⟩ := reach_l2 hn hNV hg v hv0 hv1 (hlen v hv0 hv1) (rdL next v).length 0 l r q (by omega) (by omega)
        ⟨hI.ll, hI.lr, hI.fr, fun x hx => hI.qr x (by simp [hx]), fun x h0 h1 h2 h3 h4 w hw => hI.cl x h0 h1 h2 (by simp [h3, h4]) (by omega) w hw, fun _ j' h0 h1 => by omega, hI.ri, hI.le⟩ hlv (by omega)
      obtain ⟨K, l2, r2, hK, hI2⟩ := ih l1 r1 q1 (by omega) (by omega) hI1
      refine ⟨K + (rdL next v).length + 2, l2, r2, fun k hk => ?_, hI2⟩
      obtain ⟨k, rfl⟩ : ∃ k', k = k' + 1 := ⟨k - 1, by omega⟩
      have := h1 K _ hK k (by omega)
      have er : rd (v :: q) 0 = v := rfl
      rw [pairing_Reach.l1, if_pos (by simp), if_pos (by simp), if_pos (by simp; omega), er, if_pos hv0, if_pos hv1]
      exact this
structure RS (next : List (List Int)) (R : Nat) (m b : List Int) (l r : List Bool) : Prop where
  ll : l.length = next.length
  lr : r.length = R
  fr : ∀ x : Int, 0 ≤ x → x < next.length → rd m x < 0 → tr l x = true
  cl : ∀ x : Int, 0 ≤ x → x < next.length → tr l x = true → ∀ w ∈ rdL next x, tr r w = true ∧ (0 ≤ rd b w → tr l (rd b w) = true)
  ri : ∀ w : Int, 0 ≤ w → w < R → tr r w = true → ∃ x : Int, 0 ≤ x ∧ x < next.length ∧ tr l x = true ∧ w ∈ rdL next x
  le : ∀ P : Int → Prop, Closed next m b P → ∀ x : Int, 0 ≤ x → x < next.length → tr l x = true → P x
theorem reach_l0 {next : List (List Int)} {R : Nat} (hn : next.length ≤ 1000000) (hNV : NV next R) (hlen : ∀ v : Int, 0 ≤ v → v < next.length → (rdL next v).length ≤ 1000000000000) {m b : List Int} (hg : Hole next R m b (-1)) (r : List Bool) (hr : r.length = R) (hr0 : ∀ x, tr r x = false) :
    ∀ (d : Nat) (i : Int) (l : List Bool) (q : List Int), (next.length : Int) = i + d → 0 ≤ i → l.length = next.length →
      (∀ x : Int, 0 ≤ x → x < next.length → tr l x = (decide (x < i) && decide (rd m x < 0))) → (∀ x ∈ q, 0 ≤ x ∧ x < i ∧ rd m x < 0) → (∀ x : Int, 0 ≤ x → x < i → rd m x < 0 → x ∈ q) → q.length + un next.length l = next.length →
      ∃ K l' r', (∀ k, K ≤ k → pairing_Reach.l0 k next m b l r q next.length i = some (l', r')) ∧ RS next R m b l' r' := by
  have hlm := hg.lm
  intro d
  induction d with
  | zero =>
    intro i l q hd hi hl h1 h2 h3 h4
    have e : i = next.length := by omega
    subst e
    obtain ⟨K, l', r', hK, hI⟩ := reach_l1 hn hNV hlen hg next.length l r q (by omega) (Nat.le_refl _)
      ⟨hl, hr, fun x a c d => by rw [h1 x a c]; simp [c, d], fun x hx => by obtain ⟨a, c, d⟩ := h2 x hx; exact ⟨a, c, by rw [h1 x a c]; simp [c, d]⟩, fun x a c d e => by
        rw [h1 x a c] at d; simp at d; exact absurd (h3 x a c d.2) e, fun h => by omega, fun w _ _ h => by rw [hr0] at h; (cases h), fun P hP x a c d => by
        rw [h1 x a c] at d; simp at d; exact hP.1 x a c d.2⟩
    refine ⟨K + 1, l', r', fun k hk => ?_, ⟨hI.ll, hI.lr, hI.fr, fun x a c d => hI.cl x a c d (by simp) (by omega), hI.ri, hI.le⟩⟩
    obtain ⟨k, rfl⟩ : ∃ k', k = k' + 1 := ⟨k - 1, by omega⟩
    rw [pairing_Reach.l0, if_neg (by omega)]
    exact hK k (by omega)
  | succ d ih =>
    intro i l q hd hi hl h1 h2 h3 h4
    by_cases hneg : rd m i < 0
    · have hls : ∀ y : Int, 0 ≤ y → tr (l.set i.toNat true) y = if y = i then true else tr l y := fun y h => tr_set l i y true hi (by omega) h
      have hli : tr l i = false := by rw [h1 i hi (by omega)]; simp
      have hun2 : un next.length l = un next.length (l.set i.toNat true) + 1 := by
        unfold un
        rw [cnt_out (fun x => !tr l x) i next.length hi (by omega) (by simp [hli])]
        congr 1
        refine cnt_congr _ (fun y h0 h1 => ?_)
        rw [hls y h0]
        by_cases ey : y = i
        · subst ey; simp
        · rw [if_neg ey]; simp [ey]
      obtain ⟨K, l', r', hK, hS⟩ := ih (i + 1) (l.set i.toNat true) (q ++ [i]) (by omega) (by omega) (by simpa using hl)
        (fun x a c => by
          rw [hls x a]
          by_cases ex : x = i
          · subst ex; simp [hneg]; omega
          · rw [if_neg ex, h1 x a c]
            have : (x < i + 1) = (x < i) := by apply propext; omega
            simp [this])
        (fun x hx => by
          rcases List.mem_append.1 hx with hx | hx
          · have := h2 x hx; exact ⟨this.1, by omega, this.2.2⟩
          · rw [List.mem_singleton.1 hx]; exact ⟨hi, by omega, hneg⟩)
        (fun x a c d => by
          by_cases ex : x = i
          · subst ex; simp
          · exact List.mem_append_left _ (h3 x a (by omega) d))
        (by simp; omega)
      refine ⟨K + 1, l', r', fun k hk => ?_, hS⟩
      obtain ⟨k, rfl⟩ : ∃ k', k = k' + 1 := ⟨k - 1, by omega⟩
      rw [pairing_Reach.l0, if_pos (by omega), if_pos hi, if_pos (by omega), if_pos hneg, if_pos (by omega), if_pos (by omega), w64 (by omega) (by omega)]
      exact hK k (by omega)
    · obtain ⟨K, l', r', hK, hS⟩ := ih (i + 1) l q (by omega) (by omega) hl
        (fun x a c => by
          rw [h1 x a c]
          by_cases ex : x = i
          · subst ex; simp [hneg]
          · have : (x < i + 1) = (x < i) := by apply propext; omega
            simp [this])
        (fun x hx => by have := h2 x hx; exact ⟨this.1, by omega, this.2.2⟩)
        (fun x a c d => by
          by_cases ex : x = i
          · subst ex; exact absurd d hneg
          · exact h3 x a (by omega) d) h4
      refine ⟨K + 1, l', r', fun k hk => ?_, hS⟩
      obtain ⟨k, rfl⟩ : ∃ k', k = k' + 1 := ⟨k - 1, by omega⟩
      rw [pairing_Reach.l0, if_pos (by omega), if_pos hi, if_pos (by omega), if_neg hneg, w64 (by omega) (by omega)]
      exact hK k (by omega)
theorem tr_rep (n : Nat) (x : Int) : tr (List.replicate n false) x = false := getD_rep _ _ _
theorem reach_spec {next : List (List Int)} {R : Nat} (hn : next.length ≤ 1000000) (hR : R ≤ 1000000) (hNV : NV next R) (hlen : ∀ v : Int, 0 ≤ v → v < next.length → (rdL next v).length ≤ 1000000000000) {m b : List Int} (hg : Hole next R m b (-1)) :
    ∃ K l r, (∀ k, K ≤ k → pairing_Reach.f k next m b = some (l, r)) ∧ RS next R m b l r := by
  obtain ⟨K, l, r, hK, hS⟩ := reach_l0 hn hNV hlen hg (List.replicate R false) (by simp) (fun x => tr_rep _ _) next.length 0 (List.replicate next.length false) [] (by omega) (by omega) (by simp)
    (fun x a c => by rw [tr_rep]; have : ¬ x < 0 := by omega
                     simp [this]) (fun x hx => by cases hx) (fun x a c => by omega) (by unfold un; rw [cnt_all _ (fun i _ _ => by rw [tr_rep]; rfl)]; simp)
  refine ⟨K, l, r, fun k hk => ?_, hS⟩
  have hlb := hg.lb
  unfold pairing_Reach.f
  rw [if_pos (by omega), if_pos (by omega), if_pos (by omega), if_pos (by omega), hlb]
  exact hK k hk
end Go.Proofs.Ytlleokhmgblfnaa.P
end

section
namespace Go.Proofs.Ytlleokhmgblfnaa.P
open Go.RowKit Go.Proofs.YtlleokhmgblfnaaW.PrintWords Go.Proofs.Ytlleokhmgblfnaa.H Go.Proofs.Ytlleokhmgblfnaa.M
theorem rd_T40_mem {E : List S40} {j : Int} (h0 : 0 ≤ j) (h1 : j < E.length) : rd_T40 E j ∈ E := by
  unfold rd_T40
  rw [List.getD_eq_getElem?_getD, List.getElem?_eq_getElem (by omega)]
  exact List.getElem_mem _
theorem chkGo_rng (L R : Int) : ∀ (E : List (Int × Int)) (p : Option (Int × Int)), chkGo L R p E = 0 → ∀ x ∈ E, 0 ≤ x.1 ∧ x.1 < L ∧ 0 ≤ x.2 ∧ x.2 < R
  | [], _, _, x, hx => by cases hx
  | y :: E, p, h, x, hx => by
    unfold chkGo at h
    split at h
    · omega
    · have ih := chkGo_rng L R E (some y)
      have h2 : chkGo L R (some y) E = 0 := by
        cases p with
        | none => exact h
        | some q =>
          simp only at h
          split at h
          · omega
          · split at h
            · omega
            · exact h
      rcases List.mem_cons.1 hx with e | hx
      · subst e; omega
      · exact ih h2 x hx
theorem chk_gok {L R : Int} {E : List S40} (h : chk L R (E.map prE) = 0) : ∃ Ln Rn : Nat, L = Ln ∧ R = Rn ∧ GOK Ln Rn E := by
  unfold chk at h
  split at h
  · omega
  · split at h
    · omega
    · refine ⟨L.toNat, R.toNat, by omega, by omega, by omega, by omega, by simp at *; omega, fun j h0 h1 => ?_⟩
      have := chkGo_rng L R _ none h (prE (rd_T40 E j)) (List.mem_map_of_mem (rd_T40_mem h0 h1))
      simp only [prE] at this
      omega
def lexB (y x : Int × Int) : Prop := y.1 < x.1 ∨ (y.1 = x.1 ∧ y.2 < x.2)
theorem chkGo_snoc (L R : Int) (x : Int × Int) (h0 : 0 ≤ x.1) (h1 : x.1 < L) (h2 : 0 ≤ x.2) (h3 : x.2 < R) :
    ∀ (E : List (Int × Int)) (p : Option (Int × Int)), chkGo L R p E = 0 → (∀ y ∈ E, lexB y x) → (∀ q, p = some q → lexB q x) → chkGo L R p (E ++ [x]) = 0
  | [], p, _, _, hp => by
    show chkGo L R p [x] = 0
    unfold chkGo
    rw [if_neg (by omega)]
    cases p with
    | none => rfl
    | some q =>
      have := hp q rfl
      unfold lexB at this
      show (if q = x then _ else _) = _
      rw [if_neg (by intro e; subst e; omega), if_neg (by omega)]
      rfl
  | y :: E, p, h, hE, hp => by
    show chkGo L R p (y :: (E ++ [x])) = 0
    unfold chkGo at h ⊢
    split
    · rename_i h4; rw [if_pos h4] at h; exact h
    · rename_i h4
      rw [if_neg h4] at h
      have ih := chkGo_snoc L R x h0 h1 h2 h3 E (some y)
      have hy : ∀ q, some y = some q → lexB q x := fun q e => by cases e; exact hE y (by simp)
      have hE' : ∀ z ∈ E, lexB z x := fun z hz => hE z (by simp [hz])
      cases p with
      | none => exact ih h hE' hy
      | some q =>
        simp only at h ⊢
        split
        · rename_i h5; rw [if_pos h5] at h; exact h
        · rename_i h5
          rw [if_neg h5] at h
          split
          · rename_i h6; rw [if_pos h6] at h; exact h
          · rename_i h6
            rw [if_neg h6] at h
            exact ih h hE' hy
structure Core (L R : Nat) (A : Int → Int → Prop) (next : List (List Int)) (m b : List Int) (l r : List Bool) : Prop where
  nl : next.length = L
  adj : ∀ v w : Int, 0 ≤ v → v < L → (w ∈ rdL next v ↔ A v w)
  nv : NV next R
  hole : Hole next R m b (-1)
  lin : ∃ lv, LInv next m b (-1) 0 false lv []
  rs : RS next R m b l r
theorem coreA {L R : Nat} {A : Int → Int → Prop} {next : List (List Int)} (hL : L ≤ 1024) (hR : R ≤ 1024) (nl : next.length = L) (adj : ∀ v w : Int, 0 ≤ v → v < L → (w ∈ rdL next v ↔ A v w)) (nv : NV next R) (hlen : ∀ v : Int, 0 ≤ v → v < L → (rdL next v).length ≤ 1000000000000) :
    ∃ m b l r K, Core L R A next m b l r ∧ (∀ k, K ≤ k → pairing_Greatest.f k next R = some (m, b)) ∧ (∀ k, K ≤ k → pairing_Reach.f k next m b = some (l, r)) := by
  obtain ⟨K1, m, b, h2, hole, lin⟩ := greatF_spec (by omega) (by omega) nv
  obtain ⟨K2, l, r, h3, rs⟩ := reach_spec (by omega) (by omega) nv (fun v h0 h1 => hlen v h0 (by omega)) hole
  refine ⟨m, b, l, r, max K1 K2, ⟨nl, adj, nv, hole, lin, rs⟩, fun k hk => ?_, fun k hk => h3 k (by omega)⟩
  exact at_rounds (fun k => pairing_Greatest.mono next R k) (show K1 ≤ k by omega) h2
theorem core {L R : Nat} {E : List S40} (g : GOK L R E) : ∃ next m b l r K, Core L R (Adj E) next m b l r ∧ (∀ k, K ≤ k → match_Graph_neighbours.f k L R E = some next) ∧
    (∀ k, K ≤ k → pairing_Greatest.f k next R = some (m, b)) ∧ (∀ k, K ≤ k → pairing_Reach.f k next m b = some (l, r)) := by
  have hL := g.L1
  have hR := g.R1
  obtain ⟨next, h1, nl, adj, hlen⟩ := nbr_spec g
  have nv : NV next R := fun v h0 h1 w hw => by
    rw [nl] at h1
    obtain ⟨j, j0, j1, j2, j3⟩ := (adj v w h0 h1).1 hw
    have := g.rng j j0 j1
    omega
  obtain ⟨m, b, l, r, K, c, h2, h3⟩ := coreA hL hR nl adj nv (fun v h0 h1 => by have := hlen v h0 h1; omega)
  exact ⟨next, m, b, l, r, max (E.length + 1) K, c, fun k hk => h1 k (by omega), fun k hk => h2 k (by omega), fun k hk => h3 k (by omega)⟩
theorem given_spec (L R : Int) {E : List S40} (h : E.length ≤ 65536) : toruslaw30_given.f L R E = some (L, R, E) := by
  unfold toruslaw30_given.f
  simp only [Option.bind_some]
  rw [if_pos (by simp; omega)]
  rfl
structure Done (L R : Nat) (E : List S40) (m : List Int) (l r : List Bool) (K : Nat) : Prop where
  max : ∀ k, K ≤ k → match_Maximum.f k L R E = some (m, 0)
  size : ∀ k, K ≤ k → match_Size.f k L R E = some ((msz L m : Int), 0)
  size' : ∀ k, K ≤ k → toruslaw30_size.f k L R E = some (msz L m : Int)
  hall : ∀ k, K ≤ k → match_Hall.f k L R E = some (if cnt L (tr l) = 0 then ([], [], 4) else (sel L (tr l), sel R (tr r), 0))
  cover : ∀ k, K ≤ k → match_Cover.f k L R E = some (sel L (fun x => !tr l x), sel R (tr r), 0)
theorem bool_beq_true (b : Bool) : (b == true) = b := by cases b <;> rfl
theorem bool_beq_false (b : Bool) : (b == false) = !b := by cases b <;> rfl
theorem done {L R : Nat} {E : List S40} (hk : chk L R (E.map prE) = 0) (g : GOK L R E) : ∃ next m b l r K, Core L R (Adj E) next m b l r ∧ Done L R E m l r K := by
  obtain ⟨next, m, b, l, r, K, c, h1, h2, h3⟩ := core g
  have hL := g.L1
  have hR := g.R1
  have nl := c.nl
  have lm := c.hole.lm
  have lb := c.hole.lb
  have ll := c.rs.ll
  have lr := c.rs.lr
  have hc : match_Check.f L R E = some 0 := by unfold match_Check.f; rw [hk]
  have hmx : ∀ k, K ≤ k → match_Maximum.f k L R E = some (m, 0) := fun k hk => by
    unfold match_Maximum.f
    rw [hc]
    simp only [Option.bind_some, if_true]
    rw [h1 k hk]
    simp only [Option.bind_some]
    rw [h2 k hk]
    rfl
  have hsz : ∀ k, K + L + 1 ≤ k → match_Size.f k L R E = some ((msz L m : Int), 0) := fun k hk => by
    unfold match_Size.f
    rw [hmx k (by omega)]
    simp only [Option.bind_some]
    have := size_l0 0 m (by omega) m.length 0 (by omega) (by omega) k (by omega)
    rw [show m.length = L by omega] at this ⊢
    exact this
  refine ⟨next, m, b, l, r, K + L + R + 1, c, fun k hk => hmx k (by omega), fun k hk => hsz k (by omega), fun k hk => ?_, fun k hk => ?_, fun k hk => ?_⟩
  · unfold toruslaw30_size.f
    rw [given_spec _ _ g.len]
    simp only [Option.bind_some]
    rw [hsz k (by omega)]
    rfl
  · unfold match_Hall.f
    rw [hc]
    simp only [Option.bind_some, if_true]
    rw [h1 k (by omega)]
    simp only [Option.bind_some]
    unfold match_reach.f
    rw [h2 k (by omega)]
    simp only [Option.bind_some]
    rw [h3 k (by omega)]
    simp only [Option.bind_some]
    rw [chosen_spec true l (by omega) k (by omega), chosen_spec true r (by omega) k (by omega), show l.length = L by omega, lr]
    simp only [Option.bind_some, bool_beq_true]
    have eq : cnt L (fun x => rdOf false l x) = cnt L (tr l) := rfl
    by_cases h : cnt L (tr l) = 0
    · rw [if_pos h, if_pos (by rw [sel_length, eq]; omega)]
    · rw [if_neg h, if_neg (by rw [sel_length, eq]; omega)]
  · unfold match_Cover.f
    rw [hc]
    simp only [Option.bind_some, if_true]
    rw [h1 k (by omega)]
    simp only [Option.bind_some]
    unfold match_reach.f
    rw [h2 k (by omega)]
    simp only [Option.bind_some]
    rw [h3 k (by omega)]
    simp only [Option.bind_some]
    rw [chosen_spec false l (by omega) k (by omega), chosen_spec true r (by omega) k (by omega), show l.length = L by omega, lr]
    simp only [Option.bind_some, bool_beq_true, bool_beq_false]
end Go.Proofs.Ytlleokhmgblfnaa.P
namespace Go.Proofs.Ytlleokhmgblfnaa.P
open Go.RowKit Go.Proofs.YtlleokhmgblfnaaW.PrintWords Go.Proofs.Ytlleokhmgblfnaa.H Go.Proofs.Ytlleokhmgblfnaa.M
end Go.Proofs.Ytlleokhmgblfnaa.P
end

section
namespace Go.Proofs.Ytlleokhmgblfnaa.P
open Go.RowKit Go.Proofs.YtlleokhmgblfnaaW.PrintWords Go.Proofs.Ytlleokhmgblfnaa.H Go.Proofs.Ytlleokhmgblfnaa.M
def fX (E : List S40) (j : Int) : Int := (rd_T40 E j).f0
def fY (E : List S40) (j : Int) : Int := (rd_T40 E j).f1
def at0 (E : List S40) (v : Int) : Int → Bool := fun j => decide (fX E j = v)
def at1 (E : List S40) (v : Int) : Int → Bool := fun j => decide (fY E j = v)
theorem rdE_map (E : List S40) {j : Int} (j0 : 0 ≤ j) (j1 : j < E.length) : rdE (E.map prE) j = (fX E j, fY E j) := by
  unfold rdE fX fY rd_T40
  rw [List.getD_eq_getElem?_getD, List.getD_eq_getElem?_getD, List.getElem?_map, List.getElem?_eq_getElem (by omega)]
  rfl
structure Coloured (L R : Nat) (E : List S40) (M : Int) (O : Int → Int) : Prop where
  m0 : 0 ≤ M
  rng : ∀ j : Int, 0 ≤ j → j < E.length → 0 ≤ O j ∧ O j < M
  apart : ∀ j k : Int, 0 ≤ j → j < E.length → 0 ≤ k → k < E.length → j ≠ k → (fX E j = fX E k ∨ fY E j = fY E k) → O j ≠ O k
  some_ : M = 0 ∨ (∃ v : Int, 0 ≤ v ∧ v < L ∧ M ≤ cnt E.length (at0 E v)) ∨ (∃ v : Int, 0 ≤ v ∧ v < R ∧ M ≤ cnt E.length (at1 E v))
  le0 : ∀ v : Int, 0 ≤ v → v < L → (cnt E.length (at0 E v) : Int) ≤ M
  le1 : ∀ v : Int, 0 ≤ v → v < R → (cnt E.length (at1 E v) : Int) ≤ M
theorem colours_spec {L R : Nat} {E : List S40} (hk : chk L R (E.map prE) = 0) (g : GOK L R E) :
    ∃ (M : Int) (O : Int → Int), match_Colours.f L R E = some ((List.range E.length).map (fun i : Nat => O (i : Int)), 0) ∧ Coloured L R E M O := by
  have gl := g.len
  have hX : ∀ j : Int, 0 ≤ j → j < E.length → eX (E.map prE) j = fX E j := fun j j0 j1 => by unfold eX; rw [rdE_map E j0 j1]
  have hY : ∀ j : Int, 0 ≤ j → j < E.length → eY L (E.map prE) j = L + fY E j := fun j j0 j1 => by unfold eY; rw [rdE_map E j0 j1]
  have hr : ∀ j : Int, 0 ≤ j → j < E.length → 0 ≤ fX E j ∧ fX E j < L ∧ 0 ≤ fY E j ∧ fY E j < R := fun j j0 j1 => by
    have := g.rng j j0 j1
    exact this
  have hlen : (E.map prE).length = E.length := by simp
  obtain ⟨M, hM⟩ : ∃ M, degF L (E.map prE) (fun _ => 0) 0 = M := ⟨_, rfl⟩
  have gr : Gr ((L : Int) + R) M (E.map prE).length L (eX (E.map prE)) (eY L (E.map prE)) := by
    rw [hlen]
    exact ⟨fun j j0 j1 => by rw [hX j j0 j1]; exact (hr j j0 j1).1, fun j j0 j1 => by rw [hX j j0 j1]; exact (hr j j0 j1).2.1, fun j j0 j1 => by rw [hY j j0 j1]; have := hr j j0 j1; omega, fun j j0 j1 => by rw [hY j j0 j1]; have := hr j j0 j1; omega⟩
  have hd := deg_go (E := E.map prE) (L := L) (n := (L : Int) + R) (m := M) (X := eX (E.map prE)) (Y := eY L (E.map prE)) (fun pre x suf he => by
      have : rdE (E.map prE) pre.length = x := by rw [he]; unfold rdE; simp
      unfold eX eY
      rw [this]
      exact ⟨rfl, rfl⟩) gr (by omega) (by omega) (E.map prE) [] (fun _ => 0) 0 (by simp) (fun v => by simp [cnt]) (fun v => by simp) (by omega) (.inl rfl)
  rw [hM, hlen] at hd
  obtain ⟨hd1, hd2, hd3⟩ := hd
  have hMe : M ≤ E.length := by
    rcases hd3 with h | ⟨v, _, _, h⟩
    · omega
    · have := cnt_le (inc (eX (E.map prE)) (eY L (E.map prE)) v) E.length
      omega
  rw [hlen] at gr
  obtain ⟨O, h1, T', h2⟩ := main_ok gr (by omega) (by omega) (by omega) hd2 (fun v _ _ => hd1 v) (2 * E.length + 5) (by omega) (by omega) E.length 0 (fun _ _ => -1) (fun _ => 0) (by omega) (inv_start _ _) (E.length + 1) (by omega)
  have c0 : ∀ v : Int, v < L → cnt E.length (inc (eX (E.map prE)) (eY L (E.map prE)) v) = cnt E.length (at0 E v) := fun v hv => cnt_congr _ fun j j0 j1 => by
    unfold inc at0
    rw [hX j j0 j1, hY j j0 j1]
    have := hr j j0 j1
    exact decide_eq_decide.2 ⟨fun h => by omega, fun h => .inl h⟩
  have c1 : ∀ v : Int, 0 ≤ v → cnt E.length (inc (eX (E.map prE)) (eY L (E.map prE)) (L + v)) = cnt E.length (at1 E v) := fun v hv => cnt_congr _ fun j j0 j1 => by
    unfold inc at1
    rw [hX j j0 j1, hY j j0 j1]
    have := hr j j0 j1
    exact decide_eq_decide.2 ⟨fun h => by omega, fun h => .inr (by omega)⟩
  refine ⟨M, O, ?_, hd2, h2.col, fun j k j0 j1 k0 k1 hjk hv => ?_, ?_, fun v v0 v1 => by rw [← c0 v v1]; exact hd1 v, fun v v0 v1 => by rw [← c1 v v0]; exact hd1 _⟩
  · unfold match_Colours.f colF
    rw [if_pos hk, hM, hlen]
    have h1' : mainF ((L : Int) + R) M E.length (eX (E.map prE)) (eY L (E.map prE)) (2 * E.length + 5) (E.length + 1) 0 (fun _ _ => -1) (fun _ => 0) = some O := by simpa using h1
    rw [h1']
    rfl
  · rcases hv with hv | hv
    · exact proper h2 j0 j1 k0 k1 hjk (v := fX E j) (.inl (hX j j0 j1)) (.inl (by rw [hX k k0 k1, hv]))
    · exact proper h2 j0 j1 k0 k1 hjk (v := L + fY E j) (.inr (hY j j0 j1)) (.inr (by rw [hY k k0 k1, hv]))
  · rcases hd3 with h | ⟨v, v0, v1, h⟩
    · exact .inl h
    · by_cases hv : v < L
      · rw [c0 v hv] at h
        exact .inr (.inl ⟨v, v0, hv, h⟩)
      · have e : v = L + (v - L) := by omega
        rw [e, c1 _ (by omega)] at h
        exact .inr (.inr ⟨v - L, by omega, by omega, h⟩)
end Go.Proofs.Ytlleokhmgblfnaa.P
end

section
namespace Go.Proofs.Ytlleokhmgblfnaa.P
open Go.RowKit Go.Proofs.YtlleokhmgblfnaaW.PrintWords Go.Proofs.Ytlleokhmgblfnaa.H Go.Proofs.Ytlleokhmgblfnaa.M
structure FitI (L R v w : Int) (E : List S40) : Prop where
  go : chkGo L R none (E.map prE) = 0
  lex : ∀ y ∈ E.map prE, lexB y (v, w)
  len : E.length ≤ v * 12 + w
theorem fit_l1 (bits : List Int) (L R v : Int) (hL : L ≤ 12) (hR : R ≤ 12) (hv0 : 0 ≤ v) (hv1 : v < L) :
    ∀ (d : Nat) (w : Int) (E : List S40), R = w + d → 0 ≤ w → FitI L R v w E →
      ∃ E', (∀ G s, (∀ k, G ≤ k → torusref30_Fit.l0 k bits (v + 1) L R E' = some s) → ∀ k, G + d < k → torusref30_Fit.l1 k bits v w L R E = some s) ∧ FitI L R (v + 1) 0 E' := by
  intro d
  induction d with
  | zero =>
    intro w E hd hw hI
    refine ⟨E, fun G s hG k hk => ?_, hI.go, fun y hy => ?_, ?_⟩
    · obtain ⟨k, rfl⟩ := fuel hk
      rw [torusref30_Fit.l1, if_neg (by omega), w64 (by omega) (by omega)]
      exact hG k (by omega)
    · have := hI.lex y hy
      unfold lexB at *
      simp only at *
      omega
    · have := hI.len; omega
  | succ d ih =>
    intro w E hd hw hI
    have hvr0 : 0 ≤ v * R := Int.mul_nonneg hv0 (by omega)
    have hvr1 : v * R ≤ 12 * 12 := Int.mul_le_mul (by omega) hR (by omega) (by omega)
    have e1 : wrap64 (wrap64 (v * R) + w) = v * R + w := by rw [w64 (x := v * R) (by omega) (by omega), w64 (by omega) (by omega)]
    have q0 : 0 ≤ Int.tdiv (v * R + w) 8 := Int.tdiv_nonneg (by omega) (by omega)
    have q1 : Int.tdiv (v * R + w) 8 ≤ v * R + w := Int.tdiv_le_self _ (by omega)
    have e2 : wrap64 (Int.tdiv (v * R + w) 8) = Int.tdiv (v * R + w) 8 := w64 (by omega) (by omega)
    have q2 : 0 ≤ Int.tmod (v * R + w) 8 := Int.tmod_nonneg _ (by omega)
    have hlen := hI.len
    have keep : FitI L R v (w + 1) E := ⟨hI.go, fun y hy => by
      have := hI.lex y hy
      unfold lexB at *
      simp only at *
      omega, by omega⟩
    have put : FitI L R v (w + 1) (E ++ [⟨v, w⟩]) := by
      refine ⟨?_, fun y hy => ?_, by simp; omega⟩
      · rw [List.map_append]
        exact chkGo_snoc L R (v, w) hv0 hv1 hw (by simp only; omega) _ none hI.go hI.lex (fun q h => by cases h)
      · rw [List.map_append] at hy
        rcases List.mem_append.1 hy with hy | hy
        · exact keep.lex y hy
        · simp only [List.map_cons, List.map_nil, List.mem_singleton, prE] at hy
          subst hy
          exact .inr ⟨rfl, show w < w + 1 by omega⟩
    have fin : ∀ E1, FitI L R v (w + 1) E1 → (∀ k s, torusref30_Fit.l1 k bits v (wrap64 (w + 1)) L R E1 = some s → torusref30_Fit.l1 (k + 1) bits v w L R E = some s) →
        ∃ E', (∀ G s, (∀ k, G ≤ k → torusref30_Fit.l0 k bits (v + 1) L R E' = some s) → ∀ k, G + (d + 1) < k → torusref30_Fit.l1 k bits v w L R E = some s) ∧ FitI L R (v + 1) 0 E' := by
      intro E1 h1 h2
      obtain ⟨E', h3, h4⟩ := ih (w + 1) E1 (by omega) (by omega) h1
      refine ⟨E', fun G s hG k hk => ?_, h4⟩
      obtain ⟨k, rfl⟩ : ∃ k', k = k' + 1 := ⟨k - 1, by omega⟩
      refine h2 k s ?_
      rw [w64 (by omega) (by omega)]
      exact h3 G s hG k (by omega)
    by_cases h1 : Int.tdiv (v * R + w) 8 < bits.length
    · by_cases h2 : Go.bits .and .u8 (shr .u8 (rd bits (Int.tdiv (v * R + w) 8)) (Int.tmod (v * R + w) 8)) 1 = 1
      · refine fin _ put (fun k s hk => ?_)
        rw [torusref30_Fit.l1, e1, e2, if_pos (by omega), if_pos h1, if_pos q0, if_pos q2, if_pos h2, if_pos (by omega)]
        exact hk
      · refine fin _ keep (fun k s hk => ?_)
        rw [torusref30_Fit.l1, e1, e2, if_pos (by omega), if_pos h1, if_pos q0, if_pos q2, if_neg h2]
        exact hk
    · refine fin _ keep (fun k s hk => ?_)
      rw [torusref30_Fit.l1, e1, e2, if_pos (by omega), if_neg h1]
      exact hk
theorem fit_l0 (bits : List Int) (L R : Int) (hL : L ≤ 12) (hR0 : 0 ≤ R) (hR : R ≤ 12) :
    ∀ (d : Nat) (v : Int) (E : List S40), L = v + d → 0 ≤ v → FitI L R v 0 E → ∃ K E', (∀ k, K ≤ k → torusref30_Fit.l0 k bits v L R E = some (L, R, E')) ∧ FitI L R L 0 E' := by
  intro d
  induction d with
  | zero =>
    intro v E hd hv hI
    have : v = L := by omega
    subst this
    refine ⟨1, E, fun k hk => ?_, hI⟩
    obtain ⟨k, rfl⟩ : ∃ k', k = k' + 1 := ⟨k - 1, by omega⟩
    rw [torusref30_Fit.l0, if_neg (by omega)]
  | succ d ih =>
    intro v E hd hv hI
    obtain ⟨E1, h1, hI1⟩ := fit_l1 bits L R v hL hR hv (by omega) R.toNat 0 E (by omega) (by omega) hI
    obtain ⟨K, E', hK, hI2⟩ := ih (v + 1) E1 (by omega) (by omega) hI1
    refine ⟨K + R.toNat + 2, E', fun k hk => ?_, hI2⟩
    obtain ⟨k, rfl⟩ : ∃ k', k = k' + 1 := ⟨k - 1, by omega⟩
    rw [torusref30_Fit.l0, if_pos (by omega)]
    exact h1 K _ hK k (by omega)
theorem fit_spec (a0 a1 : Int) (bits : List Int) (ha0 : 0 ≤ a0) (ha0' : a0 ≤ 255) (ha1 : 0 ≤ a1) (ha1' : a1 ≤ 255) :
    ∃ (K L R : Nat) (E : List S40), (∀ k, K ≤ k → toruslaw30_fit.f k a0 a1 bits = some ((L : Int), (R : Int), E)) ∧ L ≤ 12 ∧ R ≤ 12 ∧ chk L R (E.map prE) = 0 ∧ GOK L R E ∧ E.length ≤ 144 := by
  have l0 : 0 ≤ Int.tmod a0 13 := Int.tmod_nonneg _ ha0
  have l1 : Int.tmod a0 13 < 13 := Int.tmod_lt_of_pos _ (by omega)
  have r0 : 0 ≤ Int.tmod a1 13 := Int.tmod_nonneg _ ha1
  have r1 : Int.tmod a1 13 < 13 := Int.tmod_lt_of_pos _ (by omega)
  obtain ⟨K, E, hK, hI⟩ := fit_l0 bits (Int.tmod a0 13) (Int.tmod a1 13) (by omega) r0 (by omega) (Int.tmod a0 13).toNat 0 [] (by omega) (by omega) ⟨rfl, (fun y hy => by cases hy), by simp⟩
  have hlen := hI.len
  have hc : chk (Int.tmod a0 13) (Int.tmod a1 13) (E.map prE) = 0 := by
    unfold chk
    rw [if_neg (by omega), if_neg (by simp; omega)]
    exact hI.go
  obtain ⟨Ln, Rn, e1, e2, g⟩ := chk_gok hc
  refine ⟨K, Ln, Rn, E, fun k hk => ?_, by omega, by omega, e1 ▸ e2 ▸ hc, g, by omega⟩
  have e3 : wrap64 (12 + 1) = 13 := w64 (by omega) (by omega)
  unfold toruslaw30_fit.f torusref30_Fit.f
  rw [e3, if_neg (by omega), w64 (by omega) (by omega), w64 (by omega) (by omega), hK k hk, e1, e2]
  rfl
end Go.Proofs.Ytlleokhmgblfnaa.P
end

section
namespace Go.Proofs.Ytlleokhmgblfnaa.P.Col
open Go.RowKit Go.Proofs.YtlleokhmgblfnaaW.PrintWords Go.Proofs.YtlleokhmgblfnaaW.PrintMore Go.Proofs.Ytlleokhmgblfnaa.H Go.Proofs.Ytlleokhmgblfnaa.M Go.Proofs.Ytlleokhmgblfnaa.P
theorem bind_of {α β : Type} {x : Option α} {a : α} {f : α → Option β} (h : x = some a) : x.bind f = f a := by rw [h]; rfl
theorem rd_rep (n : Nat) (v : Int) : rd (List.replicate n 0) v = 0 := getD_rep _ _ _
theorem cnt_next (p : Int → Bool) {i : Int} (i0 : 0 ≤ i) : cnt (i + 1).toNat p = cnt i.toNat p + if p i then 1 else 0 := by
  rw [show (i + 1).toNat = i.toNat + 1 by omega, cnt_succ, show ((i.toNat : Nat) : Int) = i by omega]
theorem mx_le (a b : Int) : a ≤ mx a b ∧ b ≤ mx a b := by unfold mx; split <;> omega
theorem mc_l0 {L R : Nat} {E : List S40} (g : GOK L R E) (c : List Int) (k : Nat) : ∀ (d : Nat) (i : Int) (lf rt : List Int) (dg : Int), (E.length : Int) = i + d → 0 ≤ i → lf.length = L → rt.length = R →
    (∀ v : Int, 0 ≤ v → v < L → rd lf v = cnt i.toNat (at0 E v) ∧ rd lf v ≤ dg) → (∀ v : Int, 0 ≤ v → v < R → rd rt v = cnt i.toNat (at1 E v) ∧ rd rt v ≤ dg) →
    ∃ dg' : Int, dg ≤ dg' ∧ (∀ v : Int, 0 ≤ v → v < L → (cnt E.length (at0 E v) : Int) ≤ dg') ∧ (∀ v : Int, 0 ≤ v → v < R → (cnt E.length (at1 E v) : Int) ≤ dg') ∧
      toruslaw30_MatchColours.l0 (k + 1 + d) c lf rt dg E E.length i L R E = toruslaw30_MatchColours.l1 k c dg' E E.length 0 L R E := by
  have gl := g.len
  intro d
  induction d with
  | zero =>
    intro i lf rt dg hd hi hl hr h0 h1
    have e : i.toNat = E.length := by omega
    refine ⟨dg, Int.le_refl _, fun v v0 v1 => by rw [← e, ← (h0 v v0 v1).1]; exact (h0 v v0 v1).2, fun v v0 v1 => by rw [← e, ← (h1 v v0 v1).1]; exact (h1 v v0 v1).2, ?_⟩
    rw [toruslaw30_MatchColours.l0, if_neg (by omega)]
  | succ d ih =>
    intro i lf rt dg hd hi hl hr h0 h1
    have hg := g.rng i hi (by omega)
    obtain ⟨x, hx⟩ : ∃ x, (rd_T40 E i).f0 = x := ⟨_, rfl⟩
    obtain ⟨y, hy⟩ : ∃ y, (rd_T40 E i).f1 = y := ⟨_, rfl⟩
    rw [hx, hy] at hg
    obtain ⟨x0, x1, y0, y1⟩ := hg
    have hcx := h0 x x0 x1
    have hcy := h1 y y0 y1
    have lx := cnt_le (at0 E x) i.toNat
    have ly := cnt_le (at1 E y) i.toNat
    have wx : wrap64 (rd lf x + 1) = rd lf x + 1 := w64 (by omega) (by omega)
    have wy : wrap64 (rd rt y + 1) = rd rt y + 1 := w64 (by omega) (by omega)
    have rx : rd (lf.set x.toNat (rd lf x + 1)) x = rd lf x + 1 := rd_set_eq x0 (by omega)
    have ry : rd (rt.set y.toNat (rd rt y + 1)) y = rd rt y + 1 := rd_set_eq y0 (by omega)
    obtain ⟨dg1, hdg1⟩ : ∃ dg1, mx (mx dg (rd lf x + 1)) (rd rt y + 1) = dg1 := ⟨_, rfl⟩
    have m1 := mx_le dg (rd lf x + 1)
    have m2 := mx_le (mx dg (rd lf x + 1)) (rd rt y + 1)
    rw [hdg1] at m2
    obtain ⟨dg', e0, e1, e2, e3⟩ := ih (i + 1) (lf.set x.toNat (rd lf x + 1)) (rt.set y.toNat (rd rt y + 1)) dg1 (by omega) (by omega) (by rw [List.length_set]; exact hl) (by rw [List.length_set]; exact hr)
      (fun v v0 v1 => by
        rw [rd_set lf x v _ x0 (by omega) v0, cnt_next _ hi]
        have := h0 v v0 v1
        by_cases e : v = x
        · subst e
          rw [if_pos rfl, if_pos (by unfold at0 fX; simp [hx])]
          omega
        · rw [if_neg e, if_neg (by unfold at0 fX; rw [hx]; simp; omega)]
          omega)
      (fun v v0 v1 => by
        rw [rd_set rt y v _ y0 (by omega) v0, cnt_next _ hi]
        have := h1 v v0 v1
        by_cases e : v = y
        · subst e
          rw [if_pos rfl, if_pos (by unfold at1 fY; simp [hy])]
          omega
        · rw [if_neg e, if_neg (by unfold at1 fY; rw [hy]; simp; omega)]
          omega)
    refine ⟨dg', by omega, e1, e2, ?_⟩
    rw [show k + 1 + (d + 1) = (k + 1 + d) + 1 by omega, toruslaw30_MatchColours.l0, if_pos (by omega), if_pos hi, if_pos (by omega), hx, hy, if_pos x0, if_pos (by omega), wx]
    refine (bind_of rfl).trans ?_
    rw [if_pos y0, if_pos (by omega), wy]
    refine (bind_of rfl).trans ?_
    rw [rx, ry, hdg1, w64 (by omega) (by omega)]
    exact e3
section
variable {L R : Nat} {E : List S40} {O : Int → Int} {M dg : Int}
theorem rd_cs (O : Int → Int) (n : Nat) {j : Int} (j0 : 0 ≤ j) (j1 : j < n) : rd ((List.range n).map fun i : Nat => O (i : Int)) j = O j := by
  unfold rd
  rw [List.getD_eq_getElem?_getD, List.getElem?_map, List.getElem?_range (by omega)]
  show O ((j.toNat : Nat) : Int) = O j
  rw [show ((j.toNat : Nat) : Int) = j by omega]
theorem rd_take (E : List S40) (i j : Int) (j0 : 0 ≤ j) (h : j < i) : rd_T40 (E.take i.toNat) j = rd_T40 E j := by
  unfold rd_T40
  rw [List.getD_eq_getElem?_getD, List.getD_eq_getElem?_getD, List.getElem?_take, if_pos (by omega)]
theorem mc_l2 (g : GOK L R E) (h : Coloured L R E M O) {i : Int} (i0 : 0 ≤ i) (i1 : i < E.length) (x0 x1 : Int) (hx0 : x0 = fX E i) (hx1 : x1 = fY E i) (cs : List Int) (hcs : cs = (List.range E.length).map fun i : Nat => O (i : Int)) (k : Nat) :
    ∀ (d : Nat) (t : Int), i = t + d → 0 ≤ t →
      toruslaw30_MatchColours.l2 (k + 1 + d) cs dg i E E.length i (E.take i.toNat) (E.take i.toNat).length t L R E x0 x1 = toruslaw30_MatchColours.l1 k cs dg E E.length (i + 1) L R E := by
  have gl := g.len
  have hlen : ((E.take i.toNat).length : Int) = i := by rw [List.length_take]; omega
  have hcl : cs.length = E.length := by rw [hcs]; simp
  intro d
  induction d with
  | zero =>
    intro t ht t0
    rw [toruslaw30_MatchColours.l2, hlen, if_neg (by omega), w64 (by omega) (by omega)]
  | succ d ih =>
    intro t ht t0
    have hn := ih (t + 1) (by omega) (by omega)
    rw [hlen] at hn ⊢
    have hO : rd cs i = O i := by rw [hcs]; exact rd_cs O _ i0 i1
    have hOt : rd cs t = O t := by rw [hcs]; exact rd_cs O _ t0 (by omega)
    rw [show k + 1 + (d + 1) = (k + 1 + d) + 1 by omega, toruslaw30_MatchColours.l2, if_pos (by omega), if_pos t0, if_pos (by rw [hlen]; omega), rd_take E i t t0 (by omega), w64 (by omega) (by omega), hO, hOt]
    have ap := fun hv => h.apart i t i0 i1 t0 (by omega) (by omega) hv
    by_cases h1 : x0 = (rd_T40 E t).f0
    · rw [if_pos h1, if_pos i0, if_pos (by omega), if_pos (by omega), if_neg (ap (.inl (by rw [← hx0]; exact h1)))]
      exact hn
    · rw [if_neg h1]
      by_cases h2 : x1 = (rd_T40 E t).f1
      · rw [if_pos h2, if_pos i0, if_pos (by omega), if_pos (by omega), if_neg (ap (.inr (by rw [← hx1]; exact h2)))]
        exact hn
      · rw [if_neg h2]
        exact hn
theorem mul_fuel (d n a : Nat) : (d + 1) * (n + 4) + a = (d * (n + 4) + a) + n + 4 := by rw [Nat.succ_mul]; omega
theorem mc_l1 (g : GOK L R E) (h : Coloured L R E M O) (hM : M ≤ dg) (cs : List Int) (hcs : cs = (List.range E.length).map fun i : Nat => O (i : Int)) :
    ∀ (d : Nat) (i : Int), (E.length : Int) = i + d → 0 ≤ i → ∀ a, toruslaw30_MatchColours.l1 (d * (E.length + 4) + (2 + a)) cs dg E E.length i L R E = some true := by
  have gl := g.len
  have hcl : cs.length = E.length := by rw [hcs]; simp
  intro d
  induction d with
  | zero =>
    intro i hd hi a
    rw [show 0 * (E.length + 4) + (2 + a) = (1 + a) + 1 by omega, toruslaw30_MatchColours.l1, if_neg (by omega)]
    exact bind_of (show toruslaw30_awake.f = some true from rfl)
  | succ d ih =>
    intro i hd hi a
    have hO : rd cs i = O i := by rw [hcs]; exact rd_cs O _ hi (by omega)
    have hr := h.rng i hi (by omega)
    have hn := ih (i + 1) (by omega) (by omega) (a + E.length + 1 - i.toNat)
    obtain ⟨F, hF⟩ : ∃ F, F = d * (E.length + 4) := ⟨_, rfl⟩
    rw [mul_fuel]
    rw [← hF] at hn ⊢
    have e : F + (2 + a) + E.length + 4 = (((F + (2 + (a + E.length + 1 - i.toNat))) + 1 + i.toNat) + 1) + 1 := by omega
    rw [e, toruslaw30_MatchColours.l1, if_pos (by omega), if_pos hi, if_pos (by omega), if_pos (by omega), hO, if_neg (by omega), decide_eq_false (by omega), toruslaw30_MatchColours.j3, if_neg (by simp), if_pos hi, if_pos (by omega)]
    refine (bind_of rfl).trans ?_
    exact (mc_l2 g h hi (by omega) (fX E i) (fY E i) rfl rfl cs hcs (F + (2 + (a + E.length + 1 - i.toNat))) i.toNat 0 (by omega) (by omega)).trans hn
end
theorem colours_run (u s : Nat) (hu : u = s + 1) (a0 a1 : Int) (bits : List Int) (L R : Int) (E G : List S40) (cs : List Int)
    (hf : toruslaw30_fit.f u a0 a1 bits = some (L, R, E)) (hg : toruslaw30_given.f L R E = some (L, R, G)) (hc : match_Colours.f L R G = some (cs, 0)) (hlen : cs.length = E.length)
    (L0 : 0 ≤ L) (L1 : L ≤ 1024) (R0 : 0 ≤ R) (R1 : R ≤ 1024)
    (hl : toruslaw30_MatchColours.l0 s cs (List.replicate L.toNat 0) (List.replicate R.toNat 0) 0 E E.length 0 L R E = some true) : toruslaw30_MatchColours.f u a0 a1 bits = some true := by
  have hj : toruslaw30_MatchColours.j0 u cs false L R E = some true := by
    rw [hu, toruslaw30_MatchColours.j0, if_neg (by simp), if_pos L0, if_pos (by omega), if_pos R0, if_pos (by omega)]
    exact hl
  unfold toruslaw30_MatchColours.f
  refine (bind_of hf).trans ?_
  refine (bind_of hg).trans ?_
  refine (bind_of hc).trans ?_
  refine (if_pos rfl).trans ?_
  rw [show ((cs.length : Int) != (E.length : Int)) = false by rw [hlen]; simp]
  exact hj
theorem colours_true (a0 a1 : Int) (bits : List Int) (ha0 : 0 ≤ a0) (ha0' : a0 ≤ 255) (ha1 : 0 ≤ a1) (ha1' : a1 ≤ 255) : ∃ k, toruslaw30_MatchColours.f k a0 a1 bits = some true := by
  obtain ⟨K1, L, R, E, hf, hL, hR, hc, g, hl⟩ := fit_spec a0 a1 bits ha0 ha0' ha1 ha1'
  obtain ⟨M, O, hcol, h⟩ := colours_spec hc g
  obtain ⟨dg', e0, e1, e2, e3⟩ := mc_l0 g ((List.range E.length).map fun i : Nat => O (i : Int)) (E.length * (E.length + 4) + (2 + K1)) E.length 0 (List.replicate L 0) (List.replicate R 0) 0 (by omega) (by omega) (by simp) (by simp)
    (fun v _ _ => by rw [rd_rep]; simp [cnt]) (fun v _ _ => by rw [rd_rep]; simp [cnt])
  have hM : M ≤ dg' := by
    rcases h.some_ with h1 | ⟨v, v0, v1, h1⟩ | ⟨v, v0, v1, h1⟩
    · omega
    · have := e1 v v0 v1; omega
    · have := e2 v v0 v1; omega
  have hfin := mc_l1 g h hM _ rfl E.length 0 (by omega) (by omega) K1
  rw [hfin] at e3
  obtain ⟨s, hs⟩ : ∃ s, s = E.length * (E.length + 4) + (2 + K1) + 1 + E.length := ⟨_, rfl⟩
  rw [← hs] at e3
  obtain ⟨u, hu⟩ : ∃ u, u = s + 1 := ⟨_, rfl⟩
  have u1 : K1 ≤ u := by
    obtain ⟨F, hF⟩ : ∃ F, F = E.length * (E.length + 4) := ⟨_, rfl⟩
    rw [← hF] at hs
    omega
  exact ⟨u, colours_run u s hu a0 a1 bits L R E E _ (hf u u1) (given_spec _ _ g.len) hcol (by simp) (by omega) (by omega) (by omega) (by omega) (by simpa using e3)⟩
end Go.Proofs.Ytlleokhmgblfnaa.P.Col
end

section
namespace Go.Proofs.Ytlleokhmgblfnaa.RBits
open Go.ChangeShapes Go.WideShapes Go.ChangeAt Go.RowKit
open Go.ChangeMaps (open_string shut_string)
theorem own : ownKnob Try.prog.godebug = none := by kernel_rfl
theorem laidOut : laidOutB Try.prog = true := by kernel_rfl
theorem cells24 : Try.prog.cellsOf 24 = 3 := by kernel_rfl
theorem wf_u8 {a : Int} (h : (Lit.int .u8 a).wf = true) : 0 ≤ a ∧ a ≤ 255 := by
  have e1 : IntKind.u8.min = 0 := by decide
  have e2 : IntKind.u8.max = 255 := by decide
  simp only [Lit.wf, e1, e2, Bool.and_eq_true, decide_eq_true_eq] at h
  exact h
def IsRow (k : IntKind) (w : World) (a : Option Addr) (len cap : Nat) (zs : List Int) : Prop :=
  (a = none ∧ len = 0 ∧ cap = 0 ∧ zs = []) ∨
  ∃ x, a = some x ∧ len ≤ cap ∧ cap ≤ maxLen ∧ zs.length = cap ∧ (∀ i, i < zs.length → w.cell? (x.add i) = some (.int k (zs.getD i 0))) ∧ ∀ n ∈ zs, (Lit.int k n).wf = true
theorem open_bits {H : Type} {enc : TypeId × Value → H} {W : World} {r : Reach} {b0 : Nat} {v : Value} {d : DataW H} {p : List MemPlace}
    (hv : Value.okWide Try.prog W r b0 24 v) (h : DataW.Trod enc Try.prog W 0 (fun _ => true) true 24 v d p) :
    ∃ (a0 a1 : Int) (A : Option Addr) (len cap : Nat) (zs : List Int), v = .agg #[.int .u8 a0, .int .u8 a1, .slice A len cap] ∧ (Lit.int .u8 a0).wf = true ∧ (Lit.int .u8 a1).wf = true ∧ IsRow .u8 W A len cap zs := by
  obtain ⟨v0, v1, v2, y0, y1, y2, n, rfl, _, _, h0, h1, h2⟩ := Go.Joins.open_agg3 Try.underlying24 (by kernel_rfl) cells24 hv h
  obtain ⟨a0, e0, _, w0⟩ := DataW.trod_int Try.underlying5 h0
  obtain ⟨a1, e1, _, w1⟩ := DataW.trod_int Try.underlying5 h1
  injection e0 with e0 _
  injection e1 with e1 _
  subst e0 e1
  rcases open_ints Try.underlying22 Try.underlying5 (by kernel_rfl) h2 with ⟨hcs, _⟩ | ⟨x, l, c, zs, hcs, _, hl, hm, hz, _, hcell, hwz⟩
  · injection hcs with e2 _
    subst e2
    exact ⟨a0, a1, none, 0, 0, [], rfl, w0, w1, .inl ⟨rfl, rfl, rfl, rfl⟩⟩
  · injection hcs with e2 _
    subst e2
    exact ⟨a0, a1, some x, l, c, zs, rfl, w0, w1, .inr ⟨x, rfl, hl, hm, by simpa using hz, hcell, hwz⟩⟩
end Go.Proofs.Ytlleokhmgblfnaa.RBits
end

section
namespace Go.Proofs.Ytlleokhmgblfnaa.matchColours
open Go.ChangeShapes Go.WideShapes Go.ChangeAt Go.RowKit Go.Proofs.YtlleokhmgblfnaaW.PrintWords
theorem walk (a0 a1 : Int) (A : Option Addr) (len cap : Nat) (zs : List Int) (w : World) (h0 : (Lit.int .u8 a0).wf = true) (h1 : (Lit.int .u8 a1).wf = true) (hr : RBits.IsRow .u8 w A len cap zs) :
    Calls Try.prog 9 #[.agg #[.int .u8 a0, .int .u8 a1, .slice A len cap]] w fun e w' => e = .returned (.bool true) ∧ Below w.heap.size w w' := by
  obtain ⟨l, rfl, hr, hm, hw, hc⟩ := ReadsInt.ofRowC hr
  have b0 := RBits.wf_u8 h0
  have b1 := RBits.wf_u8 h1
  obtain ⟨k, hk⟩ := P.Col.colours_true a0 a1 l b0.1 b0.2 b1.1 b1.2
  exact M.toruslaw30_MatchColours.calls k a0 a1 A cap l true w (Kd.C_of_reads (d := (0 : Int)) (h1 := fun _ => rfl) hr) hc hk rfl
set_option maxRecDepth 100000 in
theorem lifted (os : Os) (started : os.Started) (H : Type) (enc : TypeId × Value → H) :
    ReturnsInHanded {} Try.checked os 9 .any (Rows.matchColoursSpec.pre6 enc Try.prog Try.f9 Rows.matchColoursRow.domain false) (Rows.matchColoursSpec.post enc Try.prog Try.f9 false true false false) := by
  refine returnsInHanded_of_change_sized (C := Try.checked) RBits.own started (by kernel_rfl) Try.func9
    (ChangeSpec.witness6 (enc := enc) (C := Try.checked) false ⟨#[], #[.agg #[.int .u8 0, .int .u8 0, .slice none 0 0]], []⟩ 8 (by kernel_rfl) (by kernel_rfl) (by kernel_rfl) (by kernel_rfl)) ?_
  intro W base args ds gs before hval0 hW hcnd hsz0 _
  have hval : ∀ (j : Nat) t v, Try.f9.params[j]? = some t → args[j]? = some v → Value.okWide Try.prog W .any base t v := hval0
  have hW' := hW
  obtain ⟨p, q, hA0, hV, rfl, hfz, hnd⟩ := hW
  have hA : DataW.TrodAll enc Try.prog W 0 (fun _ => true) true Try.f9.params.toList args.toList ds p := hA0
  rw [Try.params9] at hA hval
  obtain ⟨v0, vs0, d0, ds0, p0, q0, hargs, rfl, rfl, h0, r0⟩ := trodAll_cons hA
  obtain ⟨rfl, rfl, rfl⟩ := trodAll_nil r0
  obtain rfl : args = #[v0] := by cases args; simp_all
  obtain ⟨rfl, rfl⟩ := trodVars_none hV
  have k0 := h0
  have lt0 : ∀ x ∈ p0, x.block < W.heap.size := by obtain ⟨m, hm⟩ := k0; exact DataW.trod_lt m _ _ _ hm
  obtain ⟨a0, a1, A, len, cap, zs, rfl, w0, w1, hrow⟩ := RBits.open_bits (hval 0 24 v0 rfl rfl) h0
  clear hA0 hval0 hsz0
  refine (walk a0 a1 A len cap zs W w0 w1 hrow).mono fun e W' ⟨he, bel⟩ => ?_
  subst he
  exact ⟨_, rfl, _, _, _, [], _, [], hW', trodAll_mk1 (shut_bool Try.underlying4 _), (trodAll_cons_mk (Below.trod RBits.laidOut (by kernel_rfl) (of_decide_eq_true (by kernel_rfl)) k0 bel lt0) trodAll_mk0), rfl, bel.frame _, fun h => by cases h⟩
theorem over : Rows.matchColoursRow.holds Try.pinned (OpenSpec.ofChange Rows.matchColoursSpec) :=
  OpenClaim.holds_of_wide 9 Try.f9 rfl rfl rfl rfl rfl rfl rfl ⟨rfl, rfl, rfl, rfl, rfl⟩ rfl rfl rfl rfl rfl (by kernel_rfl) Try.func9 (by kernel_rfl)
    (of_decide_eq_true (by kernel_rfl)) (by unfold Func.isWrapper; first | (rw [if_pos (by decide +kernel)]; kernel_rfl) | (rw [if_neg (by decide +kernel)]; exact ⟨rfl, rfl⟩))
    (fun os started H enc _ => lifted os started H enc)
theorem proved : Rows.MatchColoursSaid := over
end Go.Proofs.Ytlleokhmgblfnaa.matchColours
namespace Go.Proofs.Ytlleokhmgblfnaa
theorem matchColours_holds : Rows.MatchColoursSaid := matchColours.proved
end Go.Proofs.Ytlleokhmgblfnaa
end
