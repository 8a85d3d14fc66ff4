/- The vertices that some greatest matching leaves out, on both sides. -/
import Derived.Test.YtlleokhmgblfnaaPCore
import Derived.Test.YtlleokhmgblfnaaMx21
set_option linter.unusedVariables false
namespace Go.Proofs.Ytlleokhmgblfnaa.P
open Go.RowKit Go.Proofs.YtlleokhmgblfnaaW.PrintWords Go.Proofs.Ytlleokhmgblfnaa.H Go.Proofs.Ytlleokhmgblfnaa.M

/-- v is left out by some matching of s edges. -/
def FreeV (n R : Nat) (A : Int → Int → Prop) (s : Nat) (v : Int) : Prop := ∃ M, IsM n R A M ∧ msize n M = s ∧ ¬ 0 ≤ M v
section
variable {L R : Nat} {A : Int → Int → Prop} {next : List (List Int)} {m b : List Int} {l r : List Bool}
theorem Core.level_free (c : Core L R A next m b l r) (lv : List Int) (hlv : LInv next m b (-1) 0 false lv []) :
    ∀ (i : Nat) (x : Int), 0 ≤ x → x < L → rd lv x = i → ∃ M, IsM L R A M ∧ msize L M = msz L m ∧ ¬ 0 ≤ M x ∧ ∀ y : Int, 0 ≤ y → y < L → (i : Int) < rd lv y → M y = rd m y := by
  have nl := c.nl
  intro i
  induction i with
  | zero =>
    intro x h0 h1 h2
    have := (hlv.fr x h0 (by omega)).2 (by simpa using h2)
    exact ⟨rd m, c.isM, rfl, by omega, fun _ _ _ _ => rfl⟩
  | succ i ih =>
    intro x h0 h1 h2
    obtain ⟨p, p0, p1, p2, w, hw, p3⟩ := hlv.pr x h0 (by omega) (by omega)
    obtain ⟨M, hM, e, hp, hag⟩ := ih p p0 (by omega) (by omega)
    obtain ⟨w0, w1⟩ := c.nv p p0 p1 w hw
    have hmx : rd m x = w := by
      have := (c.hole.bb w w0 w1 (by omega) (by omega)).2
      rwa [p3] at this
    have hMx : M x = w := by rw [hag x h0 h1 (by omega), hmx]
    have hpx : p ≠ x := fun e => by subst e; omega
    have hap : A p w := (c.adj p w p0 (by omega)).1 hw
    refine ⟨fun y => if y = p then w else if y = x then -1 else M y, ⟨fun v a d f => ?_, fun v a d f => ?_, fun v v' a d a' d' f g => ?_⟩, ?_, ?_, fun y a d f => ?_⟩
    · by_cases ev : v = p
      · simp only [if_pos ev]; exact w1
      · by_cases ex : v = x
        · simp only [if_neg ev, if_pos ex] at f; omega
        · simp only [if_neg ev, if_neg ex] at f ⊢; exact hM.lt v a d f
    · by_cases ev : v = p
      · simp only [if_pos ev]; rw [ev]; exact hap
      · by_cases ex : v = x
        · simp only [if_neg ev, if_pos ex] at f; omega
        · simp only [if_neg ev, if_neg ex] at f ⊢; exact hM.adj v a d f
    · by_cases ev : v = p
      · by_cases ev' : v' = p
        · rw [ev, ev']
        · by_cases ex' : v' = x
          · simp only [if_pos ev, if_neg ev', if_pos ex'] at g; omega
          · simp only [if_pos ev, if_neg ev', if_neg ex'] at g
            exact absurd (hM.inj v' x a' d' h0 h1 (by omega) (by omega)) ex'
      · by_cases ex : v = x
        · simp only [if_neg ev, if_pos ex] at f; omega
        · simp only [if_neg ev, if_neg ex] at f g
          by_cases ev' : v' = p
          · simp only [if_pos ev'] at g
            exact absurd (hM.inj v x a d h0 h1 f (by omega)) ex
          · by_cases ex' : v' = x
            · simp only [if_neg ev', if_pos ex'] at g; omega
            · simp only [if_neg ev', if_neg ex'] at g
              exact hM.inj v v' a d a' d' f g
    · rw [← e]
      unfold msize
      rw [cnt_out (has M) x L h0 h1 (by unfold has; rw [hMx]; simpa using w0), ← cnt_put (fun i => has M i && i != x) p L p0 (by omega) (by simp [has]; omega)]
      refine cnt_congr L (fun y _ _ => ?_)
      unfold has
      by_cases ev : y = p
      · simp [ev, w0]
      · by_cases ex : y = x
        · subst ex; simp [ev]
        · have a1 : (y != x) = true := by simpa using ex
          have a2 : (y == p) = false := by simpa using ev
          simp [ev, ex, a1, a2]
    · simp only [if_neg hpx.symm, if_true]; omega
    · have ev : y ≠ p := fun e => by subst e; omega
      have ex : y ≠ x := fun e => by subst e; omega
      simp only [if_neg ev, if_neg ex]
      exact hag y a d (by omega)
theorem Core.le_ν (c : Core L R A next m b l r) : cnt L (fun x => !tr l x) + cnt R (tr r) = msz L m := by
  have e := c.count
  have e2 := cnt_not (tr l) L
  omega
theorem Core.cov (c : Core L R A next m b l r) (v w : Int) (h0 : 0 ≤ v) (h1 : v < L) (h : A v w) (hl : tr l v = true) : tr r w = true := by
  have nl := c.nl
  exact (c.rs.cl v h0 (by omega) hl w ((c.adj v w h0 h1).2 h)).1
theorem Core.free_iff (c : Core L R A next m b l r) (v : Int) (h0 : 0 ≤ v) (h1 : v < L) : tr l v = true ↔ FreeV L R A (msz L m) v := by
  have nl := c.nl
  constructor
  · intro h
    obtain ⟨lv, hlv⟩ := c.lin
    have hcl : Closed next m b (fun x => 0 ≤ rd lv x) := by
      refine ⟨fun x a d e => by have := (hlv.fr x a d).1 e; omega, fun x a d e w hw hb => ?_⟩
      exact (hlv.cl x a d e (by simp) (by omega) w hw).2 hb
    have hv := c.rs.le _ hcl v h0 (by omega) h
    obtain ⟨M, hM, e, hp, _⟩ := c.level_free lv hlv (rd lv v).toNat v h0 h1 (by omega)
    exact ⟨M, hM, e, hp⟩
  · rintro ⟨M, hM, e, hv⟩
    by_cases h : tr l v = true
    · exact h
    · exfalso
      have hM' : IsM L R (fun x w => A x w ∧ x ≠ v) M := ⟨hM.lt, fun x a d f => ⟨hM.adj x a d f, fun e => by subst e; exact hv f⟩, hM.inj⟩
      have := cover_bound hM' (fun x => !tr l x && x != v) (tr r) (fun x w a d a' d' ⟨f, g⟩ => by
        cases h4 : tr l x with
        | false => left; simp [g]
        | true => right; exact c.cov x w a d f h4)
      have e1 := cnt_out (fun x => !tr l x) v L h0 h1 (by simpa using h)
      have e2 := c.le_ν
      omega
theorem IsM.congr {n R : Nat} {A B : Int → Int → Prop} {M : Int → Int} (h : IsM n R A M) (e : ∀ v w : Int, 0 ≤ v → v < n → 0 ≤ w → w < R → A v w → B v w) : IsM n R B M :=
  ⟨h.lt, fun v a d f => e v (M v) a d f (h.lt v a d f) (h.adj v a d f), h.inj⟩
theorem IsMax.congr' {n R : Nat} {A B : Int → Int → Prop} {s : Nat} (h : IsMax n R A s) (e : ∀ v w : Int, 0 ≤ v → v < n → 0 ≤ w → w < R → (A v w ↔ B v w)) : IsMax n R B s := by
  obtain ⟨M, hM, hs⟩ := h.some
  exact ⟨⟨M, hM.congr (fun v w a d a' d' f => (e v w a d a' d').1 f), hs⟩, fun M hM => h.all M (hM.congr (fun v w a d a' d' f => (e v w a d a' d').2 f))⟩
/-- The set depends on the graph alone. -/
theorem Core.set_eq (c : Core L R A next m b l r) {B : Int → Int → Prop} {next' : List (List Int)} {m' b' : List Int} {l' r' : List Bool} (c' : Core L R B next' m' b' l' r') (e : ∀ v w : Int, 0 ≤ v → v < L → 0 ≤ w → w < R → (A v w ↔ B v w)) : sel L (tr l) = sel L (tr l') := by
  refine sel_congr _ (fun v h0 h1 => ?_)
  have es : msz L m = msz L m' := (c.isMax.congr' e).eq c'.isMax
  have : tr l v = true ↔ tr l' v = true := by
    rw [c.free_iff v h0 h1, c'.free_iff v h0 h1, es]
    constructor
    · rintro ⟨M, hM, r⟩; exact ⟨M, hM.congr (fun v w a d a' d' f => (e v w a d a' d').1 f), r⟩
    · rintro ⟨M, hM, r⟩; exact ⟨M, hM.congr (fun v w a d a' d' f => (e v w a d a' d').2 f), r⟩
  cases h : tr l v <;> cases h' : tr l' v <;> simp_all
/-- The size seen from the other side. -/
theorem Core.isMaxT (c : Core L R A next m b l r) : IsMax R L (fun w v => A v w) (msz L m) := by
  have nl := c.nl
  have hb : ∀ w : Int, 0 ≤ w → w < R → 0 ≤ rd b w → rd b w < L ∧ rd m (rd b w) = w := fun w h0 h1 h2 => by
    have := c.hole.bb w h0 h1 (by omega) h2
    rwa [nl] at this
  have hm : IsM R L (fun w v => A v w) (rd b) := by
    refine ⟨fun w h0 h1 h2 => (hb w h0 h1 h2).1, fun w h0 h1 h2 => ?_, fun w w' h0 h1 h2 h3 h4 e => ?_⟩
    · obtain ⟨a1, a2⟩ := hb w h0 h1 h2
      have := (c.hole.mm (rd b w) h2 (by omega) (by omega)).2.1
      rw [a2] at this
      exact (c.adj _ w h2 a1).1 this
    · rw [← (hb w h0 h1 h4).2, ← (hb w' h2 h3 (by omega)).2, e]
  refine ⟨⟨rd b, hm, ?_⟩, fun M hM => ?_⟩
  · unfold msize msz has
    refine Nat.le_antisymm (cnt_inj (rd b) L R _ (fun w h0 h1 h2 => ?_) (fun w w' h0 h1 h2 h3 h4 h5 e => ?_)) (cnt_inj (rd m) R L _ (fun v h0 h1 h2 => ?_) (fun v v' h0 h1 h2 h3 h4 h5 e => ?_))
    · have h2 : 0 ≤ rd b w := by simpa using h2
      obtain ⟨a1, a2⟩ := hb w h0 h1 h2
      exact ⟨h2, a1, by rw [a2]; simpa using h0⟩
    · exact hm.inj w w' h0 h1 h2 h3 (by simpa using h4) e
    · have h2 : 0 ≤ rd m v := by simpa using h2
      obtain ⟨a1, a2, a3, a4⟩ := c.hole.mm v h0 (by omega) h2
      exact ⟨h2, a1, by rw [a3]; simpa using h0⟩
    · exact c.isM.inj v v' h0 h1 h2 h3 (by simpa using h4) e
  · have := cover_bound hM (tr r) (fun x => !tr l x) (fun w v a d a' d' f => by
      cases h4 : tr l v with
      | false => right; rfl
      | true => left; exact c.cov v w a' d' f h4)
    have e2 := c.le_ν
    omega
end

/-! pairing.Turned -/
structure TInv (next : List (List Int)) (R : Nat) (v j : Int) (out : List (List Int)) : Prop where
  len : out.length = R
  mem : ∀ w x : Int, 0 ≤ w → w < R → (x ∈ rd_L5 out w ↔ (0 ≤ x ∧ x < v ∧ w ∈ rd_L5 next x) ∨ (x = v ∧ ∃ j' : Int, 0 ≤ j' ∧ j' < j ∧ rd (rd_L5 next v) j' = w))
  size : ∀ w : Int, 0 ≤ w → w < R → (rd_L5 out w).length ≤ v * 1000000 + j
theorem turned_l1 {next : List (List Int)} {R : Nat} (hn : next.length ≤ 1024) (hNV : NV next R) (n : Int) (v : Int) (hv0 : 0 ≤ v) (hv1 : v < next.length) (hlen : (rd_L5 next v).length ≤ 1000000) :
    ∀ (e : Nat) (j : Int) (out : List (List Int)), (rd_L5 next v).length = j + e → 0 ≤ j → TInv next R v j out →
      ∃ out', (∀ G s, (∀ k, G ≤ k → pairing_Turned.l0 k out' next n (v + 1) = some s) → ∀ k, G + e < k → pairing_Turned.l1 k out v next n v (rd_L5 next v) (rd_L5 next v).length j = some s) ∧ TInv next R (v + 1) 0 out' := by
  intro e
  induction e with
  | zero =>
    intro j out he hj hI
    refine ⟨out, fun G s hG k hk => ?_, hI.len, fun w x h0 h1 => ?_, fun w h0 h1 => by have := hI.size w h0 h1; omega⟩
    · obtain ⟨k, rfl⟩ : ∃ k', k = k' + 1 := ⟨k - 1, by omega⟩
      rw [pairing_Turned.l1, if_neg (by omega), w64 (by omega) (by omega)]
      exact hG k (by omega)
    · rw [hI.mem w x h0 h1]
      constructor
      · rintro (⟨a, d, f⟩ | ⟨rfl, j', a, d, f⟩)
        · exact .inl ⟨a, by omega, f⟩
        · exact .inl ⟨hv0, by omega, by rw [← f]; exact rd_mem a (by omega)⟩
      · rintro (⟨a, d, f⟩ | ⟨_, j', a, d, _⟩)
        · by_cases ex : x = v
          · subst ex
            obtain ⟨i, i0, i1, i2⟩ := mem_rd f
            exact .inr ⟨rfl, i, i0, by omega, i2⟩
          · exact .inl ⟨a, by omega, f⟩
        · omega
  | succ e ih =>
    intro j out he hj hI
    have hol := hI.len
    obtain ⟨w, hw⟩ : ∃ w, rd (rd_L5 next v) j = w := ⟨_, rfl⟩
    have hwm : w ∈ rd_L5 next v := hw ▸ rd_mem hj (by omega)
    obtain ⟨hw0, hw1⟩ := hNV v hv0 hv1 w hwm
    have hs : ∀ y : Int, 0 ≤ y → rd_L5 (out.set w.toNat ((rd_L5 out w) ++ [v])) y = if y = w then (rd_L5 out w) ++ [v] else rd_L5 out y := fun y h => getD_set _ out w y _ hw0 (by omega) h
    have hsz := hI.size w hw0 hw1
    obtain ⟨out', h1, h2⟩ := ih (j + 1) (out.set w.toNat ((rd_L5 out w) ++ [v])) (by omega) (by omega) ⟨by simpa using hol, fun y x a d => by
        rw [hs y a]
        by_cases ey : y = w
        · subst ey
          rw [if_pos rfl, List.mem_append, hI.mem y x a d, List.mem_singleton]
          constructor
          · rintro ((h | ⟨f, j', g, h, i⟩) | h)
            · exact .inl h
            · exact .inr ⟨f, j', g, by omega, i⟩
            · exact .inr ⟨h, j, hj, by omega, hw⟩
          · rintro (h | ⟨f, j', g, h, i⟩)
            · exact .inl (.inl h)
            · exact .inr f
        · rw [if_neg ey, hI.mem y x a d]
          constructor
          · rintro (h | ⟨f, j', g, h, i⟩)
            · exact .inl h
            · exact .inr ⟨f, j', g, by omega, i⟩
          · rintro (h | ⟨f, j', g, h, i⟩)
            · exact .inl h
            · have ej : j' ≠ j := fun ej => by subst ej; exact ey (i.symm.trans hw)
              exact .inr ⟨f, j', g, by omega, i⟩, fun y a d => by
        rw [hs y a]
        split
        · simp; omega
        · have := hI.size y a d; omega⟩
    refine ⟨out', fun G s hG k hk => ?_, h2⟩
    obtain ⟨k, rfl⟩ : ∃ k', k = k' + 1 := ⟨k - 1, by omega⟩
    rw [pairing_Turned.l1, if_pos (by omega), if_pos hj, if_pos (by omega), hw, if_pos hw0, if_pos (by omega), if_pos (by omega), w64 (by omega) (by omega)]
    exact h1 G s hG k (by omega)
theorem turned_spec {next : List (List Int)} {R : Nat} (hn : next.length ≤ 1024) (hR : R ≤ 1024) (hNV : NV next R) (hlen : ∀ v : Int, 0 ≤ v → v < next.length → (rd_L5 next v).length ≤ 1000000) :
    ∃ K out, (∀ k, K ≤ k → pairing_Turned.f k next R = some out) ∧ out.length = R ∧ (∀ w x : Int, 0 ≤ w → w < R → (x ∈ rdL out w ↔ 0 ≤ x ∧ x < next.length ∧ w ∈ rdL next x)) ∧ ∀ w : Int, 0 ≤ w → w < R → (rdL out w).length ≤ 1000000000000 := by
  have key : ∀ (d : Nat) (v : Int) (out : List (List Int)), (next.length : Int) = v + d → 0 ≤ v → TInv next R v 0 out → ∃ K out', (∀ k, K ≤ k → pairing_Turned.l0 k out next next.length v = some out') ∧ TInv next R next.length 0 out' := by
    intro d
    induction d with
    | zero =>
      intro v out hd hv hI
      have : v = (next.length : Int) := by omega
      subst this
      refine ⟨1, out, fun k hk => ?_, hI⟩
      obtain ⟨k, rfl⟩ : ∃ k', k = k' + 1 := ⟨k - 1, by omega⟩
      rw [pairing_Turned.l0, if_neg (by omega)]
    | succ d ih =>
      intro v out hd hv hI
      obtain ⟨out1, h1, hI1⟩ := turned_l1 hn hNV next.length v hv (by omega) (hlen v hv (by omega)) (rd_L5 next v).length 0 out (by omega) (by omega) hI
      obtain ⟨K, out2, hK, hI2⟩ := ih (v + 1) out1 (by omega) (by omega) hI1
      refine ⟨K + (rd_L5 next v).length + 2, out2, fun k hk => ?_, hI2⟩
      obtain ⟨k, rfl⟩ : ∃ k', k = k' + 1 := ⟨k - 1, by omega⟩
      rw [pairing_Turned.l0, if_pos (by omega), if_pos hv, if_pos (by omega)]
      exact h1 K _ hK k (by omega)
  obtain ⟨K, out, hK, hI⟩ := key next.length 0 (List.replicate R []) (by omega) (by omega) ⟨by simp, fun w x h0 h1 => by
    unfold rd_L5
    rw [getD_rep]
    constructor
    · intro h; cases h
    · rintro (⟨a, d, _⟩ | ⟨_, j', a, d, _⟩) <;> omega, fun w h0 h1 => by
    unfold rd_L5
    rw [getD_rep]; simp⟩
  refine ⟨K, out, fun k hk => ?_, hI.len, fun w x h0 h1 => ?_, fun w h0 h1 => ?_⟩
  · unfold pairing_Turned.f
    rw [if_pos (by omega), if_pos (by omega)]
    exact hK k hk
  · refine (hI.mem w x h0 h1).trans ?_
    constructor
    · rintro (h | ⟨_, j', a, d, _⟩)
      · exact h
      · omega
    · exact .inl
  · have := hI.size w h0 h1
    show (rd_L5 out w).length ≤ _
    omega

/-! match.Free -/
theorem free_done {L R : Nat} {E : List S40} (hk : chk L R (E.map prE) = 0) (g : GOK L R E) : ∃ next m b l r next' m' b' l' r' K, Core L R (Adj E) next m b l r ∧ Core R L (fun w v => Adj E v w) next' m' b' l' r' ∧
    (∀ k, K ≤ k → match_Free.f k L R E = some (sel L (tr l), sel R (tr l'), 0)) := by
  have hL := g.L1
  have hR := g.R1
  obtain ⟨next, h1, nl, adj, hlen⟩ := nbr_spec g
  have nv : NV next R := fun v h0 h1 w hw => by
    rw [nl] at h1
    obtain ⟨j, j0, j1, j2, j3⟩ := (adj v w h0 h1).1 hw
    have := g.rng j j0 j1
    omega
  obtain ⟨m, b, l, r, K1, c, h2, h3⟩ := coreA hL hR nl adj nv (fun v h0 h1 => by have := hlen v h0 h1; omega)
  obtain ⟨K2, out, h4, ol, om, os⟩ := turned_spec (by omega) hR nv (fun v h0 h1 => hlen v h0 (by omega))
  have nv' : NV out L := fun w h0 h1 x hx => by
    rw [ol] at h1
    obtain ⟨a, d, _⟩ := (om w x h0 h1).1 hx
    exact ⟨a, by omega⟩
  obtain ⟨m', b', l', r', K3, c', h5, h6⟩ := coreA (A := fun w v => Adj E v w) hR hL ol (fun w x h0 h1 => by
    rw [om w x h0 h1]
    constructor
    · rintro ⟨a, d, f⟩; exact (adj x w a (by omega)).1 f
    · intro h
      obtain ⟨j, j0, j1, j2, j3⟩ := id h
      have := g.rng j j0 j1
      exact ⟨by omega, by omega, (adj x w (by omega) (by omega)).2 h⟩) nv' (fun w h0 h1 => os w h0 (by omega))
  have ll := c.rs.ll
  have ll' := c'.rs.ll
  refine ⟨next, m, b, l, r, out, m', b', l', r', K1 + K2 + K3 + L + R + E.length + 1, c, c', fun k hk => ?_⟩
  have hc : match_Check.f L R E = some 0 := by unfold match_Check.f; rw [‹chk _ _ _ = 0›]
  unfold match_Free.f
  rw [hc]
  simp only [Option.bind_some, if_true]
  rw [h1 k (by omega)]
  simp only [Option.bind_some]
  unfold match_reach.f
  rw [h2 k (by omega)]
  simp only [Option.bind_some]
  rw [h3 k (by omega)]
  simp only [Option.bind_some]
  rw [h4 k (by omega)]
  simp only [Option.bind_some]
  rw [h5 k (by omega)]
  simp only [Option.bind_some]
  rw [h6 k (by omega)]
  simp only [Option.bind_some]
  rw [chosen_spec true l (by omega) k (by omega), chosen_spec true l' (by omega) k (by omega), show l.length = L by omega, show l'.length = R by omega]
  simp only [Option.bind_some, bool_beq_true]
end Go.Proofs.Ytlleokhmgblfnaa.P
