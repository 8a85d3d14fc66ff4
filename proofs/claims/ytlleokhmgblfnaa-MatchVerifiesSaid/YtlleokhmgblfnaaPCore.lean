/- Graphs that Check accepts, the matching, the set and its neighbours that are computed for them, and their numbers. -/
import Derived.Test.YtlleokhmgblfnaaPReach
set_option linter.unusedVariables false
namespace Go.Proofs.Ytlleokhmgblfnaa.P
open Go.RowKit Go.Proofs.YtlleokhmgblfnaaW.PrintWords Go.Proofs.Ytlleokhmgblfnaa.H Go.Proofs.Ytlleokhmgblfnaa.M

/-! Check -/
theorem rd_T40_mem {E : List S40} {j : Int} (h0 : 0 ≤ j) (h1 : j < E.length) : rd_T40 E j ∈ E := by
  unfold rd_T40
  rw [List.getD_eq_getElem?_getD, List.getElem?_eq_getElem (by omega)]
  exact List.getElem_mem _
theorem mem_rd_T40 {E : List S40} {x : S40} (h : x ∈ E) : ∃ i : Int, 0 ≤ i ∧ i < E.length ∧ rd_T40 E i = x := by
  obtain ⟨i, hi, e⟩ := List.getElem_of_mem h
  exact ⟨i, by omega, by omega, by simp [rd_T40, hi, e]⟩
theorem chkGo_rng (L R : Int) : ∀ (E : List (Int × Int)) (p : Option (Int × Int)), chkGo L R p E = 0 → ∀ x ∈ E, 0 ≤ x.1 ∧ x.1 < L ∧ 0 ≤ x.2 ∧ x.2 < R
  | [], _, _, x, hx => by cases hx
  | y :: E, p, h, x, hx => by
    unfold chkGo at h
    split at h
    · omega
    · have ih := chkGo_rng L R E (some y)
      have h2 : chkGo L R (some y) E = 0 := by
        cases p with
        | none => exact h
        | some q =>
          simp only at h
          split at h
          · omega
          · split at h
            · omega
            · exact h
      rcases List.mem_cons.1 hx with e | hx
      · subst e; omega
      · exact ih h2 x hx
theorem chk_gok {L R : Int} {E : List S40} (h : chk L R (E.map prE) = 0) : ∃ Ln Rn : Nat, L = Ln ∧ R = Rn ∧ GOK Ln Rn E := by
  unfold chk at h
  split at h
  · omega
  · split at h
    · omega
    · refine ⟨L.toNat, R.toNat, by omega, by omega, by omega, by omega, by simp at *; omega, fun j h0 h1 => ?_⟩
      have := chkGo_rng L R _ none h (prE (rd_T40 E j)) (List.mem_map_of_mem (rd_T40_mem h0 h1))
      simp only [prE] at this
      omega
def lexB (y x : Int × Int) : Prop := y.1 < x.1 ∨ (y.1 = x.1 ∧ y.2 < x.2)
theorem chkGo_snoc (L R : Int) (x : Int × Int) (h0 : 0 ≤ x.1) (h1 : x.1 < L) (h2 : 0 ≤ x.2) (h3 : x.2 < R) :
    ∀ (E : List (Int × Int)) (p : Option (Int × Int)), chkGo L R p E = 0 → (∀ y ∈ E, lexB y x) → (∀ q, p = some q → lexB q x) → chkGo L R p (E ++ [x]) = 0
  | [], p, _, _, hp => by
    show chkGo L R p [x] = 0
    unfold chkGo
    rw [if_neg (by omega)]
    cases p with
    | none => rfl
    | some q =>
      have := hp q rfl
      unfold lexB at this
      show (if q = x then _ else _) = _
      rw [if_neg (by intro e; subst e; omega), if_neg (by omega)]
      rfl
  | y :: E, p, h, hE, hp => by
    show chkGo L R p (y :: (E ++ [x])) = 0
    unfold chkGo at h ⊢
    split
    · rename_i h4; rw [if_pos h4] at h; exact h
    · rename_i h4
      rw [if_neg h4] at h
      have ih := chkGo_snoc L R x h0 h1 h2 h3 E (some y)
      have hy : ∀ q, some y = some q → lexB q x := fun q e => by cases e; exact hE y (by simp)
      have hE' : ∀ z ∈ E, lexB z x := fun z hz => hE z (by simp [hz])
      cases p with
      | none => exact ih h hE' hy
      | some q =>
        simp only at h ⊢
        split
        · rename_i h5; rw [if_pos h5] at h; exact h
        · rename_i h5
          rw [if_neg h5] at h
          split
          · rename_i h6; rw [if_pos h6] at h; exact h
          · rename_i h6
            rw [if_neg h6] at h
            exact ih h hE' hy

/-! the core -/
structure Core (L R : Nat) (A : Int → Int → Prop) (next : List (List Int)) (m b : List Int) (l r : List Bool) : Prop where
  nl : next.length = L
  adj : ∀ v w : Int, 0 ≤ v → v < L → (w ∈ rdL next v ↔ A v w)
  nv : NV next R
  hole : Hole next R m b (-1)
  lin : ∃ lv, LInv next m b (-1) 0 false lv []
  rs : RS next R m b l r
theorem coreA {L R : Nat} {A : Int → Int → Prop} {next : List (List Int)} (hL : L ≤ 1024) (hR : R ≤ 1024) (nl : next.length = L) (adj : ∀ v w : Int, 0 ≤ v → v < L → (w ∈ rdL next v ↔ A v w)) (nv : NV next R) (hlen : ∀ v : Int, 0 ≤ v → v < L → (rdL next v).length ≤ 1000000000000) :
    ∃ m b l r K, Core L R A next m b l r ∧ (∀ k, K ≤ k → pairing_Greatest.f k next R = some (m, b)) ∧ (∀ k, K ≤ k → pairing_Reach.f k next m b = some (l, r)) := by
  obtain ⟨K1, m, b, h2, hole, lin⟩ := greatF_spec (by omega) (by omega) nv
  obtain ⟨K2, l, r, h3, rs⟩ := reach_spec (by omega) (by omega) nv (fun v h0 h1 => hlen v h0 (by omega)) hole
  refine ⟨m, b, l, r, max K1 K2, ⟨nl, adj, nv, hole, lin, rs⟩, fun k hk => ?_, fun k hk => h3 k (by omega)⟩
  exact at_rounds (fun k => pairing_Greatest.mono next R k) (show K1 ≤ k by omega) h2
theorem core {L R : Nat} {E : List S40} (g : GOK L R E) : ∃ next m b l r K, Core L R (Adj E) next m b l r ∧ (∀ k, K ≤ k → match_Graph_neighbours.f k L R E = some next) ∧
    (∀ k, K ≤ k → pairing_Greatest.f k next R = some (m, b)) ∧ (∀ k, K ≤ k → pairing_Reach.f k next m b = some (l, r)) := by
  have hL := g.L1
  have hR := g.R1
  obtain ⟨next, h1, nl, adj, hlen⟩ := nbr_spec g
  have nv : NV next R := fun v h0 h1 w hw => by
    rw [nl] at h1
    obtain ⟨j, j0, j1, j2, j3⟩ := (adj v w h0 h1).1 hw
    have := g.rng j j0 j1
    omega
  obtain ⟨m, b, l, r, K, c, h2, h3⟩ := coreA hL hR nl adj nv (fun v h0 h1 => by have := hlen v h0 h1; omega)
  exact ⟨next, m, b, l, r, max (E.length + 1) K, c, fun k hk => h1 k (by omega), fun k hk => h2 k (by omega), fun k hk => h3 k (by omega)⟩

/-- The neighbours of the set are the mates of its members. -/
theorem Core.around {L R : Nat} {A : Int → Int → Prop} {next : List (List Int)} {m b : List Int} {l r : List Bool} (c : Core L R A next m b l r) :
    ∀ w : Int, 0 ≤ w → w < R → tr r w = true → 0 ≤ rd b w ∧ rd b w < L ∧ tr l (rd b w) = true ∧ rd m (rd b w) = w := by
  intro w h0 h1 hw
  obtain ⟨lv, hlv⟩ := c.lin
  have hcl : Closed next m b (fun x => 0 ≤ rd lv x) := by
    refine ⟨fun x a d e => by have := (hlv.fr x a d).1 e; omega, fun x a d e w hw hb => ?_⟩
    exact (hlv.cl x a d e (by simp) (by omega) w hw).2 hb
  obtain ⟨x, x0, x1, x2, x3⟩ := c.rs.ri w h0 h1 hw
  have hx := c.rs.le _ hcl x x0 x1 x2
  have hb : 0 ≤ rd b w := by
    by_cases h : rd b w < 0
    · have := (hlv.cl x x0 x1 hx (by simp) (by omega) w x3).1 h
      cases this
    · omega
  obtain ⟨b1, b2⟩ := c.hole.bb w h0 h1 (by omega) hb
  have := c.nl
  exact ⟨hb, by omega, (c.rs.cl x x0 x1 x2 w x3).2 hb, b2⟩
theorem Core.count {L R : Nat} {A : Int → Int → Prop} {next : List (List Int)} {m b : List Int} {l r : List Bool} (c : Core L R A next m b l r) :
    cnt L (tr l) + msz L m = L + cnt R (tr r) := by
  have nl := c.nl
  have e1 : cnt R (tr r) = cnt L (fun x => tr l x && decide (0 ≤ rd m x)) := by
    refine Nat.le_antisymm (cnt_inj (rd b) L R _ (fun w h0 h1 hw => ?_) (fun w w' h0 h1 h2 h3 hw hw' e => ?_)) (cnt_inj (rd m) R L _ (fun x h0 h1 hx => ?_) (fun x x' h0 h1 h2 h3 hx hx' e => ?_))
    · obtain ⟨a1, a2, a3, a4⟩ := c.around w h0 h1 hw
      exact ⟨a1, a2, by simp [a3, a4, h0]⟩
    · obtain ⟨a1, a2, a3, a4⟩ := c.around w h0 h1 hw
      obtain ⟨b1, b2, b3, b4⟩ := c.around w' h2 h3 hw'
      rw [← a4, ← b4, e]
    · simp at hx
      obtain ⟨a1, a2, a3, a4⟩ := c.hole.mm x h0 (by omega) hx.2
      exact ⟨hx.2, a1, (c.rs.cl x h0 (by omega) hx.1 _ a2).1⟩
    · simp at hx hx'
      have a := (c.hole.mm x h0 (by omega) hx.2).2.2.1
      have b := (c.hole.mm x' h2 (by omega) hx'.2).2.2.1
      rw [← a, ← b, e]
  have e2 : cnt L (fun x => tr l x && !decide (0 ≤ rd m x)) = cnt L (fun x => !decide (0 ≤ rd m x)) := by
    refine cnt_congr _ (fun x h0 h1 => ?_)
    by_cases h : 0 ≤ rd m x
    · simp [h]
    · have : tr l x = true := c.rs.fr x h0 (by omega) (by omega)
      simp [this]
  have e3 := cnt_split (tr l) (fun x => decide (0 ≤ rd m x)) L
  have e4 := cnt_not (fun x => decide (0 ≤ rd m x)) L
  unfold msz
  omega
/-- The set is empty only if every left vertex has a mate. -/
theorem Core.empty {L R : Nat} {A : Int → Int → Prop} {next : List (List Int)} {m b : List Int} {l r : List Bool} (c : Core L R A next m b l r) : cnt L (tr l) = 0 ↔ msz L m = L := by
  have nl := c.nl
  constructor
  · intro h
    have e := c.count
    have := cnt_le (fun x => decide (0 ≤ rd m x)) L
    unfold msz at *
    omega
  · intro h
    have hall : ∀ x : Int, 0 ≤ x → x < L → 0 ≤ rd m x := by
      intro x h0 h1
      by_cases hx : 0 ≤ rd m x
      · exact hx
      · have e4 := cnt_not (fun x => decide (0 ≤ rd m x)) L
        rw [cnt_out (fun i => !decide (0 ≤ rd m i)) x L h0 h1 (by simp [hx])] at e4
        unfold msz at h
        omega
    refine cnt_zero _ (fun x h0 h1 => ?_)
    by_cases hx : tr l x = true
    · exact absurd (c.rs.le (fun _ => False) ⟨fun x a d e => by have := hall x a (by omega); omega, fun _ _ _ h => h.elim⟩ x h0 (by omega) hx) (fun h => h)
    · simpa using hx
open Classical in
/-- The neighbours that are computed are those of the set. -/
theorem Core.near {L R : Nat} {E : List S40} {next : List (List Int)} {m b : List Int} {l r : List Bool} (g : GOK L R E) (c : Core L R (Adj E) next m b l r) : sel R (nearB E (sel L (tr l))) = sel R (tr r) := by
  have nl := c.nl
  refine sel_congr _ (fun w h0 h1 => ?_)
  have : nearB E (sel L (tr l)) w = true ↔ tr r w = true := by
    unfold nearB
    rw [decide_eq_true_iff]
    constructor
    · rintro ⟨j, j0, j1, j2, j3⟩
      obtain ⟨a0, a1, a2⟩ := (mem_sel _ _ _).1 j3
      exact (c.rs.cl _ a0 (by omega) a2 w ((c.adj _ w a0 a1).2 ⟨j, j0, j1, rfl, j2⟩)).1
    · intro h
      obtain ⟨x, x0, x1, x2, x3⟩ := c.rs.ri w h0 h1 h
      obtain ⟨j, j0, j1, j2, j3⟩ := (c.adj x w x0 (by omega)).1 x3
      exact ⟨j, j0, j1, j3, (mem_sel _ _ _).2 ⟨by omega, by omega, by rw [j2]; exact x2⟩⟩
  cases h : nearB E (sel L (tr l)) w <;> cases h' : tr r w <;> simp_all
/-- The matching is a greatest one. -/
theorem Core.isM {L R : Nat} {A : Int → Int → Prop} {next : List (List Int)} {m b : List Int} {l r : List Bool} (c : Core L R A next m b l r) : IsM L R A (rd m) := by
  have nl := c.nl
  refine ⟨fun v h0 h1 h2 => (c.hole.mm v h0 (by omega) h2).1, fun v h0 h1 h2 => (c.adj v _ h0 h1).1 (c.hole.mm v h0 (by omega) h2).2.1, fun v v' h0 h1 h2 h3 h4 e => ?_⟩
  have a := (c.hole.mm v h0 (by omega) h4).2.2.1
  have b := (c.hole.mm v' h2 (by omega) (e ▸ h4)).2.2.1
  rw [← a, ← b, e]
theorem Core.isMax {L R : Nat} {A : Int → Int → Prop} {next : List (List Int)} {m b : List Int} {l r : List Bool} (c : Core L R A next m b l r) : IsMax L R A (msz L m) := by
  have nl := c.nl
  refine ⟨⟨rd m, c.isM, rfl⟩, fun M hM => ?_⟩
  have := cover_bound hM (fun x => !tr l x) (tr r) (fun v w h0 h1 h2 h3 h => by
    cases h4 : tr l v with
    | false => exact .inl rfl
    | true => exact .inr (c.rs.cl v h0 (by omega) h4 w ((c.adj v w h0 h1).2 h)).1)
  have e := c.count
  have e2 := cnt_not (tr l) L
  omega

/-! what the functions return -/
theorem given_spec (L R : Int) {E : List S40} (h : E.length ≤ 65536) : toruslaw30_given.f L R E = some (L, R, E) := by
  unfold toruslaw30_given.f
  simp only [Option.bind_some]
  rw [if_pos (by simp; omega)]
  rfl
structure Done (L R : Nat) (E : List S40) (m : List Int) (l r : List Bool) (K : Nat) : Prop where
  max : ∀ k, K ≤ k → match_Maximum.f k L R E = some (m, 0)
  size : ∀ k, K ≤ k → match_Size.f k L R E = some ((msz L m : Int), 0)
  size' : ∀ k, K ≤ k → toruslaw30_size.f k L R E = some (msz L m : Int)
  hall : ∀ k, K ≤ k → match_Hall.f k L R E = some (if cnt L (tr l) = 0 then ([], [], 4) else (sel L (tr l), sel R (tr r), 0))
  cover : ∀ k, K ≤ k → match_Cover.f k L R E = some (sel L (fun x => !tr l x), sel R (tr r), 0)
theorem bool_beq_true (b : Bool) : (b == true) = b := by cases b <;> rfl
theorem bool_beq_false (b : Bool) : (b == false) = !b := by cases b <;> rfl
theorem done {L R : Nat} {E : List S40} (hk : chk L R (E.map prE) = 0) (g : GOK L R E) : ∃ next m b l r K, Core L R (Adj E) next m b l r ∧ Done L R E m l r K := by
  obtain ⟨next, m, b, l, r, K, c, h1, h2, h3⟩ := core g
  have hL := g.L1
  have hR := g.R1
  have nl := c.nl
  have lm := c.hole.lm
  have lb := c.hole.lb
  have ll := c.rs.ll
  have lr := c.rs.lr
  have hc : match_Check.f L R E = some 0 := by unfold match_Check.f; rw [hk]
  have hmx : ∀ k, K ≤ k → match_Maximum.f k L R E = some (m, 0) := fun k hk => by
    unfold match_Maximum.f
    rw [hc]
    simp only [Option.bind_some, if_true]
    rw [h1 k hk]
    simp only [Option.bind_some]
    rw [h2 k hk]
    rfl
  have hsz : ∀ k, K + L + 1 ≤ k → match_Size.f k L R E = some ((msz L m : Int), 0) := fun k hk => by
    unfold match_Size.f
    rw [hmx k (by omega)]
    simp only [Option.bind_some]
    have := size_l0 0 m (by omega) m.length 0 (by omega) (by omega) k (by omega)
    rw [show m.length = L by omega] at this ⊢
    exact this
  refine ⟨next, m, b, l, r, K + L + R + 1, c, fun k hk => hmx k (by omega), fun k hk => hsz k (by omega), fun k hk => ?_, fun k hk => ?_, fun k hk => ?_⟩
  · unfold toruslaw30_size.f
    rw [given_spec _ _ g.len]
    simp only [Option.bind_some]
    rw [hsz k (by omega)]
    rfl
  · unfold match_Hall.f
    rw [hc]
    simp only [Option.bind_some, if_true]
    rw [h1 k (by omega)]
    simp only [Option.bind_some]
    unfold match_reach.f
    rw [h2 k (by omega)]
    simp only [Option.bind_some]
    rw [h3 k (by omega)]
    simp only [Option.bind_some]
    rw [chosen_spec true l (by omega) k (by omega), chosen_spec true r (by omega) k (by omega), show l.length = L by omega, lr]
    simp only [Option.bind_some, bool_beq_true]
    have eq : cnt L (fun x => rdOf false l x) = cnt L (tr l) := rfl
    by_cases h : cnt L (tr l) = 0
    · rw [if_pos h, if_pos (by rw [sel_length, eq]; omega)]
    · rw [if_neg h, if_neg (by rw [sel_length, eq]; omega)]
  · unfold match_Cover.f
    rw [hc]
    simp only [Option.bind_some, if_true]
    rw [h1 k (by omega)]
    simp only [Option.bind_some]
    unfold match_reach.f
    rw [h2 k (by omega)]
    simp only [Option.bind_some]
    rw [h3 k (by omega)]
    simp only [Option.bind_some]
    rw [chosen_spec false l (by omega) k (by omega), chosen_spec true r (by omega) k (by omega), show l.length = L by omega, lr]
    simp only [Option.bind_some, bool_beq_true, bool_beq_false]
end Go.Proofs.Ytlleokhmgblfnaa.P

set_option linter.unusedVariables false
namespace Go.Proofs.Ytlleokhmgblfnaa.P
open Go.RowKit Go.Proofs.YtlleokhmgblfnaaW.PrintWords Go.Proofs.Ytlleokhmgblfnaa.H Go.Proofs.Ytlleokhmgblfnaa.M

/-! sorted lists of edges -/
theorem chkGo_pw (L R : Int) : ∀ (E : List (Int × Int)) (p : Option (Int × Int)), chkGo L R p E = 0 → E.Pairwise lexB ∧ ∀ q, p = some q → ∀ y ∈ E, lexB q y
  | [], p, _ => ⟨List.Pairwise.nil, fun _ _ y hy => by cases hy⟩
  | x :: E, p, h => by
    unfold chkGo at h
    split at h
    · omega
    · have ih := chkGo_pw L R E (some x)
      cases p with
      | none =>
        obtain ⟨a, b⟩ := ih h
        exact ⟨List.pairwise_cons.2 ⟨b x rfl, a⟩, fun q hq => by cases hq⟩
      | some q =>
        simp only at h
        split at h
        · omega
        · rename_i h5
          split at h
          · omega
          · rename_i h6
            obtain ⟨a, b⟩ := ih h
            have hqx : lexB q x := by
              unfold lexB
              obtain ⟨q1, q2⟩ := q
              obtain ⟨x1, x2⟩ := x
              simp only [Prod.mk.injEq] at h5 h6 ⊢
              omega
            refine ⟨List.pairwise_cons.2 ⟨b x rfl, a⟩, fun q' hq y hy => ?_⟩
            cases hq
            rcases List.mem_cons.1 hy with e | hy
            · subst e; exact hqx
            · have := b x rfl y hy
              unfold lexB at *
              omega
theorem chkGo_mk (L R : Int) : ∀ (E : List (Int × Int)) (p : Option (Int × Int)), (∀ x ∈ E, 0 ≤ x.1 ∧ x.1 < L ∧ 0 ≤ x.2 ∧ x.2 < R) → E.Pairwise lexB → (∀ q, p = some q → ∀ y ∈ E, lexB q y) → chkGo L R p E = 0
  | [], p, _, _, _ => by unfold chkGo; rfl
  | x :: E, p, hr, hs, hp => by
    have hx := hr x (by simp)
    rw [List.pairwise_cons] at hs
    have ih := chkGo_mk L R E (some x) (fun y hy => hr y (by simp [hy])) hs.2 (fun q hq y hy => by cases hq; exact hs.1 y hy)
    unfold chkGo
    rw [if_neg (by omega)]
    cases p with
    | none => exact ih
    | some q =>
      have := hp q rfl x (by simp)
      unfold lexB at this
      show (if q = x then _ else _) = _
      rw [if_neg (by intro e; subst e; omega), if_neg (by omega)]
      exact ih
theorem adj_mem {E : List S40} {v w : Int} : Adj E v w ↔ (⟨v, w⟩ : S40) ∈ E := by
  constructor
  · rintro ⟨j, j0, j1, rfl, rfl⟩; exact rd_T40_mem j0 j1
  · intro h
    obtain ⟨j, j0, j1, e⟩ := mem_rd_T40 h
    exact ⟨j, j0, j1, by rw [e], by rw [e]⟩
theorem rd_mid (pre suf : List S40) (y : S40) : rd_T40 (pre ++ y :: suf) pre.length = y := by
  unfold rd_T40
  simp
structure EOK (L R : Nat) (E : List S40) : Prop where
  rng : ∀ e ∈ E, 0 ≤ e.f0 ∧ e.f0 < L ∧ 0 ≤ e.f1 ∧ e.f1 < R
  srt : E.Pairwise (fun a b => lexB (prE a) (prE b))
theorem eok_of {L R : Nat} {E : List S40} (h : chk L R (E.map prE) = 0) : EOK L R E := by
  unfold chk at h
  split at h
  · omega
  · split at h
    · omega
    · refine ⟨fun e he => chkGo_rng L R _ none h (prE e) (List.mem_map_of_mem he), ?_⟩
      have := (chkGo_pw L R _ none h).1
      rwa [List.pairwise_map] at this
theorem chk_of_eok {L R : Nat} {E : List S40} (hL : L ≤ 1024) (hR : R ≤ 1024) (hl : E.length ≤ 65536) (h : EOK L R E) : chk L R (E.map prE) = 0 := by
  unfold chk
  rw [if_neg (by omega), if_neg (by simp; omega)]
  refine chkGo_mk L R _ none (fun x hx => ?_) ?_ (fun q hq => by cases hq)
  · obtain ⟨e, he, rfl⟩ := List.mem_map.1 hx
    exact h.rng e he
  · rw [List.pairwise_map]; exact h.srt
/-- A graph and the size that is computed for it. -/
theorem sized {L R : Nat} {E : List S40} (hL : L ≤ 1024) (hR : R ≤ 1024) (hl : E.length ≤ 65536) (h : EOK L R E) : ∃ K s : Nat, (∀ k, K ≤ k → toruslaw30_size.f k L R E = some (s : Int)) ∧ IsMax L R (Adj E) s := by
  have hc := chk_of_eok hL hR hl h
  obtain ⟨L', R', e1, e2, g⟩ := chk_gok hc
  have e1 : L = L' := by omega
  have e2 : R = R' := by omega
  subst e1 e2
  obtain ⟨next, m, b, l, r, K, c, D⟩ := done hc g
  exact ⟨K, _, D.size', c.isMax⟩

end Go.Proofs.Ytlleokhmgblfnaa.P
