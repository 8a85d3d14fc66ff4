/- One edge more: the greatest matching grows as the law MatchEdges says. -/
import Derived.Test.YtlleokhmgblfnaaPFit
import Derived.Test.YtlleokhmgblfnaaMx10
set_option linter.unusedVariables false
namespace Go.Proofs.Ytlleokhmgblfnaa.P
open Go.RowKit Go.Proofs.YtlleokhmgblfnaaW.PrintWords Go.Proofs.Ytlleokhmgblfnaa.H Go.Proofs.Ytlleokhmgblfnaa.M

/-! sorted lists of edges -/
theorem chkGo_pw (L R : Int) : ∀ (E : List (Int × Int)) (p : Option (Int × Int)), chkGo L R p E = 0 → E.Pairwise lexB ∧ ∀ q, p = some q → ∀ y ∈ E, lexB q y
  | [], p, _ => ⟨List.Pairwise.nil, fun _ _ y hy => by cases hy⟩
  | x :: E, p, h => by
    unfold chkGo at h
    split at h
    · omega
    · have ih := chkGo_pw L R E (some x)
      cases p with
      | none =>
        obtain ⟨a, b⟩ := ih h
        exact ⟨List.pairwise_cons.2 ⟨b x rfl, a⟩, fun q hq => by cases hq⟩
      | some q =>
        simp only at h
        split at h
        · omega
        · rename_i h5
          split at h
          · omega
          · rename_i h6
            obtain ⟨a, b⟩ := ih h
            have hqx : lexB q x := by
              unfold lexB
              obtain ⟨q1, q2⟩ := q
              obtain ⟨x1, x2⟩ := x
              simp only [Prod.mk.injEq] at h5 h6 ⊢
              omega
            refine ⟨List.pairwise_cons.2 ⟨b x rfl, a⟩, fun q' hq y hy => ?_⟩
            cases hq
            rcases List.mem_cons.1 hy with e | hy
            · subst e; exact hqx
            · have := b x rfl y hy
              unfold lexB at *
              omega
theorem chkGo_mk (L R : Int) : ∀ (E : List (Int × Int)) (p : Option (Int × Int)), (∀ x ∈ E, 0 ≤ x.1 ∧ x.1 < L ∧ 0 ≤ x.2 ∧ x.2 < R) → E.Pairwise lexB → (∀ q, p = some q → ∀ y ∈ E, lexB q y) → chkGo L R p E = 0
  | [], p, _, _, _ => by unfold chkGo; rfl
  | x :: E, p, hr, hs, hp => by
    have hx := hr x (by simp)
    rw [List.pairwise_cons] at hs
    have ih := chkGo_mk L R E (some x) (fun y hy => hr y (by simp [hy])) hs.2 (fun q hq y hy => by cases hq; exact hs.1 y hy)
    unfold chkGo
    rw [if_neg (by omega)]
    cases p with
    | none => exact ih
    | some q =>
      have := hp q rfl x (by simp)
      unfold lexB at this
      show (if q = x then _ else _) = _
      rw [if_neg (by intro e; subst e; omega), if_neg (by omega)]
      exact ih
theorem adj_mem {E : List S40} {v w : Int} : Adj E v w ↔ (⟨v, w⟩ : S40) ∈ E := by
  constructor
  · rintro ⟨j, j0, j1, rfl, rfl⟩; exact rd_T40_mem j0 j1
  · intro h
    obtain ⟨j, j0, j1, e⟩ := mem_rd_T40 h
    exact ⟨j, j0, j1, by rw [e], by rw [e]⟩
structure EOK (L R : Nat) (E : List S40) : Prop where
  rng : ∀ e ∈ E, 0 ≤ e.f0 ∧ e.f0 < L ∧ 0 ≤ e.f1 ∧ e.f1 < R
  srt : E.Pairwise (fun a b => lexB (prE a) (prE b))
theorem eok_of {L R : Nat} {E : List S40} (h : chk L R (E.map prE) = 0) : EOK L R E := by
  unfold chk at h
  split at h
  · omega
  · split at h
    · omega
    · refine ⟨fun e he => chkGo_rng L R _ none h (prE e) (List.mem_map_of_mem he), ?_⟩
      have := (chkGo_pw L R _ none h).1
      rwa [List.pairwise_map] at this
theorem chk_of_eok {L R : Nat} {E : List S40} (hL : L ≤ 1024) (hR : R ≤ 1024) (hl : E.length ≤ 65536) (h : EOK L R E) : chk L R (E.map prE) = 0 := by
  unfold chk
  rw [if_neg (by omega), if_neg (by simp; omega)]
  refine chkGo_mk L R _ none (fun x hx => ?_) ?_ (fun q hq => by cases hq)
  · obtain ⟨e, he, rfl⟩ := List.mem_map.1 hx
    exact h.rng e he
  · rw [List.pairwise_map]; exact h.srt
/-- A graph and the size that is computed for it. -/
theorem sized {L R : Nat} {E : List S40} (hL : L ≤ 1024) (hR : R ≤ 1024) (hl : E.length ≤ 65536) (h : EOK L R E) : ∃ K s : Nat, (∀ k, K ≤ k → toruslaw30_size.f k L R E = some (s : Int)) ∧ IsMax L R (Adj E) s := by
  have hc := chk_of_eok hL hR hl h
  obtain ⟨L', R', e1, e2, g⟩ := chk_gok hc
  have e1 : L = L' := by omega
  have e2 : R = R' := by omega
  subst e1 e2
  obtain ⟨next, m, b, l, r, K, c, D⟩ := done hc g
  exact ⟨K, _, D.size', c.isMax⟩

/-! Without -/
theorem rd_mid (pre suf : List S40) (y : S40) : rd_T40 (pre ++ y :: suf) pre.length = y := by
  unfold rd_T40
  simp
def keepE (v w : Int) (e : S40) : Bool := !(e.f0 == v) && !(e.f1 == w)
theorem without_spec (L R v w : Int) (E : List S40) (hl : E.length ≤ 65536) : ∀ k, E.length < k → torusref30_Without.f k L R E v w = some (L, R, E.filter (keepE v w)) := by
  have key : ∀ (suf pre out : List S40), E = pre ++ suf → out.length ≤ pre.length → ∀ k, suf.length < k → torusref30_Without.l0 k v w E E.length pre.length L R out = some (L, R, out ++ suf.filter (keepE v w)) := by
    intro suf
    induction suf with
    | nil =>
      intro pre out hE ho k hk
      obtain ⟨k, rfl⟩ := fuel hk
      rw [torusref30_Without.l0, if_neg (by rw [hE]; simp)]
      simp
    | cons y suf ih =>
      intro pre out hE ho k hk
      obtain ⟨k, rfl⟩ := fuel hk
      have hlen : E.length = pre.length + (suf.length + 1) := by rw [hE]; simp
      have hy : rd_T40 E pre.length = y := by rw [hE]; exact rd_mid _ _ _
      have e1 : wrap64 ((pre.length : Int) + 1) = (pre ++ [y]).length := by rw [w64 (by omega) (by omega)]; simp
      obtain ⟨y0, y1⟩ := y
      have ih' := fun out ho => ih (pre ++ [⟨y0, y1⟩]) out (by rw [hE]; simp) ho k (by simp at hk; omega)
      rw [torusref30_Without.l0, if_pos (by omega), if_pos (by omega), if_pos (by omega), hy, e1]
      by_cases h1 : y0 = v
      · rw [if_pos h1, ih' out (by simp; omega)]
        simp [keepE, h1]
      · by_cases h2 : y1 = w
        · rw [if_neg h1, if_pos h2, ih' out (by simp; omega)]
          simp [keepE, h2]
        · rw [if_neg h1, if_neg h2, if_pos (by omega), ih' _ (by simp; omega)]
          rw [List.filter_cons, if_pos (by simp [keepE, h1, h2])]
          simp
  intro k hk
  exact key E [] [] rfl (by simp) k hk
theorem eok_filter {L R : Nat} {E : List S40} (p : S40 → Bool) (h : EOK L R E) : EOK L R (E.filter p) :=
  ⟨fun e he => h.rng e (List.mem_filter.1 he).1, h.srt.filter p⟩

/-! an edge put in -/
open Classical in
noncomputable def ins (x : S40) : List S40 → List S40
  | [] => [x]
  | y :: ys => if lexB (prE y) (prE x) then y :: ins x ys else if y = x then y :: ys else x :: y :: ys
theorem lex_tri {x y : S40} (h1 : ¬ lexB (prE y) (prE x)) (h2 : y ≠ x) : lexB (prE x) (prE y) := by
  obtain ⟨a, b⟩ := x
  obtain ⟨c, d⟩ := y
  unfold lexB prE at *
  simp only at *
  by_cases e : c = a
  · by_cases e2 : d = b
    · subst e e2; exact absurd rfl h2
    · omega
  · omega
theorem lex_trans {x y z : S40} (h1 : lexB (prE x) (prE y)) (h2 : lexB (prE y) (prE z)) : lexB (prE x) (prE z) := by
  unfold lexB at *
  omega
theorem lex_irr {x : S40} (h : lexB (prE x) (prE x)) : False := by
  unfold lexB at h
  omega
theorem mem_ins (x e : S40) : ∀ E : List S40, e ∈ ins x E ↔ e = x ∨ e ∈ E
  | [] => by simp [ins]
  | y :: ys => by
    have ih := mem_ins x e ys
    unfold ins
    split
    · rw [List.mem_cons, ih, List.mem_cons]
      constructor
      · rintro (h | h | h)
        · exact .inr (.inl h)
        · exact .inl h
        · exact .inr (.inr h)
      · rintro (h | h | h)
        · exact .inr (.inl h)
        · exact .inl h
        · exact .inr (.inr h)
    · split
      · rename_i h; subst h; simp
      · simp
theorem ins_srt (x : S40) : ∀ E : List S40, E.Pairwise (fun a b => lexB (prE a) (prE b)) → (ins x E).Pairwise (fun a b => lexB (prE a) (prE b))
  | [], _ => by simp [ins]
  | y :: ys, h => by
    rw [List.pairwise_cons] at h
    unfold ins
    split
    · rename_i h1
      refine List.pairwise_cons.2 ⟨fun e he => ?_, ins_srt x ys h.2⟩
      rcases (mem_ins x e ys).1 he with e1 | he
      · subst e1; exact h1
      · exact h.1 e he
    · rename_i h1
      split
      · exact List.pairwise_cons.2 h
      · rename_i h2
        have h3 := lex_tri h1 h2
        refine List.pairwise_cons.2 ⟨fun e he => ?_, List.pairwise_cons.2 h⟩
        rcases List.mem_cons.1 he with e1 | he
        · subst e1; exact h3
        · exact lex_trans h3 (h.1 e he)
theorem ins_len (x : S40) : ∀ E : List S40, E.Pairwise (fun a b => lexB (prE a) (prE b)) → ((x ∈ E ∧ (ins x E).length = E.length) ∨ (x ∉ E ∧ (ins x E).length = E.length + 1))
  | [], _ => .inr (by simp [ins])
  | y :: ys, h => by
    rw [List.pairwise_cons] at h
    unfold ins
    split
    · rename_i h1
      have ne : x ≠ y := fun e => by subst e; exact lex_irr h1
      rcases ins_len x ys h.2 with ⟨a, b⟩ | ⟨a, b⟩
      · exact .inl ⟨by simp [a], by simp [b]⟩
      · exact .inr ⟨by simp [a, ne], by simp [b]⟩
    · rename_i h1
      split
      · rename_i h2; subst h2; exact .inl (by simp)
      · rename_i h2
        have h3 := lex_tri h1 h2
        refine .inr ⟨fun hx => ?_, by simp⟩
        rcases List.mem_cons.1 hx with e | hx
        · exact h2 e.symm
        · exact lex_irr (lex_trans h3 (h.1 x hx))

/-! the law's loop -/
section
variable (L R x0 x1 : Int) (E : List S40) (hl : E.length ≤ 65536)
include hl
theorem edges_done (G : Nat) (s : Bool) : ∀ (suf pre mr : List S40), E = pre ++ suf → mr.length ≤ pre.length + 1 →
    (∀ k, G ≤ k → toruslaw30_MatchEdges.j3 k L R E x0 x1 L R (mr ++ suf) = some s) → ∀ k, G + 2 * suf.length < k → toruslaw30_MatchEdges.l0 k true E E.length pre.length L R E x0 x1 L R mr = some s := by
  intro suf
  induction suf with
  | nil =>
    intro pre mr hE ho hG k hk
    obtain ⟨k, rfl⟩ : ∃ k', k = k' + 1 := ⟨k - 1, by omega⟩
    rw [toruslaw30_MatchEdges.l0, if_neg (by rw [hE]; simp), if_pos rfl]
    have := hG k (by simp at hk; omega)
    simpa using this
  | cons y suf ih =>
    intro pre mr hE ho hG k hk
    simp only [List.length_cons] at hk
    obtain ⟨k, rfl⟩ : ∃ k', k = k' + 2 := ⟨k - 2, by omega⟩
    have hlen : E.length = pre.length + (suf.length + 1) := by rw [hE]; simp
    have hy : rd_T40 E pre.length = y := by rw [hE]; exact rd_mid _ _ _
    have e1 : wrap64 ((pre.length : Int) + 1) = (pre ++ [y]).length := by rw [w64 (by omega) (by omega)]; simp
    rw [toruslaw30_MatchEdges.l0, if_pos (by omega), if_pos (by omega), if_pos (by omega), if_pos rfl, hy]
    rw [toruslaw30_MatchEdges.j2, if_neg (by simp), if_pos (by omega), e1]
    refine ih (pre ++ [y]) (mr ++ [⟨y.f0, y.f1⟩]) (by rw [hE]; simp) (by simp; omega) (fun k hk => ?_) k (by omega)
    have := hG k hk
    simpa using this
theorem edges_todo (G : Nat) (s : Bool) : ∀ (suf pre : List S40), E = pre ++ suf →
    (∀ k, G ≤ k → toruslaw30_MatchEdges.j3 k L R E x0 x1 L R (pre ++ ins ⟨x0, x1⟩ suf) = some s) → ∀ k, G + 2 * suf.length + 1 < k → toruslaw30_MatchEdges.l0 k false E E.length pre.length L R E x0 x1 L R pre = some s := by
  intro suf
  induction suf with
  | nil =>
    intro pre hE hG k hk
    obtain ⟨k, rfl⟩ : ∃ k', k = k' + 1 := ⟨k - 1, by omega⟩
    have : E.length = pre.length := by rw [hE]; simp
    rw [toruslaw30_MatchEdges.l0, if_neg (by rw [hE]; simp), if_neg (by simp), if_pos (by omega)]
    exact hG k (by simp at hk; omega)
  | cons y suf ih =>
    intro pre hE hG k hk
    simp only [List.length_cons] at hk
    obtain ⟨k, rfl⟩ : ∃ k', k = k' + 2 := ⟨k - 2, by omega⟩
    have hlen : E.length = pre.length + (suf.length + 1) := by rw [hE]; simp
    have hy : rd_T40 E pre.length = y := by rw [hE]; exact rd_mid _ _ _
    have e1 : wrap64 ((pre.length : Int) + 1) = (pre ++ [y]).length := by rw [w64 (by omega) (by omega)]; simp
    have hE' : E = (pre ++ [y]) ++ suf := by rw [hE]; simp
    obtain ⟨y0, y1⟩ := y
    rw [toruslaw30_MatchEdges.l0, if_pos (by omega), if_pos (by omega), if_pos (by omega), if_neg (by simp), hy]
    have lo : lexB (prE ⟨y0, y1⟩) (prE ⟨x0, x1⟩) → toruslaw30_MatchEdges.j2 (k + 1) false E E.length pre.length false L R E x0 x1 L R pre y0 y1 = some s := fun h => by
      rw [toruslaw30_MatchEdges.j2, if_neg (by simp), if_pos (by omega), e1]
      refine ih (pre ++ [⟨y0, y1⟩]) hE' (fun k hk => ?_) k (by omega)
      have := hG k hk
      unfold ins at this
      rw [if_pos h] at this
      simpa using this
    have hi : ¬ lexB (prE ⟨y0, y1⟩) (prE ⟨x0, x1⟩) → toruslaw30_MatchEdges.j2 (k + 1) false E E.length pre.length true L R E x0 x1 L R pre y0 y1 = some s := fun h => by
      rw [toruslaw30_MatchEdges.j2, if_pos rfl]
      by_cases e : y0 = x0 ∧ y1 = x1
      · obtain ⟨rfl, rfl⟩ := e
        rw [if_neg (by simp), if_pos (by omega), e1]
        refine edges_done L R y0 y1 E hl G s suf (pre ++ [⟨y0, y1⟩]) (pre ++ [⟨y0, y1⟩]) hE' (by omega) (fun k hk => ?_) k (by omega)
        have := hG k hk
        unfold ins at this
        rw [if_neg h, if_pos rfl] at this
        simpa using this
      · rw [if_pos (by simp; omega), if_pos (by omega)]
        simp only [Option.bind_some]
        rw [if_pos (by simp; omega), e1]
        refine edges_done L R x0 x1 E hl G s suf (pre ++ [⟨y0, y1⟩]) (pre ++ [⟨x0, x1⟩] ++ [⟨y0, y1⟩]) hE' (by simp) (fun k hk => ?_) k (by omega)
        have := hG k hk
        unfold ins at this
        rw [if_neg h, if_neg (by simp only [S40.mk.injEq]; exact e)] at this
        simpa using this
    by_cases h1 : y0 > x0
    · rw [if_pos h1]
      exact hi (by unfold lexB prE; simp only; omega)
    · rw [if_neg h1]
      by_cases h2 : y0 = x0
      · rw [if_pos h2]
        by_cases h3 : y1 ≥ x1
        · rw [decide_eq_true h3]
          exact hi (by unfold lexB prE; simp only; omega)
        · rw [decide_eq_false h3]
          exact lo (by unfold lexB prE; simp only; omega)
      · rw [if_neg h2]
        exact lo (by unfold lexB prE; simp only; omega)
end

theorem edges_todo0 (L R x0 x1 : Int) (E : List S40) (hl : E.length ≤ 65536) (G : Nat) (s : Bool) (hG : ∀ k, G ≤ k → toruslaw30_MatchEdges.j3 k L R E x0 x1 L R (ins ⟨x0, x1⟩ E) = some s) :
    ∀ k, G + 2 * E.length + 1 < k → toruslaw30_MatchEdges.l0 k false E E.length 0 L R E x0 x1 L R [] = some s := by
  intro k hk
  have := edges_todo L R x0 x1 E hl G s E [] rfl (by simpa using hG) k hk
  simpa using this
/-! the greatest matching of a graph with an edge more -/
theorem add_edge {n R : Nat} {A : Int → Int → Prop} {x y : Int} {s t : Nat} (hx0 : 0 ≤ x) (hx1 : x < n) (hy0 : 0 ≤ y) (hy1 : y < R) (h : IsMax n R A s) (k : IsMax n R (fun v w => A v w ∧ v ≠ x ∧ w ≠ y) t) :
    t ≤ s ∧ IsMax n R (fun v w => A v w ∨ (v = x ∧ w = y)) (max s (t + 1)) := by
  have hts : t ≤ s := by
    obtain ⟨M, hM, e⟩ := k.some
    rw [← e]
    exact h.all M ⟨hM.lt, fun v a b c => (hM.adj v a b c).1, hM.inj⟩
  refine ⟨hts, ?_, fun M hM => ?_⟩
  · by_cases hc : s < t + 1
    · rw [Nat.max_eq_right (by omega)]
      obtain ⟨M, hM, e⟩ := k.some
      have hMx : ¬ 0 ≤ M x := fun hh => (hM.adj x hx0 hx1 hh).2.1 rfl
      refine ⟨fun v => if v = x then y else M v, ⟨fun v a b c => ?_, fun v a b c => ?_, fun v v' a b a' b' c e => ?_⟩, ?_⟩
      · by_cases ev : v = x
        · simp only [if_pos ev] at c ⊢; exact hy1
        · simp only [if_neg ev] at c ⊢; exact hM.lt v a b c
      · by_cases ev : v = x
        · simp only [if_pos ev]; exact .inr ⟨ev, trivial⟩
        · simp only [if_neg ev] at c ⊢; exact .inl (hM.adj v a b c).1
      · by_cases ev : v = x
        · by_cases ev' : v' = x
          · rw [ev, ev']
          · simp only [if_pos ev, if_neg ev'] at e
            exact absurd e.symm (hM.adj v' a' b' (by omega)).2.2
        · by_cases ev' : v' = x
          · simp only [if_neg ev, if_pos ev'] at e c
            exact absurd e (hM.adj v a b (by omega)).2.2
          · simp only [if_neg ev, if_neg ev'] at e c
            exact hM.inj v v' a b a' b' c e
      · rw [← e]
        unfold msize
        rw [← cnt_put (has M) x n hx0 hx1 (by simp [has]; omega)]
        refine cnt_congr n (fun i _ _ => ?_)
        unfold has
        by_cases ev : i = x
        · simp [ev, hy0]
        · simp [ev]
    · rw [Nat.max_eq_left (by omega)]
      obtain ⟨M, hM, e⟩ := h.some
      exact ⟨M, ⟨hM.lt, fun v a b c => .inl (hM.adj v a b c), hM.inj⟩, e⟩
  · by_cases hc : M x = y
    · have e1 : msize n M = msize n (fun v => if v = x then -1 else M v) + 1 := by
        unfold msize
        rw [cnt_out (has M) x n hx0 hx1 (by simp [has]; omega)]
        congr 1
        refine cnt_congr n (fun i _ _ => ?_)
        unfold has
        by_cases ev : i = x
        · simp [ev]
        · simp [ev]
      have := k.all (fun v => if v = x then -1 else M v) (by
        refine ⟨fun v a b c => ?_, fun v a b c => ?_, fun v v' a b a' b' c e => ?_⟩
        · by_cases ev : v = x
          · simp only [if_pos ev] at c; omega
          · simp only [if_neg ev] at c ⊢; exact hM.lt v a b c
        · by_cases ev : v = x
          · simp only [if_pos ev] at c; omega
          · simp only [if_neg ev] at c ⊢
            refine ⟨?_, ev, fun e => ?_⟩
            · rcases hM.adj v a b c with h1 | h1
              · exact h1
              · exact absurd h1.1 ev
            · exact ev (hM.inj v x a b hx0 hx1 c (e.trans hc.symm))
        · by_cases ev : v = x
          · simp only [if_pos ev] at c; omega
          · by_cases ev' : v' = x
            · simp only [if_neg ev, if_pos ev'] at c e; omega
            · simp only [if_neg ev, if_neg ev'] at c e
              exact hM.inj v v' a b a' b' c e)
      omega
    · have := h.all M ⟨hM.lt, fun v a b c => (hM.adj v a b c).resolve_right (fun h1 => hc (by rw [← h1.1]; exact h1.2)), hM.inj⟩
      omega
theorem IsMax.congr {n R : Nat} {A B : Int → Int → Prop} {s : Nat} (h : IsMax n R A s) (e : ∀ v w, A v w ↔ B v w) : IsMax n R B s := by
  have : A = B := by funext v w; exact propext (e v w)
  rwa [← this]

theorem awake_f : toruslaw30_awake.f = some true := rfl
theorem edges_j4a (k : Nat) (s u : Nat) (L R : Int) (M : List S40) (hs : s ≤ 1024) (hu : u = s + 1) (h : toruslaw30_size.f k L R M = some (u : Int)) : toruslaw30_MatchEdges.j4 (k + 1) s true L R M = some true := by
  have e : wrap64 ((s : Int) + 1) = (u : Int) := by rw [w64 (by omega) (by omega)]; omega
  rw [toruslaw30_MatchEdges.j4, if_pos rfl, h, e]
  simp only [Option.bind_some]
  rw [if_pos trivial, awake_f]
  rfl
theorem edges_j4b (k : Nat) (s : Nat) (L R : Int) (M : List S40) (h : toruslaw30_size.f k L R M = some (s : Int)) : toruslaw30_MatchEdges.j4 (k + 1) s false L R M = some true := by
  rw [toruslaw30_MatchEdges.j4, if_neg (by simp), h]
  simp only [Option.bind_some]
  rw [if_pos trivial, awake_f]
  rfl
theorem edges_j3 {L R : Nat} {E : List S40} {v w : Int} (hL : L ≤ 12) (hR : R ≤ 12) (hl : E.length ≤ 144) (hE : EOK L R E) (v0 : 0 ≤ v) (v1 : v < L) (w0 : 0 ≤ w) (w1 : w < R) :
    ∃ G, ∀ k, G ≤ k → toruslaw30_MatchEdges.j3 k L R E v w L R (ins ⟨v, w⟩ E) = some true := by
  obtain ⟨K2, s, hs, hsm⟩ := sized (by omega) (by omega) (by omega) hE
  have hEw := eok_filter (keepE v w) hE
  have hlw : (E.filter (keepE v w)).length ≤ E.length := List.length_filter_le _ _
  obtain ⟨K3, t, ht, htm⟩ := sized (by omega) (by omega) (by omega) hEw
  have hEi : EOK L R (ins ⟨v, w⟩ E) := by
    refine ⟨fun e he => ?_, ins_srt _ _ hE.srt⟩
    rcases (mem_ins _ _ _).1 he with rfl | he
    · exact ⟨v0, v1, w0, w1⟩
    · exact hE.rng e he
  have hil := ins_len ⟨v, w⟩ E hE.srt
  obtain ⟨K4, u, hu, hum⟩ := sized (by omega) (by omega) (by omega) hEi
  have htm' : IsMax L R (fun v' w' => Adj E v' w' ∧ v' ≠ v ∧ w' ≠ w) t := htm.congr (fun v' w' => by
    rw [adj_mem, adj_mem, List.mem_filter]
    simp [keepE])
  obtain ⟨hts, hmx⟩ := add_edge v0 v1 w0 w1 hsm htm'
  have hum' : IsMax L R (fun v' w' => Adj E v' w' ∨ (v' = v ∧ w' = w)) u := hum.congr (fun v' w' => by
    rw [adj_mem, adj_mem, mem_ins, S40.mk.injEq]
    exact Or.comm)
  have hu2 := hum'.eq hmx
  have hsL : s ≤ L := by
    obtain ⟨M, _, e⟩ := hsm.some
    rw [← e]; exact cnt_le _ _
  refine ⟨K2 + K3 + K4 + E.length + 3, fun k hk => ?_⟩
  obtain ⟨k, rfl⟩ : ∃ k', k = k' + 2 := ⟨k - 2, by omega⟩
  rw [toruslaw30_MatchEdges.j3, hs _ (by omega)]
  simp only [Option.bind_some]
  rcases hil with ⟨hin, hil⟩ | ⟨hin, hil⟩
  · rw [if_neg (by omega)]
    refine edges_j4b k s _ _ _ ?_
    have : u = s := by
      refine IsMax.eq hum' (hsm.congr (fun v' w' => ?_))
      constructor
      · exact .inl
      · rintro (h | ⟨rfl, rfl⟩)
        · exact h
        · exact adj_mem.2 hin
    rw [← this]
    exact hu k (by omega)
  · rw [if_pos (by omega), without_spec _ _ _ _ _ (by omega) _ (by omega)]
    simp only [Option.bind_some]
    rw [ht _ (by omega)]
    simp only [Option.bind_some]
    by_cases hst : t = s
    · have e : ((t : Int) == (s : Int)) = true := by simp [hst]
      rw [e]
      exact edges_j4a k s u _ _ _ (by omega) (by omega) (hu k (by omega))
    · have e : ((t : Int) == (s : Int)) = false := by simp; omega
      rw [e]
      refine edges_j4b k s _ _ _ ?_
      rw [show s = u by omega]
      exact hu k (by omega)
theorem edges_j0 (L R : Nat) (E : List S40) (x y : Int) (hL0 : L ≠ 0) (hR0 : R ≠ 0) (hL : L ≤ 12) (hR : R ≤ 12) (hx : 0 ≤ x) (hx' : x ≤ 255) (hy : 0 ≤ y) (hy' : y ≤ 255) (hl : E.length ≤ 144) (hE : EOK L R E) :
    ∃ G, ∀ k, G ≤ k → toruslaw30_MatchEdges.j0 k x y false L R E = some true := by
  obtain ⟨v, hv⟩ : ∃ v, Int.tmod x L = v := ⟨_, rfl⟩
  obtain ⟨w, hw⟩ : ∃ w, Int.tmod y R = w := ⟨_, rfl⟩
  have v0 : 0 ≤ v := by rw [← hv]; exact Int.tmod_nonneg _ hx
  have v1 : v < L := by rw [← hv]; exact Int.tmod_lt_of_pos _ (by omega)
  have w0 : 0 ≤ w := by rw [← hw]; exact Int.tmod_nonneg _ hy
  have w1 : w < R := by rw [← hw]; exact Int.tmod_lt_of_pos _ (by omega)
  obtain ⟨G, hG⟩ := edges_j3 hL hR hl hE v0 v1 w0 w1
  refine ⟨G + 2 * E.length + 3, fun k hk => ?_⟩
  obtain ⟨k, rfl⟩ : ∃ k', k = k' + 1 := ⟨k - 1, by omega⟩
  have := edges_todo0 L R v w E (by omega) G true hG k (by omega)
  rw [toruslaw30_MatchEdges.j0, if_neg (by simp), if_neg (by omega), if_neg (by omega), w64 (by omega) (by omega), w64 (by omega) (by omega), hv, hw]
  exact this
theorem edges_j0t (k : Nat) (x y L R : Int) (E : List S40) : toruslaw30_MatchEdges.j0 (k + 1) x y true L R E = some true := by
  rw [toruslaw30_MatchEdges.j0, if_pos rfl, awake_f]
  rfl
theorem edges_true (a0 a1 : Int) (bits : List Int) (x y : Int) (ha0 : 0 ≤ a0) (ha0' : a0 ≤ 255) (ha1 : 0 ≤ a1) (ha1' : a1 ≤ 255) (hx : 0 ≤ x) (hx' : x ≤ 255) (hy : 0 ≤ y) (hy' : y ≤ 255) : ∃ k, toruslaw30_MatchEdges.f k a0 a1 bits x y = some true := by
  obtain ⟨K1, L, R, E, hf, hL, hR, hc, g, hlen12⟩ := fit_spec a0 a1 bits ha0 ha0' ha1 ha1'
  by_cases hL0 : L = 0
  · refine ⟨K1 + 1, ?_⟩
    unfold toruslaw30_MatchEdges.f
    rw [hf _ (by omega)]
    simp only [Option.bind_some]
    rw [if_pos (by omega)]
    exact edges_j0t _ _ _ _ _ _
  by_cases hR0 : R = 0
  · refine ⟨K1 + 1, ?_⟩
    unfold toruslaw30_MatchEdges.f
    rw [hf _ (by omega)]
    simp only [Option.bind_some]
    have e : ((R : Int) == 0) = true := by simp [hR0]
    rw [if_neg (by omega), e]
    exact edges_j0t _ _ _ _ _ _
  obtain ⟨G, hG⟩ := edges_j0 L R E x y hL0 hR0 hL hR hx hx' hy hy' hlen12 (eok_of hc)
  refine ⟨K1 + G, ?_⟩
  unfold toruslaw30_MatchEdges.f
  rw [hf _ (by omega)]
  simp only [Option.bind_some]
  have e : ((R : Int) == 0) = false := by simp [hR0]
  rw [if_neg (by omega), e]
  exact hG _ (by omega)
end Go.Proofs.Ytlleokhmgblfnaa.P
