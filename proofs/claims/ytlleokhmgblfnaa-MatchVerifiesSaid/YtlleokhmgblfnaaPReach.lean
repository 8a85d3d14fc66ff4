/- What Reach computes: the left vertices that alternating paths lead to, and their neighbours. -/
import Derived.Test.YtlleokhmgblfnaaMx2
import Derived.Test.YtlleokhmgblfnaaMx3
import Derived.Test.YtlleokhmgblfnaaMx4
import Derived.Test.YtlleokhmgblfnaaMx5
import Derived.Test.YtlleokhmgblfnaaMx6
import Derived.Test.YtlleokhmgblfnaaMx7
import Derived.Test.YtlleokhmgblfnaaPGreat
set_option linter.unusedVariables false
namespace Go.Proofs.Ytlleokhmgblfnaa.P
open Go.RowKit Go.Proofs.YtlleokhmgblfnaaW.PrintWords Go.Proofs.Ytlleokhmgblfnaa.H Go.Proofs.Ytlleokhmgblfnaa.M

theorem w64 {x : Int} (h0 : -9223372036854775808 ≤ x) (h1 : x ≤ 9223372036854775807) : wrap64 x = x := by unfold wrap64; omega
theorem fuel {k d : Nat} (h : d < k) : ∃ k', k = k' + 1 := ⟨k - 1, by omega⟩
theorem getD_set {α : Type} (d : α) (xs : List α) (i j : Int) (y : α) (h0 : 0 ≤ i) (h1 : i < xs.length) (hj : 0 ≤ j) : (xs.set i.toNat y).getD j.toNat d = if j = i then y else xs.getD j.toNat d := by
  rw [List.getD_eq_getElem?_getD, List.getD_eq_getElem?_getD, List.getElem?_set]
  by_cases e : j = i
  · subst e
    rw [if_pos rfl, if_pos rfl, if_pos (by omega)]
    rfl
  · rw [if_neg (by omega), if_neg e]
theorem getD_rep {α : Type} (d : α) (n i : Nat) : (List.replicate n d).getD i d = d := by
  rw [List.getD_eq_getElem?_getD, List.getElem?_replicate]
  split <;> rfl

/-! neighbours -/
def Adj (E : List S40) (v w : Int) : Prop := ∃ j : Int, 0 ≤ j ∧ j < E.length ∧ (rd_T40 E j).f0 = v ∧ (rd_T40 E j).f1 = w
structure GOK (L R : Nat) (E : List S40) : Prop where
  L1 : L ≤ 1024
  R1 : R ≤ 1024
  len : E.length ≤ 65536
  rng : ∀ j : Int, 0 ≤ j → j < E.length → 0 ≤ (rd_T40 E j).f0 ∧ (rd_T40 E j).f0 < L ∧ 0 ≤ (rd_T40 E j).f1 ∧ (rd_T40 E j).f1 < R
theorem nbr_l0 {L R : Nat} {E : List S40} (g : GOK L R E) :
    ∀ (d : Nat) (i : Int) (x : List (List Int)), (E.length : Int) = i + d → 0 ≤ i → x.length = L →
      (∀ v w : Int, 0 ≤ v → v < L → (w ∈ rd_L5 x v ↔ ∃ j : Int, 0 ≤ j ∧ j < i ∧ (rd_T40 E j).f0 = v ∧ (rd_T40 E j).f1 = w)) →
      (∀ v : Int, 0 ≤ v → v < L → (rd_L5 x v).length ≤ i) →
      ∃ r, (∀ k, d < k → match_Graph_neighbours.l0 k x E E.length i = some r) ∧ r.length = L ∧ (∀ v w : Int, 0 ≤ v → v < L → (w ∈ rd_L5 r v ↔ Adj E v w)) ∧ ∀ v : Int, 0 ≤ v → v < L → (rd_L5 r v).length ≤ 1000000 := by
  have hl := g.len
  intro d
  induction d with
  | zero =>
    intro i x hd hi hx h1 h2
    refine ⟨x, fun k hk => ?_, hx, fun v w h3 h4 => ?_, fun v h3 h4 => by have := h2 v h3 h4; omega⟩
    · obtain ⟨k, rfl⟩ := fuel hk
      rw [match_Graph_neighbours.l0, if_neg (by omega)]
    · rw [h1 v w h3 h4, show i = (E.length : Int) by omega]; rfl
  | succ d ih =>
    intro i x hd hi hx h1 h2
    obtain ⟨a0, a1, a2, a3⟩ := g.rng i hi (by omega)
    obtain ⟨e, he⟩ : ∃ e, rd_T40 E i = e := ⟨_, rfl⟩
    rw [he] at a0 a1 a2 a3
    have hs : ∀ v : Int, 0 ≤ v → rd_L5 (x.set e.f0.toNat ((rd_L5 x e.f0) ++ [e.f1])) v = if v = e.f0 then (rd_L5 x e.f0) ++ [e.f1] else rd_L5 x v := fun v h => getD_set _ x e.f0 v _ a0 (by omega) h
    obtain ⟨r, hr, r1, r2⟩ := ih (i + 1) (x.set e.f0.toNat ((rd_L5 x e.f0) ++ [e.f1])) (by omega) (by omega) (by simpa using hx)
      (fun v w h3 h4 => by
        rw [hs v h3]
        by_cases ev : v = e.f0
        · subst ev
          rw [if_pos rfl, List.mem_append, h1 e.f0 w h3 h4, List.mem_singleton]
          constructor
          · rintro (⟨j, b0, b1, b2⟩ | h)
            · exact ⟨j, b0, by omega, b2⟩
            · exact ⟨i, hi, by omega, by rw [he], by rw [he, h]⟩
          · rintro ⟨j, b0, b1, b2, b3⟩
            by_cases ej : j = i
            · subst ej; rw [he] at b3; exact .inr b3.symm
            · exact .inl ⟨j, b0, by omega, b2, b3⟩
        · rw [if_neg ev, h1 v w h3 h4]
          constructor
          · rintro ⟨j, b0, b1, b2⟩; exact ⟨j, b0, by omega, b2⟩
          · rintro ⟨j, b0, b1, b2, b3⟩
            have ej : j ≠ i := fun ej => by subst ej; rw [he] at b2; exact ev b2.symm
            exact ⟨j, b0, by omega, b2, b3⟩)
      (fun v h3 h4 => by
        rw [hs v h3]
        split
        · have := h2 e.f0 a0 a1; simp; omega
        · have := h2 v h3 h4; omega)
    refine ⟨r, fun k hk => ?_, r1, r2⟩
    obtain ⟨k, rfl⟩ := fuel hk
    have := h2 e.f0 a0 a1
    rw [match_Graph_neighbours.l0, if_pos (by omega), if_pos hi, if_pos (by omega), he, if_pos a0, if_pos (by omega), if_pos (by omega), w64 (by omega) (by omega)]
    exact hr k (by omega)
theorem nbr_spec {L R : Nat} {E : List S40} (g : GOK L R E) :
    ∃ r, (∀ k, E.length < k → match_Graph_neighbours.f k L R E = some r) ∧ r.length = L ∧ (∀ v w : Int, 0 ≤ v → v < L → (w ∈ rdL r v ↔ Adj E v w)) ∧ ∀ v : Int, 0 ≤ v → v < L → (rdL r v).length ≤ 1000000 := by
  have hL := g.L1
  obtain ⟨r, hr, h⟩ := nbr_l0 g E.length 0 (List.replicate L []) (by omega) (by omega) (by simp)
    (fun v w h0 h1 => by
      unfold rd_L5
      rw [getD_rep]
      constructor
      · intro h; cases h
      · rintro ⟨j, b0, b1, _⟩; omega)
    (fun v h0 h1 => by
      unfold rd_L5
      rw [getD_rep]; simp)
  refine ⟨r, fun k hk => ?_, h⟩
  unfold match_Graph_neighbours.f
  rw [if_pos (by omega), if_pos (by omega)]
  exact hr k hk

/-! Size -/
theorem size_l0 (e : Int) (m : List Int) (hm : m.length ≤ 1000000) : ∀ (d : Nat) (i : Int), (m.length : Int) = i + d → 0 ≤ i →
    ∀ k, d < k → match_Size.l0 k e (cnt i.toNat (fun x => decide (0 ≤ rd m x)) : Nat) m m.length i = some ((msz m.length m : Int), e) := by
  intro d
  induction d with
  | zero =>
    intro i hd hi k hk
    obtain ⟨k, rfl⟩ := fuel hk
    have : i = (m.length : Int) := by omega
    subst this
    rw [match_Size.l0, if_neg (by omega)]
    rfl
  | succ d ih =>
    intro i hd hi k hk
    obtain ⟨k, rfl⟩ := fuel hk
    have ei : (i + 1).toNat = i.toNat + 1 := by omega
    have ec : ((i.toNat : Nat) : Int) = i := by omega
    have := ih (i + 1) (by omega) (by omega) k (by omega)
    rw [ei, cnt_succ, ec] at this
    have hle := cnt_le (fun x => decide (0 ≤ rd m x)) i.toNat
    rw [match_Size.l0, if_pos (by omega), if_pos hi, if_pos (by omega), w64 (x := i + 1) (by omega) (by omega)]
    by_cases h : 0 ≤ rd m i
    · rw [if_pos h, w64 (by omega) (by omega), ← this]
      simp [h]
    · rw [if_neg h, ← this]
      simp [h]

/-! Chosen -/
def sel : Nat → (Int → Bool) → List Int
  | 0, _ => []
  | n + 1, p => if p n = true then sel n p ++ [(n : Int)] else sel n p
theorem sel_length (p : Int → Bool) : ∀ n, (sel n p).length = cnt n p
  | 0 => rfl
  | n + 1 => by
    unfold sel cnt
    by_cases h : p n = true
    · rw [if_pos h, if_pos h]; simp [sel_length p n]
    · rw [if_neg h, if_neg h]; simp [sel_length p n]
theorem mem_sel (p : Int → Bool) (x : Int) : ∀ n : Nat, x ∈ sel n p ↔ 0 ≤ x ∧ x < n ∧ p x = true
  | 0 => by
    constructor
    · intro h; cases h
    · rintro ⟨a, b, _⟩; omega
  | n + 1 => by
    have ih := mem_sel p x n
    unfold sel
    by_cases e : x = n
    · subst e
      by_cases h : p n = true
      · rw [if_pos h]; simp [h]; omega
      · rw [if_neg h, ih]; simp [h]
    · by_cases h : p n = true
      · rw [if_pos h, List.mem_append, ih, List.mem_singleton]
        constructor
        · rintro (⟨a, b, c⟩ | h)
          · exact ⟨a, by omega, c⟩
          · exact absurd h e
        · rintro ⟨a, b, c⟩; exact .inl ⟨a, by omega, c⟩
      · rw [if_neg h, ih]
        constructor
        · rintro ⟨a, b, c⟩
          exact ⟨a, by omega, c⟩
        · rintro ⟨a, b, c⟩; exact ⟨a, by omega, c⟩
theorem sel_congr {p q : Int → Bool} : ∀ n : Nat, (∀ i : Int, 0 ≤ i → i < n → p i = q i) → sel n p = sel n q
  | 0, _ => rfl
  | n + 1, h => by
    unfold sel
    rw [sel_congr n (fun i h0 h1 => h i h0 (by omega)), h n (by omega) (by omega)]
theorem chosen_spec (want : Bool) (l : List Bool) (hl : l.length ≤ 1000000) : ∀ k, l.length < k → pairing_Chosen.f k l want = some (sel l.length (fun x => rdOf false l x == want)) := by
  have key : ∀ (d : Nat) (i : Int), (l.length : Int) = i + d → 0 ≤ i → ∀ k, d < k → pairing_Chosen.l0 k want (sel i.toNat (fun x => rdOf false l x == want)) l l.length i = some (sel l.length (fun x => rdOf false l x == want)) := by
    intro d
    induction d with
    | zero =>
      intro i hd hi k hk
      obtain ⟨k, rfl⟩ := fuel hk
      have : i = (l.length : Int) := by omega
      subst this
      rw [pairing_Chosen.l0, if_neg (by omega)]
      rfl
    | succ d ih =>
      intro i hd hi k hk
      obtain ⟨k, rfl⟩ := fuel hk
      have ei : (i + 1).toNat = i.toNat + 1 := by omega
      have ec : ((i.toNat : Nat) : Int) = i := by omega
      have := ih (i + 1) (by omega) (by omega) k (by omega)
      rw [ei, sel, ec] at this
      have hle := cnt_le (fun x => rdOf false l x == want) i.toNat
      rw [pairing_Chosen.l0, if_pos (by omega), if_pos hi, if_pos (by omega), w64 (x := i + 1) (by omega) (by omega)]
      by_cases h : (rdOf false l i == want) = true
      · rw [if_pos h, if_pos (by rw [sel_length]; omega), ← this, if_pos h]
      · rw [if_neg h, ← this, if_neg h]
  exact key l.length 0 (by omega) (by omega)

/-! Same, Has, Around -/
theorem same_self (a : List Int) (ha : a.length ≤ 1000000) : ∀ k, a.length < k → torusref01_Same.f k a a = some true := by
  have key : ∀ (d : Nat) (i : Int), (a.length : Int) = i + d → 0 ≤ i → ∀ k, d < k → torusref01_Same.l0 k a a i = some true := by
    intro d
    induction d with
    | zero =>
      intro i hd hi k hk
      obtain ⟨k, rfl⟩ := fuel hk
      rw [torusref01_Same.l0, if_neg (by omega)]
    | succ d ih =>
      intro i hd hi k hk
      obtain ⟨k, rfl⟩ := fuel hk
      rw [torusref01_Same.l0, if_pos (by omega), if_pos hi, if_pos (by omega), if_pos rfl, w64 (by omega) (by omega)]
      exact ih (i + 1) (by omega) (by omega) k (by omega)
  intro k hk
  unfold torusref01_Same.f
  rw [if_pos rfl]
  exact key a.length 0 (by omega) (by omega) k hk
theorem has_spec (l : List Int) (x : Int) (hl : l.length ≤ 1000000) : ∀ k, l.length < k → torusref30_Has.f k l x = some (decide (x ∈ l)) := by
  have key : ∀ (d : Nat) (i : Int), (l.length : Int) = i + d → 0 ≤ i → (∀ j : Int, 0 ≤ j → j < i → rd l j ≠ x) → ∀ k, d < k → torusref30_Has.l0 k l x i = some (decide (x ∈ l)) := by
    intro d
    induction d with
    | zero =>
      intro i hd hi hn k hk
      obtain ⟨k, rfl⟩ := fuel hk
      rw [torusref30_Has.l0, if_neg (by omega)]
      have : x ∉ l := fun h => by
        obtain ⟨j, h0, h1, h2⟩ := mem_rd h
        exact hn j h0 (by omega) h2
      simp [this]
    | succ d ih =>
      intro i hd hi hn k hk
      obtain ⟨k, rfl⟩ := fuel hk
      rw [torusref30_Has.l0, if_pos (by omega), if_pos hi]
      by_cases h : rd l i = x
      · rw [if_pos h]
        have : x ∈ l := h ▸ rd_mem hi (by omega)
        simp [this]
      · rw [if_neg h, w64 (by omega) (by omega)]
        refine ih (i + 1) (by omega) (by omega) (fun j h0 h1 => ?_) k (by omega)
        by_cases e : j = i
        · subst e; exact h
        · exact hn j h0 (by omega)
  exact key l.length 0 (by omega) (by omega) (fun j _ _ => by omega)

open Classical in
/-- The right vertex w has a neighbour in s. -/
noncomputable def nearB (E : List S40) (s : List Int) (w : Int) : Bool := decide (∃ j : Int, 0 ≤ j ∧ j < E.length ∧ (rd_T40 E j).f1 = w ∧ (rd_T40 E j).f0 ∈ s)
open Classical in
theorem around_l1 {L R : Nat} {E : List S40} (g : GOK L R E) (s : List Int) (hs : s.length ≤ 1000000) (w : Int) (hw0 : 0 ≤ w) (hw1 : w < R) (out : List Int) (ho : out.length ≤ w) (G : Nat) (r : List Int)
    (hG : ∀ k, G ≤ k → torusref30_Around.l0 k s (if nearB E s w = true then out ++ [w] else out) (w + 1) L R E = some r) :
    ∀ (d : Nat) (i : Int), (E.length : Int) = i + d → 0 ≤ i →
    ∀ k, G + s.length + d < k → torusref30_Around.l1 k s out w (decide (∃ j : Int, 0 ≤ j ∧ j < i ∧ (rd_T40 E j).f1 = w ∧ (rd_T40 E j).f0 ∈ s)) E E.length i L R E = some r := by
  have hl := g.len
  have hR := g.R1
  intro d
  induction d with
  | zero =>
    intro i hd hi k hk
    obtain ⟨k, rfl⟩ := fuel hk
    have : i = (E.length : Int) := by omega
    subst this
    have e : decide (∃ j : Int, 0 ≤ j ∧ j < E.length ∧ (rd_T40 E j).f1 = w ∧ (rd_T40 E j).f0 ∈ s) = nearB E s w := rfl
    have hk1 := hG k (by omega)
    rw [torusref30_Around.l1, if_neg (by omega), w64 (by omega) (by omega), e]
    by_cases h : nearB E s w = true
    · rw [if_pos h, if_pos (by omega)]
      rw [if_pos h] at hk1
      exact hk1
    · rw [if_neg h]
      rw [if_neg h] at hk1
      exact hk1
  | succ d ih =>
    intro i hd hi k hk
    obtain ⟨k, rfl⟩ := fuel hk
    have hk1 := ih (i + 1) (by omega) (by omega) k (by omega)
    have up : (∃ j : Int, 0 ≤ j ∧ j < i ∧ (rd_T40 E j).f1 = w ∧ (rd_T40 E j).f0 ∈ s) → (∃ j : Int, 0 ≤ j ∧ j < i + 1 ∧ (rd_T40 E j).f1 = w ∧ (rd_T40 E j).f0 ∈ s) := fun ⟨j, a, b, c⟩ => ⟨j, a, by omega, c⟩
    have dn : (∃ j : Int, 0 ≤ j ∧ j < i + 1 ∧ (rd_T40 E j).f1 = w ∧ (rd_T40 E j).f0 ∈ s) → (∃ j : Int, 0 ≤ j ∧ j < i ∧ (rd_T40 E j).f1 = w ∧ (rd_T40 E j).f0 ∈ s) ∨ ((rd_T40 E i).f1 = w ∧ (rd_T40 E i).f0 ∈ s) := fun ⟨j, a, b, c⟩ => by
      by_cases e : j = i
      · subst e; exact .inr c
      · exact .inl ⟨j, a, by omega, c⟩
    rw [torusref30_Around.l1, if_pos (by omega), if_pos hi, if_pos (by omega), w64 (by omega) (by omega)]
    by_cases h : ∃ j : Int, 0 ≤ j ∧ j < i ∧ (rd_T40 E j).f1 = w ∧ (rd_T40 E j).f0 ∈ s
    · rw [if_pos (decide_eq_true h)]
      rw [decide_eq_true (up h)] at hk1
      exact hk1
    · rw [if_neg (by simpa using h)]
      by_cases h1 : (rd_T40 E i).f1 = w
      · rw [if_pos h1, has_spec s _ hs k (by omega)]
        have : decide (∃ j : Int, 0 ≤ j ∧ j < i + 1 ∧ (rd_T40 E j).f1 = w ∧ (rd_T40 E j).f0 ∈ s) = decide ((rd_T40 E i).f0 ∈ s) := by
          refine decide_eq_decide.2 ⟨fun h2 => ?_, fun h2 => ⟨i, hi, by omega, h1, h2⟩⟩
          rcases dn h2 with h3 | h3
          · exact absurd h3 h
          · exact h3.2
        rw [this] at hk1
        exact hk1
      · rw [if_neg h1]
        have : decide (∃ j : Int, 0 ≤ j ∧ j < i + 1 ∧ (rd_T40 E j).f1 = w ∧ (rd_T40 E j).f0 ∈ s) = false := by
          refine decide_eq_false (fun h2 => ?_)
          rcases dn h2 with h3 | h3
          · exact absurd h3 h
          · exact h1 h3.1
        rw [this] at hk1
        exact hk1
theorem around_spec {L R : Nat} {E : List S40} (g : GOK L R E) (s : List Int) (hs : s.length ≤ 1000000) :
    ∃ K, ∀ k, K ≤ k → torusref30_Around.f k L R E s = some (sel R (nearB E s)) := by
  have hR := g.R1
  have key : ∀ (d : Nat) (w : Int), (R : Int) = w + d → 0 ≤ w → ∃ K, ∀ k, K ≤ k → torusref30_Around.l0 k s (sel w.toNat (nearB E s)) w L R E = some (sel R (nearB E s)) := by
    intro d
    induction d with
    | zero =>
      intro w hd hw
      refine ⟨1, fun k hk => ?_⟩
      obtain ⟨k, rfl⟩ := fuel hk
      have : w = (R : Int) := by omega
      subst this
      rw [torusref30_Around.l0, if_neg (by omega)]
      rfl
    | succ d ih =>
      intro w hd hw
      obtain ⟨K, hK⟩ := ih (w + 1) (by omega) (by omega)
      have ei : (w + 1).toNat = w.toNat + 1 := by omega
      have ec : ((w.toNat : Nat) : Int) = w := by omega
      rw [ei, sel, ec] at hK
      have hle := cnt_le (nearB E s) w.toNat
      refine ⟨K + s.length + E.length + 2, fun k hk => ?_⟩
      obtain ⟨k, rfl⟩ : ∃ k', k = k' + 1 := ⟨k - 1, by omega⟩
      rw [torusref30_Around.l0, if_pos (by omega)]
      have := around_l1 g s hs w hw (by omega) (sel w.toNat (nearB E s)) (by rw [sel_length]; omega) K _ hK E.length 0 (by omega) (by omega) k (by omega)
      have e0 : ∀ i : Decidable (∃ j : Int, 0 ≤ j ∧ j < 0 ∧ (rd_T40 E j).f1 = w ∧ (rd_T40 E j).f0 ∈ s), @decide _ i = false := fun i => decide_eq_false (by rintro ⟨j, a, b, _⟩; omega)
      rw [e0] at this
      exact this
  exact key R 0 (by omega) (by omega)
end Go.Proofs.Ytlleokhmgblfnaa.P

set_option linter.unusedVariables false
namespace Go.Proofs.Ytlleokhmgblfnaa.P
open Go.RowKit Go.Proofs.YtlleokhmgblfnaaW.PrintWords Go.Proofs.Ytlleokhmgblfnaa.H Go.Proofs.Ytlleokhmgblfnaa.M

abbrev tr (l : List Bool) (x : Int) : Bool := rdOf false l x
theorem tr_set (l : List Bool) (i j : Int) (y : Bool) (h0 : 0 ≤ i) (h1 : i < l.length) (hj : 0 ≤ j) : tr (l.set i.toNat y) j = if j = i then y else tr l j := getD_set _ _ _ _ _ h0 h1 hj
def Closed (next : List (List Int)) (m b : List Int) (P : Int → Prop) : Prop :=
  (∀ x : Int, 0 ≤ x → x < next.length → rd m x < 0 → P x) ∧ (∀ x : Int, 0 ≤ x → x < next.length → P x → ∀ w ∈ rdL next x, 0 ≤ rd b w → P (rd b w))
structure RInv (next : List (List Int)) (R : Nat) (m b : List Int) (v j : Int) (l r : List Bool) (q : List Int) : Prop where
  ll : l.length = next.length
  lr : r.length = R
  fr : ∀ x : Int, 0 ≤ x → x < next.length → rd m x < 0 → tr l x = true
  qr : ∀ x ∈ q, 0 ≤ x ∧ x < next.length ∧ tr l x = true
  cl : ∀ x : Int, 0 ≤ x → x < next.length → tr l x = true → x ∉ q → x ≠ v → ∀ w ∈ rdL next x, tr r w = true ∧ (0 ≤ rd b w → tr l (rd b w) = true)
  cv : 0 ≤ v → ∀ j' : Int, 0 ≤ j' → j' < j → j' < (rdL next v).length → tr r (rd (rdL next v) j') = true ∧ (0 ≤ rd b (rd (rdL next v) j') → tr l (rd b (rd (rdL next v) j')) = true)
  ri : ∀ w : Int, 0 ≤ w → w < R → tr r w = true → ∃ x : Int, 0 ≤ x ∧ x < next.length ∧ tr l x = true ∧ w ∈ rdL next x
  le : ∀ P : Int → Prop, Closed next m b P → ∀ x : Int, 0 ≤ x → x < next.length → tr l x = true → P x
def un (n : Nat) (l : List Bool) : Nat := cnt n (fun x => !tr l x)

theorem reach_l2 {next : List (List Int)} {R : Nat} (hn : next.length ≤ 1000000) (hNV : NV next R) {m b : List Int} (hg : Hole next R m b (-1)) (v : Int) (hv0 : 0 ≤ v) (hv1 : v < next.length) (hlen : (rdL next v).length ≤ 1000000000000) :
    ∀ (e : Nat) (j : Int) (l r : List Bool) (q : List Int), (rdL next v).length = j + e → 0 ≤ j → RInv next R m b v j l r q → tr l v = true → q.length + un next.length l ≤ next.length →
      ∃ l' r' q', (∀ G s, (∀ k, G ≤ k → pairing_Reach.l1 k next b l' r' q' = some s) → ∀ k, G + e < k → pairing_Reach.l2 k next b l r q (rdL next v) (rdL next v).length j = some s) ∧ RInv next R m b (-1) 0 l' r' q' ∧ q'.length + un next.length l' = q.length + un next.length l := by
  have hlb := hg.lb
  intro e
  induction e with
  | zero =>
    intro j l r q he hj hI hlv hq
    refine ⟨l, r, q, fun G s hG k hk => ?_, ⟨hI.ll, hI.lr, hI.fr, hI.qr, fun x h0 h1 h2 h3 _ w hw => ?_, fun h => by omega, hI.ri, hI.le⟩, rfl⟩
    · obtain ⟨k, rfl⟩ : ∃ k', k = k' + 1 := ⟨k - 1, by omega⟩
      rw [pairing_Reach.l2, if_neg (by omega)]
      exact hG k (by omega)
    · by_cases ex : x = v
      · subst ex
        obtain ⟨i, i0, i1, rfl⟩ := mem_rd hw
        exact hI.cv h0 i i0 (by omega) i1
      · exact hI.cl x h0 h1 h2 h3 ex w hw
  | succ e ih =>
    intro j l r q he hj hI hlv hq
    have hlr := hI.lr
    have hll := hI.ll
    obtain ⟨x, hx⟩ : ∃ x, rd (rdL next v) j = x := ⟨_, rfl⟩
    have hxm : x ∈ rdL next v := hx ▸ rd_mem hj (by omega)
    obtain ⟨hx0, hx1⟩ := hNV v hv0 hv1 x hxm
    obtain ⟨u, hu⟩ : ∃ u, rd b x = u := ⟨_, rfl⟩
    have hrs : ∀ y : Int, 0 ≤ y → tr (r.set x.toNat true) y = if y = x then true else tr r y := fun y h => tr_set r x y true hx0 (by omega) h
    have hru : ∀ y : Int, 0 ≤ y → tr r y = true → tr (r.set x.toNat true) y = true := fun y h h1 => by rw [hrs y h]; split <;> simp [*]
    have hnn : ∀ y : Int, 0 ≤ y → y < next.length → ∀ w ∈ rdL next y, 0 ≤ w := fun y h0 h1 w hw => (hNV y h0 h1 w hw).1
    have step : ∀ l1 q1, RInv next R m b v (j + 1) l1 (r.set x.toNat true) q1 → tr l1 v = true → q1.length + un next.length l1 = q.length + un next.length l →
        (∀ k s, pairing_Reach.l2 k next b l1 (r.set x.toNat true) q1 (rdL next v) (rdL next v).length (wrap64 (j + 1)) = some s → pairing_Reach.l2 (k + 1) next b l r q (rdL next v) (rdL next v).length j = some s) →
        ∃ l' r' q', (∀ G s, (∀ k, G ≤ k → pairing_Reach.l1 k next b l' r' q' = some s) → ∀ k, G + (e + 1) < k → pairing_Reach.l2 k next b l r q (rdL next v) (rdL next v).length j = some s) ∧ RInv next R m b (-1) 0 l' r' q' ∧ q'.length + un next.length l' = q.length + un next.length l := by
      intro l1 q1 hI1 hv hq1 hstep
      obtain ⟨l', r', q', h1, h2, h3⟩ := ih (j + 1) l1 (r.set x.toNat true) q1 (by omega) (by omega) hI1 hv (by omega)
      refine ⟨l', r', q', fun G s hG k hk => ?_, h2, by omega⟩
      obtain ⟨k, rfl⟩ : ∃ k', k = k' + 1 := ⟨k - 1, by omega⟩
      refine hstep k s ?_
      rw [w64 (by omega) (by omega)]
      exact h1 G s hG k (by omega)
    by_cases hu0 : 0 ≤ u
    · obtain ⟨hun, hum⟩ := hg.bb x hx0 hx1 (by omega) (by omega)
      rw [hu] at hun hum
      by_cases hlu : tr l u = true
      · refine step l q ⟨hll, by simpa using hlr, hI.fr, hI.qr, fun y h0 h1 h2 h3 h4 w hw => ?_, fun _ j' h0 h1 h2 => ?_, fun w h0 h1 h2 => ?_, hI.le⟩ hlv rfl (fun k s hk => ?_)
        · obtain ⟨c1, c2⟩ := hI.cl y h0 h1 h2 h3 h4 w hw
          exact ⟨hru w (hnn y h0 h1 w hw) c1, c2⟩
        · by_cases ej : j' = j
          · subst ej
            rw [hx, hu]
            exact ⟨by rw [hrs x hx0, if_pos rfl], fun _ => hlu⟩
          · obtain ⟨c1, c2⟩ := hI.cv hv0 j' h0 (by omega) h2
            exact ⟨hru _ (hnn v hv0 hv1 _ (rd_mem h0 h2)) c1, c2⟩
        · by_cases ew : w = x
          · subst ew; exact ⟨v, hv0, hv1, hlv, hxm⟩
          · rw [hrs w h0, if_neg ew] at h2; exact hI.ri w h0 h1 h2
        · rw [pairing_Reach.l2, if_pos (by omega), if_pos hj, if_pos (by omega), hx, if_pos hx0, if_pos (by omega)]
          simp only [Option.bind_some]
          rw [if_pos (by omega), hu, if_pos hu0, if_pos hu0, if_pos (by omega), if_pos hlu]
          exact hk
      · have hls : ∀ y : Int, 0 ≤ y → tr (l.set u.toNat true) y = if y = u then true else tr l y := fun y h => tr_set l u y true hu0 (by omega) h
        have hlup : ∀ y : Int, 0 ≤ y → tr l y = true → tr (l.set u.toNat true) y = true := fun y h h1 => by rw [hls y h]; split <;> simp [*]
        have huv : u ≠ v := fun e => hlu (e ▸ hlv)
        have hlu' : tr l u = false := by simpa using hlu
        have hun2 : un next.length l = un next.length (l.set u.toNat true) + 1 := by
          unfold un
          rw [cnt_out (fun x => !tr l x) u next.length hu0 hun (by simp [hlu'])]
          congr 1
          refine cnt_congr _ (fun y h0 h1 => ?_)
          rw [hls y h0]
          by_cases ey : y = u
          · subst ey; simp
          · rw [if_neg ey]; simp [ey]
        have hql : q.length < next.length := by omega
        refine step (l.set u.toNat true) (q ++ [u]) ⟨by simpa using hll, by simpa using hlr, fun y h0 h1 h2 => hlup y h0 (hI.fr y h0 h1 h2), fun y hy => ?_, fun y h0 h1 h2 h3 h4 w hw => ?_, fun _ j' h0 h1 h2 => ?_, fun w h0 h1 h2 => ?_, fun P hP y h0 h1 h2 => ?_⟩ (hlup v hv0 hlv) (by simp; omega) (fun k s hk => ?_)
        · rcases List.mem_append.1 hy with hy | hy
          · obtain ⟨a1, a2, a3⟩ := hI.qr y hy; exact ⟨a1, a2, hlup y a1 a3⟩
          · rw [List.mem_singleton.1 hy]; exact ⟨hu0, hun, by rw [hls u hu0, if_pos rfl]⟩
        · have ey : y ≠ u := fun e => h3 (by rw [e]; simp)
          rw [hls y h0, if_neg ey] at h2
          obtain ⟨c1, c2⟩ := hI.cl y h0 h1 h2 (fun h => h3 (List.mem_append_left _ h)) h4 w hw
          exact ⟨hru w (hnn y h0 h1 w hw) c1, fun h => hlup _ h (c2 h)⟩
        · by_cases ej : j' = j
          · subst ej
            rw [hx, hu]
            exact ⟨by rw [hrs x hx0, if_pos rfl], fun _ => by rw [hls u hu0, if_pos rfl]⟩
          · obtain ⟨c1, c2⟩ := hI.cv hv0 j' h0 (by omega) h2
            exact ⟨hru _ (hnn v hv0 hv1 _ (rd_mem h0 h2)) c1, fun h => hlup _ h (c2 h)⟩
        · by_cases ew : w = x
          · subst ew; exact ⟨v, hv0, hv1, hlup v hv0 hlv, hxm⟩
          · rw [hrs w h0, if_neg ew] at h2
            obtain ⟨y, y0, y1, y2, y3⟩ := hI.ri w h0 h1 h2
            exact ⟨y, y0, y1, hlup y y0 y2, y3⟩
        · by_cases ey : y = u
          · subst ey
            have := hP.2 v hv0 hv1 (hI.le P hP v hv0 hv1 hlv) x hxm (by omega)
            rwa [hu] at this
          · rw [hls y h0, if_neg ey] at h2; exact hI.le P hP y h0 h1 h2
        · rw [pairing_Reach.l2, if_pos (by omega), if_pos hj, if_pos (by omega), hx, if_pos hx0, if_pos (by omega)]
          simp only [Option.bind_some]
          rw [if_pos (by omega), hu, if_pos hu0, if_pos hu0, if_pos (by omega), if_neg hlu, if_pos (by omega)]
          exact hk
    · refine step l q ⟨hll, by simpa using hlr, hI.fr, hI.qr, fun y h0 h1 h2 h3 h4 w hw => ?_, fun _ j' h0 h1 h2 => ?_, fun w h0 h1 h2 => ?_, hI.le⟩ hlv rfl (fun k s hk => ?_)
      · obtain ⟨c1, c2⟩ := hI.cl y h0 h1 h2 h3 h4 w hw
        exact ⟨hru w (hnn y h0 h1 w hw) c1, c2⟩
      · by_cases ej : j' = j
        · subst ej
          rw [hx, hu]
          exact ⟨by rw [hrs x hx0, if_pos rfl], fun h => absurd h hu0⟩
        · obtain ⟨c1, c2⟩ := hI.cv hv0 j' h0 (by omega) h2
          exact ⟨hru _ (hnn v hv0 hv1 _ (rd_mem h0 h2)) c1, c2⟩
      · by_cases ew : w = x
        · subst ew; exact ⟨v, hv0, hv1, hlv, hxm⟩
        · rw [hrs w h0, if_neg ew] at h2; exact hI.ri w h0 h1 h2
      · rw [pairing_Reach.l2, if_pos (by omega), if_pos hj, if_pos (by omega), hx, if_pos hx0, if_pos (by omega)]
        simp only [Option.bind_some]
        rw [if_pos (by omega), hu, if_neg hu0]
        exact hk

theorem reach_l1 {next : List (List Int)} {R : Nat} (hn : next.length ≤ 1000000) (hNV : NV next R) (hlen : ∀ v : Int, 0 ≤ v → v < next.length → (rdL next v).length ≤ 1000000000000) {m b : List Int} (hg : Hole next R m b (-1)) :
    ∀ (d : Nat) (l r : List Bool) (q : List Int), q.length + un next.length l ≤ d → d ≤ next.length → RInv next R m b (-1) 0 l r q →
      ∃ K l' r', (∀ k, K ≤ k → pairing_Reach.l1 k next b l r q = some (l', r')) ∧ RInv next R m b (-1) 0 l' r' [] := by
  intro d
  induction d with
  | zero =>
    intro l r q hd hdn hI
    have : q = [] := List.length_eq_zero_iff.1 (by omega)
    subst this
    refine ⟨1, l, r, fun k hk => ?_, hI⟩
    obtain ⟨k, rfl⟩ : ∃ k', k = k' + 1 := ⟨k - 1, by omega⟩
    rfl
  | succ d ih =>
    intro l r q hd hdn hI
    cases q with
    | nil =>
      refine ⟨1, l, r, fun k hk => ?_, hI⟩
      obtain ⟨k, rfl⟩ : ∃ k', k = k' + 1 := ⟨k - 1, by omega⟩
      rfl
    | cons v q =>
      obtain ⟨hv0, hv1, hlv⟩ := hI.qr v (by simp)
      simp only [List.length_cons] at hd
      obtain ⟨l1, r1, q1, h1, hI1, he⟩ := reach_l2 hn hNV hg v hv0 hv1 (hlen v hv0 hv1) (rdL next v).length 0 l r q (by omega) (by omega)
        ⟨hI.ll, hI.lr, hI.fr, fun x hx => hI.qr x (by simp [hx]), fun x h0 h1 h2 h3 h4 w hw => hI.cl x h0 h1 h2 (by simp [h3, h4]) (by omega) w hw, fun _ j' h0 h1 => by omega, hI.ri, hI.le⟩ hlv (by omega)
      obtain ⟨K, l2, r2, hK, hI2⟩ := ih l1 r1 q1 (by omega) (by omega) hI1
      refine ⟨K + (rdL next v).length + 2, l2, r2, fun k hk => ?_, hI2⟩
      obtain ⟨k, rfl⟩ : ∃ k', k = k' + 1 := ⟨k - 1, by omega⟩
      have := h1 K _ hK k (by omega)
      have er : rd (v :: q) 0 = v := rfl
      rw [pairing_Reach.l1, if_pos (by simp), if_pos (by simp), if_pos (by simp; omega), er, if_pos hv0, if_pos hv1]
      exact this

/-- What Reach returns. -/
structure RS (next : List (List Int)) (R : Nat) (m b : List Int) (l r : List Bool) : Prop where
  ll : l.length = next.length
  lr : r.length = R
  fr : ∀ x : Int, 0 ≤ x → x < next.length → rd m x < 0 → tr l x = true
  cl : ∀ x : Int, 0 ≤ x → x < next.length → tr l x = true → ∀ w ∈ rdL next x, tr r w = true ∧ (0 ≤ rd b w → tr l (rd b w) = true)
  ri : ∀ w : Int, 0 ≤ w → w < R → tr r w = true → ∃ x : Int, 0 ≤ x ∧ x < next.length ∧ tr l x = true ∧ w ∈ rdL next x
  le : ∀ P : Int → Prop, Closed next m b P → ∀ x : Int, 0 ≤ x → x < next.length → tr l x = true → P x
theorem reach_l0 {next : List (List Int)} {R : Nat} (hn : next.length ≤ 1000000) (hNV : NV next R) (hlen : ∀ v : Int, 0 ≤ v → v < next.length → (rdL next v).length ≤ 1000000000000) {m b : List Int} (hg : Hole next R m b (-1)) (r : List Bool) (hr : r.length = R) (hr0 : ∀ x, tr r x = false) :
    ∀ (d : Nat) (i : Int) (l : List Bool) (q : List Int), (next.length : Int) = i + d → 0 ≤ i → l.length = next.length →
      (∀ x : Int, 0 ≤ x → x < next.length → tr l x = (decide (x < i) && decide (rd m x < 0))) → (∀ x ∈ q, 0 ≤ x ∧ x < i ∧ rd m x < 0) → (∀ x : Int, 0 ≤ x → x < i → rd m x < 0 → x ∈ q) → q.length + un next.length l = next.length →
      ∃ K l' r', (∀ k, K ≤ k → pairing_Reach.l0 k next m b l r q next.length i = some (l', r')) ∧ RS next R m b l' r' := by
  have hlm := hg.lm
  intro d
  induction d with
  | zero =>
    intro i l q hd hi hl h1 h2 h3 h4
    have e : i = next.length := by omega
    subst e
    obtain ⟨K, l', r', hK, hI⟩ := reach_l1 hn hNV hlen hg next.length l r q (by omega) (Nat.le_refl _)
      ⟨hl, hr, fun x a c d => by rw [h1 x a c]; simp [c, d], fun x hx => by obtain ⟨a, c, d⟩ := h2 x hx; exact ⟨a, c, by rw [h1 x a c]; simp [c, d]⟩, fun x a c d e => by
        rw [h1 x a c] at d; simp at d; exact absurd (h3 x a c d.2) e, fun h => by omega, fun w _ _ h => by rw [hr0] at h; (cases h), fun P hP x a c d => by
        rw [h1 x a c] at d; simp at d; exact hP.1 x a c d.2⟩
    refine ⟨K + 1, l', r', fun k hk => ?_, ⟨hI.ll, hI.lr, hI.fr, fun x a c d => hI.cl x a c d (by simp) (by omega), hI.ri, hI.le⟩⟩
    obtain ⟨k, rfl⟩ : ∃ k', k = k' + 1 := ⟨k - 1, by omega⟩
    rw [pairing_Reach.l0, if_neg (by omega)]
    exact hK k (by omega)
  | succ d ih =>
    intro i l q hd hi hl h1 h2 h3 h4
    by_cases hneg : rd m i < 0
    · have hls : ∀ y : Int, 0 ≤ y → tr (l.set i.toNat true) y = if y = i then true else tr l y := fun y h => tr_set l i y true hi (by omega) h
      have hli : tr l i = false := by rw [h1 i hi (by omega)]; simp
      have hun2 : un next.length l = un next.length (l.set i.toNat true) + 1 := by
        unfold un
        rw [cnt_out (fun x => !tr l x) i next.length hi (by omega) (by simp [hli])]
        congr 1
        refine cnt_congr _ (fun y h0 h1 => ?_)
        rw [hls y h0]
        by_cases ey : y = i
        · subst ey; simp
        · rw [if_neg ey]; simp [ey]
      obtain ⟨K, l', r', hK, hS⟩ := ih (i + 1) (l.set i.toNat true) (q ++ [i]) (by omega) (by omega) (by simpa using hl)
        (fun x a c => by
          rw [hls x a]
          by_cases ex : x = i
          · subst ex; simp [hneg]; omega
          · rw [if_neg ex, h1 x a c]
            have : (x < i + 1) = (x < i) := by apply propext; omega
            simp [this])
        (fun x hx => by
          rcases List.mem_append.1 hx with hx | hx
          · have := h2 x hx; exact ⟨this.1, by omega, this.2.2⟩
          · rw [List.mem_singleton.1 hx]; exact ⟨hi, by omega, hneg⟩)
        (fun x a c d => by
          by_cases ex : x = i
          · subst ex; simp
          · exact List.mem_append_left _ (h3 x a (by omega) d))
        (by simp; omega)
      refine ⟨K + 1, l', r', fun k hk => ?_, hS⟩
      obtain ⟨k, rfl⟩ : ∃ k', k = k' + 1 := ⟨k - 1, by omega⟩
      rw [pairing_Reach.l0, if_pos (by omega), if_pos hi, if_pos (by omega), if_pos hneg, if_pos (by omega), if_pos (by omega), w64 (by omega) (by omega)]
      exact hK k (by omega)
    · obtain ⟨K, l', r', hK, hS⟩ := ih (i + 1) l q (by omega) (by omega) hl
        (fun x a c => by
          rw [h1 x a c]
          by_cases ex : x = i
          · subst ex; simp [hneg]
          · have : (x < i + 1) = (x < i) := by apply propext; omega
            simp [this])
        (fun x hx => by have := h2 x hx; exact ⟨this.1, by omega, this.2.2⟩)
        (fun x a c d => by
          by_cases ex : x = i
          · subst ex; exact absurd d hneg
          · exact h3 x a (by omega) d) h4
      refine ⟨K + 1, l', r', fun k hk => ?_, hS⟩
      obtain ⟨k, rfl⟩ : ∃ k', k = k' + 1 := ⟨k - 1, by omega⟩
      rw [pairing_Reach.l0, if_pos (by omega), if_pos hi, if_pos (by omega), if_neg hneg, w64 (by omega) (by omega)]
      exact hK k (by omega)
theorem tr_rep (n : Nat) (x : Int) : tr (List.replicate n false) x = false := getD_rep _ _ _
theorem reach_spec {next : List (List Int)} {R : Nat} (hn : next.length ≤ 1000000) (hR : R ≤ 1000000) (hNV : NV next R) (hlen : ∀ v : Int, 0 ≤ v → v < next.length → (rdL next v).length ≤ 1000000000000) {m b : List Int} (hg : Hole next R m b (-1)) :
    ∃ K l r, (∀ k, K ≤ k → pairing_Reach.f k next m b = some (l, r)) ∧ RS next R m b l r := by
  obtain ⟨K, l, r, hK, hS⟩ := reach_l0 hn hNV hlen hg (List.replicate R false) (by simp) (fun x => tr_rep _ _) next.length 0 (List.replicate next.length false) [] (by omega) (by omega) (by simp)
    (fun x a c => by rw [tr_rep]; have : ¬ x < 0 := by omega
                     simp [this]) (fun x hx => by cases hx) (fun x a c => by omega) (by unfold un; rw [cnt_all _ (fun i _ _ => by rw [tr_rep]; rfl)]; simp)
  refine ⟨K, l, r, fun k hk => ?_, hS⟩
  have hlb := hg.lb
  unfold pairing_Reach.f
  rw [if_pos (by omega), if_pos (by omega), if_pos (by omega), if_pos (by omega), hlb]
  exact hK k hk
end Go.Proofs.Ytlleokhmgblfnaa.P
