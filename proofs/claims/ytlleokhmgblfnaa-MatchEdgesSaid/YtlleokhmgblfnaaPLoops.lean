/- What the printed functions of match and pairing compute. -/
import Derived.Test.YtlleokhmgblfnaaMx2
import Derived.Test.YtlleokhmgblfnaaMx3
import Derived.Test.YtlleokhmgblfnaaMx4
import Derived.Test.YtlleokhmgblfnaaMx5
import Derived.Test.YtlleokhmgblfnaaMx6
import Derived.Test.YtlleokhmgblfnaaMx7
import Derived.Test.YtlleokhmgblfnaaPGreat
set_option linter.unusedVariables false
namespace Go.Proofs.Ytlleokhmgblfnaa.P
open Go.RowKit Go.Proofs.YtlleokhmgblfnaaW.PrintWords Go.Proofs.Ytlleokhmgblfnaa.H Go.Proofs.Ytlleokhmgblfnaa.M

theorem w64 {x : Int} (h0 : -9223372036854775808 ≤ x) (h1 : x ≤ 9223372036854775807) : wrap64 x = x := by unfold wrap64; omega
theorem fuel {k d : Nat} (h : d < k) : ∃ k', k = k' + 1 := ⟨k - 1, by omega⟩
theorem getD_set {α : Type} (d : α) (xs : List α) (i j : Int) (y : α) (h0 : 0 ≤ i) (h1 : i < xs.length) (hj : 0 ≤ j) : (xs.set i.toNat y).getD j.toNat d = if j = i then y else xs.getD j.toNat d := by
  rw [List.getD_eq_getElem?_getD, List.getD_eq_getElem?_getD, List.getElem?_set]
  by_cases e : j = i
  · subst e
    rw [if_pos rfl, if_pos rfl, if_pos (by omega)]
    rfl
  · rw [if_neg (by omega), if_neg e]
theorem getD_rep {α : Type} (d : α) (n i : Nat) : (List.replicate n d).getD i d = d := by
  rw [List.getD_eq_getElem?_getD, List.getElem?_replicate]
  split <;> rfl

/-! neighbours -/
def Adj (E : List S40) (v w : Int) : Prop := ∃ j : Int, 0 ≤ j ∧ j < E.length ∧ (rd_T40 E j).f0 = v ∧ (rd_T40 E j).f1 = w
structure GOK (L R : Nat) (E : List S40) : Prop where
  L1 : L ≤ 1024
  R1 : R ≤ 1024
  len : E.length ≤ 65536
  rng : ∀ j : Int, 0 ≤ j → j < E.length → 0 ≤ (rd_T40 E j).f0 ∧ (rd_T40 E j).f0 < L ∧ 0 ≤ (rd_T40 E j).f1 ∧ (rd_T40 E j).f1 < R
theorem nbr_l0 {L R : Nat} {E : List S40} (g : GOK L R E) :
    ∀ (d : Nat) (i : Int) (x : List (List Int)), (E.length : Int) = i + d → 0 ≤ i → x.length = L →
      (∀ v w : Int, 0 ≤ v → v < L → (w ∈ rd_L5 x v ↔ ∃ j : Int, 0 ≤ j ∧ j < i ∧ (rd_T40 E j).f0 = v ∧ (rd_T40 E j).f1 = w)) →
      (∀ v : Int, 0 ≤ v → v < L → (rd_L5 x v).length ≤ i) →
      ∃ r, (∀ k, d < k → match_Graph_neighbours.l0 k x E E.length i = some r) ∧ r.length = L ∧ (∀ v w : Int, 0 ≤ v → v < L → (w ∈ rd_L5 r v ↔ Adj E v w)) ∧ ∀ v : Int, 0 ≤ v → v < L → (rd_L5 r v).length ≤ 1000000 := by
  have hl := g.len
  intro d
  induction d with
  | zero =>
    intro i x hd hi hx h1 h2
    refine ⟨x, fun k hk => ?_, hx, fun v w h3 h4 => ?_, fun v h3 h4 => by have := h2 v h3 h4; omega⟩
    · obtain ⟨k, rfl⟩ := fuel hk
      rw [match_Graph_neighbours.l0, if_neg (by omega)]
    · rw [h1 v w h3 h4, show i = (E.length : Int) by omega]; rfl
  | succ d ih =>
    intro i x hd hi hx h1 h2
    obtain ⟨a0, a1, a2, a3⟩ := g.rng i hi (by omega)
    obtain ⟨e, he⟩ : ∃ e, rd_T40 E i = e := ⟨_, rfl⟩
    rw [he] at a0 a1 a2 a3
    have hs : ∀ v : Int, 0 ≤ v → rd_L5 (x.set e.f0.toNat ((rd_L5 x e.f0) ++ [e.f1])) v = if v = e.f0 then (rd_L5 x e.f0) ++ [e.f1] else rd_L5 x v := fun v h => getD_set _ x e.f0 v _ a0 (by omega) h
    obtain ⟨r, hr, r1, r2⟩ := ih (i + 1) (x.set e.f0.toNat ((rd_L5 x e.f0) ++ [e.f1])) (by omega) (by omega) (by simpa using hx)
      (fun v w h3 h4 => by
        rw [hs v h3]
        by_cases ev : v = e.f0
        · subst ev
          rw [if_pos rfl, List.mem_append, h1 e.f0 w h3 h4, List.mem_singleton]
          constructor
          · rintro (⟨j, b0, b1, b2⟩ | h)
            · exact ⟨j, b0, by omega, b2⟩
            · exact ⟨i, hi, by omega, by rw [he], by rw [he, h]⟩
          · rintro ⟨j, b0, b1, b2, b3⟩
            by_cases ej : j = i
            · subst ej; rw [he] at b3; exact .inr b3.symm
            · exact .inl ⟨j, b0, by omega, b2, b3⟩
        · rw [if_neg ev, h1 v w h3 h4]
          constructor
          · rintro ⟨j, b0, b1, b2⟩; exact ⟨j, b0, by omega, b2⟩
          · rintro ⟨j, b0, b1, b2, b3⟩
            have ej : j ≠ i := fun ej => by subst ej; rw [he] at b2; exact ev b2.symm
            exact ⟨j, b0, by omega, b2, b3⟩)
      (fun v h3 h4 => by
        rw [hs v h3]
        split
        · have := h2 e.f0 a0 a1; simp; omega
        · have := h2 v h3 h4; omega)
    refine ⟨r, fun k hk => ?_, r1, r2⟩
    obtain ⟨k, rfl⟩ := fuel hk
    have := h2 e.f0 a0 a1
    rw [match_Graph_neighbours.l0, if_pos (by omega), if_pos hi, if_pos (by omega), he, if_pos a0, if_pos (by omega), if_pos (by omega), w64 (by omega) (by omega)]
    exact hr k (by omega)
theorem nbr_spec {L R : Nat} {E : List S40} (g : GOK L R E) :
    ∃ r, (∀ k, E.length < k → match_Graph_neighbours.f k L R E = some r) ∧ r.length = L ∧ (∀ v w : Int, 0 ≤ v → v < L → (w ∈ rdL r v ↔ Adj E v w)) ∧ ∀ v : Int, 0 ≤ v → v < L → (rdL r v).length ≤ 1000000 := by
  have hL := g.L1
  obtain ⟨r, hr, h⟩ := nbr_l0 g E.length 0 (List.replicate L []) (by omega) (by omega) (by simp)
    (fun v w h0 h1 => by
      unfold rd_L5
      rw [getD_rep]
      constructor
      · intro h; cases h
      · rintro ⟨j, b0, b1, _⟩; omega)
    (fun v h0 h1 => by
      unfold rd_L5
      rw [getD_rep]; simp)
  refine ⟨r, fun k hk => ?_, h⟩
  unfold match_Graph_neighbours.f
  rw [if_pos (by omega), if_pos (by omega)]
  exact hr k hk

/-! Size -/
theorem size_l0 (e : Int) (m : List Int) (hm : m.length ≤ 1000000) : ∀ (d : Nat) (i : Int), (m.length : Int) = i + d → 0 ≤ i →
    ∀ k, d < k → match_Size.l0 k e (cnt i.toNat (fun x => decide (0 ≤ rd m x)) : Nat) m m.length i = some ((msz m.length m : Int), e) := by
  intro d
  induction d with
  | zero =>
    intro i hd hi k hk
    obtain ⟨k, rfl⟩ := fuel hk
    have : i = (m.length : Int) := by omega
    subst this
    rw [match_Size.l0, if_neg (by omega)]
    rfl
  | succ d ih =>
    intro i hd hi k hk
    obtain ⟨k, rfl⟩ := fuel hk
    have ei : (i + 1).toNat = i.toNat + 1 := by omega
    have ec : ((i.toNat : Nat) : Int) = i := by omega
    have := ih (i + 1) (by omega) (by omega) k (by omega)
    rw [ei, cnt_succ, ec] at this
    have hle := cnt_le (fun x => decide (0 ≤ rd m x)) i.toNat
    rw [match_Size.l0, if_pos (by omega), if_pos hi, if_pos (by omega), w64 (x := i + 1) (by omega) (by omega)]
    by_cases h : 0 ≤ rd m i
    · rw [if_pos h, w64 (by omega) (by omega), ← this]
      simp [h]
    · rw [if_neg h, ← this]
      simp [h]

/-! Chosen -/
def sel : Nat → (Int → Bool) → List Int
  | 0, _ => []
  | n + 1, p => if p n = true then sel n p ++ [(n : Int)] else sel n p
theorem sel_length (p : Int → Bool) : ∀ n, (sel n p).length = cnt n p
  | 0 => rfl
  | n + 1 => by
    unfold sel cnt
    by_cases h : p n = true
    · rw [if_pos h, if_pos h]; simp [sel_length p n]
    · rw [if_neg h, if_neg h]; simp [sel_length p n]
theorem mem_sel (p : Int → Bool) (x : Int) : ∀ n : Nat, x ∈ sel n p ↔ 0 ≤ x ∧ x < n ∧ p x = true
  | 0 => by
    constructor
    · intro h; cases h
    · rintro ⟨a, b, _⟩; omega
  | n + 1 => by
    have ih := mem_sel p x n
    unfold sel
    by_cases e : x = n
    · subst e
      by_cases h : p n = true
      · rw [if_pos h]; simp [h]; omega
      · rw [if_neg h, ih]; simp [h]
    · by_cases h : p n = true
      · rw [if_pos h, List.mem_append, ih, List.mem_singleton]
        constructor
        · rintro (⟨a, b, c⟩ | h)
          · exact ⟨a, by omega, c⟩
          · exact absurd h e
        · rintro ⟨a, b, c⟩; exact .inl ⟨a, by omega, c⟩
      · rw [if_neg h, ih]
        constructor
        · rintro ⟨a, b, c⟩
          exact ⟨a, by omega, c⟩
        · rintro ⟨a, b, c⟩; exact ⟨a, by omega, c⟩
theorem sel_congr {p q : Int → Bool} : ∀ n : Nat, (∀ i : Int, 0 ≤ i → i < n → p i = q i) → sel n p = sel n q
  | 0, _ => rfl
  | n + 1, h => by
    unfold sel
    rw [sel_congr n (fun i h0 h1 => h i h0 (by omega)), h n (by omega) (by omega)]
theorem chosen_spec (want : Bool) (l : List Bool) (hl : l.length ≤ 1000000) : ∀ k, l.length < k → pairing_Chosen.f k l want = some (sel l.length (fun x => rdOf false l x == want)) := by
  have key : ∀ (d : Nat) (i : Int), (l.length : Int) = i + d → 0 ≤ i → ∀ k, d < k → pairing_Chosen.l0 k want (sel i.toNat (fun x => rdOf false l x == want)) l l.length i = some (sel l.length (fun x => rdOf false l x == want)) := by
    intro d
    induction d with
    | zero =>
      intro i hd hi k hk
      obtain ⟨k, rfl⟩ := fuel hk
      have : i = (l.length : Int) := by omega
      subst this
      rw [pairing_Chosen.l0, if_neg (by omega)]
      rfl
    | succ d ih =>
      intro i hd hi k hk
      obtain ⟨k, rfl⟩ := fuel hk
      have ei : (i + 1).toNat = i.toNat + 1 := by omega
      have ec : ((i.toNat : Nat) : Int) = i := by omega
      have := ih (i + 1) (by omega) (by omega) k (by omega)
      rw [ei, sel, ec] at this
      have hle := cnt_le (fun x => rdOf false l x == want) i.toNat
      rw [pairing_Chosen.l0, if_pos (by omega), if_pos hi, if_pos (by omega), w64 (x := i + 1) (by omega) (by omega)]
      by_cases h : (rdOf false l i == want) = true
      · rw [if_pos h, if_pos (by rw [sel_length]; omega), ← this, if_pos h]
      · rw [if_neg h, ← this, if_neg h]
  exact key l.length 0 (by omega) (by omega)

/-! Same, Has, Around -/
theorem same_self (a : List Int) (ha : a.length ≤ 1000000) : ∀ k, a.length < k → torusref01_Same.f k a a = some true := by
  have key : ∀ (d : Nat) (i : Int), (a.length : Int) = i + d → 0 ≤ i → ∀ k, d < k → torusref01_Same.l0 k a a i = some true := by
    intro d
    induction d with
    | zero =>
      intro i hd hi k hk
      obtain ⟨k, rfl⟩ := fuel hk
      rw [torusref01_Same.l0, if_neg (by omega)]
    | succ d ih =>
      intro i hd hi k hk
      obtain ⟨k, rfl⟩ := fuel hk
      rw [torusref01_Same.l0, if_pos (by omega), if_pos hi, if_pos (by omega), if_pos rfl, w64 (by omega) (by omega)]
      exact ih (i + 1) (by omega) (by omega) k (by omega)
  intro k hk
  unfold torusref01_Same.f
  rw [if_pos rfl]
  exact key a.length 0 (by omega) (by omega) k hk
theorem has_spec (l : List Int) (x : Int) (hl : l.length ≤ 1000000) : ∀ k, l.length < k → torusref30_Has.f k l x = some (decide (x ∈ l)) := by
  have key : ∀ (d : Nat) (i : Int), (l.length : Int) = i + d → 0 ≤ i → (∀ j : Int, 0 ≤ j → j < i → rd l j ≠ x) → ∀ k, d < k → torusref30_Has.l0 k l x i = some (decide (x ∈ l)) := by
    intro d
    induction d with
    | zero =>
      intro i hd hi hn k hk
      obtain ⟨k, rfl⟩ := fuel hk
      rw [torusref30_Has.l0, if_neg (by omega)]
      have : x ∉ l := fun h => by
        obtain ⟨j, h0, h1, h2⟩ := mem_rd h
        exact hn j h0 (by omega) h2
      simp [this]
    | succ d ih =>
      intro i hd hi hn k hk
      obtain ⟨k, rfl⟩ := fuel hk
      rw [torusref30_Has.l0, if_pos (by omega), if_pos hi]
      by_cases h : rd l i = x
      · rw [if_pos h]
        have : x ∈ l := h ▸ rd_mem hi (by omega)
        simp [this]
      · rw [if_neg h, w64 (by omega) (by omega)]
        refine ih (i + 1) (by omega) (by omega) (fun j h0 h1 => ?_) k (by omega)
        by_cases e : j = i
        · subst e; exact h
        · exact hn j h0 (by omega)
  exact key l.length 0 (by omega) (by omega) (fun j _ _ => by omega)

open Classical in
/-- The right vertex w has a neighbour in s. -/
noncomputable def nearB (E : List S40) (s : List Int) (w : Int) : Bool := decide (∃ j : Int, 0 ≤ j ∧ j < E.length ∧ (rd_T40 E j).f1 = w ∧ (rd_T40 E j).f0 ∈ s)
open Classical in
theorem around_l1 {L R : Nat} {E : List S40} (g : GOK L R E) (s : List Int) (hs : s.length ≤ 1000000) (w : Int) (hw0 : 0 ≤ w) (hw1 : w < R) (out : List Int) (ho : out.length ≤ w) (G : Nat) (r : List Int)
    (hG : ∀ k, G ≤ k → torusref30_Around.l0 k s (if nearB E s w = true then out ++ [w] else out) (w + 1) L R E = some r) :
    ∀ (d : Nat) (i : Int), (E.length : Int) = i + d → 0 ≤ i →
    ∀ k, G + s.length + d < k → torusref30_Around.l1 k s out w (decide (∃ j : Int, 0 ≤ j ∧ j < i ∧ (rd_T40 E j).f1 = w ∧ (rd_T40 E j).f0 ∈ s)) E E.length i L R E = some r := by
  have hl := g.len
  have hR := g.R1
  intro d
  induction d with
  | zero =>
    intro i hd hi k hk
    obtain ⟨k, rfl⟩ := fuel hk
    have : i = (E.length : Int) := by omega
    subst this
    have e : decide (∃ j : Int, 0 ≤ j ∧ j < E.length ∧ (rd_T40 E j).f1 = w ∧ (rd_T40 E j).f0 ∈ s) = nearB E s w := rfl
    have hk1 := hG k (by omega)
    rw [torusref30_Around.l1, if_neg (by omega), w64 (by omega) (by omega), e]
    by_cases h : nearB E s w = true
    · rw [if_pos h, if_pos (by omega)]
      rw [if_pos h] at hk1
      exact hk1
    · rw [if_neg h]
      rw [if_neg h] at hk1
      exact hk1
  | succ d ih =>
    intro i hd hi k hk
    obtain ⟨k, rfl⟩ := fuel hk
    have hk1 := ih (i + 1) (by omega) (by omega) k (by omega)
    have up : (∃ j : Int, 0 ≤ j ∧ j < i ∧ (rd_T40 E j).f1 = w ∧ (rd_T40 E j).f0 ∈ s) → (∃ j : Int, 0 ≤ j ∧ j < i + 1 ∧ (rd_T40 E j).f1 = w ∧ (rd_T40 E j).f0 ∈ s) := fun ⟨j, a, b, c⟩ => ⟨j, a, by omega, c⟩
    have dn : (∃ j : Int, 0 ≤ j ∧ j < i + 1 ∧ (rd_T40 E j).f1 = w ∧ (rd_T40 E j).f0 ∈ s) → (∃ j : Int, 0 ≤ j ∧ j < i ∧ (rd_T40 E j).f1 = w ∧ (rd_T40 E j).f0 ∈ s) ∨ ((rd_T40 E i).f1 = w ∧ (rd_T40 E i).f0 ∈ s) := fun ⟨j, a, b, c⟩ => by
      by_cases e : j = i
      · subst e; exact .inr c
      · exact .inl ⟨j, a, by omega, c⟩
    rw [torusref30_Around.l1, if_pos (by omega), if_pos hi, if_pos (by omega), w64 (by omega) (by omega)]
    by_cases h : ∃ j : Int, 0 ≤ j ∧ j < i ∧ (rd_T40 E j).f1 = w ∧ (rd_T40 E j).f0 ∈ s
    · rw [if_pos (decide_eq_true h)]
      rw [decide_eq_true (up h)] at hk1
      exact hk1
    · rw [if_neg (by simpa using h)]
      by_cases h1 : (rd_T40 E i).f1 = w
      · rw [if_pos h1, has_spec s _ hs k (by omega)]
        have : decide (∃ j : Int, 0 ≤ j ∧ j < i + 1 ∧ (rd_T40 E j).f1 = w ∧ (rd_T40 E j).f0 ∈ s) = decide ((rd_T40 E i).f0 ∈ s) := by
          refine decide_eq_decide.2 ⟨fun h2 => ?_, fun h2 => ⟨i, hi, by omega, h1, h2⟩⟩
          rcases dn h2 with h3 | h3
          · exact absurd h3 h
          · exact h3.2
        rw [this] at hk1
        exact hk1
      · rw [if_neg h1]
        have : decide (∃ j : Int, 0 ≤ j ∧ j < i + 1 ∧ (rd_T40 E j).f1 = w ∧ (rd_T40 E j).f0 ∈ s) = false := by
          refine decide_eq_false (fun h2 => ?_)
          rcases dn h2 with h3 | h3
          · exact absurd h3 h
          · exact h1 h3.1
        rw [this] at hk1
        exact hk1
theorem around_spec {L R : Nat} {E : List S40} (g : GOK L R E) (s : List Int) (hs : s.length ≤ 1000000) :
    ∃ K, ∀ k, K ≤ k → torusref30_Around.f k L R E s = some (sel R (nearB E s)) := by
  have hR := g.R1
  have key : ∀ (d : Nat) (w : Int), (R : Int) = w + d → 0 ≤ w → ∃ K, ∀ k, K ≤ k → torusref30_Around.l0 k s (sel w.toNat (nearB E s)) w L R E = some (sel R (nearB E s)) := by
    intro d
    induction d with
    | zero =>
      intro w hd hw
      refine ⟨1, fun k hk => ?_⟩
      obtain ⟨k, rfl⟩ := fuel hk
      have : w = (R : Int) := by omega
      subst this
      rw [torusref30_Around.l0, if_neg (by omega)]
      rfl
    | succ d ih =>
      intro w hd hw
      obtain ⟨K, hK⟩ := ih (w + 1) (by omega) (by omega)
      have ei : (w + 1).toNat = w.toNat + 1 := by omega
      have ec : ((w.toNat : Nat) : Int) = w := by omega
      rw [ei, sel, ec] at hK
      have hle := cnt_le (nearB E s) w.toNat
      refine ⟨K + s.length + E.length + 2, fun k hk => ?_⟩
      obtain ⟨k, rfl⟩ : ∃ k', k = k' + 1 := ⟨k - 1, by omega⟩
      rw [torusref30_Around.l0, if_pos (by omega)]
      have := around_l1 g s hs w hw (by omega) (sel w.toNat (nearB E s)) (by rw [sel_length]; omega) K _ hK E.length 0 (by omega) (by omega) k (by omega)
      have e0 : ∀ i : Decidable (∃ j : Int, 0 ≤ j ∧ j < 0 ∧ (rd_T40 E j).f1 = w ∧ (rd_T40 E j).f0 ∈ s), @decide _ i = false := fun i => decide_eq_false (by rintro ⟨j, a, b, _⟩; omega)
      rw [e0] at this
      exact this
  exact key R 0 (by omega) (by omega)
end Go.Proofs.Ytlleokhmgblfnaa.P
