/- Columns that stay: what nobody writes any more. -/
import Derived.Test.YtojnnfhalpefmaaMx0
set_option linter.unusedVariables false
set_option linter.unusedSimpArgs false
namespace Go.Proofs.Ytojnnfhalpefmaa.H
open Go.RowKit Go.Proofs.YtojnnfhalpefmaaW.PrintWords Go.Proofs.YtojnnfhalpefmaaW.PrintLast Go.Proofs.YtojnnfhalpefmaaW.PrintMore Go.Proofs.Ytojnnfhalpefmaa.M
/-- A block that nobody writes any more: it lay when the call began, or it holds terms. -/
def Safe (base : Nat) (W : World) (b : Nat) : Prop := b < base ∨ ∃ cs, W.heap[b]? = some (.cells cs 45 (0, 0))
/-- What those blocks hold stays. -/
structure Stay (base : Nat) (W W' : World) : Prop where
  below : Below base W W'
  same : ∀ b, Safe base W b → W'.heap[b]? = W.heap[b]?
theorem Stay.safe {base : Nat} {W W' : World} (h : Stay base W W') {b : Nat} (hb : Safe base W b) : Safe base W' b := by
  rcases hb with hb | ⟨cs, hb⟩
  · exact .inl hb
  · exact .inr ⟨cs, (h.same b (.inr ⟨cs, hb⟩)).trans hb⟩
theorem Stay.refl (base : Nat) (W : World) : Stay base W W := ⟨Below.refl _ _, fun _ _ => rfl⟩
theorem Stay.trans {base : Nat} {A B C : World} (h : Stay base A B) (k : Stay base B C) : Stay base A C :=
  ⟨h.below.trans k.below, fun b hb => (k.same b (h.safe hb)).trans (h.same b hb)⟩
theorem Stay.of_below {base : Nat} {W W' : World} (hb : base ≤ W.heap.size) (h : Below W.heap.size W W') : Stay base W W' :=
  ⟨h.mono hb, fun b hs => by
    rcases hs with hs | ⟨cs, hs⟩
    · exact h.block b (by omega)
    · exact h.block b (blk_lt hs)⟩
theorem add_blk (a : Addr) (k : Nat) : (a.add k).block = a.block := by
  unfold Addr.add
  by_cases h : k = 0 <;> simp [h]
/-- A row is read where its block holds what it held. -/
theorem C_same {W W' : World} {A : Option Addr} {n : Nat} {xs : List S45} (h : k45.C W A n xs) (hb : ∀ ad, A = some ad → 0 < n → W'.heap[ad.block]? = W.heap[ad.block]?) : k45.C W' A n xs := by
  refine ⟨h.1, h.2.1, fun hp => ?_⟩
  obtain ⟨ad, e, hc⟩ := h.2.2 hp
  refine ⟨ad, e, fun j p hj => ?_⟩
  obtain ⟨c, h1, h2, h3⟩ := hc j p hj
  refine ⟨c, h1, ?_, fun i u hu => ?_⟩
  · obtain rfl := k45_open h2
    exact k45_mk W' p
  · have h4 := h3 i u hu
    have hbl : W'.heap[(ad.add (j * k45.sz + i)).block]? = W.heap[(ad.add (j * k45.sz + i)).block]? := by rw [add_blk]; exact hb ad e hp
    unfold World.cell? at h4 ⊢
    rw [hbl]
    exact h4
/-- A column that is kept: read, in blocks that nobody writes any more. -/
def RowV (o : Bool) (W : World) (base : Nat) (v : Value) (xs : List S45) : Prop :=
  ∃ (A : Option Addr) (c : Nat), v = .slice A xs.length c ∧ xs.length ≤ c ∧ k45.C W A xs.length xs ∧ (∀ ad, A = some ad → 0 < xs.length → Safe base W ad.block) ∧ (o = true → Kd.R k45 45 W base (fun _ => True) v xs)
theorem R45_stay {W W' : World} {base : Nat} {ok : Nat → Prop} {v : Value} {xs : List S45} (h : Kd.R k45 45 W base ok v xs) (hs : Stay base W W') : Kd.R k45 45 W' base ok v xs := by
  obtain ⟨h0, inner, ho, hr⟩ := h
  refine ⟨h0, inner, own_move ho (fun k hk => hs.same _ (.inr (own_typed ho k hk))), hr.imp_ (fun p c hM => ?_)⟩
  obtain rfl := k45_open (k45.K_of_M hM)
  exact k45_mkM W' base _ p
theorem RowV.stay {o : Bool} {W W' : World} {base : Nat} {v : Value} {xs : List S45} (h : RowV o W base v xs) (hs : Stay base W W') : RowV o W' base v xs := by
  obtain ⟨A, c, e, hl, hC, hS, hO⟩ := h
  exact ⟨A, c, e, hl, C_same hC (fun ad ea hp => hs.same _ (hS ad ea hp)), fun ad ea hp => hs.safe (hS ad ea hp), fun e => R45_stay (hO e) hs⟩
/-- The elements of a row of columns. -/
def colE (o : Bool) (W : World) (base : Nat) (xs : List S45) (cs : List Value) : Prop := ∃ v, cs = [v] ∧ RowV o W base v xs
theorem stay_grown {base : Nat} {W W' : World} {row : Option Nat} (hg : W.grownBy W' row) (hb : base ≤ W.heap.size) (hrow : ∀ g, row = some g → base ≤ g ∧ ∀ cs, W.heap[g]? ≠ some (.cells cs 45 (0, 0))) : Stay base W W' :=
  ⟨(Below.refl base W).grown hg hb (fun k e => (hrow k e).1), fun b hs => by
    refine hg.block b ?_ (fun e => ?_)
    · rcases hs with hs | ⟨cs, hs⟩
      · omega
      · exact blk_lt hs
    · obtain ⟨h1, h2⟩ := hrow b e.symm
      rcases hs with hs | ⟨cs, hs⟩
      · omega
      · exact h2 cs hs⟩
theorem stay_set {base : Nat} {W : World} {g : Nat} {t : TypeId} {cs : Array Value} (hg : W.heap[g]? = some (.cells cs t (0, 0))) (ht : t ≠ 45) (hb : base ≤ g) (i : Nat) (v : Value) : Stay base W (W.setCell ⟨g, i, none⟩ v) :=
  ⟨(Below.refl base W).setCell (p := ⟨g, i, none⟩) hb v, fun b hs => Below.heap_setCell W _ v b (by
    show b ≠ g
    rintro rfl
    rcases hs with hs | ⟨cs', hs⟩
    · omega
    · rw [hg] at hs; cases hs; exact ht rfl)⟩
theorem own_stay {o : Bool} {base : Nat} {W W' : World} {v : Value} {L : List (List S45)} (h : OwnRow (colE o W base) 22 1 W base v L) (hs : Stay base W W') (hv : ∀ g, v.ownBlock = some g → W'.heap[g]? = W.heap[g]?) : OwnRow (colE o W' base) 22 1 W' base v L := by
  obtain ⟨inner, ho, hr⟩ := h
  exact ⟨inner, own_move ho hv, hr.imp_ (fun p c ⟨v, e, hrow⟩ => ⟨v, e, hrow.stay hs⟩)⟩
theorem own_blk22 {α : Type} {base : Nat} {W : World} {v : Value} {R : α → List Value → Prop} {L : List α} (h : OwnRow R 22 1 W base v L) {g : Nat} (hg : v.ownBlock = some g) : (∃ cs, W.heap[g]? = some (.cells cs 22 (0, 0))) ∧ base ≤ g := by
  obtain ⟨inner, ho, hr⟩ := h
  refine ⟨own_typed ho g hg, ?_⟩
  rcases ho.2 with ⟨rfl, _⟩ | ⟨g', cap, cur, rfl, hb, _⟩
  · simp [Value.ownBlock] at hg
  · obtain rfl : g' = g := by simpa [Value.ownBlock] using hg
    exact hb
def lastR (c : List S45) : Int := (rd_T45 c ((c.length : Int) - 1)).f0
theorem RowV.of_R {o : Bool} {W : World} {base : Nat} {ok : Nat → Prop} {v : Value} {xs : List S45} (h : Kd.R k45 45 W base ok v xs) : RowV o W base v xs := by
  obtain ⟨A, c, rfl⟩ := Kd.R_slice h
  have hr := Kd.R_reads' h
  obtain ⟨inner, ho⟩ := Kd.R_own h
  refine ⟨A, c, rfl, hr.2.1, hr.2.2, fun ad e hp => ?_, fun _ => Kd.R_mono h (fun _ _ => trivial)⟩
  subst e
  exact .inr (own_typed ho ad.block (by simp [Value.ownBlock]))
end Go.Proofs.Ytojnnfhalpefmaa.H
