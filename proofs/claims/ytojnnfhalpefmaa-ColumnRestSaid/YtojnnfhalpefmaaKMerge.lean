/- merged of package column: its iterator, walked by hand. -/
import Derived.Test.YtojnnfhalpefmaaMx0
import Derived.RangeFuncNested
import Derived.RangeFuncBound
import Derived.RangeFuncCalls
import Derived.RangeFuncLeaves
import Derived.RangeFuncBox
import Derived.Shelf.Abstract
import Derived.Shelf.RegionOpen
import Derived.WalkKit
import Derived.OwnWalkIn
import Derived.TacticsInMore
import Derived.LoopNIn
import Derived.LoopIn
import Derived.Sort.LoopGhostIn
import Derived.Sort.CutIn
import Derived.Sort.QuietIn
namespace Go.Proofs.Ytojnnfhalpefmaa.H
open Go.RowKit Go.Shelf Go.Proofs.YtojnnfhalpefmaaW.PrintWords Go.Proofs.YtojnnfhalpefmaaW.PrintLast Go.Proofs.YtojnnfhalpefmaaW.PrintMore Go.Proofs.Ytojnnfhalpefmaa.M
set_option linter.unusedVariables false
set_option linter.unusedSimpArgs false
attribute [local go_sem] Oper.semAt_some

/-- The rows of two columns in ascending order, with both coefficients. -/
def merge : List S45 → List S45 → List (Int × Int × Int)
  | [], [] => []
  | x :: a, [] => (x.f0, x.f1, 0) :: merge a []
  | [], y :: b => (y.f0, 0, y.f1) :: merge [] b
  | x :: a, y :: b =>
    if x.f0 < y.f0 then (x.f0, x.f1, 0) :: merge a (y :: b)
    else if y.f0 < x.f0 then (y.f0, 0, y.f1) :: merge (x :: a) b
    else (x.f0, x.f1, y.f1) :: merge a b
termination_by a b => a.length + b.length

theorem merge_r {y : S45} {b : List S45} : merge [] (y :: b) = (y.f0, 0, y.f1) :: merge [] b := by rw [merge]
theorem merge_l {x : S45} {a : List S45} : merge (x :: a) [] = (x.f0, x.f1, 0) :: merge a [] := by rw [merge]
theorem merge_lt {x y : S45} {a b : List S45} (h : x.f0 < y.f0) : merge (x :: a) (y :: b) = (x.f0, x.f1, 0) :: merge a (y :: b) := by rw [merge, if_pos h]
theorem merge_gt {x y : S45} {a b : List S45} (h : ¬ x.f0 < y.f0) (h' : y.f0 < x.f0) : merge (x :: a) (y :: b) = (y.f0, 0, y.f1) :: merge (x :: a) b := by rw [merge, if_neg h, if_pos h']
theorem merge_eq {x y : S45} {a b : List S45} (h : ¬ x.f0 < y.f0) (h' : ¬ y.f0 < x.f0) : merge (x :: a) (y :: b) = (x.f0, x.f1, y.f1) :: merge a b := by rw [merge, if_neg h, if_neg h']
/-- Nothing that lay has turned but the two boxes. -/
structure Else (bA bB : Nat) (W W' : World) : Prop where
  os : W'.os = W.os
  tape : W'.tape = W.tape
  output : W'.output = W.output
  size : W.heap.size ≤ W'.heap.size
  block : ∀ b, b < W.heap.size → b ≠ bA → b ≠ bB → W'.heap[b]? = W.heap[b]?

theorem Else.refl (bA bB : Nat) (W : World) : Else bA bB W W := ⟨rfl, rfl, rfl, Nat.le_refl _, fun _ _ _ _ => rfl⟩
theorem Else.trans {bA bB : Nat} {U V W : World} (h : Else bA bB U V) (k : Else bA bB V W) : Else bA bB U W :=
  ⟨k.os.trans h.os, k.tape.trans h.tape, k.output.trans h.output, Nat.le_trans h.size k.size, fun b hb h1 h2 => (k.block b (Nat.lt_of_lt_of_le hb h.size) h1 h2).trans (h.block b hb h1 h2)⟩
theorem Else.of_below {bA bB : Nat} {U V W : World} (h : Else bA bB U V) (k : Below U.heap.size V W) : Else bA bB U W :=
  ⟨k.os.trans h.os, k.tape.trans h.tape, k.output.trans h.output, Nat.le_trans h.size k.size, fun b hb h1 h2 => (k.block b hb).trans (h.block b hb h1 h2)⟩
theorem below_drewN_ {B : Nat} {w W : World} (h : Below B w W) (n : Nat) : Below B w (W.drewN n) := ⟨h.os, h.tape, h.output, h.size, h.block⟩
/-- The two cells of a row's first element. -/
theorem C_head {w : World} {A : Option Addr} {x : S45} {xs : List S45} (h : k45.C w A (x :: xs).length (x :: xs)) : ∃ ad : Addr, A = some ad ∧ w.cell? ad = some (.int .i64 x.f0) ∧ w.cell? ⟨ad.block, ad.off + 1, none⟩ = some (.int .i64 x.f1) := by
  obtain ⟨ad, e, h1, h2⟩ := at_T45 h 0 (by omega) (by simp)
  refine ⟨ad, e, ?_, ?_⟩
  · simpa [rd_T45, Addr.add] using h1
  · simpa [rd_T45, Addr.add] using h2
theorem Else.drewN {bA bB : Nat} {U V : World} (h : Else bA bB U V) (m : Nat) : Else bA bB U (V.drewN m) := ⟨h.os, h.tape, h.output, h.size, h.block⟩
theorem Else.drew {bA bB : Nat} {U V : World} (h : Else bA bB U V) : Else bA bB U V.drew := ⟨h.os, h.tape, h.output, h.size, h.block⟩
theorem Else.setCell {bA bB : Nat} {U V : World} (h : Else bA bB U V) (p : Addr) (v : Value) (hp : p.block = bA ∨ p.block = bB ∨ U.heap.size ≤ p.block) : Else bA bB U (V.setCell p v) := by
  have k := (Below.refl 0 V).setCell (p := p) (Nat.zero_le _) v
  refine ⟨k.os.trans h.os, k.tape.trans h.tape, k.output.trans h.output, Nat.le_trans h.size k.size, fun b hb h1 h2 => ?_⟩
  have hne : b ≠ p.block := by rcases hp with e | e | e <;> omega
  exact (Below.heap_setCell V p v b hne).trans (h.block b hb h1 h2)
theorem cutS {w0 : World} {ad : Addr} {x : S45} {xs : List S45} {c : Nat} (h : k45.C w0 (some ad) (x :: xs).length (x :: xs)) (hc : (x :: xs).length ≤ c) :
    ∃ A' : Option Addr, (∀ W : World, (Instr.slice 22 (.slice (some ad) (xs.length + 1) c) (some (.int .i64 1)) none none).run Try.prog W = .ok (.slice A' xs.length (c - 1)) W) ∧ k45.C w0 A' xs.length xs ∧ xs.length ≤ c - 1 := by
  obtain ⟨i0, hi0, _, hsz0, _⟩ := info_parts info45
  have hl : (x :: xs).length = xs.length + 1 := rfl
  have h1 := cut_from (P := Try.prog) 22 45 .i64 Try.underlying22 hi0 2 hsz0 (some ad) (xs.length + 1) c 1 (by omega) (by omega)
  have h2 := Kd.C_drop (m := 1) h (by simp) hc
  refine ⟨_, h1, ?_, by omega⟩
  exact h2
set_option maxRecDepth 100000 in
set_option maxHeartbeats 4000000 in
theorem merged1 (n : Nat) (hn : 2 ≤ n) (l bA bB : Nat) (w0 : World) (a b : List S45) (Aa Ab : Option Addr) (ca cb : Nat)
    (hCa : k45.C w0 Aa a.length a) (hca : a.length ≤ ca) (hCb : k45.C w0 Ab b.length b) (hcb : b.length ≤ cb) (hAB : bA ≠ bB)
    (J : List (Int × Int × Int) → World → Prop) (hJ : ∀ pre W W', J pre W → Else bA bB W W' → J pre W')
    (hY : ∀ pre x W1, J pre W1 → (∃ v, Boxed W1 bA 22 v) → (∃ v, Boxed W1 bB 22 v) → pre.length < (merge a b).length → YieldAt Fence.wide (n - 1) Try.prog l #[.int .i64 x.1, .agg #[.int .i64 x.2.1, .int .i64 x.2.2]] W1 fun e W' =>
      e = .returned (.bool true) ∧ J (pre ++ [x]) W' ∧ Below w0.heap.size W1 W' ∧ W'.heap[bA]? = W1.heap[bA]? ∧ W'.heap[bB]? = W1.heap[bB]?)
    (W : World) (hB0 : Below w0.heap.size w0 W) (hbA : Boxed W bA 22 (.slice Aa a.length ca)) (hbB : Boxed W bB 22 (.slice Ab b.length cb)) (hA0 : w0.heap.size ≤ bA) (hB0' : w0.heap.size ≤ bB) (h0 : J [] W) :
    CallsIn Fence.wide n Try.prog 77 #[.func (.yield l) #[] #[], .pointer (some ⟨bA, 0, none⟩), .pointer (some ⟨bB, 0, none⟩)] W fun e W' => (∃ v, e = .returned v) ∧ J (merge a b) W' := by
  refine callsIn_of_wp Try.func77 rfl trivial ?_ rfl
  simp only [Try.ntmps77, List.size_toArray, List.length_cons, List.length_nil, Nat.reduceAdd, Nat.reduceSub, Array.replicate_succ, Array.replicate_zero, List.push_toArray, List.append_toArray, List.nil_append, List.cons_append]
  gi_wp2
  gi_loopg [] (a.length + b.length) (fun k wr => ∃ (pre : List (Int × Int × Int)) (ra rb : List S45) (Ba Bb : Option Addr) (da db : Nat), k = ra.length + rb.length ∧ merge a b = pre ++ merge ra rb ∧ J pre wr ∧
    Boxed wr bA 22 (.slice Ba ra.length da) ∧ Boxed wr bB 22 (.slice Bb rb.length db) ∧ k45.C w0 Ba ra.length ra ∧ ra.length ≤ da ∧ k45.C w0 Bb rb.length rb ∧ rb.length ≤ db ∧ Below w0.heap.size w0 wr)
  case atStart => exact ⟨[], a, b, Aa, Ab, ca, cb, rfl, rfl, h0, hbA, hbB, hCa, hca, hCb, hcb, hB0⟩
  case round =>
    obtain ⟨pre, ra, rb, Ba, Bb, da, db, hk, hm, hJs, hbA, hbB, hCa, hca, hCb, hcb, hB0⟩ := hrel
    have cA := hbA.cell
    have cB := hbB.cell
    have fA := hbA.frozen
    have fB := hbB.frozen
    cases ra with
    | nil =>
      cases rb with
      | nil =>
        gi_wp2
        go_end0
        refine ⟨⟨_, rfl⟩, ?_⟩
        rw [hm]
        simpa [merge] using hJs
      | cons y rb =>
        rw [merge_r] at hm
        obtain ⟨ad, rfl, _⟩ := C_head (Kd.C_below hCb hB0)
        obtain ⟨B', hcutB, hCB', hcB'⟩ := cutS hCb hcb

        gi_wp2
        have hlA := (Array.getElem?_eq_some_iff.1 hbA).1
        have hlB := (Array.getElem?_eq_some_iff.1 hbB).1
        obtain ⟨W1, hW1⟩ : ∃ W1, wr.alloc (.cells #[.int .i64 0, .int .i64 0] 78) = W1 := ⟨_, rfl⟩
        obtain ⟨g, hg⟩ : ∃ g, wr.heap.size = g := ⟨_, rfl⟩
        have bC : W1.heap[g]? = some (.cells #[.int .i64 0, .int .i64 0] 78 (0, 0)) := by rw [← hW1, ← hg]; exact World.alloc_heap_new _ _
        have bB1 : Below wr.heap.size wr W1 := by rw [← hW1]; exact (Below.refl _ wr).alloc (Nat.le_refl _) _
        have E1 : Else bA bB wr W1 := (Else.refl bA bB wr).of_below bB1
        have hbA1 : Boxed W1 bA 22 _ := (bB1.block bA hlA).trans hbA
        have hbB1 : Boxed W1 bB 22 _ := (bB1.block bB hlB).trans hbB
        have hB1 := hB0.trans (bB1.mono hB0.size)
        rw [hW1, hg]
        have cA := hbA1.cell
        have cB := hbB1.cell
        have fA := hbA1.frozen
        have fB := hbB1.frozen
        have cC0 := blk_cell bC 0
        have cC1 := blk_cell bC 1
        have fC0 := blk_frozen bC 0
        have fC1 := blk_frozen bC 1
        simp only [List.getElem?_toArray, List.getElem?_cons_zero, List.getElem?_cons_succ] at cC0 cC1

        obtain ⟨ad', e', y0, y1⟩ := C_head (Kd.C_below hCb hB1)
        obtain rfl := Option.some.inj e'
        have hzb : ((rb.length : Int) + 1 == 0) = false := by simp; omega
        gi_quiet (fail)
        gi_wp2
        gi_quiet (fail)
        gi_wp2
        gi_region
        gi_wp2
        generalize hW4 : ((W1.drewN _).setCell _ _).setCell _ _ = W4
        have E4 : Else bA bB wr W4 := by
          rw [← hW4]
          exact ((E1.drewN _).setCell _ _ (.inr (.inr (Nat.le_of_eq hg)))).setCell _ _ (.inr (.inl rfl))
        have hJ4 := hJ _ _ _ hJs E4
        have hA4 : Boxed W4 bA 22 (.slice Ba 0 da) := by
          rw [← hW4]
          exact blk_far (blk_far (blk_drewN hbA1 _) (by show bA ≠ g; omega) _) (by show bA ≠ bB; omega) _
        have hB4 : Boxed W4 bB 22 (.slice B' rb.length (db - 1)) := by
          rw [← hW4]
          exact blk_put (blk_far (blk_drewN hbB1 _) (by show bB ≠ g; omega) _) 0 _ rfl
        have hL4 : Below w0.heap.size w0 W4 := by
          rw [← hW4]
          exact ((below_drewN_ hB1 _).setCell (p := ⟨g, 1, none⟩) (by have := hB0.size; show _ ≤ g; omega) _).setCell (p := ⟨bB, 0, none⟩) hB0' _
        obtain ⟨fn, tmps, assign, body, hy, hR⟩ := hY pre (y.f0, 0, y.f1) W4 hJ4 ⟨_, hA4⟩ ⟨_, hB4⟩ (by rw [hm]; simp)
        dsimp only at hy
        rw [hy]
        gi_wp2
        refine ⟨fun _ => by omega, hR.mono ?_⟩
        rintro e W5 ⟨rfl, hJ5, hb5, hA5, hB5⟩
        gi_wp2
        gi_roundg (([] : List S45).length + rb.length)
        case measure => simp only [List.length_cons, List.length_nil] at hk ⊢; omega
        case rel => exact ⟨pre ++ [(y.f0, 0, y.f1)], ([] : List S45), rb, _, _, _, _, by simp, by rw [hm]; simp, hJ5, hA5.trans hA4, hB5.trans hB4, hCa, hca, hCB', hcB', hL4.trans hb5⟩
    | cons x ra =>
      cases rb with
      | nil =>
        rw [merge_l] at hm
        obtain ⟨ae, rfl, _⟩ := C_head (Kd.C_below hCa hB0)
        obtain ⟨A', hcutA, hCA', hcA'⟩ := cutS hCa hca

        gi_wp2
        have hlA := (Array.getElem?_eq_some_iff.1 hbA).1
        have hlB := (Array.getElem?_eq_some_iff.1 hbB).1
        obtain ⟨W1, hW1⟩ : ∃ W1, wr.alloc (.cells #[.int .i64 0, .int .i64 0] 78) = W1 := ⟨_, rfl⟩
        obtain ⟨g, hg⟩ : ∃ g, wr.heap.size = g := ⟨_, rfl⟩
        have bC : W1.heap[g]? = some (.cells #[.int .i64 0, .int .i64 0] 78 (0, 0)) := by rw [← hW1, ← hg]; exact World.alloc_heap_new _ _
        have bB1 : Below wr.heap.size wr W1 := by rw [← hW1]; exact (Below.refl _ wr).alloc (Nat.le_refl _) _
        have E1 : Else bA bB wr W1 := (Else.refl bA bB wr).of_below bB1
        have hbA1 : Boxed W1 bA 22 _ := (bB1.block bA hlA).trans hbA
        have hbB1 : Boxed W1 bB 22 _ := (bB1.block bB hlB).trans hbB
        have hB1 := hB0.trans (bB1.mono hB0.size)
        rw [hW1, hg]
        have cA := hbA1.cell
        have cB := hbB1.cell
        have fA := hbA1.frozen
        have fB := hbB1.frozen
        have cC0 := blk_cell bC 0
        have cC1 := blk_cell bC 1
        have fC0 := blk_frozen bC 0
        have fC1 := blk_frozen bC 1
        simp only [List.getElem?_toArray, List.getElem?_cons_zero, List.getElem?_cons_succ] at cC0 cC1

        obtain ⟨ae', e'', x0, x1⟩ := C_head (Kd.C_below hCa hB1)
        obtain rfl := Option.some.inj e''
        have hza : ((ra.length : Int) + 1 == 0) = false := by simp; omega
        gi_quiet (fail)
        gi_wp2
        gi_region
        gi_wp2
        generalize hW4 : ((W1.drewN _).setCell _ _).setCell _ _ = W4
        have E4 : Else bA bB wr W4 := by
          rw [← hW4]
          exact ((E1.drewN _).setCell _ _ (.inr (.inr (Nat.le_of_eq hg)))).setCell _ _ (.inl rfl)
        have hJ4 := hJ _ _ _ hJs E4
        have hA4 : Boxed W4 bA 22 (.slice A' ra.length (da - 1)) := by
          rw [← hW4]
          exact blk_put (blk_far (blk_drewN hbA1 _) (by show bA ≠ g; omega) _) 0 _ rfl
        have hB4 : Boxed W4 bB 22 (.slice Bb 0 db) := by
          rw [← hW4]
          exact blk_far (blk_far (blk_drewN hbB1 _) (by show bB ≠ g; omega) _) (by show bB ≠ bA; omega) _
        have hL4 : Below w0.heap.size w0 W4 := by
          rw [← hW4]
          exact ((below_drewN_ hB1 _).setCell (p := ⟨g, 0, none⟩) (by have := hB0.size; show _ ≤ g; omega) _).setCell (p := ⟨bA, 0, none⟩) hA0 _
        obtain ⟨fn, tmps, assign, body, hy, hR⟩ := hY pre (x.f0, x.f1, 0) W4 hJ4 ⟨_, hA4⟩ ⟨_, hB4⟩ (by rw [hm]; simp)
        dsimp only at hy
        rw [hy]
        gi_wp2
        refine ⟨fun _ => by omega, hR.mono ?_⟩
        rintro e W5 ⟨rfl, hJ5, hb5, hA5, hB5⟩
        gi_wp2
        gi_roundg (ra.length + ([] : List S45).length)
        case measure => simp only [List.length_cons, List.length_nil] at hk ⊢; omega
        case rel => exact ⟨pre ++ [(x.f0, x.f1, 0)], ra, ([] : List S45), _, _, _, _, by simp, by rw [hm]; simp, hJ5, hA5.trans hA4, hB5.trans hB4, hCA', hcA', hCb, hcb, hL4.trans hb5⟩
      | cons y rb =>
        obtain ⟨ae, rfl, _⟩ := C_head (Kd.C_below hCa hB0)
        obtain ⟨ad, rfl, _⟩ := C_head (Kd.C_below hCb hB0)
        obtain ⟨A', hcutA, hCA', hcA'⟩ := cutS hCa hca
        obtain ⟨B', hcutB, hCB', hcB'⟩ := cutS hCb hcb

        gi_wp2
        have hlA := (Array.getElem?_eq_some_iff.1 hbA).1
        have hlB := (Array.getElem?_eq_some_iff.1 hbB).1
        obtain ⟨W1, hW1⟩ : ∃ W1, wr.alloc (.cells #[.int .i64 0, .int .i64 0] 78) = W1 := ⟨_, rfl⟩
        obtain ⟨g, hg⟩ : ∃ g, wr.heap.size = g := ⟨_, rfl⟩
        have bC : W1.heap[g]? = some (.cells #[.int .i64 0, .int .i64 0] 78 (0, 0)) := by rw [← hW1, ← hg]; exact World.alloc_heap_new _ _
        have bB1 : Below wr.heap.size wr W1 := by rw [← hW1]; exact (Below.refl _ wr).alloc (Nat.le_refl _) _
        have E1 : Else bA bB wr W1 := (Else.refl bA bB wr).of_below bB1
        have hbA1 : Boxed W1 bA 22 _ := (bB1.block bA hlA).trans hbA
        have hbB1 : Boxed W1 bB 22 _ := (bB1.block bB hlB).trans hbB
        have hB1 := hB0.trans (bB1.mono hB0.size)
        rw [hW1, hg]
        have cA := hbA1.cell
        have cB := hbB1.cell
        have fA := hbA1.frozen
        have fB := hbB1.frozen
        have cC0 := blk_cell bC 0
        have cC1 := blk_cell bC 1
        have fC0 := blk_frozen bC 0
        have fC1 := blk_frozen bC 1
        simp only [List.getElem?_toArray, List.getElem?_cons_zero, List.getElem?_cons_succ] at cC0 cC1

        obtain ⟨ae', e'', x0, x1⟩ := C_head (Kd.C_below hCa hB1)
        obtain rfl := Option.some.inj e''
        have hza : ((ra.length : Int) + 1 == 0) = false := by simp; omega

        obtain ⟨ad', e', y0, y1⟩ := C_head (Kd.C_below hCb hB1)
        obtain rfl := Option.some.inj e'
        have hzb : ((rb.length : Int) + 1 == 0) = false := by simp; omega
        by_cases hlt : x.f0 < y.f0
        · have hltb : decide (x.f0 < y.f0) = true := decide_eq_true hlt
          rw [merge_lt hlt] at hm
          gi_quiet (fail)
          gi_wp2
          gi_region
          gi_wp2
          generalize hW4 : ((W1.drewN _).setCell _ _).setCell _ _ = W4
          have E4 : Else bA bB wr W4 := by
            rw [← hW4]
            exact ((E1.drewN _).setCell _ _ (.inr (.inr (Nat.le_of_eq hg)))).setCell _ _ (.inl rfl)
          have hJ4 := hJ _ _ _ hJs E4
          have hA4 : Boxed W4 bA 22 (.slice A' ra.length (da - 1)) := by
            rw [← hW4]
            exact blk_put (blk_far (blk_drewN hbA1 _) (by show bA ≠ g; omega) _) 0 _ rfl
          have hB4 : Boxed W4 bB 22 (.slice (some ad) (rb.length + 1) db) := by
            rw [← hW4]
            exact blk_far (blk_far (blk_drewN hbB1 _) (by show bB ≠ g; omega) _) (by show bB ≠ bA; omega) _
          have hL4 : Below w0.heap.size w0 W4 := by
            rw [← hW4]
            exact ((below_drewN_ hB1 _).setCell (p := ⟨g, 0, none⟩) (by have := hB0.size; show _ ≤ g; omega) _).setCell (p := ⟨bA, 0, none⟩) hA0 _
          obtain ⟨fn, tmps, assign, body, hy, hR⟩ := hY pre (x.f0, x.f1, 0) W4 hJ4 ⟨_, hA4⟩ ⟨_, hB4⟩ (by rw [hm]; simp)
          dsimp only at hy
          rw [hy]
          gi_wp2
          refine ⟨fun _ => by omega, hR.mono ?_⟩
          rintro e W5 ⟨rfl, hJ5, hb5, hA5, hB5⟩
          gi_wp2
          gi_roundg (ra.length + (y :: rb).length)
          case measure => simp only [List.length_cons, List.length_nil] at hk ⊢; omega
          case rel => exact ⟨pre ++ [(x.f0, x.f1, 0)], ra, (y :: rb), _, _, _, _, by simp, by rw [hm]; simp, hJ5, hA5.trans hA4, hB5.trans hB4, hCA', hcA', hCb, hcb, hL4.trans hb5⟩
        · have hltb : decide (x.f0 < y.f0) = false := decide_eq_false hlt
          by_cases hgt : y.f0 < x.f0
          · have hgtb : decide (y.f0 < x.f0) = true := decide_eq_true hgt
            rw [merge_gt hlt hgt] at hm
            gi_quiet (fail)
            gi_wp2
            gi_quiet (fail)
            gi_wp2
            gi_region
            gi_wp2
            generalize hW4 : ((W1.drewN _).setCell _ _).setCell _ _ = W4
            have E4 : Else bA bB wr W4 := by
              rw [← hW4]
              exact ((E1.drewN _).setCell _ _ (.inr (.inr (Nat.le_of_eq hg)))).setCell _ _ (.inr (.inl rfl))
            have hJ4 := hJ _ _ _ hJs E4
            have hA4 : Boxed W4 bA 22 (.slice (some ae) (ra.length + 1) da) := by
              rw [← hW4]
              exact blk_far (blk_far (blk_drewN hbA1 _) (by show bA ≠ g; omega) _) (by show bA ≠ bB; omega) _
            have hB4 : Boxed W4 bB 22 (.slice B' rb.length (db - 1)) := by
              rw [← hW4]
              exact blk_put (blk_far (blk_drewN hbB1 _) (by show bB ≠ g; omega) _) 0 _ rfl
            have hL4 : Below w0.heap.size w0 W4 := by
              rw [← hW4]
              exact ((below_drewN_ hB1 _).setCell (p := ⟨g, 1, none⟩) (by have := hB0.size; show _ ≤ g; omega) _).setCell (p := ⟨bB, 0, none⟩) hB0' _
            obtain ⟨fn, tmps, assign, body, hy, hR⟩ := hY pre (y.f0, 0, y.f1) W4 hJ4 ⟨_, hA4⟩ ⟨_, hB4⟩ (by rw [hm]; simp)
            dsimp only at hy
            rw [hy]
            gi_wp2
            refine ⟨fun _ => by omega, hR.mono ?_⟩
            rintro e W5 ⟨rfl, hJ5, hb5, hA5, hB5⟩
            gi_wp2
            gi_roundg ((x :: ra).length + rb.length)
            case measure => simp only [List.length_cons, List.length_nil] at hk ⊢; omega
            case rel => exact ⟨pre ++ [(y.f0, 0, y.f1)], (x :: ra), rb, _, _, _, _, by simp, by rw [hm]; simp, hJ5, hA5.trans hA4, hB5.trans hB4, hCa, hca, hCB', hcB', hL4.trans hb5⟩
          · have hgtb : decide (y.f0 < x.f0) = false := decide_eq_false hgt
            rw [merge_eq hlt hgt] at hm
            gi_quiet (fail)
            gi_wp2
            gi_quiet (fail)
            gi_wp2
            gi_region
            gi_wp2
            gi_region
            gi_wp2
            generalize hW4 : World.drew (((((W1.drewN _).setCell _ _).setCell _ _).setCell _ _).setCell _ _) = W4
            have E4 : Else bA bB wr W4 := by
              rw [← hW4]
              exact (((((E1.drewN _).setCell _ _ (.inr (.inr (Nat.le_of_eq hg)))).setCell _ _ (.inr (.inr (Nat.le_of_eq hg)))).setCell _ _ (.inl rfl)).setCell _ _ (.inr (.inl rfl))).drew
            have hJ4 := hJ _ _ _ hJs E4
            have hA4 : Boxed W4 bA 22 (.slice A' ra.length (da - 1)) := by
              rw [← hW4]
              exact blk_drew (blk_far (blk_put (blk_far (blk_far (blk_drewN hbA1 _) (by show bA ≠ g; omega) _) (by show bA ≠ g; omega) _) 0 _ rfl) (by show bA ≠ bB; omega) _)
            have hB4 : Boxed W4 bB 22 (.slice B' rb.length (db - 1)) := by
              rw [← hW4]
              exact blk_drew (blk_put (blk_far (blk_far (blk_far (blk_drewN hbB1 _) (by show bB ≠ g; omega) _) (by show bB ≠ g; omega) _) (by show bB ≠ bA; omega) _) 0 _ rfl)
            have hL4 : Below w0.heap.size w0 W4 := by
              rw [← hW4]
              exact (((((below_drewN_ hB1 _).setCell (p := ⟨g, 0, none⟩) (by have := hB0.size; show _ ≤ g; omega) _).setCell (p := ⟨g, 1, none⟩) (by have := hB0.size; show _ ≤ g; omega) _).setCell (p := ⟨bA, 0, none⟩) hA0 _).setCell (p := ⟨bB, 0, none⟩) hB0' _).drew
            obtain ⟨fn, tmps, assign, body, hy, hR⟩ := hY pre (x.f0, x.f1, y.f1) W4 hJ4 ⟨_, hA4⟩ ⟨_, hB4⟩ (by rw [hm]; simp)
            dsimp only at hy
            rw [hy]
            gi_wp2
            refine ⟨fun _ => by omega, hR.mono ?_⟩
            rintro e W5 ⟨rfl, hJ5, hb5, hA5, hB5⟩
            gi_wp2
            gi_roundg (ra.length + rb.length)
            case measure => simp only [List.length_cons, List.length_nil] at hk ⊢; omega
            case rel => exact ⟨pre ++ [(x.f0, x.f1, y.f1)], ra, rb, _, _, _, _, by simp, by rw [hm]; simp, hJ5, hA5.trans hA4, hB5.trans hB4, hCA', hcA', hCB', hcB', hL4.trans hb5⟩
end Go.Proofs.Ytojnnfhalpefmaa.H
