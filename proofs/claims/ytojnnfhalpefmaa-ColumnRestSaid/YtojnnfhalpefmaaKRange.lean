/- A range over merged of package column: what its caller owes. -/
import Derived.Test.YtojnnfhalpefmaaKMerge
namespace Go.Proofs.Ytojnnfhalpefmaa.H
open Go.RowKit Go.Shelf Go.Proofs.YtojnnfhalpefmaaW.PrintWords Go.Proofs.YtojnnfhalpefmaaW.PrintLast Go.Proofs.YtojnnfhalpefmaaW.PrintMore Go.Proofs.Ytojnnfhalpefmaa.M
set_option linter.unusedVariables false
attribute [local go_sem] Oper.semAt_some
/-- The values that yield is handed. -/
def encT (x : Int × Int × Int) : Array Value := #[.int .i64 x.1, .agg #[.int .i64 x.2.1, .int .i64 x.2.2]]
theorem rangeMerged {g : Operand} {ps : Array Tmp} {assign body : Code} {Q : Exit → Act → World → Prop} {act : Act} {w : World} {n : Nat} (h3 : 3 ≤ n) {bA bB : Nat}
    (hg : act.eval g = .func (.func 77) #[] #[.pointer (some ⟨bA, 0, none⟩), .pointer (some ⟨bB, 0, none⟩)]) (hps : ps.size = 2)
    {w0 : World} {a b : List S45} {Aa Ab : Option Addr} {ca cb : Nat} (hCa : k45.C w0 Aa a.length a) (hca : a.length ≤ ca) (hCb : k45.C w0 Ab b.length b) (hcb : b.length ≤ cb) (hAB : bA ≠ bB)
    (hB0 : Below w0.heap.size w0 w) (hbA : Boxed w bA 22 (.slice Aa a.length ca)) (hbB : Boxed w bB 22 (.slice Ab b.length cb)) (hA0 : w0.heap.size ≤ bA) (hB0' : w0.heap.size ≤ bB)
    (I : List (Int × Int × Int) → World → Prop) (hI : OwnFrom w.heap.size I) (hE : ∀ pre W W', I pre W → Else bA bB W W' → I pre W') (h0 : I [] w) (a₁ : Int × Int × Int → Nat → Act)
    (hassign : ∀ (l : Nat) (x : Int × Int × Int) (W : World) (K : Act → World → Prop), K (a₁ x W.heap.size) (W.alloc (.cells #[.int .i64 x.2.1, .int .i64 x.2.2] 78)) →
      assign.wpIn (Fence.wide.inRound l) (n - 1 - 1) Try.prog (Exit.then K (fun _ _ _ => False)) { tmps := (ps.zip (encT x)).foldl (fun t (p, v) => t.setIfInBounds p v) act.tmps, defers := [] } W)
    (hbody : ∀ (l : Nat) (pre : List (Int × Int × Int)) (x : Int × Int × Int) (gc : Nat) (W : World), w.heap.size ≤ gc → I pre W → (∃ v, Boxed W bA 22 v) → (∃ v, Boxed W bB 22 v) → pre.length < (merge a b).length → W.heap[gc]? = some (.cells #[.int .i64 x.2.1, .int .i64 x.2.2] 78 (0, 0)) →
      body.wpIn (Fence.wide.inRound l) (n - 1 - 1) Try.prog (fun e _ W' => e = .normal ∧ KeepsOthers W W' ∧ Below w0.heap.size W W' ∧ W'.heap[bA]? = W.heap[bA]? ∧ W'.heap[bB]? = W.heap[bB]? ∧ I (pre ++ [x]) W') (a₁ x gc) W)
    (hdone : ∀ (D : Nat) (W : World), w.heap.size ≤ D → I (merge a b) W → W.heap[D]? = some (.deferred (some [])) → Q .normal { act with defers := { target := .collected D, args := #[] } :: act.defers } W) :
    (Code.rangeFunc g ps assign body).wpIn Fence.wide n Try.prog Q act w := by
  have hlA := (Array.getElem?_eq_some_iff.1 hbA).1
  have hlB := (Array.getElem?_eq_some_iff.1 hbB).1
  refine wpIn_rangeFunc ?_
  intro fn hfn
  show ∃ (l : Nat) (mark : List Deferred) (w₁ : World) (d : Deferred) (w₁' : World) (f : FuncId) (args : Array Value) (w₂ : World), (Instr.enterLoop fn act.tmps ps assign body none).run Try.prog w = .ok (l, mark) w₁ ∧ _
  obtain ⟨rec, hrec⟩ : ∃ rec : LoopState → Option Code → Loop, rec = fun st pe => { state := st, pending := pe, fn, tmps := act.tmps, params := ps, assign, body, defers := w.heap.size } := ⟨_, rfl⟩
  obtain ⟨W1, hW1⟩ : ∃ W1, (w.alloc (.deferred (some []))).alloc (.loop (rec .ready none)) = W1 := ⟨_, rfl⟩
  have hL1 : W1.heap[w.heap.size + 1]? = some (.loop (rec .ready none)) := by
    rw [← hW1]; have := World.alloc_heap_new (w.alloc (.deferred (some []))) (.loop (rec .ready none)); rwa [World.size_alloc] at this
  have hK1 : W1.heap[w.heap.size]? = some (.deferred (some [])) := by
    rw [← hW1]; exact (Below.heap_alloc _ _ _ (by simp)).trans (World.alloc_heap_new w _)
  have hI1 : I [] W1 := by rw [← hW1]; exact hI.alloc _ (hI.alloc _ h0)
  have hw1 : Below w.heap.size w W1 := by rw [← hW1]; exact ((Below.refl _ w).alloc (Nat.le_refl _) _).alloc (by simp) _
  have hb1 : Below w0.heap.size w0 W1 := hB0.trans (hw1.mono hB0.size)
  refine ⟨w.heap.size + 1, [{ target := .collected w.heap.size, args := #[] }], W1, { target := .fn (.func 77) #[.pointer (some ⟨bA, 0, none⟩), .pointer (some ⟨bB, 0, none⟩)], args := #[.func (.yield (w.heap.size + 1)) #[] #[]] }, W1, 77,
    #[.func (.yield (w.heap.size + 1)) #[] #[], .pointer (some ⟨bA, 0, none⟩), .pointer (some ⟨bB, 0, none⟩)], W1, ?_, ?_, ?_, ?_, fun _ => by omega, ?_⟩
  · rw [← hW1, hrec]; exact run_enterLoop_outer _ _ _ _ _
  · simp only [resolve, hg]
    simp [go_sem]
  · intro f' hf'; trivial
  · simp [invoke, go_sem]
  · refine (merged1 (n - 1) (by omega) (w.heap.size + 1) bA bB w0 a b Aa Ab ca cb hCa hca hCb hcb hAB
      (fun pre W => I pre W ∧ W.heap[w.heap.size + 1]? = some (.loop (rec .ready none)) ∧ W.heap[w.heap.size]? = some (.deferred (some [])))
      (fun pre W W' hs hEl => ⟨hE _ _ _ hs.1 hEl, (hEl.block _ (blk_lt hs.2.1) (by omega) (by omega)).trans hs.2.1, (hEl.block _ (blk_lt hs.2.2) (by omega) (by omega)).trans hs.2.2⟩)
      ?_ W1 hb1 ((hw1.block bA hlA).trans hbA) ((hw1.block bB hlB).trans hbB) hA0 hB0' ⟨hI1, hL1, hK1⟩).mono ?_
    · rintro pre x W ⟨hi, hl, hk⟩ ⟨va, hva⟩ ⟨vb, hvb⟩ hlen
      have hlt : w.heap.size + 1 < W.heap.size := (Array.getElem?_eq_some_iff.1 hl).1
      have hy := run_yield (P := Try.prog) (args := encT x) hl (by rw [hrec]; exact hps.symm)
      rw [hrec] at hy
      obtain ⟨W2, hW2⟩ : ∃ W2, W.alloc (.cells #[.int .i64 x.2.1, .int .i64 x.2.2] 78) = W2 := ⟨_, rfl⟩
      have hE2 : Below W.heap.size W W2 := by rw [← hW2]; exact (Below.refl _ W).alloc (Nat.le_refl _) _
      have hl2' : W2.heap[w.heap.size + 1]? = some (.loop (rec .ready none)) := (hE2.block _ hlt).trans hl
      have hk2' : W2.heap[w.heap.size]? = some (.deferred (some [])) := (hE2.block _ (by omega)).trans hk
      have hi2 : I pre W2 := by rw [← hW2]; exact hI.alloc _ hi
      have hc2 : W2.heap[W.heap.size]? = some (.cells #[.int .i64 x.2.1, .int .i64 x.2.2] 78 (0, 0)) := by rw [← hW2]; exact World.alloc_heap_new _ _
      refine ⟨fn, _, assign, body, hy, roundIn_of_wpIn hfn (hassign _ x W _ ?_)⟩
      rw [hW2]
      refine ⟨_, run_beginRound hl2' (by rw [hrec]), ?_⟩
      have hlt2 : w.heap.size + 1 < W2.heap.size := blk_lt hl2'
      obtain ⟨W3, hW3⟩ : ∃ W3, W2.putObj (w.heap.size + 1) (.loop { rec .ready none with state := .busy }) = W3 := ⟨_, rfl⟩
      have hl3 : W3.heap[w.heap.size + 1]? = some (.loop { rec .ready none with state := .busy }) := by rw [← hW3]; exact World.putObj_heap_same hlt2
      have hk3 : W3.heap[w.heap.size]? = some (.deferred (some [])) := by rw [← hW3]; exact (World.putObj_heap_other (by omega)).trans hk2'
      have hc3 : W3.heap[W.heap.size]? = some (.cells #[.int .i64 x.2.1, .int .i64 x.2.2] 78 (0, 0)) := by rw [← hW3]; exact (World.putObj_heap_other (by omega)).trans hc2
      have hi3 : I pre W3 := by rw [← hW3]; exact hI.putObj _ hi2 (by omega) hl2' rfl
      have hn0 : w0.heap.size ≤ w.heap.size := hB0.size
      have hL3 : Below w0.heap.size W W3 := by rw [← hW3]; exact (hE2.mono (by omega)).trans (belowK_b (w := w) hn0 W2 _ _ _ (by omega) hl2' rfl rfl)
      have hA3 : W3.heap[bA]? = W.heap[bA]? := by rw [← hW3]; exact (World.putObj_heap_other (by omega)).trans (hE2.block _ (by omega))
      have hB3 : W3.heap[bB]? = W.heap[bB]? := by rw [← hW3]; exact (World.putObj_heap_other (by omega)).trans (hE2.block _ (by omega))
      show Code.wpIn _ _ _ _ _ _ _
      rw [show W2.putObj (w.heap.size + 1) (.loop { rec .ready none with state := .busy }) = W3 from hW3] 
      refine wpIn_mono (hbody _ pre x W.heap.size _ (by omega) hi3 ⟨va, hA3.trans hva⟩ ⟨vb, hB3.trans hvb⟩ hlen hc3) ?_
      rintro e a3 W4 ⟨rfl, hk4, hL4, hA4, hB4, hi4⟩
      have hl4 := hk4.same _ _ hl3 rfl
      have hr := run_endRound (P := Try.prog) none hl4
      rw [hrec] at hr
      refine ⟨_, _, hr, rfl, ⟨hI.putObj _ hi4 (by omega) hl4 rfl, ?_, ?_⟩, ?_, ?_, ?_⟩
      · rw [hrec]; exact World.putObj_heap_same (blk_lt hl4)
      · exact (World.putObj_heap_other (by omega)).trans (hk4.same _ _ hk3 rfl)
      · exact (hL3.trans hL4).trans (belowK_b (w := w) hn0 W4 _ _ _ (by omega) hl4 rfl rfl)
      · exact (World.putObj_heap_other (by omega)).trans (hA4.trans hA3)
      · exact (World.putObj_heap_other (by omega)).trans (hB4.trans hB3)
    · rintro e W2 ⟨⟨v, rfl⟩, hi, hl, hk⟩
      exact ⟨none, _, by have := run_endLoop (P := Try.prog) hl (by rw [hrec]; simp); rw [hrec] at this; exact this, hdone _ _ (Nat.le_refl _) (hI.putObj _ hi (by omega) hl rfl) ((World.putObj_heap_other (by omega)).trans hk)⟩
end Go.Proofs.Ytojnnfhalpefmaa.H
