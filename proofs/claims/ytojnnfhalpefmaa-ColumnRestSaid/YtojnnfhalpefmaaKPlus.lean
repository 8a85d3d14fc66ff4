/- plus of package column, walked by hand. -/
import Derived.Test.YtojnnfhalpefmaaKRange
import Derived.Maps.AppendAt
namespace Go.Proofs.Ytojnnfhalpefmaa.H
open Go.RowKit Go.Shelf Go.Proofs.YtojnnfhalpefmaaW.PrintWords Go.Proofs.YtojnnfhalpefmaaW.PrintLast Go.Proofs.YtojnnfhalpefmaaW.PrintMore Go.Proofs.Ytojnnfhalpefmaa.M
set_option linter.unusedVariables false
attribute [local go_sem] Oper.semAt_some
/-- One row of a sum. -/
def stepP (p k : Int) (x : Int × Int × Int) : Option S45 :=
  let v := Int.tmod (wrap64 (x.2.1 + wrap64 (k * x.2.2))) p
  if v = 0 then none else some ⟨x.1, v⟩
def plusL (p k : Int) (l : List (Int × Int × Int)) : List S45 := l.filterMap (stepP p k)
def flatT (l : List S45) : List Value := l.flatMap fun t => [.int .i64 t.f0, .int .i64 t.f1]
theorem plusL_hit {p k : Int} (pre : List (Int × Int × Int)) {x : Int × Int × Int} {v : Int} (hv : Int.tmod (wrap64 (x.2.1 + wrap64 (k * x.2.2))) p = v) (h : v ≠ 0) : plusL p k (pre ++ [x]) = plusL p k pre ++ [⟨x.1, v⟩] := by
  simp [plusL, stepP, hv, h]
theorem plusL_miss {p k : Int} (pre : List (Int × Int × Int)) {x : Int × Int × Int} (hv : Int.tmod (wrap64 (x.2.1 + wrap64 (k * x.2.2))) p = 0) : plusL p k (pre ++ [x]) = plusL p k pre := by
  simp [plusL, stepP, hv]
theorem flatT_snoc (l : List S45) (t : S45) : flatT (l ++ [t]) = flatT l ++ [.int .i64 t.f0, .int .i64 t.f1] := by simp [flatT]
theorem merge_len : ∀ (a b : List S45), (merge a b).length ≤ a.length + b.length := by
  intro a b
  fun_induction merge a b <;> simp only [List.length_cons, List.length_nil] at * <;> omega
theorem plusL_len (p k : Int) (l : List (Int × Int × Int)) : (plusL p k l).length ≤ l.length := List.length_filterMap_le _ _
theorem flatT_reps' (w : World) (base : Nat) (ok : Nat → Prop) : ∀ (l acc : List S45) (cs : List Value), Reps (k45.M w base ok) 2 acc cs → Reps (k45.M w base ok) 2 (acc ++ l) (cs ++ flatT l)
  | [], acc, cs, h => by simpa [flatT] using h
  | t :: l, acc, cs, h => by
    have := flatT_reps' w base ok l (acc ++ [t]) (cs ++ [.int .i64 t.f0, .int .i64 t.f1]) (h.snoc (k45_mkM w base ok t) rfl)
    simpa [flatT] using this
theorem flatT_reps (w : World) (base : Nat) (ok : Nat → Prop) (l : List S45) : Reps (k45.M w base ok) 2 l (flatT l) := by
  simpa using flatT_reps' w base ok l [] [] (Reps.none _ _)
theorem cell_two_new (W : World) (u v : Value) (t : TypeId) : ∀ (j : Nat) (x : Value), [u, v][j]? = some x → (W.alloc (.cells #[u, v] t)).cell? ((⟨W.heap.size, 0, none⟩ : Addr).add j) = some x := by
  have hb : (W.alloc (.cells #[u, v] t)).heap[W.heap.size]? = some (.cells #[u, v] t (0, 0)) := World.alloc_heap_new _ _
  intro j x hx
  match j with
  | 0 => rw [show (⟨W.heap.size, 0, none⟩ : Addr).add 0 = ⟨W.heap.size, 0, none⟩ from rfl, blk_cell hb 0]; simpa using hx
  | 1 => rw [show (⟨W.heap.size, 0, none⟩ : Addr).add 1 = ⟨W.heap.size, 1, none⟩ from rfl, blk_cell hb 1]; simpa using hx
  | j + 2 => simp at hx
theorem far_grown {W w1 : World} {tmp : Obj} {row : Option Nat} (hg : (W.alloc tmp).grownBy w1 row) {b B : Nat} {v' : Value} (hb : b < W.heap.size) (hne : ¬ row = some b) (hB : b ≠ B) : (w1.setCell ⟨B, 0, none⟩ v').heap[b]? = W.heap[b]? :=
  (Below.heap_setCell w1 _ v' b hB).trans ((hg.block b (by simp; omega) (fun e => hne e.symm)).trans (Below.heap_alloc W tmp b hb))
/-- merged: the two slices are boxed. -/
theorem merged_in (n : Nat) (A B : Option Addr) (la lb ca cb : Nat) (w : World) :
    CallsIn Fence.wide n Try.prog 60 #[.slice A la ca, .slice B lb cb] w fun e w' => e = .returned (.func (.func 77) #[] #[.pointer (some ⟨w.heap.size, 0, none⟩), .pointer (some ⟨w.heap.size + 1, 0, none⟩)]) ∧
      w' = (w.alloc (.cells #[.slice A la ca] 22)).alloc (.cells #[.slice B lb cb] 22) := by
  refine callsIn_of_wp Try.func60 rfl trivial ?_ rfl
  simp only [Try.ntmps60, List.size_toArray, List.length_cons, List.length_nil, Nat.reduceAdd, Nat.reduceSub, Array.replicate_succ, Array.replicate_zero, List.push_toArray, List.append_toArray, List.nil_append, List.cons_append]
  gi_wp2
  go_ret
  exact ⟨rfl, rfl⟩

set_option maxRecDepth 100000 in
set_option maxHeartbeats 4000000 in
theorem plus_calls (p k : Int) (a b : List S45) (A B : Option Addr) (ca cb : Nat) (w : World) (hCa : k45.C w A a.length a) (hca : a.length ≤ ca) (hCb : k45.C w B b.length b) (hcb : b.length ≤ cb) (hp : p ≠ 0) (hlen : a.length + b.length < 8796093022208) :
    CallsIn Fence.wide 6 Try.prog 57 #[.int .i64 p, .slice A a.length ca, .int .i64 k, .slice B b.length cb] w fun e W' => ∃ v, e = .returned v ∧ W'.ownsRow w.heap.size 45 2 v (plusL p k (merge a b)).length (flatT (plusL p k (merge a b))) ∧ Below w.heap.size w W' := by
  obtain ⟨i0, hi, hz0, hz1, hz2⟩ := info_parts info45
  refine callsIn_of_wp_marks Try.func57 rfl trivial ?_ rfl
  simp only [Try.ntmps57, List.size_toArray, List.length_cons, List.length_nil, Nat.reduceAdd, Nat.reduceSub, Array.replicate_succ, Array.replicate_zero, List.push_toArray, List.append_toArray, List.nil_append, List.cons_append]
  gi_wp2_with (refine ⟨trivial, ?_⟩; gi_at_call 60; refine (merged_in _ _ _ _ _ _ _ _).mono ?_; rintro e w' ⟨rfl, rfl⟩)
  obtain ⟨n0, hn0⟩ : ∃ n0, w.heap.size = n0 := ⟨_, rfl⟩
  obtain ⟨w5, hw5⟩ : ∃ w5, ((((w.alloc (.cells #[.int .i64 p] 3)).alloc (.cells #[.int .i64 k] 3)).alloc (.cells #[.slice none 0 0] 22)).alloc (.cells #[.slice A a.length ca] 22)).alloc (.cells #[.slice B b.length cb] 22) = w5 := ⟨_, rfl⟩
  have bP : Boxed w5 n0 3 (.int .i64 p) := by rw [← hw5, ← hn0]; exact ((((Boxed.new w 3 _).alloc _).alloc _).alloc _).alloc _
  have bK : Boxed w5 (n0 + 1) 3 (.int .i64 k) := by
    have h := Boxed.new (w.alloc (.cells #[.int .i64 p] 3)) 3 (.int .i64 k)
    rw [World.size_alloc, hn0] at h
    rw [← hw5]; exact ((h.alloc _).alloc _).alloc _
  have bO : Boxed w5 (n0 + 1 + 1) 22 (.slice none 0 0) := by
    have h := Boxed.new ((w.alloc (.cells #[.int .i64 p] 3)).alloc (.cells #[.int .i64 k] 3)) 22 (.slice none 0 0)
    rw [World.size_alloc, World.size_alloc, hn0] at h
    rw [← hw5]; exact (h.alloc _).alloc _
  have bA : Boxed w5 (n0 + 1 + 1 + 1) 22 (.slice A a.length ca) := by
    have h := Boxed.new (((w.alloc (.cells #[.int .i64 p] 3)).alloc (.cells #[.int .i64 k] 3)).alloc (.cells #[.slice none 0 0] 22)) 22 (.slice A a.length ca)
    rw [World.size_alloc, World.size_alloc, World.size_alloc, hn0] at h
    rw [← hw5]; exact h.alloc _
  have bB : Boxed w5 (n0 + 1 + 1 + 1 + 1) 22 (.slice B b.length cb) := by
    have h := Boxed.new ((((w.alloc (.cells #[.int .i64 p] 3)).alloc (.cells #[.int .i64 k] 3)).alloc (.cells #[.slice none 0 0] 22)).alloc (.cells #[.slice A a.length ca] 22)) 22 (.slice B b.length cb)
    rw [World.size_alloc, World.size_alloc, World.size_alloc, World.size_alloc, hn0] at h
    rw [← hw5]; exact h
  have hs5 : w5.heap.size = n0 + 5 := by rw [← hw5]; simp [hn0]
  have hB5 : Below w.heap.size w w5 := by
    rw [← hw5]
    exact ((((((Below.refl _ w).alloc (Nat.le_refl _) _).alloc (by simp) _).alloc (by simp; omega) _).alloc (by simp; omega) _).alloc (by simp; omega) _)
  simp only [hn0]
  rw [hw5]
  refine rangeMerged (by omega) (bA := n0 + 1 + 1 + 1) (bB := n0 + 1 + 1 + 1 + 1) rfl rfl hCa hca hCb hcb (by omega) hB5 bA bB (by omega) (by omega)
    (fun pre W => (∃ v, Boxed W (n0 + 1 + 1) 22 v ∧ W.ownsRow n0 45 2 v (plusL p k pre).length (flatT (plusL p k pre)) ∧ v.ownBlock ≠ some (n0 + 1 + 1 + 1) ∧ v.ownBlock ≠ some (n0 + 1 + 1 + 1 + 1)) ∧ Boxed W n0 3 (.int .i64 p) ∧ Boxed W (n0 + 1) 3 (.int .i64 k) ∧ Below w.heap.size w W)
    (OwnFrom.and (Own.from (holdsRow_own n0 (n0 + 1 + 1) 22 45 2 (fun pre => (plusL p k pre).length) (fun pre => flatT (plusL p k pre)) (fun pre v => v.ownBlock ≠ some (n0 + 1 + 1 + 1) ∧ v.ownBlock ≠ some (n0 + 1 + 1 + 1 + 1))) _)
      (OwnFrom.and (Own.from (boxed_own _ _ _) _) (OwnFrom.and (Own.from (boxed_own _ _ _) _) (ownFrom_below (Nat.le_refl _) hB5.size))))
    ?hE ?h0
    (fun x g => { tmps := #[.int .i64 p, .slice A a.length ca, .int .i64 k, .slice B b.length cb, .pointer (some ⟨n0, 0, none⟩), undef, .pointer (some ⟨n0 + 1, 0, none⟩), undef, .slice none 0 0, .pointer (some ⟨n0 + 1 + 1, 0, none⟩), .int .i64 x.1, .pointer (some ⟨g, 0, none⟩), undef,
      .slice A a.length ca, .slice B b.length cb, .func (.func 77) #[] #[.pointer (some ⟨n0 + 1 + 1 + 1, 0, none⟩), .pointer (some ⟨n0 + 1 + 1 + 1 + 1, 0, none⟩)], .int .i64 x.1, .agg #[.int .i64 x.2.1, .int .i64 x.2.2], undef, undef, undef, undef, undef, undef, undef, undef, undef, undef, undef, undef, undef, undef, undef, undef, undef, undef], defers := [] }) ?assign ?body ?done
  case hE =>
    rintro pre W W' ⟨⟨v, hv, hrow, hnA, hnB⟩, hP, hK, hB⟩ hEl
    refine ⟨⟨v, (hEl.block _ hv.lt (by omega) (by omega)).trans hv, own_move hrow (fun g hg => hEl.block g ?_ (by rintro rfl; exact hnA hg) (by rintro rfl; exact hnB hg)), hnA, hnB⟩, (hEl.block _ hP.lt (by omega) (by omega)).trans hP, (hEl.block _ hK.lt (by omega) (by omega)).trans hK, ?_⟩
    · obtain ⟨cs, hcs⟩ := own_typed hrow g hg
      exact blk_lt hcs
    · exact ⟨hEl.os.trans hB.os, hEl.tape.trans hB.tape, hEl.output.trans hB.output, Nat.le_trans hB.size hEl.size, fun i hi => (hEl.block i (Nat.lt_of_lt_of_le hi hB.size) (by omega) (by omega)).trans (hB.block i hi)⟩
  case h0 => exact ⟨⟨_, bO, World.ownsRow_nil _ _ _ _, by simp [Value.ownBlock], by simp [Value.ownBlock]⟩, bP, bK, hB5⟩
  case assign =>
    intro l x W K hK
    simp only [encT]
    gi_wp2
    exact hK
  case body =>
    rintro l pre x gc W hgc ⟨⟨v, hv, hrow, hnA, hnB⟩, hP, hK, hB⟩ ⟨va, hva⟩ ⟨vb, hvb⟩ hlt hgcc
    have hc := hv.cell
    have cP := hP.cell
    have cK := hK.cell
    have c0 := blk_cell hgcc 0
    have c1 := blk_cell hgcc 1
    simp only [List.getElem?_toArray, List.getElem?_cons_zero, List.getElem?_cons_succ] at c0 c1
    have hpl := plusL_len p k pre
    have hml := merge_len a b
    have hbs := hB.size
    obtain ⟨r, hr⟩ : ∃ r, Int.tmod (wrap64 (x.2.1 + wrap64 (k * x.2.2))) p = r := ⟨_, rfl⟩
    by_cases h0 : r = 0
    · have h0b : (r != 0) = false := by simp [h0]
      have H0 := Aside0.mk h0
      gi_wp2
      have hq : plusL p k (pre ++ [x]) = plusL p k pre := plusL_miss pre (hr.trans H0.out)
      refine ⟨KeepsOthers.refl _, Below.refl _ _, ⟨v, hv, by rw [hq]; exact hrow, hnA, hnB⟩, by rw [hn0] at hB; exact hB⟩
    · have h0b : (r != 0) = true := by simp [h0]
      have H0 := Aside0.mk h0
      gi_wp2_with (gi_at_builtin; refine wpListIn_append_own _ rfl _ _ 22 rfl n0 45 i0 (.agg #[.int .i64 0, .int .i64 0]) 2 16 Try.underlying22 hi hz0 hz1 hz2 rfl (by decide) _ _ _ rfl (hrow.alloc _) ⟨W.heap.size, 0, none⟩ 1 1 [.int .i64 x.1, .int .i64 r] rfl rfl (cell_two_new _ _ _ _) (by simp [Value.oneCell']) (by simp only [maxLen]; omega) (by omega) (by simp; omega) ?_; intro v' w1 hown' hgrow _; obtain ⟨g', cap', rfl⟩ := ownsRow_succ hown'; obtain ⟨hv1, hv2, hr2, hk2, hb2⟩ := hv.appended (by decide) hrow (by omega) (by omega) hown' hgrow; have hc1 := hv1.cell; have hf1 := hv1.frozen)
      have hq : plusL p k (pre ++ [x]) = plusL p k pre ++ [⟨x.1, r⟩] := plusL_hit pre hr H0.out
      have fA := far_grown hgrow (B := n0 + 1 + 1) (v' := .slice (some ⟨g', 0, none⟩) ((plusL p k pre).length + 1) cap') hva.lt hnA (by omega)
      have fB := far_grown hgrow (B := n0 + 1 + 1) (v' := .slice (some ⟨g', 0, none⟩) ((plusL p k pre).length + 1) cap') hvb.lt hnB (by omega)
      have fP := far_grown hgrow (B := n0 + 1 + 1) (v' := .slice (some ⟨g', 0, none⟩) ((plusL p k pre).length + 1) cap') hP.lt (fun e => hP.not_row (by decide) hrow e.symm) (by omega)
      have fK := far_grown hgrow (B := n0 + 1 + 1) (v' := .slice (some ⟨g', 0, none⟩) ((plusL p k pre).length + 1) cap') hK.lt (fun e => hK.not_row (by decide) hrow e.symm) (by omega)
      obtain ⟨cs, hcs⟩ := own_typed hr2 g' rfl
      have nA : g' ≠ n0 + 1 + 1 + 1 := blk_ne hcs (fA.trans hva) (by decide)
      have nB : g' ≠ n0 + 1 + 1 + 1 + 1 := blk_ne hcs (fB.trans hvb) (by decide)
      refine ⟨fA, fB, ⟨_, hv2, by rw [hq, flatT_snoc, List.length_append]; exact hr2, by simpa [Value.ownBlock] using nA, by simpa [Value.ownBlock] using nB⟩, fP.trans hP, fK.trans hK, ?_⟩
      rw [hn0] at hB
      exact hB.trans hb2
  case done =>
    rintro D W hD ⟨⟨v, hv, hrow, hnA, hnB⟩, hP, hK, hB⟩ hKD
    have hc := hv.cell
    gi_wp2
    refine ⟨by simp, .inl ⟨_, _, rfl, run_takeDeferred hKD, ?_⟩⟩
    refine ⟨_, results_tmp rfl _ _ _, v, rfl, ?_, hB.trans (belowK_b (w := w) (Nat.le_refl _) W D _ _ (by omega) hKD rfl rfl)⟩
    rw [hn0]
    exact ownsRow_putObj hrow _ hKD rfl
end Go.Proofs.Ytojnnfhalpefmaa.H
