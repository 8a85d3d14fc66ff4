/- Dot of package column, walked by hand. -/
import Derived.Test.YtojnnfhalpefmaaKPlus
import Derived.Test.YtojnnfhalpefmaaMx3
namespace Go.Proofs.Ytojnnfhalpefmaa.H
open Go.RowKit Go.Shelf Go.Proofs.YtojnnfhalpefmaaW.PrintWords Go.Proofs.YtojnnfhalpefmaaW.PrintLast Go.Proofs.YtojnnfhalpefmaaW.PrintMore Go.Proofs.Ytojnnfhalpefmaa.M
set_option linter.unusedVariables false
attribute [local go_sem] Oper.semAt_some
def dotStep (p s : Int) (x : Int × Int × Int) : Int := Int.tmod (wrap64 (s + wrap64 (x.2.1 * x.2.2))) p
def dotL (p : Int) (l : List (Int × Int × Int)) : Int := l.foldl (dotStep p) 0
theorem dotL_snoc (p : Int) (pre : List (Int × Int × Int)) (x : Int × Int × Int) : dotL p (pre ++ [x]) = dotStep p (dotL p pre) x := by simp [dotL]
def dotF (k : Nat) (p : Int) (a b : List S45) : Option (Int × Int) :=
  (column_checkAll.f k p [a, b]).bind fun e => if e = 0 then (if p = 0 then none else some (dotL p (merge a b), 0)) else some (0, e)
/-- The list of two slices, laid by the call. -/
theorem two_lists {W : World} {A B : Option Addr} {a b : List S45} {ca cb : Nat} (hCa : k45.C W A a.length a) (hca : a.length ≤ ca) (hCb : k45.C W B b.length b) (hcb : b.length ≤ cb) :
    (Kd.slice 45 k45).C (W.alloc (.cells #[.slice A a.length ca, .slice B b.length cb] 22)) (some ⟨W.heap.size, 0, none⟩) [a, b].length [a, b] := by
  have hB : Below W.heap.size W (W.alloc (.cells #[.slice A a.length ca, .slice B b.length cb] 22)) := (Below.refl _ W).alloc (Nat.le_refl _) _
  refine ⟨rfl, by simp, fun _ => ⟨_, rfl, fun j p hj => ?_⟩⟩
  match j with
  | 0 =>
    obtain rfl : a = p := by simpa using hj
    refine ⟨_, rfl, ⟨A, ca, rfl, hca, Kd.C_below hCa hB⟩, fun i u hu => ?_⟩
    obtain ⟨rfl, rfl⟩ : i = 0 ∧ u = .slice A a.length ca := by
      match i with
      | 0 => simpa using hu.symm
      | i + 1 => simp at hu
    exact cell_two_new W _ _ 22 0 _ rfl
  | 1 =>
    obtain rfl : b = p := by simpa using hj
    refine ⟨_, rfl, ⟨B, cb, rfl, hcb, Kd.C_below hCb hB⟩, fun i u hu => ?_⟩
    obtain ⟨rfl, rfl⟩ : i = 0 ∧ u = .slice B b.length cb := by
      match i with
      | 0 => simpa using hu.symm
      | i + 1 => simp at hu
    exact cell_two_new W _ _ 22 1 _ rfl
  | j + 2 => simp at hj

set_option maxRecDepth 100000 in
set_option maxHeartbeats 4000000 in
theorem dot_calls (kk : Nat) (p : Int) (a b : List S45) (A B : Option Addr) (ca cb : Nat) (w : World) (hCa : k45.C w A a.length a) (hca : a.length ≤ ca) (hCb : k45.C w B b.length b) (hcb : b.length ≤ cb) (r1 r2 : Int) (h : dotF kk p a b = some (r1, r2)) :
    CallsIn Fence.wide 6 Try.prog 18 #[.int .i64 p, .slice A a.length ca, .slice B b.length cb] w fun e W' => e = .returned (.tuple #[.int .i64 r1, .int .i64 r2]) ∧ Below w.heap.size w W' := by
  obtain ⟨e0, he0, h⟩ := Option.bind_eq_some_iff.1 h
  refine callsIn_of_wp_marks Try.func18 rfl trivial ?_ rfl
  simp only [Try.ntmps18, List.size_toArray, List.length_cons, List.length_nil, Nat.reduceAdd, Nat.reduceSub, Array.replicate_succ, Array.replicate_zero, List.push_toArray, List.append_toArray, List.nil_append, List.cons_append]
  have hCa1 := Kd.C_below hCa ((Below.refl w.heap.size w).alloc (Nat.le_refl _) (.cells #[.int .i64 p] 3))
  have hCb1 := Kd.C_below hCb ((Below.refl w.heap.size w).alloc (Nat.le_refl _) (.cells #[.int .i64 p] 3))
  have hC2 := two_lists hCa1 hca hCb1 hcb
  rw [World.size_alloc] at hC2
  have hb2 : Below w.heap.size w ((w.alloc (.cells #[.int .i64 p] 3)).alloc (.cells #[.slice A a.length ca, .slice B b.length cb] 22)) := ((Below.refl _ w).alloc (Nat.le_refl _) _).alloc (by simp) _
  by_cases he : e0 = 0
  · rw [if_pos he] at h
    subst he
    by_cases hp : p = 0
    · rw [if_pos hp] at h; cases h
    · rw [if_neg hp] at h
      cases h
      gi_wp2_with (first | (refine ⟨trivial, ?_⟩; gi_at_call 59; refine (callsIn_wide.2 (column_checkAll.calls kk p _ 2 [a, b] 0 _ hC2 (by simp) he0)).mono ?_; rintro e w3 ⟨rfl, hb3⟩; have hB3 : Below w.heap.size w w3 := hb2.trans (hb3.mono hb2.size); have bP3 : Boxed w3 w.heap.size 3 (.int .i64 p) := (hb3.block _ (by simp; omega)).trans ((Boxed.new w 3 (.int .i64 p)).alloc _)) | (refine ⟨trivial, ?_⟩; gi_at_call 60; refine (merged_in _ _ _ _ _ _ _ _).mono ?_; rintro e w' ⟨rfl, rfl⟩))
      obtain ⟨n3, hn3⟩ : ∃ n3, w3.heap.size = n3 := ⟨_, rfl⟩
      have hle : w.heap.size < n3 := by rw [← hn3]; exact bP3.lt
      obtain ⟨w6, hw6⟩ : ∃ w6, ((w3.alloc (.cells #[.int .i64 0] 3)).alloc (.cells #[.slice A a.length ca] 22)).alloc (.cells #[.slice B b.length cb] 22) = w6 := ⟨_, rfl⟩
      have bP : Boxed w6 w.heap.size 3 (.int .i64 p) := by rw [← hw6]; exact ((bP3.alloc _).alloc _).alloc _
      have bS : Boxed w6 n3 3 (.int .i64 0) := by rw [← hw6, ← hn3]; exact ((Boxed.new w3 3 _).alloc _).alloc _
      have bA : Boxed w6 (n3 + 1) 22 (.slice A a.length ca) := by
        have h := Boxed.new (w3.alloc (.cells #[.int .i64 0] 3)) 22 (.slice A a.length ca)
        rw [World.size_alloc, hn3] at h
        rw [← hw6]; exact h.alloc _
      have bB : Boxed w6 (n3 + 1 + 1) 22 (.slice B b.length cb) := by
        have h := Boxed.new ((w3.alloc (.cells #[.int .i64 0] 3)).alloc (.cells #[.slice A a.length ca] 22)) 22 (.slice B b.length cb)
        rw [World.size_alloc, World.size_alloc, hn3] at h
        rw [← hw6]; exact h
      have hs6 : w6.heap.size = n3 + 3 := by rw [← hw6]; simp [hn3]
      have hB6 : Below w.heap.size w w6 := by
        rw [← hw6]
        exact ((hB3.alloc hB3.size _).alloc (by simp; omega) _).alloc (by simp; omega) _
      simp only [hn3]
      rw [hw6]
      refine rangeMerged (by omega) (bA := n3 + 1) (bB := n3 + 1 + 1) rfl rfl hCa hca hCb hcb (by omega) hB6 bA bB (by omega) (by omega)
        (fun pre W => Boxed W n3 3 (.int .i64 (dotL p pre)) ∧ Boxed W w.heap.size 3 (.int .i64 p) ∧ Below w.heap.size w W)
        (OwnFrom.and (Own.from (boxed_own _ _ _) _) (OwnFrom.and (Own.from (boxed_own _ _ _) _) (ownFrom_below (Nat.le_refl _) hB6.size)))
        ?hE ?h0
        (fun x g => { tmps := #[.int .i64 p, .slice A a.length ca, .slice B b.length cb, .pointer (some ⟨w.heap.size, 0, none⟩), undef, undef, .int .i64 0, .int .i64 0, .int .i64 0, .pointer (some ⟨n3, 0, none⟩), undef, .pointer (some ⟨g, 0, none⟩), .int .i64 p, .slice A a.length ca, .slice B b.length cb,
          .slice (some ⟨w.heap.size + 1, 0, none⟩) 2 2, .int .i64 0, .int .i64 0, .bool false, undef, .slice A a.length ca, .slice B b.length cb, .func (.func 77) #[] #[.pointer (some ⟨n3 + 1, 0, none⟩), .pointer (some ⟨n3 + 1 + 1, 0, none⟩)], .int .i64 x.1, .agg #[.int .i64 x.2.1, .int .i64 x.2.2], undef, undef, undef, undef, undef, undef, undef, undef, undef, undef], defers := [] }) ?assign ?body ?done
      case hE =>
        rintro pre W W' ⟨hS, hP, hB⟩ hEl
        exact ⟨(hEl.block _ hS.lt (by omega) (by omega)).trans hS, (hEl.block _ hP.lt (by omega) (by omega)).trans hP,
          ⟨hEl.os.trans hB.os, hEl.tape.trans hB.tape, hEl.output.trans hB.output, Nat.le_trans hB.size hEl.size, fun i hi => (hEl.block i (Nat.lt_of_lt_of_le hi hB.size) (by omega) (by omega)).trans (hB.block i hi)⟩⟩
      case h0 => exact ⟨bS, bP, hB6⟩
      case assign =>
        intro l x W K hK
        simp only [encT]
        gi_wp2
        exact hK
      case body =>
        rintro l pre x gc W hgc ⟨hS, hP, hB⟩ ⟨va, hva⟩ ⟨vb, hvb⟩ hlt hgcc
        have cS := hS.cell
        have fS := hS.frozen
        have cP := hP.cell
        have c0 := blk_cell hgcc 0
        have c1 := blk_cell hgcc 1
        simp only [List.getElem?_toArray, List.getElem?_cons_zero, List.getElem?_cons_succ] at c0 c1
        gi_wp2
        exact ⟨KeepsOthers.setCell _ _ _, (Below.refl _ W).setCell (p := ⟨n3, 0, none⟩) (by show _ ≤ n3; omega) _, Below.heap_setCell W _ _ _ (by show n3 + 1 ≠ n3; omega), Below.heap_setCell W _ _ _ (by show n3 + 1 + 1 ≠ n3; omega),
          by rw [dotL_snoc]; exact hS.set _, hP.other (by omega) _, hB.setCell (p := ⟨n3, 0, none⟩) (by show _ ≤ n3; omega) _⟩
      case done =>
        rintro D W hD ⟨hS, hP, hB⟩ hKD
        have cS := hS.cell
        gi_wp2
        refine ⟨by simp, .inl ⟨_, _, rfl, run_takeDeferred hKD, ?_⟩⟩
        refine ⟨_, results_tmp2 rfl _ _ _, ?_⟩
        exact ⟨rfl, hB.trans (belowK_b (w := w) (Nat.le_refl _) W D _ _ (by omega) hKD rfl rfl)⟩
  · rw [if_neg he] at h
    obtain ⟨rfl, rfl⟩ : 0 = r1 ∧ e0 = r2 := by simpa using h
    have he1 : (e0 != 0) = true := by simp [he]
    gi_wp2_with (refine ⟨trivial, ?_⟩; gi_at_call 59; refine (callsIn_wide.2 (column_checkAll.calls kk p _ 2 [a, b] e0 _ hC2 (by simp) he0)).mono ?_; rintro e w3 ⟨rfl, hb3⟩)
    refine ⟨_, results_tmp2 rfl _ _ _, ?_⟩
    exact ⟨rfl, hb2.trans (hb3.mono hb2.size)⟩
end Go.Proofs.Ytojnnfhalpefmaa.H
