/- Basis, Rank and Kernel of package column, walked by hand. -/
import Derived.Test.YtojnnfhalpefmaaKTid
set_option linter.unusedVariables false
set_option linter.unusedSimpArgs false
namespace Go.Proofs.Ytojnnfhalpefmaa.H
open Go.RowKit Go.Proofs.YtojnnfhalpefmaaW.PrintWords Go.Proofs.YtojnnfhalpefmaaW.PrintLast Go.Proofs.YtojnnfhalpefmaaW.PrintMore Go.Proofs.Ytojnnfhalpefmaa.M
def st0 : St := ⟨fun _ => none, [], [], []⟩
def basisF (k : Nat) (p : Int) (l : List (List S45)) : Option (List (List S45) × Int) :=
  (column_begin.f k p l).bind fun e => if e = 0 then (elimL p k l 0 st0).bind fun s => (tidyF p k s.L).bind fun r => some (r, 0) else some ([], e)
def kernelF (k : Nat) (p : Int) (l : List (List S45)) : Option (List (List S45) × Int) :=
  (column_begin.f k p l).bind fun e => if e = 0 then (elimL p k l 0 st0).bind fun s => (tidyF p k s.Z).bind fun r => some (r, 0) else some ([], e)
def rankF (k : Nat) (p : Int) (l : List (List S45)) : Option (Int × Int) :=
  (column_begin.f k p l).bind fun e => if e = 0 then (elimL p k l 0 st0).bind fun s => some ((s.L.length : Int), 0) else some (0, e)
theorem L2_nil (W : World) (base : Nat) : Kd.S (Kd.slice 45 k45) 22 W base (fun _ => True) (.slice none 0 0) [] := Kd.S_nil _ _ _ _ _
set_option maxHeartbeats 8000000 in
set_option maxRecDepth 100000 in
theorem basis_calls (k : Nat) (p : Int) (A : Option Addr) (cl : Nat) (l : List (List S45)) (r1 : List (List S45)) (r2 : Int) (w : World) (hC : (Kd.slice 45 k45).C w A l.length l) (hcl : l.length ≤ cl) (h : basisF k p l = some (r1, r2)) :
    Calls Try.prog 38 #[.int .i64 p, .slice A l.length cl] w fun e w' => ∃ v, e = .returned (.tuple #[v, .int .i64 r2]) ∧ Kd.S (Kd.slice 45 k45) 22 w' w.heap.size (fun _ => True) v r1 ∧ Below w.heap.size w w' := by
  unfold basisF at h
  obtain ⟨eb, hb, h⟩ := Option.bind_eq_some_iff.1 h
  by_cases he : eb = 0
  · rw [if_pos he] at h
    subst he
    obtain ⟨s, hs, h⟩ := Option.bind_eq_some_iff.1 h
    obtain ⟨t, ht, h⟩ := Option.bind_eq_some_iff.1 h
    cases h
    go_enter Try.func38, Try.ntmps38
    go_wp2_with (first | (go_at_call 65; refine (column_begin.calls k p A cl l 0 _ hC hcl hb).mono ?_; rintro e w1 ⟨rfl, hb1⟩) | (go_at_call 66; refine (elim_calls k p A cl l s _ (Kd.C_below hC hb1) hcl hs).mono ?_; rintro e w2 ⟨gv, vz, S, rfl, hP, hZ, st2⟩; obtain ⟨gm, vl, vu, g1, hl1⟩ := hP.open; have q2 := blk_cell g1 2; simp only [List.getElem?_toArray, List.getElem?_cons_zero, List.getElem?_cons_succ] at q2; obtain ⟨A2, c2, rfl, hc2, hC2⟩ := own_C hl1) | (go_at_call 67; refine (tidy_rows k p A2 c2 s.L r1 _ hC2 hc2 ht).mono ?_; rintro e w3 ⟨v, rfl, hR, hb3⟩))
    go_ret2
    have b2 : Below w.heap.size w w2 := hb1.trans (st2.below.mono hb1.size)
    exact ⟨_, rfl, Kd.S_lower hR b2.size, b2.trans (hb3.mono b2.size)⟩
  · rw [if_neg he] at h
    have heb : (eb != 0) = true := by simp [he]
    cases h
    clear he
    go_enter Try.func38, Try.ntmps38
    go_wp2_with (first | (go_at_call 65; refine (column_begin.calls k p A cl l r2 _ hC hcl hb).mono ?_; rintro e w1 ⟨rfl, hb1⟩))
    go_ret2
    exact ⟨_, rfl, L2_nil _ _, hb1⟩
set_option maxHeartbeats 8000000 in
set_option maxRecDepth 100000 in
theorem kernel_calls (k : Nat) (p : Int) (A : Option Addr) (cl : Nat) (l : List (List S45)) (r1 : List (List S45)) (r2 : Int) (w : World) (hC : (Kd.slice 45 k45).C w A l.length l) (hcl : l.length ≤ cl) (h : kernelF k p l = some (r1, r2)) :
    Calls Try.prog 48 #[.int .i64 p, .slice A l.length cl] w fun e w' => ∃ v, e = .returned (.tuple #[v, .int .i64 r2]) ∧ Kd.S (Kd.slice 45 k45) 22 w' w.heap.size (fun _ => True) v r1 ∧ Below w.heap.size w w' := by
  unfold kernelF at h
  obtain ⟨eb, hb, h⟩ := Option.bind_eq_some_iff.1 h
  by_cases he : eb = 0
  · rw [if_pos he] at h
    subst he
    obtain ⟨s, hs, h⟩ := Option.bind_eq_some_iff.1 h
    obtain ⟨t, ht, h⟩ := Option.bind_eq_some_iff.1 h
    cases h
    go_enter Try.func48, Try.ntmps48
    go_wp2_with (first | (go_at_call 65; refine (column_begin.calls k p A cl l 0 _ hC hcl hb).mono ?_; rintro e w1 ⟨rfl, hb1⟩) | (go_at_call 66; refine (elim_calls k p A cl l s _ (Kd.C_below hC hb1) hcl hs).mono ?_; rintro e w2 ⟨gv, vz, S, rfl, hP, hZ, st2⟩; clear hP; obtain ⟨A2, c2, rfl, hc2, hC2⟩ := own_C hZ) | (go_at_call 67; refine (tidy_rows k p A2 c2 s.Z r1 _ hC2 hc2 ht).mono ?_; rintro e w3 ⟨v, rfl, hR, hb3⟩))
    go_ret2
    have b2 : Below w.heap.size w w2 := hb1.trans (st2.below.mono hb1.size)
    exact ⟨_, rfl, Kd.S_lower hR b2.size, b2.trans (hb3.mono b2.size)⟩
  · rw [if_neg he] at h
    have heb : (eb != 0) = true := by simp [he]
    cases h
    clear he
    go_enter Try.func48, Try.ntmps48
    go_wp2_with (first | (go_at_call 65; refine (column_begin.calls k p A cl l r2 _ hC hcl hb).mono ?_; rintro e w1 ⟨rfl, hb1⟩))
    go_ret2
    exact ⟨_, rfl, L2_nil _ _, hb1⟩
set_option maxHeartbeats 8000000 in
set_option maxRecDepth 100000 in
theorem rank_calls (k : Nat) (p : Int) (A : Option Addr) (cl : Nat) (l : List (List S45)) (r1 : Int) (r2 : Int) (w : World) (hC : (Kd.slice 45 k45).C w A l.length l) (hcl : l.length ≤ cl) (h : rankF k p l = some (r1, r2)) :
    Calls Try.prog 39 #[.int .i64 p, .slice A l.length cl] w fun e w' => e = .returned (.tuple #[.int .i64 r1, .int .i64 r2]) ∧ Below w.heap.size w w' := by
  unfold rankF at h
  obtain ⟨eb, hb, h⟩ := Option.bind_eq_some_iff.1 h
  by_cases he : eb = 0
  · rw [if_pos he] at h
    subst he
    obtain ⟨s, hs, h⟩ := Option.bind_eq_some_iff.1 h
    cases h
    go_enter Try.func39, Try.ntmps39
    go_wp2_with (first | (go_at_call 65; refine (column_begin.calls k p A cl l 0 _ hC hcl hb).mono ?_; rintro e w1 ⟨rfl, hb1⟩) | (go_at_call 66; refine (elim_calls k p A cl l s _ (Kd.C_below hC hb1) hcl hs).mono ?_; rintro e w2 ⟨gv, vz, S, rfl, hP, hZ, st2⟩; obtain ⟨gm, vl, vu, g1, hl1⟩ := hP.open; have q2 := blk_cell g1 2; simp only [List.getElem?_toArray, List.getElem?_cons_zero, List.getElem?_cons_succ] at q2; obtain ⟨A2, c2, rfl, hc2, hC2⟩ := own_C hl1))
    go_ret2
    exact ⟨rfl, hb1.trans (st2.below.mono hb1.size)⟩
  · rw [if_neg he] at h
    have heb : (eb != 0) = true := by simp [he]
    cases h
    clear he
    go_enter Try.func39, Try.ntmps39
    go_wp2_with (first | (go_at_call 65; refine (column_begin.calls k p A cl l r2 _ hC hcl hb).mono ?_; rintro e w1 ⟨rfl, hb1⟩))
    go_ret2
    exact ⟨rfl, hb1⟩
end Go.Proofs.Ytojnnfhalpefmaa.H
