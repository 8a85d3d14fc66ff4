/- Rest, Basis, Rank and Kernel of package column in the form in which the printed texts ask for them. -/
import Derived.Test.YtojnnfhalpefmaaKRest
set_option linter.unusedVariables false
namespace Go.Proofs.Ytojnnfhalpefmaa.M
open Go.RowKit Go.Proofs.YtojnnfhalpefmaaW.PrintWords
theorem clearL_mono (p : Int) (mp : Int → Option Int) (L U : List (List S45)) : ∀ (k : Nat) (c x : List S45) (i : Int), LeO (H.clearL p mp L U k c x i) (H.clearL p mp L U (k + 1) c x i) := by
  intro k
  induction k with
  | zero => intro c x i; exact LeO.none _
  | succ k ih =>
    intro c x i
    rw [H.clearL, H.clearL]
    refine LeO.ite (LeO.ite ?_ (LeO.none _)) (LeO.refl _)
    cases mp (rd_T45 c i).f0 with
    | none => exact ih _ _ _
    | some j => exact LeO.ite (LeO.bind (modp_Div.mono _ _ _ _) fun t => LeO.bind (LeO.refl _) fun c' => LeO.bind (LeO.refl _) fun x' => LeO.ite (ih _ _ _) (LeO.none _)) (LeO.none _)
theorem elimL_mono (p : Int) (k : Nat) : ∀ (l : List (List S45)) (j : Int) (s : H.St), LeO (H.elimL p k l j s) (H.elimL p (k + 1) l j s)
  | [], _, _ => LeO.refl _
  | c :: l, j, s => by
    rw [H.elimL, H.elimL]
    exact LeO.ite (LeO.bind (clearL_mono _ _ _ _ _ _ _ _) fun r => LeO.ite (elimL_mono p k l _ _) (LeO.ite (elimL_mono p k l _ _) (LeO.none _))) (LeO.none _)
theorem tidyL_mono (p : Int) (k : Nat) : ∀ (l : List (List S45)) (s : H.St), LeO (H.tidyL p k l s) (H.tidyL p (k + 1) l s)
  | [], _ => LeO.refl _
  | c :: l, s => by
    rw [H.tidyL, H.tidyL]
    exact LeO.ite (LeO.bind (clearL_mono _ _ _ _ _ _ _ _) fun r => LeO.ite (LeO.bind (modp_Inv.mono _ _ _) fun t => LeO.bind (LeO.refl _) fun d => LeO.ite (tidyL_mono p k l _) (LeO.none _)) (LeO.none _)) (LeO.none _)
theorem tidyF_mono (p : Int) (k : Nat) (l : List (List S45)) : LeO (H.tidyF p k l) (H.tidyF p (k + 1) l) := by
  unfold H.tidyF
  exact LeO.ite (tidyL_mono _ _ _ _) (LeO.none _)
def column_Basis.f (k : Nat) (a0 : Int) (l1 : List (List S45)) : Option (List (List S45) × Int) := H.basisF k a0 l1
theorem column_Basis.mono : ∀ a0 a1 k, LeO (column_Basis.f k a0 a1) (column_Basis.f (k + 1) a0 a1) := by
  intro a0 a1 k
  unfold column_Basis.f H.basisF
  exact LeO.bind (column_begin.mono _ _ _) fun e => LeO.ite (LeO.bind (elimL_mono _ _ _ _ _) fun s => LeO.bind (tidyF_mono _ _ _) fun r => LeO.refl _) (LeO.refl _)
theorem column_Basis.calls (k : Nat) (a0 : Int) (A1 : Option Addr) (c1 : Nat) (l1 : List (List S45)) (r1 : List (List S45)) (r2 : Int) (w : World) (hr1 : Kd.C (Kd.slice 45 k45) w A1 l1.length l1) (hc1 : l1.length ≤ c1) (h : column_Basis.f k a0 l1 = some (r1, r2)) :
    Calls Try.prog 38 #[.int .i64 a0, .slice A1 l1.length c1] w fun e w' => ∃ v0_ : Value, e = .returned (.tuple #[v0_, .int .i64 r2]) ∧ Kd.S (Kd.slice 45 k45) 22 w' w.heap.size (fun _ => True) v0_ r1 ∧ Below w.heap.size w w' :=
  H.basis_calls k a0 A1 c1 l1 r1 r2 w hr1 hc1 h
def column_Kernel.f (k : Nat) (a0 : Int) (l1 : List (List S45)) : Option (List (List S45) × Int) := H.kernelF k a0 l1
theorem column_Kernel.mono : ∀ a0 a1 k, LeO (column_Kernel.f k a0 a1) (column_Kernel.f (k + 1) a0 a1) := by
  intro a0 a1 k
  unfold column_Kernel.f H.kernelF
  exact LeO.bind (column_begin.mono _ _ _) fun e => LeO.ite (LeO.bind (elimL_mono _ _ _ _ _) fun s => LeO.bind (tidyF_mono _ _ _) fun r => LeO.refl _) (LeO.refl _)
theorem column_Kernel.calls (k : Nat) (a0 : Int) (A1 : Option Addr) (c1 : Nat) (l1 : List (List S45)) (r1 : List (List S45)) (r2 : Int) (w : World) (hr1 : Kd.C (Kd.slice 45 k45) w A1 l1.length l1) (hc1 : l1.length ≤ c1) (h : column_Kernel.f k a0 l1 = some (r1, r2)) :
    Calls Try.prog 48 #[.int .i64 a0, .slice A1 l1.length c1] w fun e w' => ∃ v0_ : Value, e = .returned (.tuple #[v0_, .int .i64 r2]) ∧ Kd.S (Kd.slice 45 k45) 22 w' w.heap.size (fun _ => True) v0_ r1 ∧ Below w.heap.size w w' :=
  H.kernel_calls k a0 A1 c1 l1 r1 r2 w hr1 hc1 h
def column_Rank.f (k : Nat) (a0 : Int) (l1 : List (List S45)) : Option (Int × Int) := H.rankF k a0 l1
theorem column_Rank.mono : ∀ a0 a1 k, LeO (column_Rank.f k a0 a1) (column_Rank.f (k + 1) a0 a1) := by
  intro a0 a1 k
  unfold column_Rank.f H.rankF
  exact LeO.bind (column_begin.mono _ _ _) fun e => LeO.ite (LeO.bind (elimL_mono _ _ _ _ _) fun s => LeO.refl _) (LeO.refl _)
theorem column_Rank.calls (k : Nat) (a0 : Int) (A1 : Option Addr) (c1 : Nat) (l1 : List (List S45)) (r1 : Int) (r2 : Int) (w : World) (hr1 : Kd.C (Kd.slice 45 k45) w A1 l1.length l1) (hc1 : l1.length ≤ c1) (h : column_Rank.f k a0 l1 = some (r1, r2)) :
    Calls Try.prog 39 #[.int .i64 a0, .slice A1 l1.length c1] w fun e w' => e = .returned (.tuple #[.int .i64 r1, .int .i64 r2]) ∧ Below w.heap.size w w' :=
  H.rank_calls k a0 A1 c1 l1 r1 r2 w hr1 hc1 h
def column_Rest.f (k : Nat) (a0 : Int) (l1 : List (List S45)) (l2 : List S45) : Option (List S45 × List S45 × Int) := H.restF k a0 l1 l2
theorem column_Rest.mono : ∀ a0 a1 a2 k, LeO (column_Rest.f k a0 a1 a2) (column_Rest.f (k + 1) a0 a1 a2) := by
  intro a0 a1 a2 k
  unfold column_Rest.f H.restF
  refine LeO.ite (LeO.refl _) (LeO.bind (column_checkAll.mono _ _ _) fun e1 => LeO.ite (LeO.bind (column_Check.mono _ _ _) fun e2 => LeO.ite (LeO.bind (LeO.refl _) fun q => LeO.ite ?_ (LeO.refl _)) (LeO.refl _)) (LeO.refl _))
  unfold H.restEnd
  exact LeO.ite (LeO.bind (clearL_mono _ _ _ _ _ _ _ _) fun r => LeO.refl _) (LeO.none _)
theorem column_Rest.calls (k : Nat) (a0 : Int) (A1 : Option Addr) (c1 : Nat) (l1 : List (List S45)) (A2 : Option Addr) (c2 : Nat) (l2 : List S45) (r1 : List S45) (r2 : List S45) (r3 : Int) (w : World) (hr1 : Kd.C (Kd.slice 45 k45) w A1 l1.length l1) (hc1 : l1.length ≤ c1) (hr2 : Kd.C k45 w A2 l2.length l2) (hc2 : l2.length ≤ c2) (h : column_Rest.f k a0 l1 l2 = some (r1, r2, r3)) :
    Calls Try.prog 45 #[.int .i64 a0, .slice A1 l1.length c1, .slice A2 l2.length c2] w fun e w' => ∃ v0_ v1_ : Value, e = .returned (.tuple #[v0_, v1_, .int .i64 r3]) ∧ Kd.R k45 45 w' w.heap.size (fun k_ => some k_ ≠ (v1_ : Value).ownBlock) v0_ r1 ∧ Kd.R k45 45 w' w.heap.size (fun k_ => some k_ ≠ (v0_ : Value).ownBlock) v1_ r2 ∧ Below w.heap.size w w' :=
  H.rest_calls k a0 A1 c1 l1 A2 c2 l2 r1 r2 r3 w hr1 hc1 hr2 hc2 h
end Go.Proofs.Ytojnnfhalpefmaa.M
