/- A part of the proof: texts of this seat joined (printed and by hand), without what is not used. -/
import Derived.Test.YtojnnfhalpefmaaBExa10
set_option linter.unusedVariables false
set_option linter.unusedSimpArgs false
set_option linter.unusedSectionVars false
section
namespace Go.Proofs.Ytojnnfhalpefmaa.M
open Go.RowKit Go.Proofs.YtojnnfhalpefmaaW.PrintWords Go.Proofs.YtojnnfhalpefmaaW.PrintLast Go.Proofs.YtojnnfhalpefmaaW.PrintMore
attribute [local go_sem] max2_int min2_int max_two min_two max_three min_three max_four min_four
set_option maxHeartbeats 8000000 in
set_option maxRecDepth 100000 in
theorem cE.calls (k : Nat)  (r : Bool) (w : World) (h : cE.f k  = some r) (hrt : r = true) :
  Calls Try.prog 11 #[] w fun e w' => e = .returned (.bool r) ∧ Below w.heap.size w w' := by
 have hu45 := Try.underlying45
 have hu68 := Try.underlying68
 have HB := As.mk (Below.refl w.heap.size w)
 have H : ((toruslaw04_awake.f).bind fun t182 => (if t182 = true then ((some (([(⟨0, 5⟩ : S45)] : List (S45)) : List (S45))).bind fun y183 => (if 1025 ≤ 11728124029610 then ((some (([(⟨5, ([] : List (S45)), 0⟩ : S68), (⟨4, y183, 8⟩ : S68), (⟨5, y183, 1⟩ : S68), (⟨5, (([(⟨1024, 1⟩ : S45)] : List (S45))), 1⟩ : S68), (⟨5, (([(⟨1023, 4⟩ : S45)] : List (S45))), 0⟩ : S68), (⟨5, (([(⟨(-1), 1⟩ : S45)] : List (S45))), 1⟩ : S68), (⟨5, (([(⟨1, 0⟩ : S45)] : List (S45))), 1⟩ : S68), (⟨5, (([(⟨1, (-1)⟩ : S45)] : List (S45))), 1⟩ : S68), (⟨5, (([(⟨1, 1⟩ : S45), (⟨1, 1⟩ : S45)] : List (S45))), 6⟩ : S68), (⟨5, (([(⟨2, 1⟩ : S45), (⟨1, 5⟩ : S45)] : List (S45))), 1⟩ : S68), (⟨5, (([(⟨2, 1⟩ : S45), (⟨1, 1⟩ : S45), (⟨0, 9⟩ : S45)] : List (S45))), 6⟩ : S68), (⟨2, (([(⟨0, 1⟩ : S45)] : List (S45))), 0⟩ : S68), (⟨2, (([(⟨0, 2⟩ : S45)] : List (S45))), 1⟩ : S68)] : List (S68)) : List (S68))).bind fun y219 => (cE.l0 k y183 (List.replicate 1025 []) y219 (y219.length : Int) 0)) else (none))) else (some false))) = some r := h
 clear h
 replace H := Option.bind_eq_some_iff.mp H
 obtain ⟨t182, A10, H⟩ := H
 try dsimp only at H
 have A1 := As.mk A10
 clear A10
 by_cases c2 : t182 = true
 ·subst c2
  have H1 : ((some (([(⟨0, 5⟩ : S45)] : List (S45)) : List (S45))).bind fun y183 => (if 1025 ≤ 11728124029610 then ((some (([(⟨5, ([] : List (S45)), 0⟩ : S68), (⟨4, y183, 8⟩ : S68), (⟨5, y183, 1⟩ : S68), (⟨5, (([(⟨1024, 1⟩ : S45)] : List (S45))), 1⟩ : S68), (⟨5, (([(⟨1023, 4⟩ : S45)] : List (S45))), 0⟩ : S68), (⟨5, (([(⟨(-1), 1⟩ : S45)] : List (S45))), 1⟩ : S68), (⟨5, (([(⟨1, 0⟩ : S45)] : List (S45))), 1⟩ : S68), (⟨5, (([(⟨1, (-1)⟩ : S45)] : List (S45))), 1⟩ : S68), (⟨5, (([(⟨1, 1⟩ : S45), (⟨1, 1⟩ : S45)] : List (S45))), 6⟩ : S68), (⟨5, (([(⟨2, 1⟩ : S45), (⟨1, 5⟩ : S45)] : List (S45))), 1⟩ : S68), (⟨5, (([(⟨2, 1⟩ : S45), (⟨1, 1⟩ : S45), (⟨0, 9⟩ : S45)] : List (S45))), 6⟩ : S68), (⟨2, (([(⟨0, 1⟩ : S45)] : List (S45))), 0⟩ : S68), (⟨2, (([(⟨0, 2⟩ : S45)] : List (S45))), 1⟩ : S68)] : List (S68)) : List (S68))).bind fun y219 => (cE.l0 k y183 (List.replicate 1025 []) y219 (y219.length : Int) 0)) else (none))) = some r := by rw [if_pos rfl] at H; exact H
  clear H
  have H := H1
  clear H1
  obtain ⟨y183, hy183⟩ : ∃ y_ : List (S45), y_ = (([(⟨0, 5⟩ : S45)] : List (S45))) := ⟨_, rfl⟩
  replace H : (if 1025 ≤ 11728124029610 then ((some (([(⟨5, ([] : List (S45)), 0⟩ : S68), (⟨4, y183, 8⟩ : S68), (⟨5, y183, 1⟩ : S68), (⟨5, (([(⟨1024, 1⟩ : S45)] : List (S45))), 1⟩ : S68), (⟨5, (([(⟨1023, 4⟩ : S45)] : List (S45))), 0⟩ : S68), (⟨5, (([(⟨(-1), 1⟩ : S45)] : List (S45))), 1⟩ : S68), (⟨5, (([(⟨1, 0⟩ : S45)] : List (S45))), 1⟩ : S68), (⟨5, (([(⟨1, (-1)⟩ : S45)] : List (S45))), 1⟩ : S68), (⟨5, (([(⟨1, 1⟩ : S45), (⟨1, 1⟩ : S45)] : List (S45))), 6⟩ : S68), (⟨5, (([(⟨2, 1⟩ : S45), (⟨1, 5⟩ : S45)] : List (S45))), 1⟩ : S68), (⟨5, (([(⟨2, 1⟩ : S45), (⟨1, 1⟩ : S45), (⟨0, 9⟩ : S45)] : List (S45))), 6⟩ : S68), (⟨2, (([(⟨0, 1⟩ : S45)] : List (S45))), 0⟩ : S68), (⟨2, (([(⟨0, 2⟩ : S45)] : List (S45))), 1⟩ : S68)] : List (S68)) : List (S68))).bind fun y219 => (cE.l0 k y183 (List.replicate 1025 []) y219 (y219.length : Int) 0)) else (none)) = some r := by first | (rw [hy183]; with_reducible exact H) | (have H2_ := (Option.bind_some _ _).symm.trans H; rw [hy183]; with_reducible exact H2_) | (have H2_ := (Option.bind_some _ _).symm.trans H; with_reducible exact H2_) | with_reducible exact H | (rw [hy183]; exact H) | exact H
  have Ny183 := As.mk hy183
  clear hy183
  by_cases c3 : 1025 ≤ 11728124029610
  ·rw [if_pos c3] at H
   have c3b0 := eq_true c3
   have c3b1 : decide (1025 ≤ 11728124029610) = true := decide_eq_true c3
   clear c3
   obtain ⟨y186, hy186⟩ : ∃ y_ : List (List (S45)), y_ = (List.replicate 1025 []) := ⟨_, rfl⟩
   replace H : ((some (([(⟨5, ([] : List (S45)), 0⟩ : S68), (⟨4, y183, 8⟩ : S68), (⟨5, y183, 1⟩ : S68), (⟨5, (([(⟨1024, 1⟩ : S45)] : List (S45))), 1⟩ : S68), (⟨5, (([(⟨1023, 4⟩ : S45)] : List (S45))), 0⟩ : S68), (⟨5, (([(⟨(-1), 1⟩ : S45)] : List (S45))), 1⟩ : S68), (⟨5, (([(⟨1, 0⟩ : S45)] : List (S45))), 1⟩ : S68), (⟨5, (([(⟨1, (-1)⟩ : S45)] : List (S45))), 1⟩ : S68), (⟨5, (([(⟨1, 1⟩ : S45), (⟨1, 1⟩ : S45)] : List (S45))), 6⟩ : S68), (⟨5, (([(⟨2, 1⟩ : S45), (⟨1, 5⟩ : S45)] : List (S45))), 1⟩ : S68), (⟨5, (([(⟨2, 1⟩ : S45), (⟨1, 1⟩ : S45), (⟨0, 9⟩ : S45)] : List (S45))), 6⟩ : S68), (⟨2, (([(⟨0, 1⟩ : S45)] : List (S45))), 0⟩ : S68), (⟨2, (([(⟨0, 2⟩ : S45)] : List (S45))), 1⟩ : S68)] : List (S68)) : List (S68))).bind fun y219 => (cE.l0 k y183 y186 y219 (y219.length : Int) 0)) = some r := by first | (rw [hy186]; with_reducible exact H) | (have H2_ := (Option.bind_some _ _).symm.trans H; rw [hy186]; with_reducible exact H2_) | (have H2_ := (Option.bind_some _ _).symm.trans H; with_reducible exact H2_) | with_reducible exact H | (rw [hy186]; exact H) | exact H
   have Ny186 := As.mk hy186
   clear hy186
   obtain ⟨y189, hy189⟩ : ∃ y_ : List (S45), y_ = (([(⟨1024, 1⟩ : S45)] : List (S45))) := ⟨_, rfl⟩
   replace H : ((some (([(⟨5, ([] : List (S45)), 0⟩ : S68), (⟨4, y183, 8⟩ : S68), (⟨5, y183, 1⟩ : S68), (⟨5, y189, 1⟩ : S68), (⟨5, (([(⟨1023, 4⟩ : S45)] : List (S45))), 0⟩ : S68), (⟨5, (([(⟨(-1), 1⟩ : S45)] : List (S45))), 1⟩ : S68), (⟨5, (([(⟨1, 0⟩ : S45)] : List (S45))), 1⟩ : S68), (⟨5, (([(⟨1, (-1)⟩ : S45)] : List (S45))), 1⟩ : S68), (⟨5, (([(⟨1, 1⟩ : S45), (⟨1, 1⟩ : S45)] : List (S45))), 6⟩ : S68), (⟨5, (([(⟨2, 1⟩ : S45), (⟨1, 5⟩ : S45)] : List (S45))), 1⟩ : S68), (⟨5, (([(⟨2, 1⟩ : S45), (⟨1, 1⟩ : S45), (⟨0, 9⟩ : S45)] : List (S45))), 6⟩ : S68), (⟨2, (([(⟨0, 1⟩ : S45)] : List (S45))), 0⟩ : S68), (⟨2, (([(⟨0, 2⟩ : S45)] : List (S45))), 1⟩ : S68)] : List (S68)) : List (S68))).bind fun y219 => (cE.l0 k y183 y186 y219 (y219.length : Int) 0)) = some r := by first | (rw [hy189]; with_reducible exact H) | (have H2_ := (Option.bind_some _ _).symm.trans H; rw [hy189]; with_reducible exact H2_) | (have H2_ := (Option.bind_some _ _).symm.trans H; with_reducible exact H2_) | with_reducible exact H | (rw [hy189]; exact H) | exact H
   have Ny189 := As.mk hy189
   clear hy189
   obtain ⟨y192, hy192⟩ : ∃ y_ : List (S45), y_ = (([(⟨1023, 4⟩ : S45)] : List (S45))) := ⟨_, rfl⟩
   replace H : ((some (([(⟨5, ([] : List (S45)), 0⟩ : S68), (⟨4, y183, 8⟩ : S68), (⟨5, y183, 1⟩ : S68), (⟨5, y189, 1⟩ : S68), (⟨5, y192, 0⟩ : S68), (⟨5, (([(⟨(-1), 1⟩ : S45)] : List (S45))), 1⟩ : S68), (⟨5, (([(⟨1, 0⟩ : S45)] : List (S45))), 1⟩ : S68), (⟨5, (([(⟨1, (-1)⟩ : S45)] : List (S45))), 1⟩ : S68), (⟨5, (([(⟨1, 1⟩ : S45), (⟨1, 1⟩ : S45)] : List (S45))), 6⟩ : S68), (⟨5, (([(⟨2, 1⟩ : S45), (⟨1, 5⟩ : S45)] : List (S45))), 1⟩ : S68), (⟨5, (([(⟨2, 1⟩ : S45), (⟨1, 1⟩ : S45), (⟨0, 9⟩ : S45)] : List (S45))), 6⟩ : S68), (⟨2, (([(⟨0, 1⟩ : S45)] : List (S45))), 0⟩ : S68), (⟨2, (([(⟨0, 2⟩ : S45)] : List (S45))), 1⟩ : S68)] : List (S68)) : List (S68))).bind fun y219 => (cE.l0 k y183 y186 y219 (y219.length : Int) 0)) = some r := by first | (rw [hy192]; with_reducible exact H) | (have H2_ := (Option.bind_some _ _).symm.trans H; rw [hy192]; with_reducible exact H2_) | (have H2_ := (Option.bind_some _ _).symm.trans H; with_reducible exact H2_) | with_reducible exact H | (rw [hy192]; exact H) | exact H
   have Ny192 := As.mk hy192
   clear hy192
   obtain ⟨y195, hy195⟩ : ∃ y_ : List (S45), y_ = (([(⟨(-1), 1⟩ : S45)] : List (S45))) := ⟨_, rfl⟩
   replace H : ((some (([(⟨5, ([] : List (S45)), 0⟩ : S68), (⟨4, y183, 8⟩ : S68), (⟨5, y183, 1⟩ : S68), (⟨5, y189, 1⟩ : S68), (⟨5, y192, 0⟩ : S68), (⟨5, y195, 1⟩ : S68), (⟨5, (([(⟨1, 0⟩ : S45)] : List (S45))), 1⟩ : S68), (⟨5, (([(⟨1, (-1)⟩ : S45)] : List (S45))), 1⟩ : S68), (⟨5, (([(⟨1, 1⟩ : S45), (⟨1, 1⟩ : S45)] : List (S45))), 6⟩ : S68), (⟨5, (([(⟨2, 1⟩ : S45), (⟨1, 5⟩ : S45)] : List (S45))), 1⟩ : S68), (⟨5, (([(⟨2, 1⟩ : S45), (⟨1, 1⟩ : S45), (⟨0, 9⟩ : S45)] : List (S45))), 6⟩ : S68), (⟨2, (([(⟨0, 1⟩ : S45)] : List (S45))), 0⟩ : S68), (⟨2, (([(⟨0, 2⟩ : S45)] : List (S45))), 1⟩ : S68)] : List (S68)) : List (S68))).bind fun y219 => (cE.l0 k y183 y186 y219 (y219.length : Int) 0)) = some r := by first | (rw [hy195]; with_reducible exact H) | (have H2_ := (Option.bind_some _ _).symm.trans H; rw [hy195]; with_reducible exact H2_) | (have H2_ := (Option.bind_some _ _).symm.trans H; with_reducible exact H2_) | with_reducible exact H | (rw [hy195]; exact H) | exact H
   have Ny195 := As.mk hy195
   clear hy195
   obtain ⟨y198, hy198⟩ : ∃ y_ : List (S45), y_ = (([(⟨1, 0⟩ : S45)] : List (S45))) := ⟨_, rfl⟩
   replace H : ((some (([(⟨5, ([] : List (S45)), 0⟩ : S68), (⟨4, y183, 8⟩ : S68), (⟨5, y183, 1⟩ : S68), (⟨5, y189, 1⟩ : S68), (⟨5, y192, 0⟩ : S68), (⟨5, y195, 1⟩ : S68), (⟨5, y198, 1⟩ : S68), (⟨5, (([(⟨1, (-1)⟩ : S45)] : List (S45))), 1⟩ : S68), (⟨5, (([(⟨1, 1⟩ : S45), (⟨1, 1⟩ : S45)] : List (S45))), 6⟩ : S68), (⟨5, (([(⟨2, 1⟩ : S45), (⟨1, 5⟩ : S45)] : List (S45))), 1⟩ : S68), (⟨5, (([(⟨2, 1⟩ : S45), (⟨1, 1⟩ : S45), (⟨0, 9⟩ : S45)] : List (S45))), 6⟩ : S68), (⟨2, (([(⟨0, 1⟩ : S45)] : List (S45))), 0⟩ : S68), (⟨2, (([(⟨0, 2⟩ : S45)] : List (S45))), 1⟩ : S68)] : List (S68)) : List (S68))).bind fun y219 => (cE.l0 k y183 y186 y219 (y219.length : Int) 0)) = some r := by first | (rw [hy198]; with_reducible exact H) | (have H2_ := (Option.bind_some _ _).symm.trans H; rw [hy198]; with_reducible exact H2_) | (have H2_ := (Option.bind_some _ _).symm.trans H; with_reducible exact H2_) | with_reducible exact H | (rw [hy198]; exact H) | exact H
   have Ny198 := As.mk hy198
   clear hy198
   obtain ⟨y201, hy201⟩ : ∃ y_ : List (S45), y_ = (([(⟨1, (-1)⟩ : S45)] : List (S45))) := ⟨_, rfl⟩
   replace H : ((some (([(⟨5, ([] : List (S45)), 0⟩ : S68), (⟨4, y183, 8⟩ : S68), (⟨5, y183, 1⟩ : S68), (⟨5, y189, 1⟩ : S68), (⟨5, y192, 0⟩ : S68), (⟨5, y195, 1⟩ : S68), (⟨5, y198, 1⟩ : S68), (⟨5, y201, 1⟩ : S68), (⟨5, (([(⟨1, 1⟩ : S45), (⟨1, 1⟩ : S45)] : List (S45))), 6⟩ : S68), (⟨5, (([(⟨2, 1⟩ : S45), (⟨1, 5⟩ : S45)] : List (S45))), 1⟩ : S68), (⟨5, (([(⟨2, 1⟩ : S45), (⟨1, 1⟩ : S45), (⟨0, 9⟩ : S45)] : List (S45))), 6⟩ : S68), (⟨2, (([(⟨0, 1⟩ : S45)] : List (S45))), 0⟩ : S68), (⟨2, (([(⟨0, 2⟩ : S45)] : List (S45))), 1⟩ : S68)] : List (S68)) : List (S68))).bind fun y219 => (cE.l0 k y183 y186 y219 (y219.length : Int) 0)) = some r := by first | (rw [hy201]; with_reducible exact H) | (have H2_ := (Option.bind_some _ _).symm.trans H; rw [hy201]; with_reducible exact H2_) | (have H2_ := (Option.bind_some _ _).symm.trans H; with_reducible exact H2_) | with_reducible exact H | (rw [hy201]; exact H) | exact H
   have Ny201 := As.mk hy201
   clear hy201
   obtain ⟨y204, hy204⟩ : ∃ y_ : List (S45), y_ = (([(⟨1, 1⟩ : S45), (⟨1, 1⟩ : S45)] : List (S45))) := ⟨_, rfl⟩
   replace H : ((some (([(⟨5, ([] : List (S45)), 0⟩ : S68), (⟨4, y183, 8⟩ : S68), (⟨5, y183, 1⟩ : S68), (⟨5, y189, 1⟩ : S68), (⟨5, y192, 0⟩ : S68), (⟨5, y195, 1⟩ : S68), (⟨5, y198, 1⟩ : S68), (⟨5, y201, 1⟩ : S68), (⟨5, y204, 6⟩ : S68), (⟨5, (([(⟨2, 1⟩ : S45), (⟨1, 5⟩ : S45)] : List (S45))), 1⟩ : S68), (⟨5, (([(⟨2, 1⟩ : S45), (⟨1, 1⟩ : S45), (⟨0, 9⟩ : S45)] : List (S45))), 6⟩ : S68), (⟨2, (([(⟨0, 1⟩ : S45)] : List (S45))), 0⟩ : S68), (⟨2, (([(⟨0, 2⟩ : S45)] : List (S45))), 1⟩ : S68)] : List (S68)) : List (S68))).bind fun y219 => (cE.l0 k y183 y186 y219 (y219.length : Int) 0)) = some r := by first | (rw [hy204]; with_reducible exact H) | (have H2_ := (Option.bind_some _ _).symm.trans H; rw [hy204]; with_reducible exact H2_) | (have H2_ := (Option.bind_some _ _).symm.trans H; with_reducible exact H2_) | with_reducible exact H | (rw [hy204]; exact H) | exact H
   have Ny204 := As.mk hy204
   clear hy204
   obtain ⟨y207, hy207⟩ : ∃ y_ : List (S45), y_ = (([(⟨2, 1⟩ : S45), (⟨1, 5⟩ : S45)] : List (S45))) := ⟨_, rfl⟩
   replace H : ((some (([(⟨5, ([] : List (S45)), 0⟩ : S68), (⟨4, y183, 8⟩ : S68), (⟨5, y183, 1⟩ : S68), (⟨5, y189, 1⟩ : S68), (⟨5, y192, 0⟩ : S68), (⟨5, y195, 1⟩ : S68), (⟨5, y198, 1⟩ : S68), (⟨5, y201, 1⟩ : S68), (⟨5, y204, 6⟩ : S68), (⟨5, y207, 1⟩ : S68), (⟨5, (([(⟨2, 1⟩ : S45), (⟨1, 1⟩ : S45), (⟨0, 9⟩ : S45)] : List (S45))), 6⟩ : S68), (⟨2, (([(⟨0, 1⟩ : S45)] : List (S45))), 0⟩ : S68), (⟨2, (([(⟨0, 2⟩ : S45)] : List (S45))), 1⟩ : S68)] : List (S68)) : List (S68))).bind fun y219 => (cE.l0 k y183 y186 y219 (y219.length : Int) 0)) = some r := by first | (rw [hy207]; with_reducible exact H) | (have H2_ := (Option.bind_some _ _).symm.trans H; rw [hy207]; with_reducible exact H2_) | (have H2_ := (Option.bind_some _ _).symm.trans H; with_reducible exact H2_) | with_reducible exact H | (rw [hy207]; exact H) | exact H
   have Ny207 := As.mk hy207
   clear hy207
   obtain ⟨y210, hy210⟩ : ∃ y_ : List (S45), y_ = (([(⟨2, 1⟩ : S45), (⟨1, 1⟩ : S45), (⟨0, 9⟩ : S45)] : List (S45))) := ⟨_, rfl⟩
   replace H : ((some (([(⟨5, ([] : List (S45)), 0⟩ : S68), (⟨4, y183, 8⟩ : S68), (⟨5, y183, 1⟩ : S68), (⟨5, y189, 1⟩ : S68), (⟨5, y192, 0⟩ : S68), (⟨5, y195, 1⟩ : S68), (⟨5, y198, 1⟩ : S68), (⟨5, y201, 1⟩ : S68), (⟨5, y204, 6⟩ : S68), (⟨5, y207, 1⟩ : S68), (⟨5, y210, 6⟩ : S68), (⟨2, (([(⟨0, 1⟩ : S45)] : List (S45))), 0⟩ : S68), (⟨2, (([(⟨0, 2⟩ : S45)] : List (S45))), 1⟩ : S68)] : List (S68)) : List (S68))).bind fun y219 => (cE.l0 k y183 y186 y219 (y219.length : Int) 0)) = some r := by first | (rw [hy210]; with_reducible exact H) | (have H2_ := (Option.bind_some _ _).symm.trans H; rw [hy210]; with_reducible exact H2_) | (have H2_ := (Option.bind_some _ _).symm.trans H; with_reducible exact H2_) | with_reducible exact H | (rw [hy210]; exact H) | exact H
   have Ny210 := As.mk hy210
   clear hy210
   obtain ⟨y213, hy213⟩ : ∃ y_ : List (S45), y_ = (([(⟨0, 1⟩ : S45)] : List (S45))) := ⟨_, rfl⟩
   replace H : ((some (([(⟨5, ([] : List (S45)), 0⟩ : S68), (⟨4, y183, 8⟩ : S68), (⟨5, y183, 1⟩ : S68), (⟨5, y189, 1⟩ : S68), (⟨5, y192, 0⟩ : S68), (⟨5, y195, 1⟩ : S68), (⟨5, y198, 1⟩ : S68), (⟨5, y201, 1⟩ : S68), (⟨5, y204, 6⟩ : S68), (⟨5, y207, 1⟩ : S68), (⟨5, y210, 6⟩ : S68), (⟨2, y213, 0⟩ : S68), (⟨2, (([(⟨0, 2⟩ : S45)] : List (S45))), 1⟩ : S68)] : List (S68)) : List (S68))).bind fun y219 => (cE.l0 k y183 y186 y219 (y219.length : Int) 0)) = some r := by first | (rw [hy213]; with_reducible exact H) | (have H2_ := (Option.bind_some _ _).symm.trans H; rw [hy213]; with_reducible exact H2_) | (have H2_ := (Option.bind_some _ _).symm.trans H; with_reducible exact H2_) | with_reducible exact H | (rw [hy213]; exact H) | exact H
   have Ny213 := As.mk hy213
   clear hy213
   obtain ⟨y216, hy216⟩ : ∃ y_ : List (S45), y_ = (([(⟨0, 2⟩ : S45)] : List (S45))) := ⟨_, rfl⟩
   replace H : ((some (([(⟨5, ([] : List (S45)), 0⟩ : S68), (⟨4, y183, 8⟩ : S68), (⟨5, y183, 1⟩ : S68), (⟨5, y189, 1⟩ : S68), (⟨5, y192, 0⟩ : S68), (⟨5, y195, 1⟩ : S68), (⟨5, y198, 1⟩ : S68), (⟨5, y201, 1⟩ : S68), (⟨5, y204, 6⟩ : S68), (⟨5, y207, 1⟩ : S68), (⟨5, y210, 6⟩ : S68), (⟨2, y213, 0⟩ : S68), (⟨2, y216, 1⟩ : S68)] : List (S68)) : List (S68))).bind fun y219 => (cE.l0 k y183 y186 y219 (y219.length : Int) 0)) = some r := by first | (rw [hy216]; with_reducible exact H) | (have H2_ := (Option.bind_some _ _).symm.trans H; rw [hy216]; with_reducible exact H2_) | (have H2_ := (Option.bind_some _ _).symm.trans H; with_reducible exact H2_) | with_reducible exact H | (rw [hy216]; exact H) | exact H
   have Ny216 := As.mk hy216
   clear hy216
   obtain ⟨y219, hy219⟩ : ∃ y_ : List (S68), y_ = (([(⟨5, ([] : List (S45)), 0⟩ : S68), (⟨4, y183, 8⟩ : S68), (⟨5, y183, 1⟩ : S68), (⟨5, y189, 1⟩ : S68), (⟨5, y192, 0⟩ : S68), (⟨5, y195, 1⟩ : S68), (⟨5, y198, 1⟩ : S68), (⟨5, y201, 1⟩ : S68), (⟨5, y204, 6⟩ : S68), (⟨5, y207, 1⟩ : S68), (⟨5, y210, 6⟩ : S68), (⟨2, y213, 0⟩ : S68), (⟨2, y216, 1⟩ : S68)] : List (S68))) := ⟨_, rfl⟩
   replace H : (cE.l0 k y183 y186 y219 (y219.length : Int) 0) = some r := by first | (rw [hy219]; with_reducible exact H) | (have H2_ := (Option.bind_some _ _).symm.trans H; rw [hy219]; with_reducible exact H2_) | (have H2_ := (Option.bind_some _ _).symm.trans H; with_reducible exact H2_) | with_reducible exact H | (rw [hy219]; exact H) | exact H
   have Ny219 := As.mk hy219
   clear hy219
   have H' := As.mk H
   clear H
   go_enter Try.func11, Try.ntmps11
   go_wp2_with (first | ((with_reducible refine gate_callee (f := 19) rfl ?_); refine goesL_ (some 65) rfl rfl Try.func19 (by kernel_rfl) rfl #[] rfl (by (try simp only [List.map_toArray, List.map_cons, List.map_nil]); first | done | rfl | (simp only [List.length_drop, List.length_take]; rfl)) ?_; (with_reducible refine (toruslaw04_awake.calls  true _ A1.out).mono ?_); rintro e w4 ⟨rfl, hb⟩; refine ⟨_, rfl, ?_⟩; have n0_ := As.mk (below_step (hup0 HB.out) hb); clear HB; have HB := n0_; clear n0_; (try clear hb); (try clear hb2); (try clear hk); (try clear hi)) | ((with_reducible refine gate_dst (N := 70) rfl ?_); (try (refine gate_guard (by rfl) ?_; dsimp only)); refine Kd.R_lit k45 _ 45 ?hg (N := 70) ?hd (xs := ([(⟨0, 5⟩ : S45)] : List (S45))) (inner := [.int .i64 0, .int .i64 5]) (ok := fun _ => True) (okp := fun _ => True) ?hr ?hp (fun _ hk => hk) trivial (Below.refl _ _) (Nat.le_refl _) (by simp) ?_; (case hd => rfl); (case hg => rfl); (case hr => first | (go_simp; done) | (go_simp; rfl)); (case hp => exact (Reps.c2 (show Kd.M k45 _ _ _ (⟨0, 5⟩ : S45) [.int .i64 0, .int .i64 5] from (k45_mkM _ _ _ (⟨0, 5⟩ : S45) )) (Reps.none _ _))); intro v184 w5 ho6 hb hg_ hnew_; clear hg_ hnew_; (first | rw [← Ny183.out] at ho6 | (simp only [Int.reduceToNat] at ho6; rw [← Ny183.out] at ho6)); have n0_ := As.mk (Kd.R_lower ho6 (below_size (hup0 HB.out))); have n1_ := As.mk (below_step (hup0 HB.out) hb); clear HB; have HO185 := n0_; have HB := n1_; clear n0_ n1_; clear hb ho6) | ((with_reducible refine gate_dst (N := 71) rfl ?_); (try (refine gate_guard (by rfl) ?_; dsimp only)); refine Kd.N_make (Kd.slice 45 k45) _ 22 rfl (N' := 71) rfl 37 _ _ rfl 1025 rfl rfl Try.underlying37 (.slice none 0 0) 24 info22 rfl (by decide) (by omega) [] (ok := fun k_ => w5.heap.size ≤ k_) (okp := fun _ => False) (Kd.FK_slice_mk (Nat.le_refl _) (Kd.F_nil _ _ _)) (fun _ hk => hk.elim) (Nat.le_refl _) (by omega) (by omega) (Below.refl _ _) (Nat.le_refl _) ?_; intro v187 w7 ho8 hb hg_ hnew_; clear hg_ hnew_; (first | rw [← Ny186.out] at ho8 | (simp only [Int.reduceToNat] at ho8; rw [← Ny186.out] at ho8)); have n0_ := As.mk (Kd.R_below (rup HO185.out) hb); have n1_ := As.mk (Kd.N_lower (Kd.N_mono (ok' := fun k_ => some k_ ≠ (v184 : Value).ownBlock) ho8 (fun k_ hk_ => (Kd.fresh' (Kd.R_lt (rup HO185.out)) k_ hk_))) (below_size (hup0 HB.out))); have n2_ := As.mk (below_step (hup0 HB.out) hb); clear HO185 HB; have HO185 := n0_; have HO188 := n1_; have HB := n2_; clear n0_ n1_ n2_; clear hb ho8; obtain ⟨Ao9, co9, eo9⟩ := Kd.R_slice HO185.out; subst eo9) | ((with_reducible refine gate_dst (N := 78) rfl ?_); (try (refine gate_guard (by rfl) ?_; dsimp only)); refine Kd.R_lit k45 _ 45 ?hg (N := 78) ?hd (xs := ([(⟨1024, 1⟩ : S45)] : List (S45))) (inner := [.int .i64 1024, .int .i64 1]) (ok := fun _ => True) (okp := fun _ => True) ?hr ?hp (fun _ hk => hk) trivial (Below.refl _ _) (Nat.le_refl _) (by simp) ?_; (case hd => rfl); (case hg => rfl); (case hr => first | (go_simp; done) | (go_simp; rfl)); (case hp => exact (Reps.c2 (show Kd.M k45 _ _ _ (⟨1024, 1⟩ : S45) [.int .i64 1024, .int .i64 1] from (k45_mkM _ _ _ (⟨1024, 1⟩ : S45) )) (Reps.none _ _))); intro v190 w10 ho11 hb hg_ hnew_; clear hg_ hnew_; (first | rw [← Ny189.out] at ho11 | (simp only [Int.reduceToNat] at ho11; rw [← Ny189.out] at ho11)); have n0_ := As.mk (Kd.R_elder' (rup HO185.out) (Kd.R_base ho11) hb); have n1_ := As.mk (Kd.N_elder' (nup HO188.out) (Kd.R_base ho11) hb); have n2_ := As.mk (Kd.R_lower (Kd.R_new' ho11 (Kd.R_lt (rup HO185.out))) (below_size (hup0 HB.out))); have n3_ := As.mk (below_step (hup0 HB.out) hb); clear HO185 HO188 HB; have HO185 := n0_; have HO188 := n1_; have HO191 := n2_; have HB := n3_; clear n0_ n1_ n2_ n3_; clear hb ho11; obtain ⟨Ao12, co12, eo12⟩ := Kd.R_slice HO191.out; subst eo12) | ((with_reducible refine gate_dst (N := 81) rfl ?_); (try (refine gate_guard (by rfl) ?_; dsimp only)); refine Kd.R_lit k45 _ 45 ?hg (N := 81) ?hd (xs := ([(⟨1023, 4⟩ : S45)] : List (S45))) (inner := [.int .i64 1023, .int .i64 4]) (ok := fun _ => True) (okp := fun _ => True) ?hr ?hp (fun _ hk => hk) trivial (Below.refl _ _) (Nat.le_refl _) (by simp) ?_; (case hd => rfl); (case hg => rfl); (case hr => first | (go_simp; done) | (go_simp; rfl)); (case hp => exact (Reps.c2 (show Kd.M k45 _ _ _ (⟨1023, 4⟩ : S45) [.int .i64 1023, .int .i64 4] from (k45_mkM _ _ _ (⟨1023, 4⟩ : S45) )) (Reps.none _ _))); intro v193 w13 ho14 hb hg_ hnew_; clear hg_ hnew_; (first | rw [← Ny192.out] at ho14 | (simp only [Int.reduceToNat] at ho14; rw [← Ny192.out] at ho14)); have n0_ := As.mk (Kd.R_elder' (rup HO185.out) (Kd.R_base ho14) hb); have n1_ := As.mk (Kd.N_elder' (nup HO188.out) (Kd.R_base ho14) hb); have n2_ := As.mk (Kd.R_elder' (rup HO191.out) (Kd.R_base ho14) hb); have n3_ := As.mk (Kd.R_lower (Kd.R_new' (Kd.R_new' ho14 (Kd.R_lt (rup HO185.out))) (Kd.R_lt (rup HO191.out))) (below_size (hup0 HB.out))); have n4_ := As.mk (below_step (hup0 HB.out) hb); clear HO185 HO188; clear HO191 HB; have HO185 := n0_; have HO188 := n1_; have HO191 := n2_; have HO194 := n3_; have HB := n4_; clear n0_ n1_ n2_ n3_ n4_; clear hb ho14; obtain ⟨Ao15, co15, eo15⟩ := Kd.R_slice HO194.out; subst eo15) | ((with_reducible refine gate_dst (N := 84) rfl ?_); (try (refine gate_guard (by rfl) ?_; dsimp only)); refine Kd.R_lit k45 _ 45 ?hg (N := 84) ?hd (xs := ([(⟨(-1), 1⟩ : S45)] : List (S45))) (inner := [.int .i64 (-1), .int .i64 1]) (ok := fun _ => True) (okp := fun _ => True) ?hr ?hp (fun _ hk => hk) trivial (Below.refl _ _) (Nat.le_refl _) (by simp) ?_; (case hd => rfl); (case hg => rfl); (case hr => first | (go_simp; done) | (go_simp; rfl)); (case hp => exact (Reps.c2 (show Kd.M k45 _ _ _ (⟨(-1), 1⟩ : S45) [.int .i64 (-1), .int .i64 1] from (k45_mkM _ _ _ (⟨(-1), 1⟩ : S45) )) (Reps.none _ _))); intro v196 w16 ho17 hb hg_ hnew_; clear hg_ hnew_; (first | rw [← Ny195.out] at ho17 | (simp only [Int.reduceToNat] at ho17; rw [← Ny195.out] at ho17)); have n0_ := As.mk (Kd.R_elder' (rup HO185.out) (Kd.R_base ho17) hb); have n1_ := As.mk (Kd.N_elder' (nup HO188.out) (Kd.R_base ho17) hb); have n2_ := As.mk (Kd.R_elder' (rup HO191.out) (Kd.R_base ho17) hb); have n3_ := As.mk (Kd.R_elder' (rup HO194.out) (Kd.R_base ho17) hb); have n4_ := As.mk (Kd.R_lower (Kd.R_new' (Kd.R_new' (Kd.R_new' ho17 (Kd.R_lt (rup HO185.out))) (Kd.R_lt (rup HO191.out))) (Kd.R_lt (rup HO194.out))) (below_size (hup0 HB.out))); have n5_ := As.mk (below_step (hup0 HB.out) hb); clear HO185 HO188; clear HO191 HO194 HB; have HO185 := n0_; have HO188 := n1_; have HO191 := n2_; have HO194 := n3_; have HO197 := n4_; have HB := n5_; clear n0_ n1_ n2_ n3_ n4_ n5_; clear hb ho17; obtain ⟨Ao18, co18, eo18⟩ := Kd.R_slice HO197.out; subst eo18) | ((with_reducible refine gate_dst (N := 87) rfl ?_); (try (refine gate_guard (by rfl) ?_; dsimp only)); refine Kd.R_lit k45 _ 45 ?hg (N := 87) ?hd (xs := ([(⟨1, 0⟩ : S45)] : List (S45))) (inner := [.int .i64 1, .int .i64 0]) (ok := fun _ => True) (okp := fun _ => True) ?hr ?hp (fun _ hk => hk) trivial (Below.refl _ _) (Nat.le_refl _) (by simp) ?_; (case hd => rfl); (case hg => rfl); (case hr => first | (go_simp; done) | (go_simp; rfl)); (case hp => exact (Reps.c2 (show Kd.M k45 _ _ _ (⟨1, 0⟩ : S45) [.int .i64 1, .int .i64 0] from (k45_mkM _ _ _ (⟨1, 0⟩ : S45) )) (Reps.none _ _))); intro v199 w19 ho20 hb hg_ hnew_; clear hg_ hnew_; (first | rw [← Ny198.out] at ho20 | (simp only [Int.reduceToNat] at ho20; rw [← Ny198.out] at ho20)); have n0_ := As.mk (Kd.R_elder' (rup HO185.out) (Kd.R_base ho20) hb); have n1_ := As.mk (Kd.N_elder' (nup HO188.out) (Kd.R_base ho20) hb); have n2_ := As.mk (Kd.R_elder' (rup HO191.out) (Kd.R_base ho20) hb); have n3_ := As.mk (Kd.R_elder' (rup HO194.out) (Kd.R_base ho20) hb); have n4_ := As.mk (Kd.R_elder' (rup HO197.out) (Kd.R_base ho20) hb); have n5_ := As.mk (Kd.R_lower (Kd.R_new' (Kd.R_new' (Kd.R_new' (Kd.R_new' ho20 (Kd.R_lt (rup HO185.out))) (Kd.R_lt (rup HO191.out))) (Kd.R_lt (rup HO194.out))) (Kd.R_lt (rup HO197.out))) (below_size (hup0 HB.out))); have n6_ := As.mk (below_step (hup0 HB.out) hb); clear HO185 HO188; clear HO191 HO194; clear HO197 HB; have HO185 := n0_; have HO188 := n1_; have HO191 := n2_; have HO194 := n3_; have HO197 := n4_; have HO200 := n5_; have HB := n6_; clear n0_ n1_ n2_ n3_ n4_ n5_ n6_; clear hb ho20; obtain ⟨Ao21, co21, eo21⟩ := Kd.R_slice HO200.out; subst eo21) | ((with_reducible refine gate_dst (N := 90) rfl ?_); (try (refine gate_guard (by rfl) ?_; dsimp only)); refine Kd.R_lit k45 _ 45 ?hg (N := 90) ?hd (xs := ([(⟨1, (-1)⟩ : S45)] : List (S45))) (inner := [.int .i64 1, .int .i64 (-1)]) (ok := fun _ => True) (okp := fun _ => True) ?hr ?hp (fun _ hk => hk) trivial (Below.refl _ _) (Nat.le_refl _) (by simp) ?_; (case hd => rfl); (case hg => rfl); (case hr => first | (go_simp; done) | (go_simp; rfl)); (case hp => exact (Reps.c2 (show Kd.M k45 _ _ _ (⟨1, (-1)⟩ : S45) [.int .i64 1, .int .i64 (-1)] from (k45_mkM _ _ _ (⟨1, (-1)⟩ : S45) )) (Reps.none _ _))); intro v202 w22 ho23 hb hg_ hnew_; clear hg_ hnew_; (first | rw [← Ny201.out] at ho23 | (simp only [Int.reduceToNat] at ho23; rw [← Ny201.out] at ho23)); have n0_ := As.mk (Kd.R_elder' (rup HO185.out) (Kd.R_base ho23) hb); have n1_ := As.mk (Kd.N_elder' (nup HO188.out) (Kd.R_base ho23) hb); have n2_ := As.mk (Kd.R_elder' (rup HO191.out) (Kd.R_base ho23) hb); have n3_ := As.mk (Kd.R_elder' (rup HO194.out) (Kd.R_base ho23) hb); have n4_ := As.mk (Kd.R_elder' (rup HO197.out) (Kd.R_base ho23) hb); have n5_ := As.mk (Kd.R_elder' (rup HO200.out) (Kd.R_base ho23) hb); have n6_ := As.mk (Kd.R_lower (Kd.R_new' (Kd.R_new' (Kd.R_new' (Kd.R_new' (Kd.R_new' ho23 (Kd.R_lt (rup HO185.out))) (Kd.R_lt (rup HO191.out))) (Kd.R_lt (rup HO194.out))) (Kd.R_lt (rup HO197.out))) (Kd.R_lt (rup HO200.out))) (below_size (hup0 HB.out))); have n7_ := As.mk (below_step (hup0 HB.out) hb); clear HO185 HO188; clear HO191 HO194; clear HO197 HO200 HB; have HO185 := n0_; have HO188 := n1_; have HO191 := n2_; have HO194 := n3_; have HO197 := n4_; have HO200 := n5_; have HO203 := n6_; have HB := n7_; clear n0_ n1_ n2_ n3_ n4_ n5_ n6_ n7_; clear hb ho23; obtain ⟨Ao24, co24, eo24⟩ := Kd.R_slice HO203.out; subst eo24) | ((with_reducible refine gate_dst (N := 94) rfl ?_); (try (refine gate_guard (by rfl) ?_; dsimp only)); refine Kd.R_lit k45 _ 45 ?hg (N := 94) ?hd (xs := ([(⟨1, 1⟩ : S45), (⟨1, 1⟩ : S45)] : List (S45))) (inner := [.int .i64 1, .int .i64 1, .int .i64 1, .int .i64 1]) (ok := fun _ => True) (okp := fun _ => True) ?hr ?hp (fun _ hk => hk) trivial (Below.refl _ _) (Nat.le_refl _) (by simp) ?_; (case hd => rfl); (case hg => rfl); (case hr => first | (go_simp; done) | (go_simp; rfl)); (case hp => exact (Reps.c2 (show Kd.M k45 _ _ _ (⟨1, 1⟩ : S45) [.int .i64 1, .int .i64 1] from (k45_mkM _ _ _ (⟨1, 1⟩ : S45) )) (Reps.c2 (show Kd.M k45 _ _ _ (⟨1, 1⟩ : S45) [.int .i64 1, .int .i64 1] from (k45_mkM _ _ _ (⟨1, 1⟩ : S45) )) (Reps.none _ _)))); intro v205 w25 ho26 hb hg_ hnew_; clear hg_ hnew_; (first | rw [← Ny204.out] at ho26 | (simp only [Int.reduceToNat] at ho26; rw [← Ny204.out] at ho26)); have n0_ := As.mk (Kd.R_elder' (rup HO185.out) (Kd.R_base ho26) hb); have n1_ := As.mk (Kd.N_elder' (nup HO188.out) (Kd.R_base ho26) hb); have n2_ := As.mk (Kd.R_elder' (rup HO191.out) (Kd.R_base ho26) hb); have n3_ := As.mk (Kd.R_elder' (rup HO194.out) (Kd.R_base ho26) hb); have n4_ := As.mk (Kd.R_elder' (rup HO197.out) (Kd.R_base ho26) hb); have n5_ := As.mk (Kd.R_elder' (rup HO200.out) (Kd.R_base ho26) hb); have n6_ := As.mk (Kd.R_elder' (rup HO203.out) (Kd.R_base ho26) hb); have n7_ := As.mk (Kd.R_lower (Kd.R_new' (Kd.R_new' (Kd.R_new' (Kd.R_new' (Kd.R_new' (Kd.R_new' ho26 (Kd.R_lt (rup HO185.out))) (Kd.R_lt (rup HO191.out))) (Kd.R_lt (rup HO194.out))) (Kd.R_lt (rup HO197.out))) (Kd.R_lt (rup HO200.out))) (Kd.R_lt (rup HO203.out))) (below_size (hup0 HB.out))); have n8_ := As.mk (below_step (hup0 HB.out) hb); clear HO185 HO188; clear HO191 HO194; clear HO197 HO200; clear HO203 HB; have HO185 := n0_; have HO188 := n1_; have HO191 := n2_; have HO194 := n3_; have HO197 := n4_; have HO200 := n5_; have HO203 := n6_; have HO206 := n7_; have HB := n8_; clear n0_ n1_ n2_ n3_ n4_ n5_ n6_ n7_ n8_; clear hb ho26; obtain ⟨Ao27, co27, eo27⟩ := Kd.R_slice HO206.out; subst eo27) | ((with_reducible refine gate_dst (N := 98) rfl ?_); (try (refine gate_guard (by rfl) ?_; dsimp only)); refine Kd.R_lit k45 _ 45 ?hg (N := 98) ?hd (xs := ([(⟨2, 1⟩ : S45), (⟨1, 5⟩ : S45)] : List (S45))) (inner := [.int .i64 2, .int .i64 1, .int .i64 1, .int .i64 5]) (ok := fun _ => True) (okp := fun _ => True) ?hr ?hp (fun _ hk => hk) trivial (Below.refl _ _) (Nat.le_refl _) (by simp) ?_; (case hd => rfl); (case hg => rfl); (case hr => first | (go_simp; done) | (go_simp; rfl)); (case hp => exact (Reps.c2 (show Kd.M k45 _ _ _ (⟨2, 1⟩ : S45) [.int .i64 2, .int .i64 1] from (k45_mkM _ _ _ (⟨2, 1⟩ : S45) )) (Reps.c2 (show Kd.M k45 _ _ _ (⟨1, 5⟩ : S45) [.int .i64 1, .int .i64 5] from (k45_mkM _ _ _ (⟨1, 5⟩ : S45) )) (Reps.none _ _)))); intro v208 w28 ho29 hb hg_ hnew_; clear hg_ hnew_; (first | rw [← Ny207.out] at ho29 | (simp only [Int.reduceToNat] at ho29; rw [← Ny207.out] at ho29)); have n0_ := As.mk (Kd.R_elder' (rup HO185.out) (Kd.R_base ho29) hb); have n1_ := As.mk (Kd.N_elder' (nup HO188.out) (Kd.R_base ho29) hb); have n2_ := As.mk (Kd.R_elder' (rup HO191.out) (Kd.R_base ho29) hb); have n3_ := As.mk (Kd.R_elder' (rup HO194.out) (Kd.R_base ho29) hb); have n4_ := As.mk (Kd.R_elder' (rup HO197.out) (Kd.R_base ho29) hb); have n5_ := As.mk (Kd.R_elder' (rup HO200.out) (Kd.R_base ho29) hb); have n6_ := As.mk (Kd.R_elder' (rup HO203.out) (Kd.R_base ho29) hb); have n7_ := As.mk (Kd.R_elder' (rup HO206.out) (Kd.R_base ho29) hb); have n8_ := As.mk (Kd.R_lower (Kd.R_new' (Kd.R_new' (Kd.R_new' (Kd.R_new' (Kd.R_new' (Kd.R_new' (Kd.R_new' ho29 (Kd.R_lt (rup HO185.out))) (Kd.R_lt (rup HO191.out))) (Kd.R_lt (rup HO194.out))) (Kd.R_lt (rup HO197.out))) (Kd.R_lt (rup HO200.out))) (Kd.R_lt (rup HO203.out))) (Kd.R_lt (rup HO206.out))) (below_size (hup0 HB.out))); have n9_ := As.mk (below_step (hup0 HB.out) hb); clear HO185 HO188; clear HO191 HO194; clear HO197 HO200; clear HO203 HO206 HB; have HO185 := n0_; have HO188 := n1_; have HO191 := n2_; have HO194 := n3_; have HO197 := n4_; have HO200 := n5_; have HO203 := n6_; have HO206 := n7_; have HO209 := n8_; have HB := n9_; clear n0_ n1_ n2_ n3_ n4_ n5_ n6_ n7_ n8_ n9_; clear hb ho29; obtain ⟨Ao30, co30, eo30⟩ := Kd.R_slice HO209.out; subst eo30) | ((with_reducible refine gate_dst (N := 103) rfl ?_); (try (refine gate_guard (by rfl) ?_; dsimp only)); refine Kd.R_lit k45 _ 45 ?hg (N := 103) ?hd (xs := ([(⟨2, 1⟩ : S45), (⟨1, 1⟩ : S45), (⟨0, 9⟩ : S45)] : List (S45))) (inner := [.int .i64 2, .int .i64 1, .int .i64 1, .int .i64 1, .int .i64 0, .int .i64 9]) (ok := fun _ => True) (okp := fun _ => True) ?hr ?hp (fun _ hk => hk) trivial (Below.refl _ _) (Nat.le_refl _) (by simp) ?_; (case hd => rfl); (case hg => rfl); (case hr => first | (go_simp; done) | (go_simp; rfl)); (case hp => exact (Reps.c2 (show Kd.M k45 _ _ _ (⟨2, 1⟩ : S45) [.int .i64 2, .int .i64 1] from (k45_mkM _ _ _ (⟨2, 1⟩ : S45) )) (Reps.c2 (show Kd.M k45 _ _ _ (⟨1, 1⟩ : S45) [.int .i64 1, .int .i64 1] from (k45_mkM _ _ _ (⟨1, 1⟩ : S45) )) (Reps.c2 (show Kd.M k45 _ _ _ (⟨0, 9⟩ : S45) [.int .i64 0, .int .i64 9] from (k45_mkM _ _ _ (⟨0, 9⟩ : S45) )) (Reps.none _ _))))); intro v211 w31 ho32 hb hg_ hnew_; clear hg_ hnew_; (first | rw [← Ny210.out] at ho32 | (simp only [Int.reduceToNat] at ho32; rw [← Ny210.out] at ho32)); have n0_ := As.mk (Kd.R_elder' (rup HO185.out) (Kd.R_base ho32) hb); have n1_ := As.mk (Kd.N_elder' (nup HO188.out) (Kd.R_base ho32) hb); have n2_ := As.mk (Kd.R_elder' (rup HO191.out) (Kd.R_base ho32) hb); have n3_ := As.mk (Kd.R_elder' (rup HO194.out) (Kd.R_base ho32) hb); have n4_ := As.mk (Kd.R_elder' (rup HO197.out) (Kd.R_base ho32) hb); have n5_ := As.mk (Kd.R_elder' (rup HO200.out) (Kd.R_base ho32) hb); have n6_ := As.mk (Kd.R_elder' (rup HO203.out) (Kd.R_base ho32) hb); have n7_ := As.mk (Kd.R_elder' (rup HO206.out) (Kd.R_base ho32) hb); have n8_ := As.mk (Kd.R_elder' (rup HO209.out) (Kd.R_base ho32) hb); have n9_ := As.mk (Kd.R_lower (Kd.R_new' (Kd.R_new' (Kd.R_new' (Kd.R_new' (Kd.R_new' (Kd.R_new' (Kd.R_new' (Kd.R_new' ho32 (Kd.R_lt (rup HO185.out))) (Kd.R_lt (rup HO191.out))) (Kd.R_lt (rup HO194.out))) (Kd.R_lt (rup HO197.out))) (Kd.R_lt (rup HO200.out))) (Kd.R_lt (rup HO203.out))) (Kd.R_lt (rup HO206.out))) (Kd.R_lt (rup HO209.out))) (below_size (hup0 HB.out))); have n10_ := As.mk (below_step (hup0 HB.out) hb); clear HO185 HO188; clear HO191 HO194; clear HO197 HO200; clear HO203 HO206; clear HO209 HB; have HO185 := n0_; have HO188 := n1_; have HO191 := n2_; have HO194 := n3_; have HO197 := n4_; have HO200 := n5_; have HO203 := n6_; have HO206 := n7_; have HO209 := n8_; have HO212 := n9_; have HB := n10_; clear n0_ n1_ n2_ n3_ n4_ n5_ n6_ n7_ n8_ n9_ n10_; clear hb ho32; obtain ⟨Ao33, co33, eo33⟩ := Kd.R_slice HO212.out; subst eo33) | ((with_reducible refine gate_dst (N := 106) rfl ?_); (try (refine gate_guard (by rfl) ?_; dsimp only)); refine Kd.R_lit k45 _ 45 ?hg (N := 106) ?hd (xs := ([(⟨0, 1⟩ : S45)] : List (S45))) (inner := [.int .i64 0, .int .i64 1]) (ok := fun _ => True) (okp := fun _ => True) ?hr ?hp (fun _ hk => hk) trivial (Below.refl _ _) (Nat.le_refl _) (by simp) ?_; (case hd => rfl); (case hg => rfl); (case hr => first | (go_simp; done) | (go_simp; rfl)); (case hp => exact (Reps.c2 (show Kd.M k45 _ _ _ (⟨0, 1⟩ : S45) [.int .i64 0, .int .i64 1] from (k45_mkM _ _ _ (⟨0, 1⟩ : S45) )) (Reps.none _ _))); intro v214 w34 ho35 hb hg_ hnew_; clear hg_ hnew_; (first | rw [← Ny213.out] at ho35 | (simp only [Int.reduceToNat] at ho35; rw [← Ny213.out] at ho35)); have n0_ := As.mk (Kd.R_elder' (rup HO185.out) (Kd.R_base ho35) hb); have n1_ := As.mk (Kd.N_elder' (nup HO188.out) (Kd.R_base ho35) hb); have n2_ := As.mk (Kd.R_elder' (rup HO191.out) (Kd.R_base ho35) hb); have n3_ := As.mk (Kd.R_elder' (rup HO194.out) (Kd.R_base ho35) hb); have n4_ := As.mk (Kd.R_elder' (rup HO197.out) (Kd.R_base ho35) hb); have n5_ := As.mk (Kd.R_elder' (rup HO200.out) (Kd.R_base ho35) hb); have n6_ := As.mk (Kd.R_elder' (rup HO203.out) (Kd.R_base ho35) hb); have n7_ := As.mk (Kd.R_elder' (rup HO206.out) (Kd.R_base ho35) hb); have n8_ := As.mk (Kd.R_elder' (rup HO209.out) (Kd.R_base ho35) hb); have n9_ := As.mk (Kd.R_elder' (rup HO212.out) (Kd.R_base ho35) hb); have n10_ := As.mk (Kd.R_lower (Kd.R_new' (Kd.R_new' (Kd.R_new' (Kd.R_new' (Kd.R_new' (Kd.R_new' (Kd.R_new' (Kd.R_new' (Kd.R_new' ho35 (Kd.R_lt (rup HO185.out))) (Kd.R_lt (rup HO191.out))) (Kd.R_lt (rup HO194.out))) (Kd.R_lt (rup HO197.out))) (Kd.R_lt (rup HO200.out))) (Kd.R_lt (rup HO203.out))) (Kd.R_lt (rup HO206.out))) (Kd.R_lt (rup HO209.out))) (Kd.R_lt (rup HO212.out))) (below_size (hup0 HB.out))); have n11_ := As.mk (below_step (hup0 HB.out) hb); clear HO185 HO188; clear HO191 HO194; clear HO197 HO200; clear HO203 HO206; clear HO209 HO212 HB; have HO185 := n0_; have HO188 := n1_; have HO191 := n2_; have HO194 := n3_; have HO197 := n4_; have HO200 := n5_; have HO203 := n6_; have HO206 := n7_; have HO209 := n8_; have HO212 := n9_; have HO215 := n10_; have HB := n11_; clear n0_ n1_ n2_ n3_ n4_ n5_ n6_ n7_ n8_ n9_ n10_ n11_; clear hb ho35; obtain ⟨Ao36, co36, eo36⟩ := Kd.R_slice HO215.out; subst eo36) | ((with_reducible refine gate_dst (N := 109) rfl ?_); (try (refine gate_guard (by rfl) ?_; dsimp only)); refine Kd.R_lit k45 _ 45 ?hg (N := 109) ?hd (xs := ([(⟨0, 2⟩ : S45)] : List (S45))) (inner := [.int .i64 0, .int .i64 2]) (ok := fun _ => True) (okp := fun _ => True) ?hr ?hp (fun _ hk => hk) trivial (Below.refl _ _) (Nat.le_refl _) (by simp) ?_; (case hd => rfl); (case hg => rfl); (case hr => first | (go_simp; done) | (go_simp; rfl)); (case hp => exact (Reps.c2 (show Kd.M k45 _ _ _ (⟨0, 2⟩ : S45) [.int .i64 0, .int .i64 2] from (k45_mkM _ _ _ (⟨0, 2⟩ : S45) )) (Reps.none _ _))); intro v217 w37 ho38 hb hg_ hnew_; clear hg_ hnew_; (first | rw [← Ny216.out] at ho38 | (simp only [Int.reduceToNat] at ho38; rw [← Ny216.out] at ho38)); have n0_ := As.mk (Kd.R_elder' (rup HO185.out) (Kd.R_base ho38) hb); have n1_ := As.mk (Kd.N_elder' (nup HO188.out) (Kd.R_base ho38) hb); have n2_ := As.mk (Kd.R_elder' (rup HO191.out) (Kd.R_base ho38) hb); have n3_ := As.mk (Kd.R_elder' (rup HO194.out) (Kd.R_base ho38) hb); have n4_ := As.mk (Kd.R_elder' (rup HO197.out) (Kd.R_base ho38) hb); have n5_ := As.mk (Kd.R_elder' (rup HO200.out) (Kd.R_base ho38) hb); have n6_ := As.mk (Kd.R_elder' (rup HO203.out) (Kd.R_base ho38) hb); have n7_ := As.mk (Kd.R_elder' (rup HO206.out) (Kd.R_base ho38) hb); have n8_ := As.mk (Kd.R_elder' (rup HO209.out) (Kd.R_base ho38) hb); have n9_ := As.mk (Kd.R_elder' (rup HO212.out) (Kd.R_base ho38) hb); have n10_ := As.mk (Kd.R_elder' (rup HO215.out) (Kd.R_base ho38) hb); have n11_ := As.mk (Kd.R_lower (Kd.R_new' (Kd.R_new' (Kd.R_new' (Kd.R_new' (Kd.R_new' (Kd.R_new' (Kd.R_new' (Kd.R_new' (Kd.R_new' (Kd.R_new' ho38 (Kd.R_lt (rup HO185.out))) (Kd.R_lt (rup HO191.out))) (Kd.R_lt (rup HO194.out))) (Kd.R_lt (rup HO197.out))) (Kd.R_lt (rup HO200.out))) (Kd.R_lt (rup HO203.out))) (Kd.R_lt (rup HO206.out))) (Kd.R_lt (rup HO209.out))) (Kd.R_lt (rup HO212.out))) (Kd.R_lt (rup HO215.out))) (below_size (hup0 HB.out))); have n12_ := As.mk (below_step (hup0 HB.out) hb); clear HO185 HO188; clear HO191 HO194; clear HO197 HO200; clear HO203 HO206; clear HO209 HO212; clear HO215 HB; have HO185 := n0_; have HO188 := n1_; have HO191 := n2_; have HO194 := n3_; have HO197 := n4_; have HO200 := n5_; have HO203 := n6_; have HO206 := n7_; have HO209 := n8_; have HO212 := n9_; have HO215 := n10_; have HO218 := n11_; have HB := n12_; clear n0_ n1_ n2_ n3_ n4_ n5_ n6_ n7_ n8_ n9_ n10_ n11_ n12_; clear hb ho38; obtain ⟨Ao39, co39, eo39⟩ := Kd.R_slice HO218.out; subst eo39) | ((with_reducible refine gate_dst (N := 111) rfl ?_); (try (refine gate_guard (by rfl) ?_; dsimp only)); refine Kd.N_lit k68 _ 68 ?hg (N' := 111) ?hd (xs := ([(⟨5, ([] : List (S45)), 0⟩ : S68), (⟨4, y183, 8⟩ : S68), (⟨5, y183, 1⟩ : S68), (⟨5, y189, 1⟩ : S68), (⟨5, y192, 0⟩ : S68), (⟨5, y195, 1⟩ : S68), (⟨5, y198, 1⟩ : S68), (⟨5, y201, 1⟩ : S68), (⟨5, y204, 6⟩ : S68), (⟨5, y207, 1⟩ : S68), (⟨5, y210, 6⟩ : S68), (⟨2, y213, 0⟩ : S68), (⟨2, y216, 1⟩ : S68)] : List (S68))) (inner := [.int .i64 5, .slice none 0 0, .int .i64 0, .int .i64 4, .slice Ao9 y183.length co9, .int .i64 8, .int .i64 5, .slice Ao9 y183.length co9, .int .i64 1, .int .i64 5, .slice Ao12 y189.length co12, .int .i64 1, .int .i64 5, .slice Ao15 y192.length co15, .int .i64 0, .int .i64 5, .slice Ao18 y195.length co18, .int .i64 1, .int .i64 5, .slice Ao21 y198.length co21, .int .i64 1, .int .i64 5, .slice Ao24 y201.length co24, .int .i64 1, .int .i64 5, .slice Ao27 y204.length co27, .int .i64 6, .int .i64 5, .slice Ao30 y207.length co30, .int .i64 1, .int .i64 5, .slice Ao33 y210.length co33, .int .i64 6, .int .i64 2, .slice Ao36 y213.length co36, .int .i64 0, .int .i64 2, .slice Ao39 y216.length co39, .int .i64 1]) (ok := (fun k_ => some k_ ≠ (v187 : Value).ownBlock)) (okp := (fun k_ => some k_ ≠ (v187 : Value).ownBlock)) ?hr ?hp (fun _ hk => hk) ((show ∀ k_, w37.heap.size ≤ k_ → (fun k_ => some k_ ≠ (v187 : Value).ownBlock) k_ from fun k_ hk => Kd.fresh' (Kd.N_lt (nup HO188.out)) k_ hk) _ (Nat.le_refl _)) (Below.refl _ _) (Nat.le_refl _) (by simp) ?_; (case hd => rfl); (case hg => rfl); (case hr => first | (go_simp; done) | (go_simp; rfl)); (case hp => exact (Reps.c3 (show Kd.FK k68 _ _ (⟨5, ([] : List (S45)), 0⟩ : S68) [.int .i64 5, .slice none 0 0, .int .i64 0] from (k68_mkF _ _ (⟨5, ([] : List (S45)), 0⟩ : S68) (Nat.le_refl _) (Kd.F_nil _ _ _))) (Reps.c3 (show Kd.FK k68 _ _ (⟨4, y183, 8⟩ : S68) [.int .i64 4, .slice Ao9 y183.length co9, .int .i64 8] from (k68_mkF _ _ (⟨4, y183, 8⟩ : S68) (Kd.R_reads' (Kd.R_mono (ok' := (fun k_ => some k_ ≠ (v187 : Value).ownBlock)) (Kd.R_apart' (HO185.out) (Kd.N_typed HO188.out) (by decide)) (fun k_ hk => hk.2))).2.1 (Kd.R_F (Kd.R_mono (ok' := (fun k_ => some k_ ≠ (v187 : Value).ownBlock)) (Kd.R_apart' (HO185.out) (Kd.N_typed HO188.out) (by decide)) (fun k_ hk => hk.2))))) (Reps.c3 (show Kd.FK k68 _ _ (⟨5, y183, 1⟩ : S68) [.int .i64 5, .slice Ao9 y183.length co9, .int .i64 1] from (k68_mkF _ _ (⟨5, y183, 1⟩ : S68) (Kd.R_reads' (Kd.R_mono (ok' := (fun k_ => some k_ ≠ (v187 : Value).ownBlock)) (Kd.R_apart' (HO185.out) (Kd.N_typed HO188.out) (by decide)) (fun k_ hk => hk.2))).2.1 (Kd.R_F (Kd.R_mono (ok' := (fun k_ => some k_ ≠ (v187 : Value).ownBlock)) (Kd.R_apart' (HO185.out) (Kd.N_typed HO188.out) (by decide)) (fun k_ hk => hk.2))))) (Reps.c3 (show Kd.FK k68 _ _ (⟨5, y189, 1⟩ : S68) [.int .i64 5, .slice Ao12 y189.length co12, .int .i64 1] from (k68_mkF _ _ (⟨5, y189, 1⟩ : S68) (Kd.R_reads' (Kd.R_mono (ok' := (fun k_ => some k_ ≠ (v187 : Value).ownBlock)) (Kd.R_apart' (HO191.out) (Kd.N_typed HO188.out) (by decide)) (fun k_ hk => hk.2))).2.1 (Kd.R_F (Kd.R_mono (ok' := (fun k_ => some k_ ≠ (v187 : Value).ownBlock)) (Kd.R_apart' (HO191.out) (Kd.N_typed HO188.out) (by decide)) (fun k_ hk => hk.2))))) (Reps.c3 (show Kd.FK k68 _ _ (⟨5, y192, 0⟩ : S68) [.int .i64 5, .slice Ao15 y192.length co15, .int .i64 0] from (k68_mkF _ _ (⟨5, y192, 0⟩ : S68) (Kd.R_reads' (Kd.R_mono (ok' := (fun k_ => some k_ ≠ (v187 : Value).ownBlock)) (Kd.R_apart' (HO194.out) (Kd.N_typed HO188.out) (by decide)) (fun k_ hk => hk.2))).2.1 (Kd.R_F (Kd.R_mono (ok' := (fun k_ => some k_ ≠ (v187 : Value).ownBlock)) (Kd.R_apart' (HO194.out) (Kd.N_typed HO188.out) (by decide)) (fun k_ hk => hk.2))))) (Reps.c3 (show Kd.FK k68 _ _ (⟨5, y195, 1⟩ : S68) [.int .i64 5, .slice Ao18 y195.length co18, .int .i64 1] from (k68_mkF _ _ (⟨5, y195, 1⟩ : S68) (Kd.R_reads' (Kd.R_mono (ok' := (fun k_ => some k_ ≠ (v187 : Value).ownBlock)) (Kd.R_apart' (HO197.out) (Kd.N_typed HO188.out) (by decide)) (fun k_ hk => hk.2))).2.1 (Kd.R_F (Kd.R_mono (ok' := (fun k_ => some k_ ≠ (v187 : Value).ownBlock)) (Kd.R_apart' (HO197.out) (Kd.N_typed HO188.out) (by decide)) (fun k_ hk => hk.2))))) (Reps.c3 (show Kd.FK k68 _ _ (⟨5, y198, 1⟩ : S68) [.int .i64 5, .slice Ao21 y198.length co21, .int .i64 1] from (k68_mkF _ _ (⟨5, y198, 1⟩ : S68) (Kd.R_reads' (Kd.R_mono (ok' := (fun k_ => some k_ ≠ (v187 : Value).ownBlock)) (Kd.R_apart' (HO200.out) (Kd.N_typed HO188.out) (by decide)) (fun k_ hk => hk.2))).2.1 (Kd.R_F (Kd.R_mono (ok' := (fun k_ => some k_ ≠ (v187 : Value).ownBlock)) (Kd.R_apart' (HO200.out) (Kd.N_typed HO188.out) (by decide)) (fun k_ hk => hk.2))))) (Reps.c3 (show Kd.FK k68 _ _ (⟨5, y201, 1⟩ : S68) [.int .i64 5, .slice Ao24 y201.length co24, .int .i64 1] from (k68_mkF _ _ (⟨5, y201, 1⟩ : S68) (Kd.R_reads' (Kd.R_mono (ok' := (fun k_ => some k_ ≠ (v187 : Value).ownBlock)) (Kd.R_apart' (HO203.out) (Kd.N_typed HO188.out) (by decide)) (fun k_ hk => hk.2))).2.1 (Kd.R_F (Kd.R_mono (ok' := (fun k_ => some k_ ≠ (v187 : Value).ownBlock)) (Kd.R_apart' (HO203.out) (Kd.N_typed HO188.out) (by decide)) (fun k_ hk => hk.2))))) (Reps.c3 (show Kd.FK k68 _ _ (⟨5, y204, 6⟩ : S68) [.int .i64 5, .slice Ao27 y204.length co27, .int .i64 6] from (k68_mkF _ _ (⟨5, y204, 6⟩ : S68) (Kd.R_reads' (Kd.R_mono (ok' := (fun k_ => some k_ ≠ (v187 : Value).ownBlock)) (Kd.R_apart' (HO206.out) (Kd.N_typed HO188.out) (by decide)) (fun k_ hk => hk.2))).2.1 (Kd.R_F (Kd.R_mono (ok' := (fun k_ => some k_ ≠ (v187 : Value).ownBlock)) (Kd.R_apart' (HO206.out) (Kd.N_typed HO188.out) (by decide)) (fun k_ hk => hk.2))))) (Reps.c3 (show Kd.FK k68 _ _ (⟨5, y207, 1⟩ : S68) [.int .i64 5, .slice Ao30 y207.length co30, .int .i64 1] from (k68_mkF _ _ (⟨5, y207, 1⟩ : S68) (Kd.R_reads' (Kd.R_mono (ok' := (fun k_ => some k_ ≠ (v187 : Value).ownBlock)) (Kd.R_apart' (HO209.out) (Kd.N_typed HO188.out) (by decide)) (fun k_ hk => hk.2))).2.1 (Kd.R_F (Kd.R_mono (ok' := (fun k_ => some k_ ≠ (v187 : Value).ownBlock)) (Kd.R_apart' (HO209.out) (Kd.N_typed HO188.out) (by decide)) (fun k_ hk => hk.2))))) (Reps.c3 (show Kd.FK k68 _ _ (⟨5, y210, 6⟩ : S68) [.int .i64 5, .slice Ao33 y210.length co33, .int .i64 6] from (k68_mkF _ _ (⟨5, y210, 6⟩ : S68) (Kd.R_reads' (Kd.R_mono (ok' := (fun k_ => some k_ ≠ (v187 : Value).ownBlock)) (Kd.R_apart' (HO212.out) (Kd.N_typed HO188.out) (by decide)) (fun k_ hk => hk.2))).2.1 (Kd.R_F (Kd.R_mono (ok' := (fun k_ => some k_ ≠ (v187 : Value).ownBlock)) (Kd.R_apart' (HO212.out) (Kd.N_typed HO188.out) (by decide)) (fun k_ hk => hk.2))))) (Reps.c3 (show Kd.FK k68 _ _ (⟨2, y213, 0⟩ : S68) [.int .i64 2, .slice Ao36 y213.length co36, .int .i64 0] from (k68_mkF _ _ (⟨2, y213, 0⟩ : S68) (Kd.R_reads' (Kd.R_mono (ok' := (fun k_ => some k_ ≠ (v187 : Value).ownBlock)) (Kd.R_apart' (HO215.out) (Kd.N_typed HO188.out) (by decide)) (fun k_ hk => hk.2))).2.1 (Kd.R_F (Kd.R_mono (ok' := (fun k_ => some k_ ≠ (v187 : Value).ownBlock)) (Kd.R_apart' (HO215.out) (Kd.N_typed HO188.out) (by decide)) (fun k_ hk => hk.2))))) (Reps.c3 (show Kd.FK k68 _ _ (⟨2, y216, 1⟩ : S68) [.int .i64 2, .slice Ao39 y216.length co39, .int .i64 1] from (k68_mkF _ _ (⟨2, y216, 1⟩ : S68) (Kd.R_reads' (Kd.R_mono (ok' := (fun k_ => some k_ ≠ (v187 : Value).ownBlock)) (Kd.R_apart' (HO218.out) (Kd.N_typed HO188.out) (by decide)) (fun k_ hk => hk.2))).2.1 (Kd.R_F (Kd.R_mono (ok' := (fun k_ => some k_ ≠ (v187 : Value).ownBlock)) (Kd.R_apart' (HO218.out) (Kd.N_typed HO188.out) (by decide)) (fun k_ hk => hk.2))))) (Reps.none _ _))))))))))))))); intro v220 w40 ho41 hb hg_ hnew_; clear hg_ hnew_; (first | rw [← Ny219.out] at ho41 | (simp only [Int.reduceToNat] at ho41; rw [← Ny219.out] at ho41)); have n0_ := As.mk (Kd.N_elder' (nup HO188.out) (by first | exact Kd.S_base ho41 | exact Kd.R_base ho41 | exact Kd.N_base ho41) hb); have n1_ := As.mk (Kd.N_lower ho41 (below_size (hup0 HB.out))); have n2_ := As.mk (below_step (hup0 HB.out) hb); have nb_ := As.mk (Kd.R_mono (ok' := fun _ => True) (Kd.R_below (rup HO185.out) hb) (fun _ _ => trivial)); clear HO188 HB; clear HO185 HO191; clear HO194 HO197; clear HO200 HO203; clear HO206 HO209; clear HO212 HO215 HO218; have HO188 := n0_; have HO221 := n1_; have HB := n2_; clear n0_ n1_ n2_; have HO185 := nb_; clear nb_; clear hb ho41; obtain ⟨Ao42, co42, eo42⟩ := Kd.N_slice HO221.out; subst eo42))
   go_loopg [113] k (fun kq v113 w' => ∃ (x113_1 : Int), v113 = .int .i64 x113_1 ∧ As (cE.l0 kq y183 y186 y219 (y219.length : Int) x113_1 = some r) ∧ As (kq ≤ k) ∧ As (Kd.R k45 45 w' w.heap.size (fun _ => True) (.slice Ao9 y183.length co9) y183) ∧ As (Kd.N (Kd.slice 45 k45) 22 w' w.heap.size (fun k_ => some k_ ≠ ((.slice Ao9 y183.length co9) : Value).ownBlock ∧ some k_ ≠ ((.slice Ao42 y219.length co42) : Value).ownBlock) v187 y186) ∧ As (Kd.N k68 68 w' w.heap.size (fun k_ => some k_ ≠ (v187 : Value).ownBlock) (.slice Ao42 y219.length co42) y219) ∧ As (Below w.heap.size w w'))
   case atStart => exact ⟨(0), (by first | rfl | (simp; done) | (simp [*]; done)), H', ⟨Nat.le_refl _⟩, ⟨by (with_reducible repeat (first | apply Kd.R_alloc | apply Kd.R_drewN | apply Kd.R_drew)); exact HO185.out⟩, ⟨by (with_reducible repeat (first | apply Kd.N_alloc | apply Kd.N_drewN | apply Kd.N_drew)); exact Kd.N_mono HO188.out (fun _ hk => ⟨hk.1.1.1.1.1.1.1.1.1.1.1, hk.2⟩)⟩, ⟨by (with_reducible repeat (first | apply Kd.N_alloc | apply Kd.N_drewN | apply Kd.N_drew)); exact HO221.out⟩, ⟨by repeat (first | (with_reducible first | exact HB.out | apply below_alloc | apply pw_below_drewN | apply below_drew1) | exact HB.out)⟩⟩
   case round =>
    rename_i J_ K_ hIJ_ hHK_
    clear H'
    try clear c1
    try clear c2
    try clear p2
    try clear c3
    try clear c3b0
    try clear c3b1
    try clear c11
    try clear c19
    obtain ⟨x113_1, rfl, HA, HK1, HO_1, HO_2, HO_111, HB⟩ := hrel
    cases gk with
    | zero => exact absurd HA.out (by simp [cE.l0])
    | succ k1 =>
     have H := HA.out
     clear HA
     simp only [cE.l0] at H
     by_cases c43 : x113_1 < (y219.length : Int)
     ·rw [if_pos c43] at H
      have c43b0 : decide (x113_1 < (y219.length : Int)) = true := decide_eq_true c43
      clear c43
      by_cases c44 : 0 ≤ x113_1
      ·rw [if_pos c44] at H
       have c44b0 : decide (0 ≤ x113_1) = true := decide_eq_true c44
       clear c44
       by_cases c45 : x113_1 < (y219.length : Int)
       ·rw [if_pos c45] at H
        have c45b0 : decide (x113_1 < (y219.length : Int)) = true := decide_eq_true c45
        clear c45
        replace H := Option.bind_eq_some_iff.mp H
        obtain ⟨⟨t224, t227⟩, A460, H⟩ := H
        try dsimp only at H
        have A46 := As.mk A460
        clear A460
        replace H := Option.bind_eq_some_iff.mp H
        obtain ⟨⟨t228, t231⟩, A470, H⟩ := H
        try dsimp only at H
        have A47 := As.mk A470
        clear A470
        replace H := Option.bind_eq_some_iff.mp H
        obtain ⟨⟨t232, t233⟩, A480, H⟩ := H
        try dsimp only at H
        have A48 := As.mk A480
        clear A480
        replace H := Option.bind_eq_some_iff.mp H
        obtain ⟨⟨t236, t237⟩, A490, H⟩ := H
        try dsimp only at H
        have A49 := As.mk A490
        clear A490
        replace H := Option.bind_eq_some_iff.mp H
        obtain ⟨⟨t238, t239⟩, A500, H⟩ := H
        try dsimp only at H
        have A50 := As.mk A500
        clear A500
        replace H := Option.bind_eq_some_iff.mp H
        obtain ⟨⟨t242, t243⟩, A510, H⟩ := H
        try dsimp only at H
        have A51 := As.mk A510
        clear A510
        obtain ⟨y246, hy246⟩ : ∃ y_ : List (List (S45)), y_ = (([(rd_T68 y219 x113_1).f1] : List (List (S45)))) := ⟨_, rfl⟩
        replace H : ((column_Combine.f k1 ((rd_T68 y219 x113_1).f0) y246 ([] : List (S45))).bind fun bt249 => ((column_Rest.f k1 ((rd_T68 y219 x113_1).f0) ([] : List (List (S45))) ((rd_T68 y219 x113_1).f1)).bind fun bt253 => ((column_Basis.f k1 ((rd_T68 y219 x113_1).f0) (([(rd_T68 y219 x113_1).f1] : List (List (S45))))).bind fun bt263 => ((column_KernelB.f k1 ((rd_T68 y219 x113_1).f0) (([[], (rd_T68 y219 x113_1).f1] : List (List (S45))))).bind fun bt270 => (if ((rd_T68 y219 x113_1).f2) = 0 then (if (((rd_T68 y219 x113_1).f1).length : Int) > 0 then ((column_Check.f k1 ((rd_T68 y219 x113_1).f0) ((rd_T68 y219 x113_1).f1)).bind fun t274 => (if t274 = ((rd_T68 y219 x113_1).f2) then (if t227 = ((rd_T68 y219 x113_1).f2) then (if t231 = ((rd_T68 y219 x113_1).f2) then (if t233 = ((rd_T68 y219 x113_1).f2) then (if t237 = ((rd_T68 y219 x113_1).f2) then (if t239 = ((rd_T68 y219 x113_1).f2) then (if t243 = 10 then (if bt249.2 = ((rd_T68 y219 x113_1).f2) then (if bt253.2.2 = ((rd_T68 y219 x113_1).f2) then (if bt263.2 = ((rd_T68 y219 x113_1).f2) then (if bt270.2 = ((rd_T68 y219 x113_1).f2) then (cE.l0 k1 y183 y186 y219 (y219.length : Int) (wrap64 (x113_1 + 1))) else (some false)) else (some false)) else (some false)) else (some false)) else (some false)) else (some false)) else (some false)) else (some false)) else (some false)) else (some false)) else (some false))) else ((column_Check.f k1 ((rd_T68 y219 x113_1).f0) ((rd_T68 y219 x113_1).f1)).bind fun t275 => (if t275 = ((rd_T68 y219 x113_1).f2) then (if t227 = ((rd_T68 y219 x113_1).f2) then (if t231 = ((rd_T68 y219 x113_1).f2) then (if t233 = ((rd_T68 y219 x113_1).f2) then (if t237 = ((rd_T68 y219 x113_1).f2) then (if t239 = ((rd_T68 y219 x113_1).f2) then (if t243 = ((rd_T68 y219 x113_1).f2) then (if bt249.2 = ((rd_T68 y219 x113_1).f2) then (if bt253.2.2 = ((rd_T68 y219 x113_1).f2) then (if bt263.2 = ((rd_T68 y219 x113_1).f2) then (if bt270.2 = ((rd_T68 y219 x113_1).f2) then (cE.l0 k1 y183 y186 y219 (y219.length : Int) (wrap64 (x113_1 + 1))) else (some false)) else (some false)) else (some false)) else (some false)) else (some false)) else (some false)) else (some false)) else (some false)) else (some false)) else (some false)) else (some false)))) else ((column_Check.f k1 ((rd_T68 y219 x113_1).f0) ((rd_T68 y219 x113_1).f1)).bind fun t276 => (if t276 = ((rd_T68 y219 x113_1).f2) then (if t227 = ((rd_T68 y219 x113_1).f2) then (if t231 = ((rd_T68 y219 x113_1).f2) then (if t233 = ((rd_T68 y219 x113_1).f2) then (if t237 = ((rd_T68 y219 x113_1).f2) then (if t239 = ((rd_T68 y219 x113_1).f2) then (if t243 = ((rd_T68 y219 x113_1).f2) then (if bt249.2 = ((rd_T68 y219 x113_1).f2) then (if bt253.2.2 = ((rd_T68 y219 x113_1).f2) then (if bt263.2 = ((rd_T68 y219 x113_1).f2) then (if bt270.2 = ((rd_T68 y219 x113_1).f2) then (cE.l0 k1 y183 y186 y219 (y219.length : Int) (wrap64 (x113_1 + 1))) else (some false)) else (some false)) else (some false)) else (some false)) else (some false)) else (some false)) else (some false)) else (some false)) else (some false)) else (some false)) else (some false)))))))) = some r := by first | (rw [hy246]; with_reducible exact H) | (have H2_ := (Option.bind_some _ _).symm.trans H; rw [hy246]; with_reducible exact H2_) | (have H2_ := (Option.bind_some _ _).symm.trans H; with_reducible exact H2_) | with_reducible exact H | (rw [hy246]; exact H) | exact H
        have Ny246 := As.mk hy246
        clear hy246
        replace H := Option.bind_eq_some_iff.mp H
        obtain ⟨⟨t249, t250⟩, A520, H⟩ := H
        try dsimp only at H
        have A52 := As.mk A520
        clear A520
        replace H := Option.bind_eq_some_iff.mp H
        obtain ⟨⟨t253, t254, t255⟩, A530, H⟩ := H
        try dsimp only at H
        have A53 := As.mk A530
        clear A530
        obtain ⟨y260, hy260⟩ : ∃ y_ : List (List (S45)), y_ = (([(rd_T68 y219 x113_1).f1] : List (List (S45)))) := ⟨_, rfl⟩
        replace H : ((column_Basis.f k1 ((rd_T68 y219 x113_1).f0) y260).bind fun bt263 => ((column_KernelB.f k1 ((rd_T68 y219 x113_1).f0) (([[], (rd_T68 y219 x113_1).f1] : List (List (S45))))).bind fun bt270 => (if ((rd_T68 y219 x113_1).f2) = 0 then (if (((rd_T68 y219 x113_1).f1).length : Int) > 0 then ((column_Check.f k1 ((rd_T68 y219 x113_1).f0) ((rd_T68 y219 x113_1).f1)).bind fun t274 => (if t274 = ((rd_T68 y219 x113_1).f2) then (if t227 = ((rd_T68 y219 x113_1).f2) then (if t231 = ((rd_T68 y219 x113_1).f2) then (if t233 = ((rd_T68 y219 x113_1).f2) then (if t237 = ((rd_T68 y219 x113_1).f2) then (if t239 = ((rd_T68 y219 x113_1).f2) then (if t243 = 10 then (if t250 = ((rd_T68 y219 x113_1).f2) then (if t255 = ((rd_T68 y219 x113_1).f2) then (if bt263.2 = ((rd_T68 y219 x113_1).f2) then (if bt270.2 = ((rd_T68 y219 x113_1).f2) then (cE.l0 k1 y183 y186 y219 (y219.length : Int) (wrap64 (x113_1 + 1))) else (some false)) else (some false)) else (some false)) else (some false)) else (some false)) else (some false)) else (some false)) else (some false)) else (some false)) else (some false)) else (some false))) else ((column_Check.f k1 ((rd_T68 y219 x113_1).f0) ((rd_T68 y219 x113_1).f1)).bind fun t275 => (if t275 = ((rd_T68 y219 x113_1).f2) then (if t227 = ((rd_T68 y219 x113_1).f2) then (if t231 = ((rd_T68 y219 x113_1).f2) then (if t233 = ((rd_T68 y219 x113_1).f2) then (if t237 = ((rd_T68 y219 x113_1).f2) then (if t239 = ((rd_T68 y219 x113_1).f2) then (if t243 = ((rd_T68 y219 x113_1).f2) then (if t250 = ((rd_T68 y219 x113_1).f2) then (if t255 = ((rd_T68 y219 x113_1).f2) then (if bt263.2 = ((rd_T68 y219 x113_1).f2) then (if bt270.2 = ((rd_T68 y219 x113_1).f2) then (cE.l0 k1 y183 y186 y219 (y219.length : Int) (wrap64 (x113_1 + 1))) else (some false)) else (some false)) else (some false)) else (some false)) else (some false)) else (some false)) else (some false)) else (some false)) else (some false)) else (some false)) else (some false)))) else ((column_Check.f k1 ((rd_T68 y219 x113_1).f0) ((rd_T68 y219 x113_1).f1)).bind fun t276 => (if t276 = ((rd_T68 y219 x113_1).f2) then (if t227 = ((rd_T68 y219 x113_1).f2) then (if t231 = ((rd_T68 y219 x113_1).f2) then (if t233 = ((rd_T68 y219 x113_1).f2) then (if t237 = ((rd_T68 y219 x113_1).f2) then (if t239 = ((rd_T68 y219 x113_1).f2) then (if t243 = ((rd_T68 y219 x113_1).f2) then (if t250 = ((rd_T68 y219 x113_1).f2) then (if t255 = ((rd_T68 y219 x113_1).f2) then (if bt263.2 = ((rd_T68 y219 x113_1).f2) then (if bt270.2 = ((rd_T68 y219 x113_1).f2) then (cE.l0 k1 y183 y186 y219 (y219.length : Int) (wrap64 (x113_1 + 1))) else (some false)) else (some false)) else (some false)) else (some false)) else (some false)) else (some false)) else (some false)) else (some false)) else (some false)) else (some false)) else (some false)))))) = some r := by first | (rw [hy260]; with_reducible exact H) | (have H2_ := (Option.bind_some _ _).symm.trans H; rw [hy260]; with_reducible exact H2_) | (have H2_ := (Option.bind_some _ _).symm.trans H; with_reducible exact H2_) | with_reducible exact H | (rw [hy260]; exact H) | exact H
        have Ny260 := As.mk hy260
        clear hy260
        replace H := Option.bind_eq_some_iff.mp H
        obtain ⟨⟨t263, t264⟩, A540, H⟩ := H
        try dsimp only at H
        have A54 := As.mk A540
        clear A540
        obtain ⟨y267, hy267⟩ : ∃ y_ : List (List (S45)), y_ = (([[], (rd_T68 y219 x113_1).f1] : List (List (S45)))) := ⟨_, rfl⟩
        replace H : ((column_KernelB.f k1 ((rd_T68 y219 x113_1).f0) y267).bind fun bt270 => (if ((rd_T68 y219 x113_1).f2) = 0 then (if (((rd_T68 y219 x113_1).f1).length : Int) > 0 then ((column_Check.f k1 ((rd_T68 y219 x113_1).f0) ((rd_T68 y219 x113_1).f1)).bind fun t274 => (if t274 = ((rd_T68 y219 x113_1).f2) then (if t227 = ((rd_T68 y219 x113_1).f2) then (if t231 = ((rd_T68 y219 x113_1).f2) then (if t233 = ((rd_T68 y219 x113_1).f2) then (if t237 = ((rd_T68 y219 x113_1).f2) then (if t239 = ((rd_T68 y219 x113_1).f2) then (if t243 = 10 then (if t250 = ((rd_T68 y219 x113_1).f2) then (if t255 = ((rd_T68 y219 x113_1).f2) then (if t264 = ((rd_T68 y219 x113_1).f2) then (if bt270.2 = ((rd_T68 y219 x113_1).f2) then (cE.l0 k1 y183 y186 y219 (y219.length : Int) (wrap64 (x113_1 + 1))) else (some false)) else (some false)) else (some false)) else (some false)) else (some false)) else (some false)) else (some false)) else (some false)) else (some false)) else (some false)) else (some false))) else ((column_Check.f k1 ((rd_T68 y219 x113_1).f0) ((rd_T68 y219 x113_1).f1)).bind fun t275 => (if t275 = ((rd_T68 y219 x113_1).f2) then (if t227 = ((rd_T68 y219 x113_1).f2) then (if t231 = ((rd_T68 y219 x113_1).f2) then (if t233 = ((rd_T68 y219 x113_1).f2) then (if t237 = ((rd_T68 y219 x113_1).f2) then (if t239 = ((rd_T68 y219 x113_1).f2) then (if t243 = ((rd_T68 y219 x113_1).f2) then (if t250 = ((rd_T68 y219 x113_1).f2) then (if t255 = ((rd_T68 y219 x113_1).f2) then (if t264 = ((rd_T68 y219 x113_1).f2) then (if bt270.2 = ((rd_T68 y219 x113_1).f2) then (cE.l0 k1 y183 y186 y219 (y219.length : Int) (wrap64 (x113_1 + 1))) else (some false)) else (some false)) else (some false)) else (some false)) else (some false)) else (some false)) else (some false)) else (some false)) else (some false)) else (some false)) else (some false)))) else ((column_Check.f k1 ((rd_T68 y219 x113_1).f0) ((rd_T68 y219 x113_1).f1)).bind fun t276 => (if t276 = ((rd_T68 y219 x113_1).f2) then (if t227 = ((rd_T68 y219 x113_1).f2) then (if t231 = ((rd_T68 y219 x113_1).f2) then (if t233 = ((rd_T68 y219 x113_1).f2) then (if t237 = ((rd_T68 y219 x113_1).f2) then (if t239 = ((rd_T68 y219 x113_1).f2) then (if t243 = ((rd_T68 y219 x113_1).f2) then (if t250 = ((rd_T68 y219 x113_1).f2) then (if t255 = ((rd_T68 y219 x113_1).f2) then (if t264 = ((rd_T68 y219 x113_1).f2) then (if bt270.2 = ((rd_T68 y219 x113_1).f2) then (cE.l0 k1 y183 y186 y219 (y219.length : Int) (wrap64 (x113_1 + 1))) else (some false)) else (some false)) else (some false)) else (some false)) else (some false)) else (some false)) else (some false)) else (some false)) else (some false)) else (some false)) else (some false))))) = some r := by first | (rw [hy267]; with_reducible exact H) | (have H2_ := (Option.bind_some _ _).symm.trans H; rw [hy267]; with_reducible exact H2_) | (have H2_ := (Option.bind_some _ _).symm.trans H; with_reducible exact H2_) | with_reducible exact H | (rw [hy267]; exact H) | exact H
        have Ny267 := As.mk hy267
        clear hy267
        replace H := Option.bind_eq_some_iff.mp H
        obtain ⟨⟨t270, t271⟩, A550, H⟩ := H
        try dsimp only at H
        have A55 := As.mk A550
        clear A550
        by_cases c56 : ((rd_T68 y219 x113_1).f2) = 0
        ·rw [if_pos c56] at H
         have c56b0 : (((rd_T68 y219 x113_1).f2) == 0) = true := beq_iff_eq.mpr c56
         have c56b1 : (((rd_T68 y219 x113_1).f2) != 0) = false := bne_eq_false_iff_eq.mpr c56
         clear c56
         by_cases c57 : (((rd_T68 y219 x113_1).f1).length : Int) > 0
         ·rw [if_pos c57] at H
          have c57b0 : decide (0 < (((rd_T68 y219 x113_1).f1).length : Int)) = true := decide_eq_true c57
          have c57b1 : decide (0 < ((rd_T68 y219 x113_1).f1).length) = true := decide_eq_true (by omega)
          clear c57
          replace H := Option.bind_eq_some_iff.mp H
          obtain ⟨t274, A580, H⟩ := H
          try dsimp only at H
          have A58 := As.mk A580
          clear A580
          by_cases c59 : t274 = ((rd_T68 y219 x113_1).f2)
          ·rw [if_pos c59] at H
           have c59b0 : (t274 == ((rd_T68 y219 x113_1).f2)) = true := beq_iff_eq.mpr c59
           have c59b1 : (t274 != ((rd_T68 y219 x113_1).f2)) = false := bne_eq_false_iff_eq.mpr c59
           clear c59
           by_cases c60 : t227 = ((rd_T68 y219 x113_1).f2)
           ·rw [if_pos c60] at H
            have c60b0 : (t227 == ((rd_T68 y219 x113_1).f2)) = true := beq_iff_eq.mpr c60
            have c60b1 : (t227 != ((rd_T68 y219 x113_1).f2)) = false := bne_eq_false_iff_eq.mpr c60
            clear c60
            by_cases c61 : t231 = ((rd_T68 y219 x113_1).f2)
            ·rw [if_pos c61] at H
             have c61b0 : (t231 == ((rd_T68 y219 x113_1).f2)) = true := beq_iff_eq.mpr c61
             have c61b1 : (t231 != ((rd_T68 y219 x113_1).f2)) = false := bne_eq_false_iff_eq.mpr c61
             clear c61
             by_cases c62 : t233 = ((rd_T68 y219 x113_1).f2)
             ·rw [if_pos c62] at H
              have c62b0 : (t233 == ((rd_T68 y219 x113_1).f2)) = true := beq_iff_eq.mpr c62
              have c62b1 : (t233 != ((rd_T68 y219 x113_1).f2)) = false := bne_eq_false_iff_eq.mpr c62
              clear c62
              by_cases c63 : t237 = ((rd_T68 y219 x113_1).f2)
              ·rw [if_pos c63] at H
               have c63b0 : (t237 == ((rd_T68 y219 x113_1).f2)) = true := beq_iff_eq.mpr c63
               have c63b1 : (t237 != ((rd_T68 y219 x113_1).f2)) = false := bne_eq_false_iff_eq.mpr c63
               clear c63
               by_cases c64 : t239 = ((rd_T68 y219 x113_1).f2)
               ·rw [if_pos c64] at H
                have c64b0 : (t239 == ((rd_T68 y219 x113_1).f2)) = true := beq_iff_eq.mpr c64
                have c64b1 : (t239 != ((rd_T68 y219 x113_1).f2)) = false := bne_eq_false_iff_eq.mpr c64
                clear c64
                by_cases c65 : t243 = 10
                ·rw [if_pos c65] at H
                 have c65b0 : (t243 == 10) = true := beq_iff_eq.mpr c65
                 have c65b1 : (t243 != 10) = false := bne_eq_false_iff_eq.mpr c65
                 clear c65
                 by_cases c66 : t250 = ((rd_T68 y219 x113_1).f2)
                 ·rw [if_pos c66] at H
                  have c66b0 : (t250 == ((rd_T68 y219 x113_1).f2)) = true := beq_iff_eq.mpr c66
                  have c66b1 : (t250 != ((rd_T68 y219 x113_1).f2)) = false := bne_eq_false_iff_eq.mpr c66
                  clear c66
                  by_cases c67 : t255 = ((rd_T68 y219 x113_1).f2)
                  ·rw [if_pos c67] at H
                   have c67b0 : (t255 == ((rd_T68 y219 x113_1).f2)) = true := beq_iff_eq.mpr c67
                   have c67b1 : (t255 != ((rd_T68 y219 x113_1).f2)) = false := bne_eq_false_iff_eq.mpr c67
                   clear c67
                   by_cases c68 : t264 = ((rd_T68 y219 x113_1).f2)
                   ·rw [if_pos c68] at H
                    have c68b0 : (t264 == ((rd_T68 y219 x113_1).f2)) = true := beq_iff_eq.mpr c68
                    have c68b1 : (t264 != ((rd_T68 y219 x113_1).f2)) = false := bne_eq_false_iff_eq.mpr c68
                    clear c68
                    by_cases c69 : t271 = ((rd_T68 y219 x113_1).f2)
                    ·rw [if_pos c69] at H
                     have c69b0 : (t271 == ((rd_T68 y219 x113_1).f2)) = true := beq_iff_eq.mpr c69
                     have c69b1 : (t271 != ((rd_T68 y219 x113_1).f2)) = false := bne_eq_false_iff_eq.mpr c69
                     clear c69
                     have H' := As.mk H
                     clear H
                     exact exRound0 w r k y183 y186 y219 v187 Ao9 Ao42 co9 co42 wr hrt k1 x113_1 c43b0 c44b0 c45b0 A46 A47 A48 A49 A50 A51 Ny246 A52 A53 Ny260 A54 Ny267 A55 c56b0 c56b1 c57b0 c57b1 A58 c59b0 c59b1 c60b0 c60b1 c61b0 c61b1 c62b0 c62b1 c63b0 c63b1 c64b0 c64b1 c65b0 c65b1 c66b0 c66b1 c67b0 c67b1 c68b0 c68b1 c69b0 c69b1 H' HK1 HO_1 HO_2 HO_111 HB _ _ ⟨fun q0 q4 q5 q6 q7 q8 q9 q10 q11 q12 q13 q14 q15 q16 q17 q18 q19 q20 q21 q22 q23 q24 q25 q26 q113 q114 q115 q116 q117 q118 q119 q120 q121 q122 q123 q124 q125 q126 q127 q128 q129 q130 q131 q132 q133 q134 q135 q136 q137 q138 q139 q140 q141 q142 q143 q144 q145 q146 q147 q148 q149 q150 q151 q152 q153 q154 q155 q156 q157 q158 q159 q160 q161 q162 q163 q164 q165 q166 q167 q168 q169 q170 q171 q172 q173 q174 q175 q176 q177 q178 q179 q180 q181 q182 q183 q184 q185 q186 q187 q188 q189 q190 q191 q192 q193 q194 q195 q196 q197 q198 q199 q200 q201 q202 q203 q204 q205 q206 q207 q208 q209 q210 q211 q212 q213 q214 q215 q216 q217 q218 q219 q220 q221 q222 q223 q224 q225 q226 q227 q228 q229 q230 q231 q232 q233 q234 q235 q236 q237 q238 q239 q240 q241 q242 q243 q244 q245 q246 q247 q248 q249 q250 q251 q252 q253 q254 q255 q256 q257 q258 q259 q260 q261 q262 q263 q264 q265 q266 q267 q268 q269 q270 q271 q272 q273 q274 q275 q276 q277 q278 q279 q280 q281 w' hq_ => hHK_ _ _ (Handed.intro k1 (Nat.lt_succ_self _) (hIJ_ k1 _ _ ⟨q0, q4, q5, q6, q7, q8, q9, q10, q11, q12, q13, q14, q15, q16, q17, q18, q19, q20, q21, q22, q23, q24, q25, q26, q113, q114, q115, q116, q117, q118, q119, q120, q121, q122, q123, q124, q125, q126, q127, q128, q129, q130, q131, q132, q133, q134, q135, q136, q137, q138, q139, q140, q141, q142, q143, q144, q145, q146, q147, q148, q149, q150, q151, q152, q153, q154, q155, q156, q157, q158, q159, q160, q161, q162, q163, q164, q165, q166, q167, q168, q169, q170, q171, q172, q173, q174, q175, q176, q177, q178, q179, q180, q181, q182, q183, q184, q185, q186, q187, q188, q189, q190, q191, q192, q193, q194, q195, q196, q197, q198, q199, q200, q201, q202, q203, q204, q205, q206, q207, q208, q209, q210, q211, q212, q213, q214, q215, q216, q217, q218, q219, q220, q221, q222, q223, q224, q225, q226, q227, q228, q229, q230, q231, q232, q233, q234, q235, q236, q237, q238, q239, q240, q241, q242, q243, q244, q245, q246, q247, q248, q249, q250, q251, q252, q253, q254, q255, q256, q257, q258, q259, q260, q261, q262, q263, q264, q265, q266, q267, q268, q269, q270, q271, q272, q273, q274, q275, q276, q277, q278, q279, q280, q281, hq_, rfl⟩))⟩ _ (by kernel_rfl)
                    ·rw [if_neg c69] at H
                     exact absurd (Option.some.inj H) (by rw [hrt]; exact Bool.false_ne_true)
                   ·rw [if_neg c68] at H
                    exact absurd (Option.some.inj H) (by rw [hrt]; exact Bool.false_ne_true)
                  ·rw [if_neg c67] at H
                   exact absurd (Option.some.inj H) (by rw [hrt]; exact Bool.false_ne_true)
                 ·rw [if_neg c66] at H
                  exact absurd (Option.some.inj H) (by rw [hrt]; exact Bool.false_ne_true)
                ·rw [if_neg c65] at H
                 exact absurd (Option.some.inj H) (by rw [hrt]; exact Bool.false_ne_true)
               ·rw [if_neg c64] at H
                exact absurd (Option.some.inj H) (by rw [hrt]; exact Bool.false_ne_true)
              ·rw [if_neg c63] at H
               exact absurd (Option.some.inj H) (by rw [hrt]; exact Bool.false_ne_true)
             ·rw [if_neg c62] at H
              exact absurd (Option.some.inj H) (by rw [hrt]; exact Bool.false_ne_true)
            ·rw [if_neg c61] at H
             exact absurd (Option.some.inj H) (by rw [hrt]; exact Bool.false_ne_true)
           ·rw [if_neg c60] at H
            exact absurd (Option.some.inj H) (by rw [hrt]; exact Bool.false_ne_true)
          ·rw [if_neg c59] at H
           exact absurd (Option.some.inj H) (by rw [hrt]; exact Bool.false_ne_true)
         ·rw [if_neg c57] at H
          have c57b0 : decide (0 < (((rd_T68 y219 x113_1).f1).length : Int)) = false := decide_eq_false c57
          have c57b1 : decide (0 < ((rd_T68 y219 x113_1).f1).length) = false := decide_eq_false (by omega)
          clear c57
          replace H := Option.bind_eq_some_iff.mp H
          obtain ⟨t275, A4900, H⟩ := H
          try dsimp only at H
          have A490 := As.mk A4900
          clear A4900
          by_cases c491 : t275 = ((rd_T68 y219 x113_1).f2)
          ·rw [if_pos c491] at H
           have c491b0 : (t275 == ((rd_T68 y219 x113_1).f2)) = true := beq_iff_eq.mpr c491
           have c491b1 : (t275 != ((rd_T68 y219 x113_1).f2)) = false := bne_eq_false_iff_eq.mpr c491
           clear c491
           by_cases c492 : t227 = ((rd_T68 y219 x113_1).f2)
           ·rw [if_pos c492] at H
            have c492b0 : (t227 == ((rd_T68 y219 x113_1).f2)) = true := beq_iff_eq.mpr c492
            have c492b1 : (t227 != ((rd_T68 y219 x113_1).f2)) = false := bne_eq_false_iff_eq.mpr c492
            clear c492
            by_cases c493 : t231 = ((rd_T68 y219 x113_1).f2)
            ·rw [if_pos c493] at H
             have c493b0 : (t231 == ((rd_T68 y219 x113_1).f2)) = true := beq_iff_eq.mpr c493
             have c493b1 : (t231 != ((rd_T68 y219 x113_1).f2)) = false := bne_eq_false_iff_eq.mpr c493
             clear c493
             by_cases c494 : t233 = ((rd_T68 y219 x113_1).f2)
             ·rw [if_pos c494] at H
              have c494b0 : (t233 == ((rd_T68 y219 x113_1).f2)) = true := beq_iff_eq.mpr c494
              have c494b1 : (t233 != ((rd_T68 y219 x113_1).f2)) = false := bne_eq_false_iff_eq.mpr c494
              clear c494
              by_cases c495 : t237 = ((rd_T68 y219 x113_1).f2)
              ·rw [if_pos c495] at H
               have c495b0 : (t237 == ((rd_T68 y219 x113_1).f2)) = true := beq_iff_eq.mpr c495
               have c495b1 : (t237 != ((rd_T68 y219 x113_1).f2)) = false := bne_eq_false_iff_eq.mpr c495
               clear c495
               by_cases c496 : t239 = ((rd_T68 y219 x113_1).f2)
               ·rw [if_pos c496] at H
                have c496b0 : (t239 == ((rd_T68 y219 x113_1).f2)) = true := beq_iff_eq.mpr c496
                have c496b1 : (t239 != ((rd_T68 y219 x113_1).f2)) = false := bne_eq_false_iff_eq.mpr c496
                clear c496
                by_cases c497 : t243 = ((rd_T68 y219 x113_1).f2)
                ·rw [if_pos c497] at H
                 have c497b0 : (t243 == ((rd_T68 y219 x113_1).f2)) = true := beq_iff_eq.mpr c497
                 have c497b1 : (t243 != ((rd_T68 y219 x113_1).f2)) = false := bne_eq_false_iff_eq.mpr c497
                 clear c497
                 by_cases c498 : t250 = ((rd_T68 y219 x113_1).f2)
                 ·rw [if_pos c498] at H
                  have c498b0 : (t250 == ((rd_T68 y219 x113_1).f2)) = true := beq_iff_eq.mpr c498
                  have c498b1 : (t250 != ((rd_T68 y219 x113_1).f2)) = false := bne_eq_false_iff_eq.mpr c498
                  clear c498
                  by_cases c499 : t255 = ((rd_T68 y219 x113_1).f2)
                  ·rw [if_pos c499] at H
                   have c499b0 : (t255 == ((rd_T68 y219 x113_1).f2)) = true := beq_iff_eq.mpr c499
                   have c499b1 : (t255 != ((rd_T68 y219 x113_1).f2)) = false := bne_eq_false_iff_eq.mpr c499
                   clear c499
                   by_cases c500 : t264 = ((rd_T68 y219 x113_1).f2)
                   ·rw [if_pos c500] at H
                    have c500b0 : (t264 == ((rd_T68 y219 x113_1).f2)) = true := beq_iff_eq.mpr c500
                    have c500b1 : (t264 != ((rd_T68 y219 x113_1).f2)) = false := bne_eq_false_iff_eq.mpr c500
                    clear c500
                    by_cases c501 : t271 = ((rd_T68 y219 x113_1).f2)
                    ·rw [if_pos c501] at H
                     have c501b0 : (t271 == ((rd_T68 y219 x113_1).f2)) = true := beq_iff_eq.mpr c501
                     have c501b1 : (t271 != ((rd_T68 y219 x113_1).f2)) = false := bne_eq_false_iff_eq.mpr c501
                     clear c501
                     have H' := As.mk H
                     clear H
                     exact exRound1 w r k y183 y186 y219 v187 Ao9 Ao42 co9 co42 wr hrt k1 x113_1 c43b0 c44b0 c45b0 A46 A47 A48 A49 A50 A51 Ny246 A52 A53 Ny260 A54 Ny267 A55 c56b0 c56b1 c57b0 c57b1 A490 c491b0 c491b1 c492b0 c492b1 c493b0 c493b1 c494b0 c494b1 c495b0 c495b1 c496b0 c496b1 c497b0 c497b1 c498b0 c498b1 c499b0 c499b1 c500b0 c500b1 c501b0 c501b1 H' HK1 HO_1 HO_2 HO_111 HB _ _ ⟨fun q0 q4 q5 q6 q7 q8 q9 q10 q11 q12 q13 q14 q15 q16 q17 q18 q19 q20 q21 q22 q23 q24 q25 q26 q113 q114 q115 q116 q117 q118 q119 q120 q121 q122 q123 q124 q125 q126 q127 q128 q129 q130 q131 q132 q133 q134 q135 q136 q137 q138 q139 q140 q141 q142 q143 q144 q145 q146 q147 q148 q149 q150 q151 q152 q153 q154 q155 q156 q157 q158 q159 q160 q161 q162 q163 q164 q165 q166 q167 q168 q169 q170 q171 q172 q173 q174 q175 q176 q177 q178 q179 q180 q181 q182 q183 q184 q185 q186 q187 q188 q189 q190 q191 q192 q193 q194 q195 q196 q197 q198 q199 q200 q201 q202 q203 q204 q205 q206 q207 q208 q209 q210 q211 q212 q213 q214 q215 q216 q217 q218 q219 q220 q221 q222 q223 q224 q225 q226 q227 q228 q229 q230 q231 q232 q233 q234 q235 q236 q237 q238 q239 q240 q241 q242 q243 q244 q245 q246 q247 q248 q249 q250 q251 q252 q253 q254 q255 q256 q257 q258 q259 q260 q261 q262 q263 q264 q265 q266 q267 q268 q269 q270 q271 q272 q273 q274 q275 q276 q277 q278 q279 q280 q281 w' hq_ => hHK_ _ _ (Handed.intro k1 (Nat.lt_succ_self _) (hIJ_ k1 _ _ ⟨q0, q4, q5, q6, q7, q8, q9, q10, q11, q12, q13, q14, q15, q16, q17, q18, q19, q20, q21, q22, q23, q24, q25, q26, q113, q114, q115, q116, q117, q118, q119, q120, q121, q122, q123, q124, q125, q126, q127, q128, q129, q130, q131, q132, q133, q134, q135, q136, q137, q138, q139, q140, q141, q142, q143, q144, q145, q146, q147, q148, q149, q150, q151, q152, q153, q154, q155, q156, q157, q158, q159, q160, q161, q162, q163, q164, q165, q166, q167, q168, q169, q170, q171, q172, q173, q174, q175, q176, q177, q178, q179, q180, q181, q182, q183, q184, q185, q186, q187, q188, q189, q190, q191, q192, q193, q194, q195, q196, q197, q198, q199, q200, q201, q202, q203, q204, q205, q206, q207, q208, q209, q210, q211, q212, q213, q214, q215, q216, q217, q218, q219, q220, q221, q222, q223, q224, q225, q226, q227, q228, q229, q230, q231, q232, q233, q234, q235, q236, q237, q238, q239, q240, q241, q242, q243, q244, q245, q246, q247, q248, q249, q250, q251, q252, q253, q254, q255, q256, q257, q258, q259, q260, q261, q262, q263, q264, q265, q266, q267, q268, q269, q270, q271, q272, q273, q274, q275, q276, q277, q278, q279, q280, q281, hq_, rfl⟩))⟩ _ (by kernel_rfl)
                    ·rw [if_neg c501] at H
                     exact absurd (Option.some.inj H) (by rw [hrt]; exact Bool.false_ne_true)
                   ·rw [if_neg c500] at H
                    exact absurd (Option.some.inj H) (by rw [hrt]; exact Bool.false_ne_true)
                  ·rw [if_neg c499] at H
                   exact absurd (Option.some.inj H) (by rw [hrt]; exact Bool.false_ne_true)
                 ·rw [if_neg c498] at H
                  exact absurd (Option.some.inj H) (by rw [hrt]; exact Bool.false_ne_true)
                ·rw [if_neg c497] at H
                 exact absurd (Option.some.inj H) (by rw [hrt]; exact Bool.false_ne_true)
               ·rw [if_neg c496] at H
                exact absurd (Option.some.inj H) (by rw [hrt]; exact Bool.false_ne_true)
              ·rw [if_neg c495] at H
               exact absurd (Option.some.inj H) (by rw [hrt]; exact Bool.false_ne_true)
             ·rw [if_neg c494] at H
              exact absurd (Option.some.inj H) (by rw [hrt]; exact Bool.false_ne_true)
            ·rw [if_neg c493] at H
             exact absurd (Option.some.inj H) (by rw [hrt]; exact Bool.false_ne_true)
           ·rw [if_neg c492] at H
            exact absurd (Option.some.inj H) (by rw [hrt]; exact Bool.false_ne_true)
          ·rw [if_neg c491] at H
           exact absurd (Option.some.inj H) (by rw [hrt]; exact Bool.false_ne_true)
        ·rw [if_neg c56] at H
         have c56b0 : (((rd_T68 y219 x113_1).f2) == 0) = false := beq_eq_false_iff_ne.mpr c56
         have c56b1 : (((rd_T68 y219 x113_1).f2) != 0) = true := bne_iff_ne.mpr c56
         replace H := Option.bind_eq_some_iff.mp H
         obtain ⟨t276, A9220, H⟩ := H
         try dsimp only at H
         have A922 := As.mk A9220
         clear A9220
         by_cases c923 : t276 = ((rd_T68 y219 x113_1).f2)
         ·rw [if_pos c923] at H
          have c923b0 : (t276 == ((rd_T68 y219 x113_1).f2)) = true := beq_iff_eq.mpr c923
          have c923b1 : (t276 != ((rd_T68 y219 x113_1).f2)) = false := bne_eq_false_iff_eq.mpr c923
          clear c923
          by_cases c924 : t227 = ((rd_T68 y219 x113_1).f2)
          ·rw [if_pos c924] at H
           have c924b0 : (t227 == ((rd_T68 y219 x113_1).f2)) = true := beq_iff_eq.mpr c924
           have c924b1 : (t227 != ((rd_T68 y219 x113_1).f2)) = false := bne_eq_false_iff_eq.mpr c924
           clear c924
           by_cases c925 : t231 = ((rd_T68 y219 x113_1).f2)
           ·rw [if_pos c925] at H
            have c925b0 : (t231 == ((rd_T68 y219 x113_1).f2)) = true := beq_iff_eq.mpr c925
            have c925b1 : (t231 != ((rd_T68 y219 x113_1).f2)) = false := bne_eq_false_iff_eq.mpr c925
            clear c925
            by_cases c926 : t233 = ((rd_T68 y219 x113_1).f2)
            ·rw [if_pos c926] at H
             have c926b0 : (t233 == ((rd_T68 y219 x113_1).f2)) = true := beq_iff_eq.mpr c926
             have c926b1 : (t233 != ((rd_T68 y219 x113_1).f2)) = false := bne_eq_false_iff_eq.mpr c926
             clear c926
             by_cases c927 : t237 = ((rd_T68 y219 x113_1).f2)
             ·rw [if_pos c927] at H
              have c927b0 : (t237 == ((rd_T68 y219 x113_1).f2)) = true := beq_iff_eq.mpr c927
              have c927b1 : (t237 != ((rd_T68 y219 x113_1).f2)) = false := bne_eq_false_iff_eq.mpr c927
              clear c927
              by_cases c928 : t239 = ((rd_T68 y219 x113_1).f2)
              ·rw [if_pos c928] at H
               have c928b0 : (t239 == ((rd_T68 y219 x113_1).f2)) = true := beq_iff_eq.mpr c928
               have c928b1 : (t239 != ((rd_T68 y219 x113_1).f2)) = false := bne_eq_false_iff_eq.mpr c928
               clear c928
               by_cases c929 : t243 = ((rd_T68 y219 x113_1).f2)
               ·rw [if_pos c929] at H
                have c929b0 : (t243 == ((rd_T68 y219 x113_1).f2)) = true := beq_iff_eq.mpr c929
                have c929b1 : (t243 != ((rd_T68 y219 x113_1).f2)) = false := bne_eq_false_iff_eq.mpr c929
                clear c929
                by_cases c930 : t250 = ((rd_T68 y219 x113_1).f2)
                ·rw [if_pos c930] at H
                 have c930b0 : (t250 == ((rd_T68 y219 x113_1).f2)) = true := beq_iff_eq.mpr c930
                 have c930b1 : (t250 != ((rd_T68 y219 x113_1).f2)) = false := bne_eq_false_iff_eq.mpr c930
                 clear c930
                 by_cases c931 : t255 = ((rd_T68 y219 x113_1).f2)
                 ·rw [if_pos c931] at H
                  have c931b0 : (t255 == ((rd_T68 y219 x113_1).f2)) = true := beq_iff_eq.mpr c931
                  have c931b1 : (t255 != ((rd_T68 y219 x113_1).f2)) = false := bne_eq_false_iff_eq.mpr c931
                  clear c931
                  by_cases c932 : t264 = ((rd_T68 y219 x113_1).f2)
                  ·rw [if_pos c932] at H
                   have c932b0 : (t264 == ((rd_T68 y219 x113_1).f2)) = true := beq_iff_eq.mpr c932
                   have c932b1 : (t264 != ((rd_T68 y219 x113_1).f2)) = false := bne_eq_false_iff_eq.mpr c932
                   clear c932
                   by_cases c933 : t271 = ((rd_T68 y219 x113_1).f2)
                   ·rw [if_pos c933] at H
                    have c933b0 : (t271 == ((rd_T68 y219 x113_1).f2)) = true := beq_iff_eq.mpr c933
                    have c933b1 : (t271 != ((rd_T68 y219 x113_1).f2)) = false := bne_eq_false_iff_eq.mpr c933
                    clear c933
                    have H' := As.mk H
                    clear H
                    exact exRound2 w r k y183 y186 y219 v187 Ao9 Ao42 co9 co42 wr hrt k1 x113_1 c43b0 c44b0 c45b0 A46 A47 A48 A49 A50 A51 Ny246 A52 A53 Ny260 A54 Ny267 A55 c56b0 c56b1 A922 c923b0 c923b1 c924b0 c924b1 c925b0 c925b1 c926b0 c926b1 c927b0 c927b1 c928b0 c928b1 c929b0 c929b1 c930b0 c930b1 c931b0 c931b1 c932b0 c932b1 c933b0 c933b1 H' HK1 HO_1 HO_2 HO_111 HB _ _ ⟨fun q0 q4 q5 q6 q7 q8 q9 q10 q11 q12 q13 q14 q15 q16 q17 q18 q19 q20 q21 q22 q23 q24 q25 q26 q113 q114 q115 q116 q117 q118 q119 q120 q121 q122 q123 q124 q125 q126 q127 q128 q129 q130 q131 q132 q133 q134 q135 q136 q137 q138 q139 q140 q141 q142 q143 q144 q145 q146 q147 q148 q149 q150 q151 q152 q153 q154 q155 q156 q157 q158 q159 q160 q161 q162 q163 q164 q165 q166 q167 q168 q169 q170 q171 q172 q173 q174 q175 q176 q177 q178 q179 q180 q181 q182 q183 q184 q185 q186 q187 q188 q189 q190 q191 q192 q193 q194 q195 q196 q197 q198 q199 q200 q201 q202 q203 q204 q205 q206 q207 q208 q209 q210 q211 q212 q213 q214 q215 q216 q217 q218 q219 q220 q221 q222 q223 q224 q225 q226 q227 q228 q229 q230 q231 q232 q233 q234 q235 q236 q237 q238 q239 q240 q241 q242 q243 q244 q245 q246 q247 q248 q249 q250 q251 q252 q253 q254 q255 q256 q257 q258 q259 q260 q261 q262 q263 q264 q265 q266 q267 q268 q269 q270 q271 q272 q273 q274 q275 q276 q277 q278 q279 q280 q281 w' hq_ => hHK_ _ _ (Handed.intro k1 (Nat.lt_succ_self _) (hIJ_ k1 _ _ ⟨q0, q4, q5, q6, q7, q8, q9, q10, q11, q12, q13, q14, q15, q16, q17, q18, q19, q20, q21, q22, q23, q24, q25, q26, q113, q114, q115, q116, q117, q118, q119, q120, q121, q122, q123, q124, q125, q126, q127, q128, q129, q130, q131, q132, q133, q134, q135, q136, q137, q138, q139, q140, q141, q142, q143, q144, q145, q146, q147, q148, q149, q150, q151, q152, q153, q154, q155, q156, q157, q158, q159, q160, q161, q162, q163, q164, q165, q166, q167, q168, q169, q170, q171, q172, q173, q174, q175, q176, q177, q178, q179, q180, q181, q182, q183, q184, q185, q186, q187, q188, q189, q190, q191, q192, q193, q194, q195, q196, q197, q198, q199, q200, q201, q202, q203, q204, q205, q206, q207, q208, q209, q210, q211, q212, q213, q214, q215, q216, q217, q218, q219, q220, q221, q222, q223, q224, q225, q226, q227, q228, q229, q230, q231, q232, q233, q234, q235, q236, q237, q238, q239, q240, q241, q242, q243, q244, q245, q246, q247, q248, q249, q250, q251, q252, q253, q254, q255, q256, q257, q258, q259, q260, q261, q262, q263, q264, q265, q266, q267, q268, q269, q270, q271, q272, q273, q274, q275, q276, q277, q278, q279, q280, q281, hq_, rfl⟩))⟩ _ (by kernel_rfl)
                   ·rw [if_neg c933] at H
                    exact absurd (Option.some.inj H) (by rw [hrt]; exact Bool.false_ne_true)
                  ·rw [if_neg c932] at H
                   exact absurd (Option.some.inj H) (by rw [hrt]; exact Bool.false_ne_true)
                 ·rw [if_neg c931] at H
                  exact absurd (Option.some.inj H) (by rw [hrt]; exact Bool.false_ne_true)
                ·rw [if_neg c930] at H
                 exact absurd (Option.some.inj H) (by rw [hrt]; exact Bool.false_ne_true)
               ·rw [if_neg c929] at H
                exact absurd (Option.some.inj H) (by rw [hrt]; exact Bool.false_ne_true)
              ·rw [if_neg c928] at H
               exact absurd (Option.some.inj H) (by rw [hrt]; exact Bool.false_ne_true)
             ·rw [if_neg c927] at H
              exact absurd (Option.some.inj H) (by rw [hrt]; exact Bool.false_ne_true)
            ·rw [if_neg c926] at H
             exact absurd (Option.some.inj H) (by rw [hrt]; exact Bool.false_ne_true)
           ·rw [if_neg c925] at H
            exact absurd (Option.some.inj H) (by rw [hrt]; exact Bool.false_ne_true)
          ·rw [if_neg c924] at H
           exact absurd (Option.some.inj H) (by rw [hrt]; exact Bool.false_ne_true)
         ·rw [if_neg c923] at H
          exact absurd (Option.some.inj H) (by rw [hrt]; exact Bool.false_ne_true)
       ·rw [if_neg c45] at H
        exact absurd H (by simp)
      ·rw [if_neg c44] at H
       exact absurd H (by simp)
     ·rw [if_neg c43] at H
      have c43b0 : decide (x113_1 < (y219.length : Int)) = false := decide_eq_false c43
      clear c43
      replace H := Option.bind_eq_some_iff.mp H
      obtain ⟨⟨t277, t278⟩, A13540, H⟩ := H
      try dsimp only at H
      have A1354 := As.mk A13540
      clear A13540
      replace H := Option.bind_eq_some_iff.mp H
      obtain ⟨⟨t281, t282, t283⟩, A13550, H⟩ := H
      try dsimp only at H
      have A1355 := As.mk A13550
      clear A13550
      replace H := Option.bind_eq_some_iff.mp H
      obtain ⟨⟨t288, t289⟩, A13560, H⟩ := H
      try dsimp only at H
      have A1356 := As.mk A13560
      clear A13560
      replace H := Option.bind_eq_some_iff.mp H
      obtain ⟨⟨t292, t293⟩, A13570, H⟩ := H
      try dsimp only at H
      have A1357 := As.mk A13570
      clear A13570
      by_cases c1358 : 1024 ≤ (y186.length : Int)
      ·rw [if_pos c1358] at H
       have c1358b0 := eq_true c1358
       have c1358b1 : decide (1024 ≤ (y186.length : Int)) = true := decide_eq_true c1358
       clear c1358
       obtain ⟨y294, hy294⟩ : ∃ y_ : List (List (S45)), y_ = (y186.take 1024) := ⟨_, rfl⟩
       replace H : ((column_KernelB.f k1 5 y294).bind fun bt299 => ((toruslaw04_exA.f).bind fun t303 => ((column_Rest.f k1 5 (([[], t303] : List (List (S45)))) ([] : List (S45))).bind fun bt309 => ((toruslaw04_exA.f).bind fun t316 => ((column_Rest.f k1 5 (([t316, (([(⟨3, 2⟩ : S45)] : List (S45))), []] : List (List (S45)))) ([] : List (S45))).bind fun bt325 => (if 1025 ≤ 35184372088832 then ((column_Of.f k1 5 (List.replicate 1025 0)).bind fun bt335 => ((column_Of.f k1 6 (List.replicate 1025 0)).bind fun bt342 => ((toruslaw04_exA.f).bind fun t346 => ((column_Dense.f k1 5 t346 3).bind fun bt349 => ((column_Dense.f k1 5 ([] : List (S45)) (-1)).bind fun bt353 => ((column_Dense.f k1 5 ([] : List (S45)) 1025).bind fun bt357 => ((toruslaw04_exA.f).bind fun t361 => ((column_Dense.f k1 5 t361 4).bind fun bt364 => ((column_Of.f k1 7 (([(-1), 7, 4611686018427387904, 0, (-9223372036854775808)] : List Int))).bind fun bt371 => (if t278 = 3 then (if t283 = 3 then (if t289 = 3 then (if t293 = 8 then (if bt299.2 = 0 then (if bt309.2.2 = 9 then (if bt325.2.2 = 5 then (if bt335.2 = 3 then (if bt342.2 = 8 then (if bt349.2 = 10 then (if bt353.2 = 10 then (if bt357.2 = 10 then (if bt364.2 = 0 then ((torusref01_Same.f k1 bt364.1 (([2, 0, 0, 1] : List Int))).bind fun t378 => (if t378 = true then ((toruslaw04_is.f k1 bt371.1 bt371.2 (([(⟨0, 6⟩ : S45), (⟨2, 4⟩ : S45), (⟨4, 6⟩ : S45)] : List (S45)))).bind fun t382 => (if t382 = true then ((some (([(⟨5, 9⟩ : S45), (⟨(-3), 0⟩ : S45), (⟨5, 8⟩ : S45), (⟨2, (-1)⟩ : S45)] : List (S45)) : List (S45))).bind fun y383 => ((column_Low.f y383).bind fun bt386 => ((column_Low.f ([] : List (S45))).bind fun bt388 => ((toruslaw04_exB.f).bind fun t390 => ((toruslaw04_exA.f).bind fun t393 => ((column_Basis.f k1 5 (([t390, t393] : List (List (S45))))).bind fun bt399 => (if bt386.1 = 2 then (if bt386.2 = true then (if bt388.1 = 0 then (if bt388.2 = true then (some false) else ((column_Coef.f k1 y383 5).bind fun t403 => (if t403 = 9 then ((column_Coef.f k1 y383 (-3)).bind fun t404 => (if t404 = 0 then ((column_Coef.f k1 y383 7).bind fun t405 => (if t405 = 0 then (if (bt399.1.length : Int) = 2 then (if 0 < (bt399.1.length : Int) then ((toruslaw04_exA.f).bind fun t407 => ((toruslaw04_is.f k1 (rd_L2 bt399.1 0) bt399.2 t407).bind fun t410 => (if t410 = true then (if 1 < (bt399.1.length : Int) then ((toruslaw04_is.f k1 (rd_L2 bt399.1 1) bt399.2 (([(⟨0, 1⟩ : S45), (⟨4, 1⟩ : S45)] : List (S45)))).bind fun t415 => (some t415)) else (none)) else (some false)))) else (none)) else (some false)) else (some false))) else (some false))) else (some false)))) else (some false)) else (some false)) else (some false)))))))) else (some false))) else (some false))) else (some false)) else (some false)) else (some false)) else (some false)) else (some false)) else (some false)) else (some false)) else (some false)) else (some false)) else (some false)) else (some false)) else (some false)) else (some false))))))))))) else (none))))))) = some r := by first | (rw [hy294]; with_reducible exact H) | (have H2_ := (Option.bind_some _ _).symm.trans H; rw [hy294]; with_reducible exact H2_) | (have H2_ := (Option.bind_some _ _).symm.trans H; with_reducible exact H2_) | with_reducible exact H | (rw [hy294]; exact H) | exact H
       have Ny294 := As.mk hy294
       clear hy294
       replace H := Option.bind_eq_some_iff.mp H
       obtain ⟨⟨t299, t300⟩, A13590, H⟩ := H
       try dsimp only at H
       have A1359 := As.mk A13590
       clear A13590
       replace H := Option.bind_eq_some_iff.mp H
       obtain ⟨t303, A13600, H⟩ := H
       try dsimp only at H
       have A1360 := As.mk A13600
       clear A13600
       obtain ⟨y306, hy306⟩ : ∃ y_ : List (List (S45)), y_ = (([[], t303] : List (List (S45)))) := ⟨_, rfl⟩
       replace H : ((column_Rest.f k1 5 y306 ([] : List (S45))).bind fun bt309 => ((toruslaw04_exA.f).bind fun t316 => ((column_Rest.f k1 5 (([t316, (([(⟨3, 2⟩ : S45)] : List (S45))), []] : List (List (S45)))) ([] : List (S45))).bind fun bt325 => (if 1025 ≤ 35184372088832 then ((column_Of.f k1 5 (List.replicate 1025 0)).bind fun bt335 => ((column_Of.f k1 6 (List.replicate 1025 0)).bind fun bt342 => ((toruslaw04_exA.f).bind fun t346 => ((column_Dense.f k1 5 t346 3).bind fun bt349 => ((column_Dense.f k1 5 ([] : List (S45)) (-1)).bind fun bt353 => ((column_Dense.f k1 5 ([] : List (S45)) 1025).bind fun bt357 => ((toruslaw04_exA.f).bind fun t361 => ((column_Dense.f k1 5 t361 4).bind fun bt364 => ((column_Of.f k1 7 (([(-1), 7, 4611686018427387904, 0, (-9223372036854775808)] : List Int))).bind fun bt371 => (if t278 = 3 then (if t283 = 3 then (if t289 = 3 then (if t293 = 8 then (if t300 = 0 then (if bt309.2.2 = 9 then (if bt325.2.2 = 5 then (if bt335.2 = 3 then (if bt342.2 = 8 then (if bt349.2 = 10 then (if bt353.2 = 10 then (if bt357.2 = 10 then (if bt364.2 = 0 then ((torusref01_Same.f k1 bt364.1 (([2, 0, 0, 1] : List Int))).bind fun t378 => (if t378 = true then ((toruslaw04_is.f k1 bt371.1 bt371.2 (([(⟨0, 6⟩ : S45), (⟨2, 4⟩ : S45), (⟨4, 6⟩ : S45)] : List (S45)))).bind fun t382 => (if t382 = true then ((some (([(⟨5, 9⟩ : S45), (⟨(-3), 0⟩ : S45), (⟨5, 8⟩ : S45), (⟨2, (-1)⟩ : S45)] : List (S45)) : List (S45))).bind fun y383 => ((column_Low.f y383).bind fun bt386 => ((column_Low.f ([] : List (S45))).bind fun bt388 => ((toruslaw04_exB.f).bind fun t390 => ((toruslaw04_exA.f).bind fun t393 => ((column_Basis.f k1 5 (([t390, t393] : List (List (S45))))).bind fun bt399 => (if bt386.1 = 2 then (if bt386.2 = true then (if bt388.1 = 0 then (if bt388.2 = true then (some false) else ((column_Coef.f k1 y383 5).bind fun t403 => (if t403 = 9 then ((column_Coef.f k1 y383 (-3)).bind fun t404 => (if t404 = 0 then ((column_Coef.f k1 y383 7).bind fun t405 => (if t405 = 0 then (if (bt399.1.length : Int) = 2 then (if 0 < (bt399.1.length : Int) then ((toruslaw04_exA.f).bind fun t407 => ((toruslaw04_is.f k1 (rd_L2 bt399.1 0) bt399.2 t407).bind fun t410 => (if t410 = true then (if 1 < (bt399.1.length : Int) then ((toruslaw04_is.f k1 (rd_L2 bt399.1 1) bt399.2 (([(⟨0, 1⟩ : S45), (⟨4, 1⟩ : S45)] : List (S45)))).bind fun t415 => (some t415)) else (none)) else (some false)))) else (none)) else (some false)) else (some false))) else (some false))) else (some false)))) else (some false)) else (some false)) else (some false)))))))) else (some false))) else (some false))) else (some false)) else (some false)) else (some false)) else (some false)) else (some false)) else (some false)) else (some false)) else (some false)) else (some false)) else (some false)) else (some false)) else (some false)) else (some false))))))))))) else (none))))) = some r := by first | (rw [hy306]; with_reducible exact H) | (have H2_ := (Option.bind_some _ _).symm.trans H; rw [hy306]; with_reducible exact H2_) | (have H2_ := (Option.bind_some _ _).symm.trans H; with_reducible exact H2_) | with_reducible exact H | (rw [hy306]; exact H) | exact H
       have Ny306 := As.mk hy306
       clear hy306
       replace H := Option.bind_eq_some_iff.mp H
       obtain ⟨⟨t309, t310, t311⟩, A13610, H⟩ := H
       try dsimp only at H
       have A1361 := As.mk A13610
       clear A13610
       replace H := Option.bind_eq_some_iff.mp H
       obtain ⟨t316, A13620, H⟩ := H
       try dsimp only at H
       have A1362 := As.mk A13620
       clear A13620
       obtain ⟨y319, hy319⟩ : ∃ y_ : List (S45), y_ = (([(⟨3, 2⟩ : S45)] : List (S45))) := ⟨_, rfl⟩
       replace H : ((column_Rest.f k1 5 (([t316, y319, []] : List (List (S45)))) ([] : List (S45))).bind fun bt325 => (if 1025 ≤ 35184372088832 then ((column_Of.f k1 5 (List.replicate 1025 0)).bind fun bt335 => ((column_Of.f k1 6 (List.replicate 1025 0)).bind fun bt342 => ((toruslaw04_exA.f).bind fun t346 => ((column_Dense.f k1 5 t346 3).bind fun bt349 => ((column_Dense.f k1 5 ([] : List (S45)) (-1)).bind fun bt353 => ((column_Dense.f k1 5 ([] : List (S45)) 1025).bind fun bt357 => ((toruslaw04_exA.f).bind fun t361 => ((column_Dense.f k1 5 t361 4).bind fun bt364 => ((column_Of.f k1 7 (([(-1), 7, 4611686018427387904, 0, (-9223372036854775808)] : List Int))).bind fun bt371 => (if t278 = 3 then (if t283 = 3 then (if t289 = 3 then (if t293 = 8 then (if t300 = 0 then (if t311 = 9 then (if bt325.2.2 = 5 then (if bt335.2 = 3 then (if bt342.2 = 8 then (if bt349.2 = 10 then (if bt353.2 = 10 then (if bt357.2 = 10 then (if bt364.2 = 0 then ((torusref01_Same.f k1 bt364.1 (([2, 0, 0, 1] : List Int))).bind fun t378 => (if t378 = true then ((toruslaw04_is.f k1 bt371.1 bt371.2 (([(⟨0, 6⟩ : S45), (⟨2, 4⟩ : S45), (⟨4, 6⟩ : S45)] : List (S45)))).bind fun t382 => (if t382 = true then ((some (([(⟨5, 9⟩ : S45), (⟨(-3), 0⟩ : S45), (⟨5, 8⟩ : S45), (⟨2, (-1)⟩ : S45)] : List (S45)) : List (S45))).bind fun y383 => ((column_Low.f y383).bind fun bt386 => ((column_Low.f ([] : List (S45))).bind fun bt388 => ((toruslaw04_exB.f).bind fun t390 => ((toruslaw04_exA.f).bind fun t393 => ((column_Basis.f k1 5 (([t390, t393] : List (List (S45))))).bind fun bt399 => (if bt386.1 = 2 then (if bt386.2 = true then (if bt388.1 = 0 then (if bt388.2 = true then (some false) else ((column_Coef.f k1 y383 5).bind fun t403 => (if t403 = 9 then ((column_Coef.f k1 y383 (-3)).bind fun t404 => (if t404 = 0 then ((column_Coef.f k1 y383 7).bind fun t405 => (if t405 = 0 then (if (bt399.1.length : Int) = 2 then (if 0 < (bt399.1.length : Int) then ((toruslaw04_exA.f).bind fun t407 => ((toruslaw04_is.f k1 (rd_L2 bt399.1 0) bt399.2 t407).bind fun t410 => (if t410 = true then (if 1 < (bt399.1.length : Int) then ((toruslaw04_is.f k1 (rd_L2 bt399.1 1) bt399.2 (([(⟨0, 1⟩ : S45), (⟨4, 1⟩ : S45)] : List (S45)))).bind fun t415 => (some t415)) else (none)) else (some false)))) else (none)) else (some false)) else (some false))) else (some false))) else (some false)))) else (some false)) else (some false)) else (some false)))))))) else (some false))) else (some false))) else (some false)) else (some false)) else (some false)) else (some false)) else (some false)) else (some false)) else (some false)) else (some false)) else (some false)) else (some false)) else (some false)) else (some false)) else (some false))))))))))) else (none))) = some r := by first | (rw [hy319]; with_reducible exact H) | (have H2_ := (Option.bind_some _ _).symm.trans H; rw [hy319]; with_reducible exact H2_) | (have H2_ := (Option.bind_some _ _).symm.trans H; with_reducible exact H2_) | with_reducible exact H | (rw [hy319]; exact H) | exact H
       have Ny319 := As.mk hy319
       clear hy319
       obtain ⟨y322, hy322⟩ : ∃ y_ : List (List (S45)), y_ = (([t316, y319, []] : List (List (S45)))) := ⟨_, rfl⟩
       replace H : ((column_Rest.f k1 5 y322 ([] : List (S45))).bind fun bt325 => (if 1025 ≤ 35184372088832 then ((column_Of.f k1 5 (List.replicate 1025 0)).bind fun bt335 => ((column_Of.f k1 6 (List.replicate 1025 0)).bind fun bt342 => ((toruslaw04_exA.f).bind fun t346 => ((column_Dense.f k1 5 t346 3).bind fun bt349 => ((column_Dense.f k1 5 ([] : List (S45)) (-1)).bind fun bt353 => ((column_Dense.f k1 5 ([] : List (S45)) 1025).bind fun bt357 => ((toruslaw04_exA.f).bind fun t361 => ((column_Dense.f k1 5 t361 4).bind fun bt364 => ((column_Of.f k1 7 (([(-1), 7, 4611686018427387904, 0, (-9223372036854775808)] : List Int))).bind fun bt371 => (if t278 = 3 then (if t283 = 3 then (if t289 = 3 then (if t293 = 8 then (if t300 = 0 then (if t311 = 9 then (if bt325.2.2 = 5 then (if bt335.2 = 3 then (if bt342.2 = 8 then (if bt349.2 = 10 then (if bt353.2 = 10 then (if bt357.2 = 10 then (if bt364.2 = 0 then ((torusref01_Same.f k1 bt364.1 (([2, 0, 0, 1] : List Int))).bind fun t378 => (if t378 = true then ((toruslaw04_is.f k1 bt371.1 bt371.2 (([(⟨0, 6⟩ : S45), (⟨2, 4⟩ : S45), (⟨4, 6⟩ : S45)] : List (S45)))).bind fun t382 => (if t382 = true then ((some (([(⟨5, 9⟩ : S45), (⟨(-3), 0⟩ : S45), (⟨5, 8⟩ : S45), (⟨2, (-1)⟩ : S45)] : List (S45)) : List (S45))).bind fun y383 => ((column_Low.f y383).bind fun bt386 => ((column_Low.f ([] : List (S45))).bind fun bt388 => ((toruslaw04_exB.f).bind fun t390 => ((toruslaw04_exA.f).bind fun t393 => ((column_Basis.f k1 5 (([t390, t393] : List (List (S45))))).bind fun bt399 => (if bt386.1 = 2 then (if bt386.2 = true then (if bt388.1 = 0 then (if bt388.2 = true then (some false) else ((column_Coef.f k1 y383 5).bind fun t403 => (if t403 = 9 then ((column_Coef.f k1 y383 (-3)).bind fun t404 => (if t404 = 0 then ((column_Coef.f k1 y383 7).bind fun t405 => (if t405 = 0 then (if (bt399.1.length : Int) = 2 then (if 0 < (bt399.1.length : Int) then ((toruslaw04_exA.f).bind fun t407 => ((toruslaw04_is.f k1 (rd_L2 bt399.1 0) bt399.2 t407).bind fun t410 => (if t410 = true then (if 1 < (bt399.1.length : Int) then ((toruslaw04_is.f k1 (rd_L2 bt399.1 1) bt399.2 (([(⟨0, 1⟩ : S45), (⟨4, 1⟩ : S45)] : List (S45)))).bind fun t415 => (some t415)) else (none)) else (some false)))) else (none)) else (some false)) else (some false))) else (some false))) else (some false)))) else (some false)) else (some false)) else (some false)))))))) else (some false))) else (some false))) else (some false)) else (some false)) else (some false)) else (some false)) else (some false)) else (some false)) else (some false)) else (some false)) else (some false)) else (some false)) else (some false)) else (some false)) else (some false))))))))))) else (none))) = some r := by first | (rw [hy322]; with_reducible exact H) | (have H2_ := (Option.bind_some _ _).symm.trans H; rw [hy322]; with_reducible exact H2_) | (have H2_ := (Option.bind_some _ _).symm.trans H; with_reducible exact H2_) | with_reducible exact H | (rw [hy322]; exact H) | exact H
       have Ny322 := As.mk hy322
       clear hy322
       replace H := Option.bind_eq_some_iff.mp H
       obtain ⟨⟨t325, t326, t327⟩, A13630, H⟩ := H
       try dsimp only at H
       have A1363 := As.mk A13630
       clear A13630
       by_cases c1364 : 1025 ≤ 35184372088832
       ·rw [if_pos c1364] at H
        have c1364b0 := eq_true c1364
        have c1364b1 : decide (1025 ≤ 35184372088832) = true := decide_eq_true c1364
        clear c1364
        obtain ⟨y332, hy332⟩ : ∃ y_ : List Int, y_ = (List.replicate 1025 0) := ⟨_, rfl⟩
        replace H : ((column_Of.f k1 5 y332).bind fun bt335 => ((column_Of.f k1 6 (List.replicate 1025 0)).bind fun bt342 => ((toruslaw04_exA.f).bind fun t346 => ((column_Dense.f k1 5 t346 3).bind fun bt349 => ((column_Dense.f k1 5 ([] : List (S45)) (-1)).bind fun bt353 => ((column_Dense.f k1 5 ([] : List (S45)) 1025).bind fun bt357 => ((toruslaw04_exA.f).bind fun t361 => ((column_Dense.f k1 5 t361 4).bind fun bt364 => ((column_Of.f k1 7 (([(-1), 7, 4611686018427387904, 0, (-9223372036854775808)] : List Int))).bind fun bt371 => (if t278 = 3 then (if t283 = 3 then (if t289 = 3 then (if t293 = 8 then (if t300 = 0 then (if t311 = 9 then (if t327 = 5 then (if bt335.2 = 3 then (if bt342.2 = 8 then (if bt349.2 = 10 then (if bt353.2 = 10 then (if bt357.2 = 10 then (if bt364.2 = 0 then ((torusref01_Same.f k1 bt364.1 (([2, 0, 0, 1] : List Int))).bind fun t378 => (if t378 = true then ((toruslaw04_is.f k1 bt371.1 bt371.2 (([(⟨0, 6⟩ : S45), (⟨2, 4⟩ : S45), (⟨4, 6⟩ : S45)] : List (S45)))).bind fun t382 => (if t382 = true then ((some (([(⟨5, 9⟩ : S45), (⟨(-3), 0⟩ : S45), (⟨5, 8⟩ : S45), (⟨2, (-1)⟩ : S45)] : List (S45)) : List (S45))).bind fun y383 => ((column_Low.f y383).bind fun bt386 => ((column_Low.f ([] : List (S45))).bind fun bt388 => ((toruslaw04_exB.f).bind fun t390 => ((toruslaw04_exA.f).bind fun t393 => ((column_Basis.f k1 5 (([t390, t393] : List (List (S45))))).bind fun bt399 => (if bt386.1 = 2 then (if bt386.2 = true then (if bt388.1 = 0 then (if bt388.2 = true then (some false) else ((column_Coef.f k1 y383 5).bind fun t403 => (if t403 = 9 then ((column_Coef.f k1 y383 (-3)).bind fun t404 => (if t404 = 0 then ((column_Coef.f k1 y383 7).bind fun t405 => (if t405 = 0 then (if (bt399.1.length : Int) = 2 then (if 0 < (bt399.1.length : Int) then ((toruslaw04_exA.f).bind fun t407 => ((toruslaw04_is.f k1 (rd_L2 bt399.1 0) bt399.2 t407).bind fun t410 => (if t410 = true then (if 1 < (bt399.1.length : Int) then ((toruslaw04_is.f k1 (rd_L2 bt399.1 1) bt399.2 (([(⟨0, 1⟩ : S45), (⟨4, 1⟩ : S45)] : List (S45)))).bind fun t415 => (some t415)) else (none)) else (some false)))) else (none)) else (some false)) else (some false))) else (some false))) else (some false)))) else (some false)) else (some false)) else (some false)))))))) else (some false))) else (some false))) else (some false)) else (some false)) else (some false)) else (some false)) else (some false)) else (some false)) else (some false)) else (some false)) else (some false)) else (some false)) else (some false)) else (some false)) else (some false))))))))))) = some r := by first | (rw [hy332]; with_reducible exact H) | (have H2_ := (Option.bind_some _ _).symm.trans H; rw [hy332]; with_reducible exact H2_) | (have H2_ := (Option.bind_some _ _).symm.trans H; with_reducible exact H2_) | with_reducible exact H | (rw [hy332]; exact H) | exact H
        have Ny332 := As.mk hy332
        clear hy332
        replace H := Option.bind_eq_some_iff.mp H
        obtain ⟨⟨t335, t336⟩, A13650, H⟩ := H
        try dsimp only at H
        have A1365 := As.mk A13650
        clear A13650
        obtain ⟨y339, hy339⟩ : ∃ y_ : List Int, y_ = (List.replicate 1025 0) := ⟨_, rfl⟩
        replace H : ((column_Of.f k1 6 y339).bind fun bt342 => ((toruslaw04_exA.f).bind fun t346 => ((column_Dense.f k1 5 t346 3).bind fun bt349 => ((column_Dense.f k1 5 ([] : List (S45)) (-1)).bind fun bt353 => ((column_Dense.f k1 5 ([] : List (S45)) 1025).bind fun bt357 => ((toruslaw04_exA.f).bind fun t361 => ((column_Dense.f k1 5 t361 4).bind fun bt364 => ((column_Of.f k1 7 (([(-1), 7, 4611686018427387904, 0, (-9223372036854775808)] : List Int))).bind fun bt371 => (if t278 = 3 then (if t283 = 3 then (if t289 = 3 then (if t293 = 8 then (if t300 = 0 then (if t311 = 9 then (if t327 = 5 then (if t336 = 3 then (if bt342.2 = 8 then (if bt349.2 = 10 then (if bt353.2 = 10 then (if bt357.2 = 10 then (if bt364.2 = 0 then ((torusref01_Same.f k1 bt364.1 (([2, 0, 0, 1] : List Int))).bind fun t378 => (if t378 = true then ((toruslaw04_is.f k1 bt371.1 bt371.2 (([(⟨0, 6⟩ : S45), (⟨2, 4⟩ : S45), (⟨4, 6⟩ : S45)] : List (S45)))).bind fun t382 => (if t382 = true then ((some (([(⟨5, 9⟩ : S45), (⟨(-3), 0⟩ : S45), (⟨5, 8⟩ : S45), (⟨2, (-1)⟩ : S45)] : List (S45)) : List (S45))).bind fun y383 => ((column_Low.f y383).bind fun bt386 => ((column_Low.f ([] : List (S45))).bind fun bt388 => ((toruslaw04_exB.f).bind fun t390 => ((toruslaw04_exA.f).bind fun t393 => ((column_Basis.f k1 5 (([t390, t393] : List (List (S45))))).bind fun bt399 => (if bt386.1 = 2 then (if bt386.2 = true then (if bt388.1 = 0 then (if bt388.2 = true then (some false) else ((column_Coef.f k1 y383 5).bind fun t403 => (if t403 = 9 then ((column_Coef.f k1 y383 (-3)).bind fun t404 => (if t404 = 0 then ((column_Coef.f k1 y383 7).bind fun t405 => (if t405 = 0 then (if (bt399.1.length : Int) = 2 then (if 0 < (bt399.1.length : Int) then ((toruslaw04_exA.f).bind fun t407 => ((toruslaw04_is.f k1 (rd_L2 bt399.1 0) bt399.2 t407).bind fun t410 => (if t410 = true then (if 1 < (bt399.1.length : Int) then ((toruslaw04_is.f k1 (rd_L2 bt399.1 1) bt399.2 (([(⟨0, 1⟩ : S45), (⟨4, 1⟩ : S45)] : List (S45)))).bind fun t415 => (some t415)) else (none)) else (some false)))) else (none)) else (some false)) else (some false))) else (some false))) else (some false)))) else (some false)) else (some false)) else (some false)))))))) else (some false))) else (some false))) else (some false)) else (some false)) else (some false)) else (some false)) else (some false)) else (some false)) else (some false)) else (some false)) else (some false)) else (some false)) else (some false)) else (some false)) else (some false)))))))))) = some r := by first | (rw [hy339]; with_reducible exact H) | (have H2_ := (Option.bind_some _ _).symm.trans H; rw [hy339]; with_reducible exact H2_) | (have H2_ := (Option.bind_some _ _).symm.trans H; with_reducible exact H2_) | with_reducible exact H | (rw [hy339]; exact H) | exact H
        have Ny339 := As.mk hy339
        clear hy339
        replace H := Option.bind_eq_some_iff.mp H
        obtain ⟨⟨t342, t343⟩, A13660, H⟩ := H
        try dsimp only at H
        have A1366 := As.mk A13660
        clear A13660
        replace H := Option.bind_eq_some_iff.mp H
        obtain ⟨t346, A13670, H⟩ := H
        try dsimp only at H
        have A1367 := As.mk A13670
        clear A13670
        replace H := Option.bind_eq_some_iff.mp H
        obtain ⟨⟨t349, t350⟩, A13680, H⟩ := H
        try dsimp only at H
        have A1368 := As.mk A13680
        clear A13680
        replace H := Option.bind_eq_some_iff.mp H
        obtain ⟨⟨t353, t354⟩, A13690, H⟩ := H
        try dsimp only at H
        have A1369 := As.mk A13690
        clear A13690
        replace H := Option.bind_eq_some_iff.mp H
        obtain ⟨⟨t357, t358⟩, A13700, H⟩ := H
        try dsimp only at H
        have A1370 := As.mk A13700
        clear A13700
        replace H := Option.bind_eq_some_iff.mp H
        obtain ⟨t361, A13710, H⟩ := H
        try dsimp only at H
        have A1371 := As.mk A13710
        clear A13710
        replace H := Option.bind_eq_some_iff.mp H
        obtain ⟨⟨t364, t365⟩, A13720, H⟩ := H
        try dsimp only at H
        have A1372 := As.mk A13720
        clear A13720
        obtain ⟨y368, hy368⟩ : ∃ y_ : List Int, y_ = (([(-1), 7, 4611686018427387904, 0, (-9223372036854775808)] : List Int)) := ⟨_, rfl⟩
        replace H : ((column_Of.f k1 7 y368).bind fun bt371 => (if t278 = 3 then (if t283 = 3 then (if t289 = 3 then (if t293 = 8 then (if t300 = 0 then (if t311 = 9 then (if t327 = 5 then (if t336 = 3 then (if t343 = 8 then (if t350 = 10 then (if t354 = 10 then (if t358 = 10 then (if t365 = 0 then ((torusref01_Same.f k1 t364 (([2, 0, 0, 1] : List Int))).bind fun t378 => (if t378 = true then ((toruslaw04_is.f k1 bt371.1 bt371.2 (([(⟨0, 6⟩ : S45), (⟨2, 4⟩ : S45), (⟨4, 6⟩ : S45)] : List (S45)))).bind fun t382 => (if t382 = true then ((some (([(⟨5, 9⟩ : S45), (⟨(-3), 0⟩ : S45), (⟨5, 8⟩ : S45), (⟨2, (-1)⟩ : S45)] : List (S45)) : List (S45))).bind fun y383 => ((column_Low.f y383).bind fun bt386 => ((column_Low.f ([] : List (S45))).bind fun bt388 => ((toruslaw04_exB.f).bind fun t390 => ((toruslaw04_exA.f).bind fun t393 => ((column_Basis.f k1 5 (([t390, t393] : List (List (S45))))).bind fun bt399 => (if bt386.1 = 2 then (if bt386.2 = true then (if bt388.1 = 0 then (if bt388.2 = true then (some false) else ((column_Coef.f k1 y383 5).bind fun t403 => (if t403 = 9 then ((column_Coef.f k1 y383 (-3)).bind fun t404 => (if t404 = 0 then ((column_Coef.f k1 y383 7).bind fun t405 => (if t405 = 0 then (if (bt399.1.length : Int) = 2 then (if 0 < (bt399.1.length : Int) then ((toruslaw04_exA.f).bind fun t407 => ((toruslaw04_is.f k1 (rd_L2 bt399.1 0) bt399.2 t407).bind fun t410 => (if t410 = true then (if 1 < (bt399.1.length : Int) then ((toruslaw04_is.f k1 (rd_L2 bt399.1 1) bt399.2 (([(⟨0, 1⟩ : S45), (⟨4, 1⟩ : S45)] : List (S45)))).bind fun t415 => (some t415)) else (none)) else (some false)))) else (none)) else (some false)) else (some false))) else (some false))) else (some false)))) else (some false)) else (some false)) else (some false)))))))) else (some false))) else (some false))) else (some false)) else (some false)) else (some false)) else (some false)) else (some false)) else (some false)) else (some false)) else (some false)) else (some false)) else (some false)) else (some false)) else (some false)) else (some false))) = some r := by first | (rw [hy368]; with_reducible exact H) | (have H2_ := (Option.bind_some _ _).symm.trans H; rw [hy368]; with_reducible exact H2_) | (have H2_ := (Option.bind_some _ _).symm.trans H; with_reducible exact H2_) | with_reducible exact H | (rw [hy368]; exact H) | exact H
        have Ny368 := As.mk hy368
        clear hy368
        replace H := Option.bind_eq_some_iff.mp H
        obtain ⟨⟨t371, t372⟩, A13730, H⟩ := H
        try dsimp only at H
        have A1373 := As.mk A13730
        clear A13730
        by_cases c1374 : t278 = 3
        ·rw [if_pos c1374] at H
         have c1374b0 : (t278 == 3) = true := beq_iff_eq.mpr c1374
         have c1374b1 : (t278 != 3) = false := bne_eq_false_iff_eq.mpr c1374
         clear c1374
         by_cases c1375 : t283 = 3
         ·rw [if_pos c1375] at H
          have c1375b0 : (t283 == 3) = true := beq_iff_eq.mpr c1375
          have c1375b1 : (t283 != 3) = false := bne_eq_false_iff_eq.mpr c1375
          clear c1375
          by_cases c1376 : t289 = 3
          ·rw [if_pos c1376] at H
           have c1376b0 : (t289 == 3) = true := beq_iff_eq.mpr c1376
           have c1376b1 : (t289 != 3) = false := bne_eq_false_iff_eq.mpr c1376
           clear c1376
           by_cases c1377 : t293 = 8
           ·rw [if_pos c1377] at H
            have c1377b0 : (t293 == 8) = true := beq_iff_eq.mpr c1377
            have c1377b1 : (t293 != 8) = false := bne_eq_false_iff_eq.mpr c1377
            clear c1377
            by_cases c1378 : t300 = 0
            ·rw [if_pos c1378] at H
             have c1378b0 : (t300 == 0) = true := beq_iff_eq.mpr c1378
             have c1378b1 : (t300 != 0) = false := bne_eq_false_iff_eq.mpr c1378
             clear c1378
             by_cases c1379 : t311 = 9
             ·rw [if_pos c1379] at H
              have c1379b0 : (t311 == 9) = true := beq_iff_eq.mpr c1379
              have c1379b1 : (t311 != 9) = false := bne_eq_false_iff_eq.mpr c1379
              clear c1379
              by_cases c1380 : t327 = 5
              ·rw [if_pos c1380] at H
               have c1380b0 : (t327 == 5) = true := beq_iff_eq.mpr c1380
               have c1380b1 : (t327 != 5) = false := bne_eq_false_iff_eq.mpr c1380
               clear c1380
               by_cases c1381 : t336 = 3
               ·rw [if_pos c1381] at H
                have c1381b0 : (t336 == 3) = true := beq_iff_eq.mpr c1381
                have c1381b1 : (t336 != 3) = false := bne_eq_false_iff_eq.mpr c1381
                clear c1381
                by_cases c1382 : t343 = 8
                ·rw [if_pos c1382] at H
                 have c1382b0 : (t343 == 8) = true := beq_iff_eq.mpr c1382
                 have c1382b1 : (t343 != 8) = false := bne_eq_false_iff_eq.mpr c1382
                 clear c1382
                 by_cases c1383 : t350 = 10
                 ·rw [if_pos c1383] at H
                  have c1383b0 : (t350 == 10) = true := beq_iff_eq.mpr c1383
                  have c1383b1 : (t350 != 10) = false := bne_eq_false_iff_eq.mpr c1383
                  clear c1383
                  by_cases c1384 : t354 = 10
                  ·rw [if_pos c1384] at H
                   have c1384b0 : (t354 == 10) = true := beq_iff_eq.mpr c1384
                   have c1384b1 : (t354 != 10) = false := bne_eq_false_iff_eq.mpr c1384
                   clear c1384
                   by_cases c1385 : t358 = 10
                   ·rw [if_pos c1385] at H
                    have c1385b0 : (t358 == 10) = true := beq_iff_eq.mpr c1385
                    have c1385b1 : (t358 != 10) = false := bne_eq_false_iff_eq.mpr c1385
                    clear c1385
                    by_cases c1386 : t365 = 0
                    ·rw [if_pos c1386] at H
                     have c1386b0 : (t365 == 0) = true := beq_iff_eq.mpr c1386
                     have c1386b1 : (t365 != 0) = false := bne_eq_false_iff_eq.mpr c1386
                     clear c1386
                     obtain ⟨y375, hy375⟩ : ∃ y_ : List Int, y_ = (([2, 0, 0, 1] : List Int)) := ⟨_, rfl⟩
                     replace H : ((torusref01_Same.f k1 t364 y375).bind fun t378 => (if t378 = true then ((toruslaw04_is.f k1 t371 t372 (([(⟨0, 6⟩ : S45), (⟨2, 4⟩ : S45), (⟨4, 6⟩ : S45)] : List (S45)))).bind fun t382 => (if t382 = true then ((some (([(⟨5, 9⟩ : S45), (⟨(-3), 0⟩ : S45), (⟨5, 8⟩ : S45), (⟨2, (-1)⟩ : S45)] : List (S45)) : List (S45))).bind fun y383 => ((column_Low.f y383).bind fun bt386 => ((column_Low.f ([] : List (S45))).bind fun bt388 => ((toruslaw04_exB.f).bind fun t390 => ((toruslaw04_exA.f).bind fun t393 => ((column_Basis.f k1 5 (([t390, t393] : List (List (S45))))).bind fun bt399 => (if bt386.1 = 2 then (if bt386.2 = true then (if bt388.1 = 0 then (if bt388.2 = true then (some false) else ((column_Coef.f k1 y383 5).bind fun t403 => (if t403 = 9 then ((column_Coef.f k1 y383 (-3)).bind fun t404 => (if t404 = 0 then ((column_Coef.f k1 y383 7).bind fun t405 => (if t405 = 0 then (if (bt399.1.length : Int) = 2 then (if 0 < (bt399.1.length : Int) then ((toruslaw04_exA.f).bind fun t407 => ((toruslaw04_is.f k1 (rd_L2 bt399.1 0) bt399.2 t407).bind fun t410 => (if t410 = true then (if 1 < (bt399.1.length : Int) then ((toruslaw04_is.f k1 (rd_L2 bt399.1 1) bt399.2 (([(⟨0, 1⟩ : S45), (⟨4, 1⟩ : S45)] : List (S45)))).bind fun t415 => (some t415)) else (none)) else (some false)))) else (none)) else (some false)) else (some false))) else (some false))) else (some false)))) else (some false)) else (some false)) else (some false)))))))) else (some false))) else (some false))) = some r := by first | (rw [hy375]; with_reducible exact H) | (have H2_ := (Option.bind_some _ _).symm.trans H; rw [hy375]; with_reducible exact H2_) | (have H2_ := (Option.bind_some _ _).symm.trans H; with_reducible exact H2_) | with_reducible exact H | (rw [hy375]; exact H) | exact H
                     have Ny375 := As.mk hy375
                     clear hy375
                     replace H := Option.bind_eq_some_iff.mp H
                     obtain ⟨t378, A13870, H⟩ := H
                     try dsimp only at H
                     have A1387 := As.mk A13870
                     clear A13870
                     by_cases c1388 : t378 = true
                     ·subst c1388
                      have H1 : ((toruslaw04_is.f k1 t371 t372 (([(⟨0, 6⟩ : S45), (⟨2, 4⟩ : S45), (⟨4, 6⟩ : S45)] : List (S45)))).bind fun t382 => (if t382 = true then ((some (([(⟨5, 9⟩ : S45), (⟨(-3), 0⟩ : S45), (⟨5, 8⟩ : S45), (⟨2, (-1)⟩ : S45)] : List (S45)) : List (S45))).bind fun y383 => ((column_Low.f y383).bind fun bt386 => ((column_Low.f ([] : List (S45))).bind fun bt388 => ((toruslaw04_exB.f).bind fun t390 => ((toruslaw04_exA.f).bind fun t393 => ((column_Basis.f k1 5 (([t390, t393] : List (List (S45))))).bind fun bt399 => (if bt386.1 = 2 then (if bt386.2 = true then (if bt388.1 = 0 then (if bt388.2 = true then (some false) else ((column_Coef.f k1 y383 5).bind fun t403 => (if t403 = 9 then ((column_Coef.f k1 y383 (-3)).bind fun t404 => (if t404 = 0 then ((column_Coef.f k1 y383 7).bind fun t405 => (if t405 = 0 then (if (bt399.1.length : Int) = 2 then (if 0 < (bt399.1.length : Int) then ((toruslaw04_exA.f).bind fun t407 => ((toruslaw04_is.f k1 (rd_L2 bt399.1 0) bt399.2 t407).bind fun t410 => (if t410 = true then (if 1 < (bt399.1.length : Int) then ((toruslaw04_is.f k1 (rd_L2 bt399.1 1) bt399.2 (([(⟨0, 1⟩ : S45), (⟨4, 1⟩ : S45)] : List (S45)))).bind fun t415 => (some t415)) else (none)) else (some false)))) else (none)) else (some false)) else (some false))) else (some false))) else (some false)))) else (some false)) else (some false)) else (some false)))))))) else (some false))) = some r := by rw [if_pos rfl] at H; exact H
                      clear H
                      have H := H1
                      clear H1
                      obtain ⟨y379, hy379⟩ : ∃ y_ : List (S45), y_ = (([(⟨0, 6⟩ : S45), (⟨2, 4⟩ : S45), (⟨4, 6⟩ : S45)] : List (S45))) := ⟨_, rfl⟩
                      replace H : ((toruslaw04_is.f k1 t371 t372 y379).bind fun t382 => (if t382 = true then ((some (([(⟨5, 9⟩ : S45), (⟨(-3), 0⟩ : S45), (⟨5, 8⟩ : S45), (⟨2, (-1)⟩ : S45)] : List (S45)) : List (S45))).bind fun y383 => ((column_Low.f y383).bind fun bt386 => ((column_Low.f ([] : List (S45))).bind fun bt388 => ((toruslaw04_exB.f).bind fun t390 => ((toruslaw04_exA.f).bind fun t393 => ((column_Basis.f k1 5 (([t390, t393] : List (List (S45))))).bind fun bt399 => (if bt386.1 = 2 then (if bt386.2 = true then (if bt388.1 = 0 then (if bt388.2 = true then (some false) else ((column_Coef.f k1 y383 5).bind fun t403 => (if t403 = 9 then ((column_Coef.f k1 y383 (-3)).bind fun t404 => (if t404 = 0 then ((column_Coef.f k1 y383 7).bind fun t405 => (if t405 = 0 then (if (bt399.1.length : Int) = 2 then (if 0 < (bt399.1.length : Int) then ((toruslaw04_exA.f).bind fun t407 => ((toruslaw04_is.f k1 (rd_L2 bt399.1 0) bt399.2 t407).bind fun t410 => (if t410 = true then (if 1 < (bt399.1.length : Int) then ((toruslaw04_is.f k1 (rd_L2 bt399.1 1) bt399.2 (([(⟨0, 1⟩ : S45), (⟨4, 1⟩ : S45)] : List (S45)))).bind fun t415 => (some t415)) else (none)) else (some false)))) else (none)) else (some false)) else (some false))) else (some false))) else (some false)))) else (some false)) else (some false)) else (some false)))))))) else (some false))) = some r := by first | (rw [hy379]; with_reducible exact H) | (have H2_ := (Option.bind_some _ _).symm.trans H; rw [hy379]; with_reducible exact H2_) | (have H2_ := (Option.bind_some _ _).symm.trans H; with_reducible exact H2_) | with_reducible exact H | (rw [hy379]; exact H) | exact H
                      have Ny379 := As.mk hy379
                      clear hy379
                      replace H := Option.bind_eq_some_iff.mp H
                      obtain ⟨t382, A13890, H⟩ := H
                      try dsimp only at H
                      have A1389 := As.mk A13890
                      clear A13890
                      by_cases c1390 : t382 = true
                      ·subst c1390
                       have H1 : ((some (([(⟨5, 9⟩ : S45), (⟨(-3), 0⟩ : S45), (⟨5, 8⟩ : S45), (⟨2, (-1)⟩ : S45)] : List (S45)) : List (S45))).bind fun y383 => ((column_Low.f y383).bind fun bt386 => ((column_Low.f ([] : List (S45))).bind fun bt388 => ((toruslaw04_exB.f).bind fun t390 => ((toruslaw04_exA.f).bind fun t393 => ((column_Basis.f k1 5 (([t390, t393] : List (List (S45))))).bind fun bt399 => (if bt386.1 = 2 then (if bt386.2 = true then (if bt388.1 = 0 then (if bt388.2 = true then (some false) else ((column_Coef.f k1 y383 5).bind fun t403 => (if t403 = 9 then ((column_Coef.f k1 y383 (-3)).bind fun t404 => (if t404 = 0 then ((column_Coef.f k1 y383 7).bind fun t405 => (if t405 = 0 then (if (bt399.1.length : Int) = 2 then (if 0 < (bt399.1.length : Int) then ((toruslaw04_exA.f).bind fun t407 => ((toruslaw04_is.f k1 (rd_L2 bt399.1 0) bt399.2 t407).bind fun t410 => (if t410 = true then (if 1 < (bt399.1.length : Int) then ((toruslaw04_is.f k1 (rd_L2 bt399.1 1) bt399.2 (([(⟨0, 1⟩ : S45), (⟨4, 1⟩ : S45)] : List (S45)))).bind fun t415 => (some t415)) else (none)) else (some false)))) else (none)) else (some false)) else (some false))) else (some false))) else (some false)))) else (some false)) else (some false)) else (some false)))))))) = some r := by rw [if_pos rfl] at H; exact H
                       clear H
                       have H := H1
                       clear H1
                       obtain ⟨y383, hy383⟩ : ∃ y_ : List (S45), y_ = (([(⟨5, 9⟩ : S45), (⟨(-3), 0⟩ : S45), (⟨5, 8⟩ : S45), (⟨2, (-1)⟩ : S45)] : List (S45))) := ⟨_, rfl⟩
                       replace H : ((column_Low.f y383).bind fun bt386 => ((column_Low.f ([] : List (S45))).bind fun bt388 => ((toruslaw04_exB.f).bind fun t390 => ((toruslaw04_exA.f).bind fun t393 => ((column_Basis.f k1 5 (([t390, t393] : List (List (S45))))).bind fun bt399 => (if bt386.1 = 2 then (if bt386.2 = true then (if bt388.1 = 0 then (if bt388.2 = true then (some false) else ((column_Coef.f k1 y383 5).bind fun t403 => (if t403 = 9 then ((column_Coef.f k1 y383 (-3)).bind fun t404 => (if t404 = 0 then ((column_Coef.f k1 y383 7).bind fun t405 => (if t405 = 0 then (if (bt399.1.length : Int) = 2 then (if 0 < (bt399.1.length : Int) then ((toruslaw04_exA.f).bind fun t407 => ((toruslaw04_is.f k1 (rd_L2 bt399.1 0) bt399.2 t407).bind fun t410 => (if t410 = true then (if 1 < (bt399.1.length : Int) then ((toruslaw04_is.f k1 (rd_L2 bt399.1 1) bt399.2 (([(⟨0, 1⟩ : S45), (⟨4, 1⟩ : S45)] : List (S45)))).bind fun t415 => (some t415)) else (none)) else (some false)))) else (none)) else (some false)) else (some false))) else (some false))) else (some false)))) else (some false)) else (some false)) else (some false))))))) = some r := by first | (rw [hy383]; with_reducible exact H) | (have H2_ := (Option.bind_some _ _).symm.trans H; rw [hy383]; with_reducible exact H2_) | (have H2_ := (Option.bind_some _ _).symm.trans H; with_reducible exact H2_) | with_reducible exact H | (rw [hy383]; exact H) | exact H
                       have Ny383 := As.mk hy383
                       clear hy383
                       replace H := Option.bind_eq_some_iff.mp H
                       obtain ⟨⟨t386, t387⟩, A13910, H⟩ := H
                       try dsimp only at H
                       have A1391 := As.mk A13910
                       clear A13910
                       replace H := Option.bind_eq_some_iff.mp H
                       obtain ⟨⟨t388, t389⟩, A13920, H⟩ := H
                       try dsimp only at H
                       have A1392 := As.mk A13920
                       clear A13920
                       replace H := Option.bind_eq_some_iff.mp H
                       obtain ⟨t390, A13930, H⟩ := H
                       try dsimp only at H
                       have A1393 := As.mk A13930
                       clear A13930
                       replace H := Option.bind_eq_some_iff.mp H
                       obtain ⟨t393, A13940, H⟩ := H
                       try dsimp only at H
                       have A1394 := As.mk A13940
                       clear A13940
                       obtain ⟨y396, hy396⟩ : ∃ y_ : List (List (S45)), y_ = (([t390, t393] : List (List (S45)))) := ⟨_, rfl⟩
                       replace H : ((column_Basis.f k1 5 y396).bind fun bt399 => (if t386 = 2 then (if t387 = true then (if t388 = 0 then (if t389 = true then (some false) else ((column_Coef.f k1 y383 5).bind fun t403 => (if t403 = 9 then ((column_Coef.f k1 y383 (-3)).bind fun t404 => (if t404 = 0 then ((column_Coef.f k1 y383 7).bind fun t405 => (if t405 = 0 then (if (bt399.1.length : Int) = 2 then (if 0 < (bt399.1.length : Int) then ((toruslaw04_exA.f).bind fun t407 => ((toruslaw04_is.f k1 (rd_L2 bt399.1 0) bt399.2 t407).bind fun t410 => (if t410 = true then (if 1 < (bt399.1.length : Int) then ((toruslaw04_is.f k1 (rd_L2 bt399.1 1) bt399.2 (([(⟨0, 1⟩ : S45), (⟨4, 1⟩ : S45)] : List (S45)))).bind fun t415 => (some t415)) else (none)) else (some false)))) else (none)) else (some false)) else (some false))) else (some false))) else (some false)))) else (some false)) else (some false)) else (some false))) = some r := by first | (rw [hy396]; with_reducible exact H) | (have H2_ := (Option.bind_some _ _).symm.trans H; rw [hy396]; with_reducible exact H2_) | (have H2_ := (Option.bind_some _ _).symm.trans H; with_reducible exact H2_) | with_reducible exact H | (rw [hy396]; exact H) | exact H
                       have Ny396 := As.mk hy396
                       clear hy396
                       replace H := Option.bind_eq_some_iff.mp H
                       obtain ⟨⟨t399, t400⟩, A13950, H⟩ := H
                       try dsimp only at H
                       have A1395 := As.mk A13950
                       clear A13950
                       by_cases c1396 : t386 = 2
                       ·rw [if_pos c1396] at H
                        have c1396b0 : (t386 == 2) = true := beq_iff_eq.mpr c1396
                        have c1396b1 : (t386 != 2) = false := bne_eq_false_iff_eq.mpr c1396
                        clear c1396
                        by_cases c1397 : t387 = true
                        ·subst c1397
                         have H1 : (if t388 = 0 then (if t389 = true then (some false) else ((column_Coef.f k1 y383 5).bind fun t403 => (if t403 = 9 then ((column_Coef.f k1 y383 (-3)).bind fun t404 => (if t404 = 0 then ((column_Coef.f k1 y383 7).bind fun t405 => (if t405 = 0 then (if (t399.length : Int) = 2 then (if 0 < (t399.length : Int) then ((toruslaw04_exA.f).bind fun t407 => ((toruslaw04_is.f k1 (rd_L2 t399 0) t400 t407).bind fun t410 => (if t410 = true then (if 1 < (t399.length : Int) then ((toruslaw04_is.f k1 (rd_L2 t399 1) t400 (([(⟨0, 1⟩ : S45), (⟨4, 1⟩ : S45)] : List (S45)))).bind fun t415 => (some t415)) else (none)) else (some false)))) else (none)) else (some false)) else (some false))) else (some false))) else (some false)))) else (some false)) = some r := by rw [if_pos rfl] at H; exact H
                         clear H
                         have H := H1
                         clear H1
                         by_cases c1398 : t388 = 0
                         ·rw [if_pos c1398] at H
                          have c1398b0 : (t388 == 0) = true := beq_iff_eq.mpr c1398
                          have c1398b1 : (t388 != 0) = false := bne_eq_false_iff_eq.mpr c1398
                          clear c1398
                          by_cases c1399 : t389 = true
                          ·subst c1399
                           have H1 : (some false) = some r := by rw [if_pos rfl] at H; exact H
                           clear H
                           have H := H1
                           clear H1
                           exact absurd (Option.some.inj H) (by rw [hrt]; exact Bool.false_ne_true)
                          ·replace c1399 := Bool.eq_false_iff.mpr c1399
                           subst c1399
                           have H1 : ((column_Coef.f k1 y383 5).bind fun t403 => (if t403 = 9 then ((column_Coef.f k1 y383 (-3)).bind fun t404 => (if t404 = 0 then ((column_Coef.f k1 y383 7).bind fun t405 => (if t405 = 0 then (if (t399.length : Int) = 2 then (if 0 < (t399.length : Int) then ((toruslaw04_exA.f).bind fun t407 => ((toruslaw04_is.f k1 (rd_L2 t399 0) t400 t407).bind fun t410 => (if t410 = true then (if 1 < (t399.length : Int) then ((toruslaw04_is.f k1 (rd_L2 t399 1) t400 (([(⟨0, 1⟩ : S45), (⟨4, 1⟩ : S45)] : List (S45)))).bind fun t415 => (some t415)) else (none)) else (some false)))) else (none)) else (some false)) else (some false))) else (some false))) else (some false))) = some r := by rw [if_neg (show ¬ (false = true) by decide)] at H; exact H
                           clear H
                           have H := H1
                           clear H1
                           replace H := Option.bind_eq_some_iff.mp H
                           obtain ⟨t403, A14620, H⟩ := H
                           try dsimp only at H
                           have A1462 := As.mk A14620
                           clear A14620
                           by_cases c1463 : t403 = 9
                           ·rw [if_pos c1463] at H
                            have c1463b0 : (t403 == 9) = true := beq_iff_eq.mpr c1463
                            have c1463b1 : (t403 != 9) = false := bne_eq_false_iff_eq.mpr c1463
                            clear c1463
                            replace H := Option.bind_eq_some_iff.mp H
                            obtain ⟨t404, A14640, H⟩ := H
                            try dsimp only at H
                            have A1464 := As.mk A14640
                            clear A14640
                            by_cases c1465 : t404 = 0
                            ·rw [if_pos c1465] at H
                             have c1465b0 : (t404 == 0) = true := beq_iff_eq.mpr c1465
                             have c1465b1 : (t404 != 0) = false := bne_eq_false_iff_eq.mpr c1465
                             clear c1465
                             replace H := Option.bind_eq_some_iff.mp H
                             obtain ⟨t405, A14660, H⟩ := H
                             try dsimp only at H
                             have A1466 := As.mk A14660
                             clear A14660
                             by_cases c1467 : t405 = 0
                             ·rw [if_pos c1467] at H
                              have c1467b0 : (t405 == 0) = true := beq_iff_eq.mpr c1467
                              have c1467b1 : (t405 != 0) = false := bne_eq_false_iff_eq.mpr c1467
                              clear c1467
                              by_cases c1468 : (t399.length : Int) = 2
                              ·rw [if_pos c1468] at H
                               have c1468b0 : ((t399.length : Int) == 2) = true := beq_iff_eq.mpr c1468
                               have c1468b1 : ((t399.length : Int) != 2) = false := bne_eq_false_iff_eq.mpr c1468
                               clear c1468
                               by_cases c1469 : 0 < (t399.length : Int)
                               ·rw [if_pos c1469] at H
                                have c1469b0 : decide (0 < (t399.length : Int)) = true := decide_eq_true c1469
                                have c1469b1 : decide (0 < t399.length) = true := decide_eq_true (by omega)
                                clear c1469
                                replace H := Option.bind_eq_some_iff.mp H
                                obtain ⟨t407, A14700, H⟩ := H
                                try dsimp only at H
                                have A1470 := As.mk A14700
                                clear A14700
                                replace H := Option.bind_eq_some_iff.mp H
                                obtain ⟨t410, A14710, H⟩ := H
                                try dsimp only at H
                                have A1471 := As.mk A14710
                                clear A14710
                                by_cases c1472 : t410 = true
                                ·subst c1472
                                 have H1 : (if 1 < (t399.length : Int) then ((toruslaw04_is.f k1 (rd_L2 t399 1) t400 (([(⟨0, 1⟩ : S45), (⟨4, 1⟩ : S45)] : List (S45)))).bind fun t415 => (some t415)) else (none)) = some r := by rw [if_pos rfl] at H; exact H
                                 clear H
                                 have H := H1
                                 clear H1
                                 by_cases c1473 : 1 < (t399.length : Int)
                                 ·rw [if_pos c1473] at H
                                  have c1473b0 : decide (1 < (t399.length : Int)) = true := decide_eq_true c1473
                                  have c1473b1 : decide (1 < t399.length) = true := decide_eq_true (by omega)
                                  clear c1473
                                  obtain ⟨y412, hy412⟩ : ∃ y_ : List (S45), y_ = (([(⟨0, 1⟩ : S45), (⟨4, 1⟩ : S45)] : List (S45))) := ⟨_, rfl⟩
                                  replace H : ((toruslaw04_is.f k1 (rd_L2 t399 1) t400 y412).bind fun t415 => (some t415)) = some r := by first | (rw [hy412]; with_reducible exact H) | (have H2_ := (Option.bind_some _ _).symm.trans H; rw [hy412]; with_reducible exact H2_) | (have H2_ := (Option.bind_some _ _).symm.trans H; with_reducible exact H2_) | with_reducible exact H | (rw [hy412]; exact H) | exact H
                                  have Ny412 := As.mk hy412
                                  clear hy412
                                  replace H := Option.bind_eq_some_iff.mp H
                                  obtain ⟨t415, A14740, H⟩ := H
                                  try dsimp only at H
                                  have A1474 := As.mk A14740
                                  clear A14740
                                  go_upto_region 24 with (fail)
                                  rename_i hK_
                                  exact exTail w r k y183 y186 y219 v187 Ao9 Ao42 co9 co42 wr hrt k1 A1354 A1355 A1356 A1357 c1358b0 c1358b1 Ny294 A1359 A1360 Ny306 A1361 A1362 Ny319 Ny322 A1363 c1364b0 c1364b1 Ny332 A1365 Ny339 A1366 A1367 A1368 A1369 A1370 A1371 A1372 Ny368 A1373 c1374b0 c1374b1 c1375b0 c1375b1 c1376b0 c1376b1 c1377b0 c1377b1 c1378b0 c1378b1 c1379b0 c1379b1 c1380b0 c1380b1 c1381b0 c1381b1 c1382b0 c1382b1 c1383b0 c1383b1 c1384b0 c1384b1 c1385b0 c1385b1 c1386b0 c1386b1 Ny375 A1387 Ny379 A1389 Ny383 A1391 A1392 A1393 A1394 Ny396 A1395 c1396b0 c1396b1 c1398b0 c1398b1 A1462 c1463b0 c1463b1 A1464 c1465b0 c1465b1 A1466 c1467b0 c1467b1 c1468b0 c1468b1 c1469b0 c1469b1 A1470 A1471 c1473b0 c1473b1 Ny412 A1474 (Option.some.inj H) HO_1 HO_2 HO_111 HB _ _ (by kernel_rfl) _ hK_
                                 ·rw [if_neg c1473] at H
                                  exact absurd H (by simp)
                                ·replace c1472 := Bool.eq_false_iff.mpr c1472
                                 subst c1472
                                 have H1 : (some false) = some r := by rw [if_neg (show ¬ (false = true) by decide)] at H; exact H
                                 clear H
                                 have H := H1
                                 clear H1
                                 exact absurd (Option.some.inj H) (by rw [hrt]; exact Bool.false_ne_true)
                               ·rw [if_neg c1469] at H
                                exact absurd H (by simp)
                              ·rw [if_neg c1468] at H
                               exact absurd (Option.some.inj H) (by rw [hrt]; exact Bool.false_ne_true)
                             ·rw [if_neg c1467] at H
                              exact absurd (Option.some.inj H) (by rw [hrt]; exact Bool.false_ne_true)
                            ·rw [if_neg c1465] at H
                             exact absurd (Option.some.inj H) (by rw [hrt]; exact Bool.false_ne_true)
                           ·rw [if_neg c1463] at H
                            exact absurd (Option.some.inj H) (by rw [hrt]; exact Bool.false_ne_true)
                         ·rw [if_neg c1398] at H
                          exact absurd (Option.some.inj H) (by rw [hrt]; exact Bool.false_ne_true)
                        ·replace c1397 := Bool.eq_false_iff.mpr c1397
                         subst c1397
                         have H1 : (some false) = some r := by rw [if_neg (show ¬ (false = true) by decide)] at H; exact H
                         clear H
                         have H := H1
                         clear H1
                         exact absurd (Option.some.inj H) (by rw [hrt]; exact Bool.false_ne_true)
                       ·rw [if_neg c1396] at H
                        exact absurd (Option.some.inj H) (by rw [hrt]; exact Bool.false_ne_true)
                      ·replace c1390 := Bool.eq_false_iff.mpr c1390
                       subst c1390
                       have H1 : (some false) = some r := by rw [if_neg (show ¬ (false = true) by decide)] at H; exact H
                       clear H
                       have H := H1
                       clear H1
                       exact absurd (Option.some.inj H) (by rw [hrt]; exact Bool.false_ne_true)
                     ·replace c1388 := Bool.eq_false_iff.mpr c1388
                      subst c1388
                      have H1 : (some false) = some r := by rw [if_neg (show ¬ (false = true) by decide)] at H; exact H
                      clear H
                      have H := H1
                      clear H1
                      exact absurd (Option.some.inj H) (by rw [hrt]; exact Bool.false_ne_true)
                    ·rw [if_neg c1386] at H
                     exact absurd (Option.some.inj H) (by rw [hrt]; exact Bool.false_ne_true)
                   ·rw [if_neg c1385] at H
                    exact absurd (Option.some.inj H) (by rw [hrt]; exact Bool.false_ne_true)
                  ·rw [if_neg c1384] at H
                   exact absurd (Option.some.inj H) (by rw [hrt]; exact Bool.false_ne_true)
                 ·rw [if_neg c1383] at H
                  exact absurd (Option.some.inj H) (by rw [hrt]; exact Bool.false_ne_true)
                ·rw [if_neg c1382] at H
                 exact absurd (Option.some.inj H) (by rw [hrt]; exact Bool.false_ne_true)
               ·rw [if_neg c1381] at H
                exact absurd (Option.some.inj H) (by rw [hrt]; exact Bool.false_ne_true)
              ·rw [if_neg c1380] at H
               exact absurd (Option.some.inj H) (by rw [hrt]; exact Bool.false_ne_true)
             ·rw [if_neg c1379] at H
              exact absurd (Option.some.inj H) (by rw [hrt]; exact Bool.false_ne_true)
            ·rw [if_neg c1378] at H
             exact absurd (Option.some.inj H) (by rw [hrt]; exact Bool.false_ne_true)
           ·rw [if_neg c1377] at H
            exact absurd (Option.some.inj H) (by rw [hrt]; exact Bool.false_ne_true)
          ·rw [if_neg c1376] at H
           exact absurd (Option.some.inj H) (by rw [hrt]; exact Bool.false_ne_true)
         ·rw [if_neg c1375] at H
          exact absurd (Option.some.inj H) (by rw [hrt]; exact Bool.false_ne_true)
        ·rw [if_neg c1374] at H
         exact absurd (Option.some.inj H) (by rw [hrt]; exact Bool.false_ne_true)
       ·rw [if_neg c1364] at H
        exact absurd H (by simp)
      ·rw [if_neg c1358] at H
       exact absurd H (by simp)
  ·rw [if_neg c3] at H
   exact absurd H (by simp)
 ·replace c2 := Bool.eq_false_iff.mpr c2
  subst c2
  have H1 : (some false) = some r := by rw [if_neg (show ¬ (false = true) by decide)] at H; exact H
  clear H
  have H := H1
  clear H1
  exact absurd (Option.some.inj H) (by rw [hrt]; exact Bool.false_ne_true)
end Go.Proofs.Ytojnnfhalpefmaa.M
end
