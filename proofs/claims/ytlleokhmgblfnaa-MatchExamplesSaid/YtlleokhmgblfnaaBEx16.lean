/- A part of the proof: texts of this seat joined (printed and by hand), without what is not used. -/
import Derived.Test.YtlleokhmgblfnaaBEx15
set_option linter.unusedVariables false
set_option linter.unusedSimpArgs false
set_option linter.unusedSectionVars false
section
namespace Go.Proofs.Ytlleokhmgblfnaa.M
open Go.RowKit Go.Proofs.YtlleokhmgblfnaaW.PrintWords Go.Proofs.YtlleokhmgblfnaaW.PrintLast Go.Proofs.YtlleokhmgblfnaaW.PrintMore
attribute [local go_sem] max2_int min2_int max_two min_two max_three min_three max_four min_four
set_option maxHeartbeats 8000000 in
set_option maxRecDepth 100000 in
theorem mE.calls (k : Nat)  (r : Bool) (w : World) (h : mE.f k  = some r) (hrt : r = true) :
  Calls Try.prog 11 #[] w fun e w' => e = .returned (.bool r) ∧ Below w.heap.size w w' := by
 have hu33 := Try.underlying33
 have hu62 := Try.underlying62
 have hu40 := Try.underlying40
 have HB := As.mk (Below.refl w.heap.size w)
 have H : ((toruslaw30_awake.f).bind fun t245 => (if t245 = true then (if 65537 ≤ 17592186044416 then ((some (([(⟨(⟨(-1), 0, ([] : List (S40))⟩ : S33), 1⟩ : S62), (⟨(⟨0, 1025, ([] : List (S40))⟩ : S33), 1⟩ : S62), (⟨(⟨(-1), 0, (List.replicate 65537 z40)⟩ : S33), 1⟩ : S62), (⟨(⟨0, 0, (List.replicate 65537 z40)⟩ : S33), 3⟩ : S62), (⟨(⟨1, 1, (([(⟨0, 1⟩ : S40)] : List (S40)))⟩ : S33), 1⟩ : S62), (⟨(⟨1, 1, (([(⟨(-1), 0⟩ : S40)] : List (S40)))⟩ : S33), 1⟩ : S62), (⟨(⟨1, 1, (([(⟨0, 0⟩ : S40), (⟨0, 0⟩ : S40)] : List (S40)))⟩ : S33), 5⟩ : S62), (⟨(⟨2, 2, (([(⟨1, 0⟩ : S40), (⟨0, 1⟩ : S40)] : List (S40)))⟩ : S33), 6⟩ : S62), (⟨(⟨2, 2, (([(⟨1, 1⟩ : S40), (⟨1, 0⟩ : S40)] : List (S40)))⟩ : S33), 6⟩ : S62), (⟨(⟨2, 2, (([(⟨1, 1⟩ : S40), (⟨1, 0⟩ : S40), (⟨9, 9⟩ : S40)] : List (S40)))⟩ : S33), 6⟩ : S62), (⟨(⟨2, 2, (([(⟨1, 1⟩ : S40), (⟨1, 2⟩ : S40)] : List (S40)))⟩ : S33), 1⟩ : S62)] : List (S62)) : List (S62))).bind fun y273 => (mE.l0 k y273 (y273.length : Int) 0)) else (none)) else (some false))) = some r := h
 clear h
 replace H := Option.bind_eq_some_iff.mp H
 obtain ⟨t245, A10, H⟩ := H
 replace H : (if t245 = true then (if 65537 ≤ 17592186044416 then ((some (([(⟨(⟨(-1), 0, ([] : List (S40))⟩ : S33), 1⟩ : S62), (⟨(⟨0, 1025, ([] : List (S40))⟩ : S33), 1⟩ : S62), (⟨(⟨(-1), 0, (List.replicate 65537 z40)⟩ : S33), 1⟩ : S62), (⟨(⟨0, 0, (List.replicate 65537 z40)⟩ : S33), 3⟩ : S62), (⟨(⟨1, 1, (([(⟨0, 1⟩ : S40)] : List (S40)))⟩ : S33), 1⟩ : S62), (⟨(⟨1, 1, (([(⟨(-1), 0⟩ : S40)] : List (S40)))⟩ : S33), 1⟩ : S62), (⟨(⟨1, 1, (([(⟨0, 0⟩ : S40), (⟨0, 0⟩ : S40)] : List (S40)))⟩ : S33), 5⟩ : S62), (⟨(⟨2, 2, (([(⟨1, 0⟩ : S40), (⟨0, 1⟩ : S40)] : List (S40)))⟩ : S33), 6⟩ : S62), (⟨(⟨2, 2, (([(⟨1, 1⟩ : S40), (⟨1, 0⟩ : S40)] : List (S40)))⟩ : S33), 6⟩ : S62), (⟨(⟨2, 2, (([(⟨1, 1⟩ : S40), (⟨1, 0⟩ : S40), (⟨9, 9⟩ : S40)] : List (S40)))⟩ : S33), 6⟩ : S62), (⟨(⟨2, 2, (([(⟨1, 1⟩ : S40), (⟨1, 2⟩ : S40)] : List (S40)))⟩ : S33), 1⟩ : S62)] : List (S62)) : List (S62))).bind fun y273 => (mE.l0 k y273 (y273.length : Int) 0)) else (none)) else (some false)) = some r := H
 have A1 := As.mk A10
 clear A10
 by_cases c2 : t245 = true
 ·subst c2
  have H1 : (if 65537 ≤ 17592186044416 then ((some (([(⟨(⟨(-1), 0, ([] : List (S40))⟩ : S33), 1⟩ : S62), (⟨(⟨0, 1025, ([] : List (S40))⟩ : S33), 1⟩ : S62), (⟨(⟨(-1), 0, (List.replicate 65537 z40)⟩ : S33), 1⟩ : S62), (⟨(⟨0, 0, (List.replicate 65537 z40)⟩ : S33), 3⟩ : S62), (⟨(⟨1, 1, (([(⟨0, 1⟩ : S40)] : List (S40)))⟩ : S33), 1⟩ : S62), (⟨(⟨1, 1, (([(⟨(-1), 0⟩ : S40)] : List (S40)))⟩ : S33), 1⟩ : S62), (⟨(⟨1, 1, (([(⟨0, 0⟩ : S40), (⟨0, 0⟩ : S40)] : List (S40)))⟩ : S33), 5⟩ : S62), (⟨(⟨2, 2, (([(⟨1, 0⟩ : S40), (⟨0, 1⟩ : S40)] : List (S40)))⟩ : S33), 6⟩ : S62), (⟨(⟨2, 2, (([(⟨1, 1⟩ : S40), (⟨1, 0⟩ : S40)] : List (S40)))⟩ : S33), 6⟩ : S62), (⟨(⟨2, 2, (([(⟨1, 1⟩ : S40), (⟨1, 0⟩ : S40), (⟨9, 9⟩ : S40)] : List (S40)))⟩ : S33), 6⟩ : S62), (⟨(⟨2, 2, (([(⟨1, 1⟩ : S40), (⟨1, 2⟩ : S40)] : List (S40)))⟩ : S33), 1⟩ : S62)] : List (S62)) : List (S62))).bind fun y273 => (mE.l0 k y273 (y273.length : Int) 0)) else (none)) = some r := by rw [if_pos rfl] at H; exact H
  clear H
  have H := H1
  clear H1
  by_cases c3 : 65537 ≤ 17592186044416
  ·rw [if_pos c3] at H
   have c3b0 := eq_true c3
   have c3b1 : decide (65537 ≤ 17592186044416) = true := decide_eq_true c3
   clear c3
   obtain ⟨y246, hy246⟩ : ∃ y_ : List (S40), y_ = (List.replicate 65537 z40) := ⟨_, rfl⟩
   replace H : ((some (([(⟨(⟨(-1), 0, ([] : List (S40))⟩ : S33), 1⟩ : S62), (⟨(⟨0, 1025, ([] : List (S40))⟩ : S33), 1⟩ : S62), (⟨(⟨(-1), 0, y246⟩ : S33), 1⟩ : S62), (⟨(⟨0, 0, (List.replicate 65537 z40)⟩ : S33), 3⟩ : S62), (⟨(⟨1, 1, (([(⟨0, 1⟩ : S40)] : List (S40)))⟩ : S33), 1⟩ : S62), (⟨(⟨1, 1, (([(⟨(-1), 0⟩ : S40)] : List (S40)))⟩ : S33), 1⟩ : S62), (⟨(⟨1, 1, (([(⟨0, 0⟩ : S40), (⟨0, 0⟩ : S40)] : List (S40)))⟩ : S33), 5⟩ : S62), (⟨(⟨2, 2, (([(⟨1, 0⟩ : S40), (⟨0, 1⟩ : S40)] : List (S40)))⟩ : S33), 6⟩ : S62), (⟨(⟨2, 2, (([(⟨1, 1⟩ : S40), (⟨1, 0⟩ : S40)] : List (S40)))⟩ : S33), 6⟩ : S62), (⟨(⟨2, 2, (([(⟨1, 1⟩ : S40), (⟨1, 0⟩ : S40), (⟨9, 9⟩ : S40)] : List (S40)))⟩ : S33), 6⟩ : S62), (⟨(⟨2, 2, (([(⟨1, 1⟩ : S40), (⟨1, 2⟩ : S40)] : List (S40)))⟩ : S33), 1⟩ : S62)] : List (S62)) : List (S62))).bind fun y273 => (mE.l0 k y273 (y273.length : Int) 0)) = some r := by first | (rw [hy246]; with_reducible exact H) | (have H2_ := (Option.bind_some _ _).symm.trans H; rw [hy246]; with_reducible exact H2_) | (have H2_ := (Option.bind_some _ _).symm.trans H; with_reducible exact H2_) | with_reducible exact H | (rw [hy246]; exact H) | exact H
   have Ny246 := As.mk hy246
   clear hy246
   obtain ⟨y249, hy249⟩ : ∃ y_ : List (S40), y_ = (List.replicate 65537 z40) := ⟨_, rfl⟩
   replace H : ((some (([(⟨(⟨(-1), 0, ([] : List (S40))⟩ : S33), 1⟩ : S62), (⟨(⟨0, 1025, ([] : List (S40))⟩ : S33), 1⟩ : S62), (⟨(⟨(-1), 0, y246⟩ : S33), 1⟩ : S62), (⟨(⟨0, 0, y249⟩ : S33), 3⟩ : S62), (⟨(⟨1, 1, (([(⟨0, 1⟩ : S40)] : List (S40)))⟩ : S33), 1⟩ : S62), (⟨(⟨1, 1, (([(⟨(-1), 0⟩ : S40)] : List (S40)))⟩ : S33), 1⟩ : S62), (⟨(⟨1, 1, (([(⟨0, 0⟩ : S40), (⟨0, 0⟩ : S40)] : List (S40)))⟩ : S33), 5⟩ : S62), (⟨(⟨2, 2, (([(⟨1, 0⟩ : S40), (⟨0, 1⟩ : S40)] : List (S40)))⟩ : S33), 6⟩ : S62), (⟨(⟨2, 2, (([(⟨1, 1⟩ : S40), (⟨1, 0⟩ : S40)] : List (S40)))⟩ : S33), 6⟩ : S62), (⟨(⟨2, 2, (([(⟨1, 1⟩ : S40), (⟨1, 0⟩ : S40), (⟨9, 9⟩ : S40)] : List (S40)))⟩ : S33), 6⟩ : S62), (⟨(⟨2, 2, (([(⟨1, 1⟩ : S40), (⟨1, 2⟩ : S40)] : List (S40)))⟩ : S33), 1⟩ : S62)] : List (S62)) : List (S62))).bind fun y273 => (mE.l0 k y273 (y273.length : Int) 0)) = some r := by first | (rw [hy249]; with_reducible exact H) | (have H2_ := (Option.bind_some _ _).symm.trans H; rw [hy249]; with_reducible exact H2_) | (have H2_ := (Option.bind_some _ _).symm.trans H; with_reducible exact H2_) | with_reducible exact H | (rw [hy249]; exact H) | exact H
   have Ny249 := As.mk hy249
   clear hy249
   obtain ⟨y252, hy252⟩ : ∃ y_ : List (S40), y_ = (([(⟨0, 1⟩ : S40)] : List (S40))) := ⟨_, rfl⟩
   replace H : ((some (([(⟨(⟨(-1), 0, ([] : List (S40))⟩ : S33), 1⟩ : S62), (⟨(⟨0, 1025, ([] : List (S40))⟩ : S33), 1⟩ : S62), (⟨(⟨(-1), 0, y246⟩ : S33), 1⟩ : S62), (⟨(⟨0, 0, y249⟩ : S33), 3⟩ : S62), (⟨(⟨1, 1, y252⟩ : S33), 1⟩ : S62), (⟨(⟨1, 1, (([(⟨(-1), 0⟩ : S40)] : List (S40)))⟩ : S33), 1⟩ : S62), (⟨(⟨1, 1, (([(⟨0, 0⟩ : S40), (⟨0, 0⟩ : S40)] : List (S40)))⟩ : S33), 5⟩ : S62), (⟨(⟨2, 2, (([(⟨1, 0⟩ : S40), (⟨0, 1⟩ : S40)] : List (S40)))⟩ : S33), 6⟩ : S62), (⟨(⟨2, 2, (([(⟨1, 1⟩ : S40), (⟨1, 0⟩ : S40)] : List (S40)))⟩ : S33), 6⟩ : S62), (⟨(⟨2, 2, (([(⟨1, 1⟩ : S40), (⟨1, 0⟩ : S40), (⟨9, 9⟩ : S40)] : List (S40)))⟩ : S33), 6⟩ : S62), (⟨(⟨2, 2, (([(⟨1, 1⟩ : S40), (⟨1, 2⟩ : S40)] : List (S40)))⟩ : S33), 1⟩ : S62)] : List (S62)) : List (S62))).bind fun y273 => (mE.l0 k y273 (y273.length : Int) 0)) = some r := by first | (rw [hy252]; with_reducible exact H) | (have H2_ := (Option.bind_some _ _).symm.trans H; rw [hy252]; with_reducible exact H2_) | (have H2_ := (Option.bind_some _ _).symm.trans H; with_reducible exact H2_) | with_reducible exact H | (rw [hy252]; exact H) | exact H
   have Ny252 := As.mk hy252
   clear hy252
   obtain ⟨y255, hy255⟩ : ∃ y_ : List (S40), y_ = (([(⟨(-1), 0⟩ : S40)] : List (S40))) := ⟨_, rfl⟩
   replace H : ((some (([(⟨(⟨(-1), 0, ([] : List (S40))⟩ : S33), 1⟩ : S62), (⟨(⟨0, 1025, ([] : List (S40))⟩ : S33), 1⟩ : S62), (⟨(⟨(-1), 0, y246⟩ : S33), 1⟩ : S62), (⟨(⟨0, 0, y249⟩ : S33), 3⟩ : S62), (⟨(⟨1, 1, y252⟩ : S33), 1⟩ : S62), (⟨(⟨1, 1, y255⟩ : S33), 1⟩ : S62), (⟨(⟨1, 1, (([(⟨0, 0⟩ : S40), (⟨0, 0⟩ : S40)] : List (S40)))⟩ : S33), 5⟩ : S62), (⟨(⟨2, 2, (([(⟨1, 0⟩ : S40), (⟨0, 1⟩ : S40)] : List (S40)))⟩ : S33), 6⟩ : S62), (⟨(⟨2, 2, (([(⟨1, 1⟩ : S40), (⟨1, 0⟩ : S40)] : List (S40)))⟩ : S33), 6⟩ : S62), (⟨(⟨2, 2, (([(⟨1, 1⟩ : S40), (⟨1, 0⟩ : S40), (⟨9, 9⟩ : S40)] : List (S40)))⟩ : S33), 6⟩ : S62), (⟨(⟨2, 2, (([(⟨1, 1⟩ : S40), (⟨1, 2⟩ : S40)] : List (S40)))⟩ : S33), 1⟩ : S62)] : List (S62)) : List (S62))).bind fun y273 => (mE.l0 k y273 (y273.length : Int) 0)) = some r := by first | (rw [hy255]; with_reducible exact H) | (have H2_ := (Option.bind_some _ _).symm.trans H; rw [hy255]; with_reducible exact H2_) | (have H2_ := (Option.bind_some _ _).symm.trans H; with_reducible exact H2_) | with_reducible exact H | (rw [hy255]; exact H) | exact H
   have Ny255 := As.mk hy255
   clear hy255
   obtain ⟨y258, hy258⟩ : ∃ y_ : List (S40), y_ = (([(⟨0, 0⟩ : S40), (⟨0, 0⟩ : S40)] : List (S40))) := ⟨_, rfl⟩
   replace H : ((some (([(⟨(⟨(-1), 0, ([] : List (S40))⟩ : S33), 1⟩ : S62), (⟨(⟨0, 1025, ([] : List (S40))⟩ : S33), 1⟩ : S62), (⟨(⟨(-1), 0, y246⟩ : S33), 1⟩ : S62), (⟨(⟨0, 0, y249⟩ : S33), 3⟩ : S62), (⟨(⟨1, 1, y252⟩ : S33), 1⟩ : S62), (⟨(⟨1, 1, y255⟩ : S33), 1⟩ : S62), (⟨(⟨1, 1, y258⟩ : S33), 5⟩ : S62), (⟨(⟨2, 2, (([(⟨1, 0⟩ : S40), (⟨0, 1⟩ : S40)] : List (S40)))⟩ : S33), 6⟩ : S62), (⟨(⟨2, 2, (([(⟨1, 1⟩ : S40), (⟨1, 0⟩ : S40)] : List (S40)))⟩ : S33), 6⟩ : S62), (⟨(⟨2, 2, (([(⟨1, 1⟩ : S40), (⟨1, 0⟩ : S40), (⟨9, 9⟩ : S40)] : List (S40)))⟩ : S33), 6⟩ : S62), (⟨(⟨2, 2, (([(⟨1, 1⟩ : S40), (⟨1, 2⟩ : S40)] : List (S40)))⟩ : S33), 1⟩ : S62)] : List (S62)) : List (S62))).bind fun y273 => (mE.l0 k y273 (y273.length : Int) 0)) = some r := by first | (rw [hy258]; with_reducible exact H) | (have H2_ := (Option.bind_some _ _).symm.trans H; rw [hy258]; with_reducible exact H2_) | (have H2_ := (Option.bind_some _ _).symm.trans H; with_reducible exact H2_) | with_reducible exact H | (rw [hy258]; exact H) | exact H
   have Ny258 := As.mk hy258
   clear hy258
   obtain ⟨y261, hy261⟩ : ∃ y_ : List (S40), y_ = (([(⟨1, 0⟩ : S40), (⟨0, 1⟩ : S40)] : List (S40))) := ⟨_, rfl⟩
   replace H : ((some (([(⟨(⟨(-1), 0, ([] : List (S40))⟩ : S33), 1⟩ : S62), (⟨(⟨0, 1025, ([] : List (S40))⟩ : S33), 1⟩ : S62), (⟨(⟨(-1), 0, y246⟩ : S33), 1⟩ : S62), (⟨(⟨0, 0, y249⟩ : S33), 3⟩ : S62), (⟨(⟨1, 1, y252⟩ : S33), 1⟩ : S62), (⟨(⟨1, 1, y255⟩ : S33), 1⟩ : S62), (⟨(⟨1, 1, y258⟩ : S33), 5⟩ : S62), (⟨(⟨2, 2, y261⟩ : S33), 6⟩ : S62), (⟨(⟨2, 2, (([(⟨1, 1⟩ : S40), (⟨1, 0⟩ : S40)] : List (S40)))⟩ : S33), 6⟩ : S62), (⟨(⟨2, 2, (([(⟨1, 1⟩ : S40), (⟨1, 0⟩ : S40), (⟨9, 9⟩ : S40)] : List (S40)))⟩ : S33), 6⟩ : S62), (⟨(⟨2, 2, (([(⟨1, 1⟩ : S40), (⟨1, 2⟩ : S40)] : List (S40)))⟩ : S33), 1⟩ : S62)] : List (S62)) : List (S62))).bind fun y273 => (mE.l0 k y273 (y273.length : Int) 0)) = some r := by first | (rw [hy261]; with_reducible exact H) | (have H2_ := (Option.bind_some _ _).symm.trans H; rw [hy261]; with_reducible exact H2_) | (have H2_ := (Option.bind_some _ _).symm.trans H; with_reducible exact H2_) | with_reducible exact H | (rw [hy261]; exact H) | exact H
   have Ny261 := As.mk hy261
   clear hy261
   obtain ⟨y264, hy264⟩ : ∃ y_ : List (S40), y_ = (([(⟨1, 1⟩ : S40), (⟨1, 0⟩ : S40)] : List (S40))) := ⟨_, rfl⟩
   replace H : ((some (([(⟨(⟨(-1), 0, ([] : List (S40))⟩ : S33), 1⟩ : S62), (⟨(⟨0, 1025, ([] : List (S40))⟩ : S33), 1⟩ : S62), (⟨(⟨(-1), 0, y246⟩ : S33), 1⟩ : S62), (⟨(⟨0, 0, y249⟩ : S33), 3⟩ : S62), (⟨(⟨1, 1, y252⟩ : S33), 1⟩ : S62), (⟨(⟨1, 1, y255⟩ : S33), 1⟩ : S62), (⟨(⟨1, 1, y258⟩ : S33), 5⟩ : S62), (⟨(⟨2, 2, y261⟩ : S33), 6⟩ : S62), (⟨(⟨2, 2, y264⟩ : S33), 6⟩ : S62), (⟨(⟨2, 2, (([(⟨1, 1⟩ : S40), (⟨1, 0⟩ : S40), (⟨9, 9⟩ : S40)] : List (S40)))⟩ : S33), 6⟩ : S62), (⟨(⟨2, 2, (([(⟨1, 1⟩ : S40), (⟨1, 2⟩ : S40)] : List (S40)))⟩ : S33), 1⟩ : S62)] : List (S62)) : List (S62))).bind fun y273 => (mE.l0 k y273 (y273.length : Int) 0)) = some r := by first | (rw [hy264]; with_reducible exact H) | (have H2_ := (Option.bind_some _ _).symm.trans H; rw [hy264]; with_reducible exact H2_) | (have H2_ := (Option.bind_some _ _).symm.trans H; with_reducible exact H2_) | with_reducible exact H | (rw [hy264]; exact H) | exact H
   have Ny264 := As.mk hy264
   clear hy264
   obtain ⟨y267, hy267⟩ : ∃ y_ : List (S40), y_ = (([(⟨1, 1⟩ : S40), (⟨1, 0⟩ : S40), (⟨9, 9⟩ : S40)] : List (S40))) := ⟨_, rfl⟩
   replace H : ((some (([(⟨(⟨(-1), 0, ([] : List (S40))⟩ : S33), 1⟩ : S62), (⟨(⟨0, 1025, ([] : List (S40))⟩ : S33), 1⟩ : S62), (⟨(⟨(-1), 0, y246⟩ : S33), 1⟩ : S62), (⟨(⟨0, 0, y249⟩ : S33), 3⟩ : S62), (⟨(⟨1, 1, y252⟩ : S33), 1⟩ : S62), (⟨(⟨1, 1, y255⟩ : S33), 1⟩ : S62), (⟨(⟨1, 1, y258⟩ : S33), 5⟩ : S62), (⟨(⟨2, 2, y261⟩ : S33), 6⟩ : S62), (⟨(⟨2, 2, y264⟩ : S33), 6⟩ : S62), (⟨(⟨2, 2, y267⟩ : S33), 6⟩ : S62), (⟨(⟨2, 2, (([(⟨1, 1⟩ : S40), (⟨1, 2⟩ : S40)] : List (S40)))⟩ : S33), 1⟩ : S62)] : List (S62)) : List (S62))).bind fun y273 => (mE.l0 k y273 (y273.length : Int) 0)) = some r := by first | (rw [hy267]; with_reducible exact H) | (have H2_ := (Option.bind_some _ _).symm.trans H; rw [hy267]; with_reducible exact H2_) | (have H2_ := (Option.bind_some _ _).symm.trans H; with_reducible exact H2_) | with_reducible exact H | (rw [hy267]; exact H) | exact H
   have Ny267 := As.mk hy267
   clear hy267
   obtain ⟨y270, hy270⟩ : ∃ y_ : List (S40), y_ = (([(⟨1, 1⟩ : S40), (⟨1, 2⟩ : S40)] : List (S40))) := ⟨_, rfl⟩
   replace H : ((some (([(⟨(⟨(-1), 0, ([] : List (S40))⟩ : S33), 1⟩ : S62), (⟨(⟨0, 1025, ([] : List (S40))⟩ : S33), 1⟩ : S62), (⟨(⟨(-1), 0, y246⟩ : S33), 1⟩ : S62), (⟨(⟨0, 0, y249⟩ : S33), 3⟩ : S62), (⟨(⟨1, 1, y252⟩ : S33), 1⟩ : S62), (⟨(⟨1, 1, y255⟩ : S33), 1⟩ : S62), (⟨(⟨1, 1, y258⟩ : S33), 5⟩ : S62), (⟨(⟨2, 2, y261⟩ : S33), 6⟩ : S62), (⟨(⟨2, 2, y264⟩ : S33), 6⟩ : S62), (⟨(⟨2, 2, y267⟩ : S33), 6⟩ : S62), (⟨(⟨2, 2, y270⟩ : S33), 1⟩ : S62)] : List (S62)) : List (S62))).bind fun y273 => (mE.l0 k y273 (y273.length : Int) 0)) = some r := by first | (rw [hy270]; with_reducible exact H) | (have H2_ := (Option.bind_some _ _).symm.trans H; rw [hy270]; with_reducible exact H2_) | (have H2_ := (Option.bind_some _ _).symm.trans H; with_reducible exact H2_) | with_reducible exact H | (rw [hy270]; exact H) | exact H
   have Ny270 := As.mk hy270
   clear hy270
   obtain ⟨y273, hy273⟩ : ∃ y_ : List (S62), y_ = (([(⟨(⟨(-1), 0, ([] : List (S40))⟩ : S33), 1⟩ : S62), (⟨(⟨0, 1025, ([] : List (S40))⟩ : S33), 1⟩ : S62), (⟨(⟨(-1), 0, y246⟩ : S33), 1⟩ : S62), (⟨(⟨0, 0, y249⟩ : S33), 3⟩ : S62), (⟨(⟨1, 1, y252⟩ : S33), 1⟩ : S62), (⟨(⟨1, 1, y255⟩ : S33), 1⟩ : S62), (⟨(⟨1, 1, y258⟩ : S33), 5⟩ : S62), (⟨(⟨2, 2, y261⟩ : S33), 6⟩ : S62), (⟨(⟨2, 2, y264⟩ : S33), 6⟩ : S62), (⟨(⟨2, 2, y267⟩ : S33), 6⟩ : S62), (⟨(⟨2, 2, y270⟩ : S33), 1⟩ : S62)] : List (S62))) := ⟨_, rfl⟩
   replace H : (mE.l0 k y273 (y273.length : Int) 0) = some r := by first | (rw [hy273]; with_reducible exact H) | (have H2_ := (Option.bind_some _ _).symm.trans H; rw [hy273]; with_reducible exact H2_) | (have H2_ := (Option.bind_some _ _).symm.trans H; with_reducible exact H2_) | with_reducible exact H | (rw [hy273]; exact H) | exact H
   have Ny273 := As.mk hy273
   clear hy273
   have H' := As.mk H
   clear H
   go_enter Try.func11, Try.ntmps11
   try go_wp2_with (first | ((with_reducible refine gate_callee (f := 16) rfl ?_); refine goesL_ (some 60) rfl rfl Try.func16 (by kernel_rfl) rfl #[] rfl (by (try simp only [List.map_toArray, List.map_cons, List.map_nil]); first | done | rfl | (simp only [List.length_drop, List.length_take]; rfl)) ?_; (with_reducible refine (toruslaw30_awake.calls  true _ A1.out).mono ?_); rintro e w4 ⟨rfl, hb⟩; refine ⟨_, rfl, ?_⟩; have n0_ := As.mk (below_step (hup0 HB.out) hb); clear HB; have HB := n0_; clear n0_; (try clear hb); (try clear hb2); (try clear hk); (try clear hi)))
   have n0_ := As.mk (below_drew1 HB.out)
   clear HB
   have HB := n0_
   clear n0_
   refine start_ (n := 47) (S := fun w' => True) (ds := []) #[false, false, false, false, false, false, false, false, false, false, false, false, false, false, false, false, false, false, false, false, false, false, false, false, false, false, false, false, false, false, false, false, false, false, false, false, false, false, false, false, false, false, false, false, false, false, false] (by kernel_rfl) rfl rfl trivial (fun hHeld => ?_); refine with_tabW mE.tab3 mE.bits3 (fun HT_ HW_ => ?_)
   generalize w4.drew = w5 at HB hHeld ⊢
   refine pure_ (i := 46) (N := some 112) (v := ?_) (a' := ?_) #[false, false, false, false, false, false, false, false, false, false, false, false, false, false, false, false, false, false, false, false, false, false, false, false, false, false, false, false, false, false, false, false, false, false, false, false, false, false, false, false, false, false, false, false, false, false, true] rfl rfl (any_of HT_.out (by kernel_rfl)) (fun _ _ _ h => h) (Or.inl ⟨by rfl, ?_⟩) ?_ ?_
   rotate_left
   ·intro w'
    go_simp
    with_reducible rfl
   rotate_left
   ·simp only [Act.put, List.setIfInBounds_toArray, List.set_cons_zero, List.set_cons_succ, i64_w, i32_w]
    rfl
   refine inv_at exO (ExI w y246 y249 y252 y255 y258 y261 y264 y267 y270 y273) HT_.out HW_.out (by kernel_rfl) (by kernel_rfl) ?_ ?_ ?_
   ·exact ⟨.bool false, .bool false, .bool false, .bool false, .bool false, .bool false, .bool false, .bool false, .bool false, .bool false, .bool false, .bool false, .bool false, .bool false, .bool false, .bool false, .bool false, .bool false, .bool false, .bool false, .bool false, .bool false, .bool false, .bool false, .bool false, .bool false, .bool false, .bool false, by simp only [putSel, Bool.false_eq_true, if_false], HB.out, fun h_ => absurd h_ (by decide), fun h_ => absurd h_ (by decide), fun h_ => absurd h_ (by decide), fun h_ => absurd h_ (by decide), fun h_ => absurd h_ (by decide), fun h_ => absurd h_ (by decide), fun h_ => absurd h_ (by decide), fun h_ => absurd h_ (by decide), fun h_ => absurd h_ (by decide), fun h_ => absurd h_ (by decide), fun h_ => absurd h_ (by decide), fun h_ => absurd h_ (by decide), fun h_ => absurd h_ (by decide), fun h_ => absurd h_ (by decide), fun h_ => absurd h_ (by decide), fun h_ => absurd h_ (by decide), fun h_ => absurd h_ (by decide), fun h_ => absurd h_ (by decide), fun h_ => absurd h_ (by decide), fun h_ => absurd h_ (by decide), fun h_ => absurd h_ (by decide), fun h_ => absurd h_ (by decide), fun h_ => absurd h_ (by decide), fun h_ => absurd h_ (by decide), fun h_ => absurd h_ (by decide), fun h_ => absurd h_ (by decide), fun h_ => absurd h_ (by decide), fun h_ => absurd h_ (by decide)⟩
   ·skip
    clear HB
    exact (steps_cons (ExS0 w y246 y249 y252 y255 y258 y261 y264 y267 y270 y273 _ _ rfl _ rfl) (steps_cons (ExS1 w y246 y249 y252 y255 y258 y261 y264 y267 y270 y273 _ _ rfl _ rfl) (steps_cons (ExS2 w y246 y249 y252 y255 y258 y261 y264 y267 y270 y273 _ _ rfl _ rfl) (steps_cons (ExS3 w y246 y249 y252 y255 y258 y261 y264 y267 y270 y273 _ _ rfl _ rfl) (steps_cons (ExS4 w y246 y249 y252 y255 y258 y261 y264 y267 y270 y273 Ny246 _ _ rfl _ rfl) (steps_cons (ExS5 w y246 y249 y252 y255 y258 y261 y264 y267 y270 y273 _ _ rfl _ rfl) (steps_cons (ExS6 w y246 y249 y252 y255 y258 y261 y264 y267 y270 y273 _ _ rfl _ rfl) (steps_cons (ExS7 w y246 y249 y252 y255 y258 y261 y264 y267 y270 y273 Ny249 _ _ rfl _ rfl) (steps_cons (ExS8 w y246 y249 y252 y255 y258 y261 y264 y267 y270 y273 _ _ rfl _ rfl) (steps_cons (ExS9 w y246 y249 y252 y255 y258 y261 y264 y267 y270 y273 _ _ rfl _ rfl) (steps_cons (ExS10 w y246 y249 y252 y255 y258 y261 y264 y267 y270 y273 _ _ rfl _ rfl) (steps_cons (ExS11 w y246 y249 y252 y255 y258 y261 y264 y267 y270 y273 Ny252 _ _ rfl _ rfl) (steps_cons (ExS12 w y246 y249 y252 y255 y258 y261 y264 y267 y270 y273 _ _ rfl _ rfl) (steps_cons (ExS13 w y246 y249 y252 y255 y258 y261 y264 y267 y270 y273 _ _ rfl _ rfl) (steps_cons (ExS14 w y246 y249 y252 y255 y258 y261 y264 y267 y270 y273 _ _ rfl _ rfl) (steps_cons (ExS15 w y246 y249 y252 y255 y258 y261 y264 y267 y270 y273 Ny255 _ _ rfl _ rfl) (steps_cons (ExS16 w y246 y249 y252 y255 y258 y261 y264 y267 y270 y273 _ _ rfl _ rfl) (steps_cons (ExS17 w y246 y249 y252 y255 y258 y261 y264 y267 y270 y273 _ _ rfl _ rfl) (steps_cons (ExS18 w y246 y249 y252 y255 y258 y261 y264 y267 y270 y273 _ _ rfl _ rfl) (steps_cons (ExS19 w y246 y249 y252 y255 y258 y261 y264 y267 y270 y273 _ _ rfl _ rfl) (steps_cons (ExS20 w y246 y249 y252 y255 y258 y261 y264 y267 y270 y273 Ny258 _ _ rfl _ rfl) (steps_cons (ExS21 w y246 y249 y252 y255 y258 y261 y264 y267 y270 y273 _ _ rfl _ rfl) (steps_cons (ExS22 w y246 y249 y252 y255 y258 y261 y264 y267 y270 y273 _ _ rfl _ rfl) (steps_cons (ExS23 w y246 y249 y252 y255 y258 y261 y264 y267 y270 y273 _ _ rfl _ rfl) (steps_cons (ExS24 w y246 y249 y252 y255 y258 y261 y264 y267 y270 y273 _ _ rfl _ rfl) (steps_cons (ExS25 w y246 y249 y252 y255 y258 y261 y264 y267 y270 y273 Ny261 _ _ rfl _ rfl) (steps_cons (ExS26 w y246 y249 y252 y255 y258 y261 y264 y267 y270 y273 _ _ rfl _ rfl) (steps_cons (ExS27 w y246 y249 y252 y255 y258 y261 y264 y267 y270 y273 _ _ rfl _ rfl) (steps_cons (ExS28 w y246 y249 y252 y255 y258 y261 y264 y267 y270 y273 _ _ rfl _ rfl) (steps_cons (ExS29 w y246 y249 y252 y255 y258 y261 y264 y267 y270 y273 _ _ rfl _ rfl) (steps_cons (ExS30 w y246 y249 y252 y255 y258 y261 y264 y267 y270 y273 Ny264 _ _ rfl _ rfl) (steps_cons (ExS31 w y246 y249 y252 y255 y258 y261 y264 y267 y270 y273 _ _ rfl _ rfl) (steps_cons (ExS32 w y246 y249 y252 y255 y258 y261 y264 y267 y270 y273 _ _ rfl _ rfl) (steps_cons (ExS33 w y246 y249 y252 y255 y258 y261 y264 y267 y270 y273 _ _ rfl _ rfl) (steps_cons (ExS34 w y246 y249 y252 y255 y258 y261 y264 y267 y270 y273 _ _ rfl _ rfl) (steps_cons (ExS35 w y246 y249 y252 y255 y258 y261 y264 y267 y270 y273 _ _ rfl _ rfl) (steps_cons (ExS36 w y246 y249 y252 y255 y258 y261 y264 y267 y270 y273 Ny267 _ _ rfl _ rfl) (steps_cons (ExS37 w y246 y249 y252 y255 y258 y261 y264 y267 y270 y273 _ _ rfl _ rfl) (steps_cons (ExS38 w y246 y249 y252 y255 y258 y261 y264 y267 y270 y273 _ _ rfl _ rfl) (steps_cons (ExS39 w y246 y249 y252 y255 y258 y261 y264 y267 y270 y273 _ _ rfl _ rfl) (steps_cons (ExS40 w y246 y249 y252 y255 y258 y261 y264 y267 y270 y273 _ _ rfl _ rfl) (steps_cons (ExS41 w y246 y249 y252 y255 y258 y261 y264 y267 y270 y273 Ny270 _ _ rfl _ rfl) (steps_cons (ExS42 w y246 y249 y252 y255 y258 y261 y264 y267 y270 y273 _ _ rfl _ rfl) (steps_cons (ExS43 w y246 y249 y252 y255 y258 y261 y264 y267 y270 y273 _ _ rfl _ rfl) (steps_cons (ExS44 w y246 y249 y252 y255 y258 y261 y264 y267 y270 y273 Ny273 _ _ rfl _ rfl) (steps_cons (ExS45 w y246 y249 y252 y255 y258 y261 y264 y267 y270 y273 _ _ rfl _ rfl) steps_nil))))))))))))))))))))))))))))))))))))))))))))))
   rintro b a w36 hall ⟨v247, v250, v253, v256, v259, v262, v265, v268, v271, v274, m5_, m6_, m8_, m9_, m12_, m13_, m16_, m17_, m21_, m22_, m26_, m27_, m31_, m32_, m37_, m38_, m42_, m43_, ha, Q_HB, Q_HO248, Q_HO251, Q_HO254, Q_HO257, Q_HO260, Q_HO263, Q_HO266, Q_HO269, Q_HO272, Q_HO275, Q_X5_, Q_X6_, Q_X8_, Q_X9_, Q_X12_, Q_X13_, Q_X16_, Q_X17_, Q_X21_, Q_X22_, Q_X26_, Q_X27_, Q_X31_, Q_X32_, Q_X37_, Q_X38_, Q_X42_, Q_X43_⟩
   clear HB
   have hb0_ := hall 0 (by kernel_rfl)
   have hb1_ := hall 1 (by kernel_rfl)
   have hb2_ := hall 2 (by kernel_rfl)
   have hb3_ := hall 3 (by kernel_rfl)
   have hb4_ := hall 4 (by kernel_rfl)
   have hb5_ := hall 5 (by kernel_rfl)
   have hb6_ := hall 6 (by kernel_rfl)
   have hb7_ := hall 7 (by kernel_rfl)
   have hb8_ := hall 8 (by kernel_rfl)
   have hb9_ := hall 9 (by kernel_rfl)
   have hb10_ := hall 10 (by kernel_rfl)
   have hb11_ := hall 11 (by kernel_rfl)
   have hb12_ := hall 12 (by kernel_rfl)
   have hb13_ := hall 13 (by kernel_rfl)
   have hb14_ := hall 14 (by kernel_rfl)
   have hb15_ := hall 15 (by kernel_rfl)
   have hb16_ := hall 16 (by kernel_rfl)
   have hb17_ := hall 17 (by kernel_rfl)
   have hb18_ := hall 18 (by kernel_rfl)
   have hb19_ := hall 19 (by kernel_rfl)
   have hb20_ := hall 20 (by kernel_rfl)
   have hb21_ := hall 21 (by kernel_rfl)
   have hb22_ := hall 22 (by kernel_rfl)
   have hb23_ := hall 23 (by kernel_rfl)
   have hb24_ := hall 24 (by kernel_rfl)
   have hb25_ := hall 25 (by kernel_rfl)
   have hb26_ := hall 26 (by kernel_rfl)
   have hb27_ := hall 27 (by kernel_rfl)
   have hb28_ := hall 28 (by kernel_rfl)
   have hb29_ := hall 29 (by kernel_rfl)
   have hb30_ := hall 30 (by kernel_rfl)
   have hb31_ := hall 31 (by kernel_rfl)
   have hb32_ := hall 32 (by kernel_rfl)
   have hb33_ := hall 33 (by kernel_rfl)
   have hb34_ := hall 34 (by kernel_rfl)
   have hb35_ := hall 35 (by kernel_rfl)
   have hb36_ := hall 36 (by kernel_rfl)
   have hb37_ := hall 37 (by kernel_rfl)
   have hb38_ := hall 38 (by kernel_rfl)
   have hb39_ := hall 39 (by kernel_rfl)
   have hb40_ := hall 40 (by kernel_rfl)
   have hb41_ := hall 41 (by kernel_rfl)
   have hb42_ := hall 42 (by kernel_rfl)
   have hb43_ := hall 43 (by kernel_rfl)
   have hb44_ := hall 44 (by kernel_rfl)
   have hb45_ := hall 45 (by kernel_rfl)
   subst ha
   obtain rfl := Q_X5_ hb5_
   obtain rfl := Q_X6_ hb6_
   obtain rfl := Q_X8_ hb8_
   obtain rfl := Q_X9_ hb9_
   obtain rfl := Q_X12_ hb12_
   obtain rfl := Q_X13_ hb13_
   obtain rfl := Q_X16_ hb16_
   obtain rfl := Q_X17_ hb17_
   obtain rfl := Q_X21_ hb21_
   obtain rfl := Q_X22_ hb22_
   obtain rfl := Q_X26_ hb26_
   obtain rfl := Q_X27_ hb27_
   obtain rfl := Q_X31_ hb31_
   obtain rfl := Q_X32_ hb32_
   obtain rfl := Q_X37_ hb37_
   obtain rfl := Q_X38_ hb38_
   obtain rfl := Q_X42_ hb42_
   obtain rfl := Q_X43_ hb43_
   simp only [putSel, hb0_, hb1_, hb2_, hb3_, hb4_, hb5_, hb6_, hb7_, hb8_, hb9_, hb10_, hb11_, hb12_, hb13_, hb14_, hb15_, hb16_, hb17_, hb18_, hb19_, hb20_, hb21_, hb22_, hb23_, hb24_, hb25_, hb26_, hb27_, hb28_, hb29_, hb30_, hb31_, hb32_, hb33_, hb34_, hb35_, hb36_, hb37_, hb38_, hb39_, hb40_, hb41_, hb42_, hb43_, hb44_, hb45_, if_true, Act.put, List.setIfInBounds_toArray, List.set_cons_zero, List.set_cons_succ]
   have HB := As.mk Q_HB
   clear Q_HB
   clear Q_HO248
   clear Q_HO251
   clear Q_HO254
   clear Q_HO257
   clear Q_HO260
   clear Q_HO263
   clear Q_HO266
   clear Q_HO269
   clear Q_HO272
   have HO275 := As.mk (Q_HO275 hb44_)
   clear Q_HO275
   clear hall hb0_ hb1_ hb2_ hb3_ hb4_ hb5_ hb6_ hb7_ hb8_ hb9_ hb10_ hb11_ hb12_ hb13_ hb14_ hb15_ hb16_ hb17_ hb18_ hb19_ hb20_ hb21_ hb22_ hb23_ hb24_ hb25_ hb26_ hb27_ hb28_ hb29_ hb30_ hb31_ hb32_ hb33_ hb34_ hb35_ hb36_ hb37_ hb38_ hb39_ hb40_ hb41_ hb42_ hb43_ hb44_ hb45_
   obtain ⟨Ao37, co37, eo37⟩ := Kd.N_slice HO275.out
   (first | subst eo37 | (injection eo37 with f1_ f2_ f3_; have f4_ := f1_.symm; have f5_ := f3_.symm; clear f1_ f2_ f3_; subst f4_; subst f5_))
   try go_wp2
   go_loopg [112] k (fun kq v112 w' => ∃ (x112_1 : Int), v112 = .int .i64 x112_1 ∧ As (mE.l0 kq y273 (y273.length : Int) x112_1 = some r) ∧ As (kq ≤ k) ∧ As (Kd.N k62 62 w' w.heap.size (fun _ => True) (.slice Ao37 y273.length co37) y273) ∧ As (Below w.heap.size w w'))
   case atStart => exact ⟨(0), (by first | rfl | (simp; done) | (simp [*]; done)), H', ⟨Nat.le_refl _⟩, ⟨by (with_reducible repeat (first | apply Kd.N_alloc | apply Kd.N_drewN | apply Kd.N_drew)); exact HO275.out⟩, ⟨by repeat (first | (with_reducible first | exact HB.out | apply below_alloc | apply pw_below_drewN | apply below_drew1) | exact HB.out)⟩⟩
   case round =>
    clear H'
    try clear c2
    try clear p2
    try clear c4
    obtain ⟨x112_1, rfl, HA, HK1, HO_110, HB⟩ := hrel
    cases gk with
    | zero => exact absurd HA.out (by simp [mE.l0])
    | succ k1 =>
     have H := HA.out
     clear HA
     have HL0 := As.mk H
     simp only [mE.l0] at H
     by_cases c38 : x112_1 < (y273.length : Int)
     ·rw [if_pos c38] at H
      have c38b0 : decide (x112_1 < (y273.length : Int)) = true := decide_eq_true c38
      clear c38
      by_cases c39 : 0 ≤ x112_1
      ·rw [if_pos c39] at H
       have c39b0 : decide (0 ≤ x112_1) = true := decide_eq_true c39
       clear c39
       by_cases c40 : x112_1 < (y273.length : Int)
       ·rw [if_pos c40] at H
        have c40b0 : decide (x112_1 < (y273.length : Int)) = true := decide_eq_true c40
        clear c40
        replace H := Option.bind_eq_some_iff.mp H
        obtain ⟨⟨t278, t279⟩, A410, H⟩ := H
        replace H : ((match_Maximum.f k1 ((rd_T62 y273 x112_1).f0.f0) ((rd_T62 y273 x112_1).f0.f1) ((rd_T62 y273 x112_1).f0.f2)).bind fun bt280 => (if 7 ≤ 35184372088832 then ((match_Verify.f ((rd_T62 y273 x112_1).f0.f0) ((rd_T62 y273 x112_1).f0.f1) ((rd_T62 y273 x112_1).f0.f2) (List.replicate 7 0)).bind fun bt287 => ((match_Cover.f k1 ((rd_T62 y273 x112_1).f0.f0) ((rd_T62 y273 x112_1).f0.f1) ((rd_T62 y273 x112_1).f0.f2)).bind fun bt289 => ((match_Free.f k1 ((rd_T62 y273 x112_1).f0.f0) ((rd_T62 y273 x112_1).f0.f1) ((rd_T62 y273 x112_1).f0.f2)).bind fun bt296 => ((match_Hall.f k1 ((rd_T62 y273 x112_1).f0.f0) ((rd_T62 y273 x112_1).f0.f1) ((rd_T62 y273 x112_1).f0.f2)).bind fun bt303 => ((match_Colours.f ((rd_T62 y273 x112_1).f0.f0) ((rd_T62 y273 x112_1).f0.f1) ((rd_T62 y273 x112_1).f0.f2)).bind fun bt310 => ((match_Check.f ((rd_T62 y273 x112_1).f0.f0) ((rd_T62 y273 x112_1).f0.f1) ((rd_T62 y273 x112_1).f0.f2)).bind fun t314 => (if t314 = ((rd_T62 y273 x112_1).f1) then (if t279 = ((rd_T62 y273 x112_1).f1) then (if bt280.2 = ((rd_T62 y273 x112_1).f1) then (if bt287.2 = ((rd_T62 y273 x112_1).f1) then (if bt289.2.2 = ((rd_T62 y273 x112_1).f1) then (if bt296.2.2 = ((rd_T62 y273 x112_1).f1) then (if bt303.2.2 = ((rd_T62 y273 x112_1).f1) then (if bt310.2 = ((rd_T62 y273 x112_1).f1) then (mE.l0 k1 y273 (y273.length : Int) (wrap64 (x112_1 + 1))) else (some false)) else (some false)) else (some false)) else (some false)) else (some false)) else (some false)) else (some false)) else (some false)))))))) else (none))) = some r := H
        have A41 := As.mk A410
        clear A410
        replace H := Option.bind_eq_some_iff.mp H
        obtain ⟨⟨t280, t283⟩, A420, H⟩ := H
        replace H : (if 7 ≤ 35184372088832 then ((match_Verify.f ((rd_T62 y273 x112_1).f0.f0) ((rd_T62 y273 x112_1).f0.f1) ((rd_T62 y273 x112_1).f0.f2) (List.replicate 7 0)).bind fun bt287 => ((match_Cover.f k1 ((rd_T62 y273 x112_1).f0.f0) ((rd_T62 y273 x112_1).f0.f1) ((rd_T62 y273 x112_1).f0.f2)).bind fun bt289 => ((match_Free.f k1 ((rd_T62 y273 x112_1).f0.f0) ((rd_T62 y273 x112_1).f0.f1) ((rd_T62 y273 x112_1).f0.f2)).bind fun bt296 => ((match_Hall.f k1 ((rd_T62 y273 x112_1).f0.f0) ((rd_T62 y273 x112_1).f0.f1) ((rd_T62 y273 x112_1).f0.f2)).bind fun bt303 => ((match_Colours.f ((rd_T62 y273 x112_1).f0.f0) ((rd_T62 y273 x112_1).f0.f1) ((rd_T62 y273 x112_1).f0.f2)).bind fun bt310 => ((match_Check.f ((rd_T62 y273 x112_1).f0.f0) ((rd_T62 y273 x112_1).f0.f1) ((rd_T62 y273 x112_1).f0.f2)).bind fun t314 => (if t314 = ((rd_T62 y273 x112_1).f1) then (if t279 = ((rd_T62 y273 x112_1).f1) then (if t283 = ((rd_T62 y273 x112_1).f1) then (if bt287.2 = ((rd_T62 y273 x112_1).f1) then (if bt289.2.2 = ((rd_T62 y273 x112_1).f1) then (if bt296.2.2 = ((rd_T62 y273 x112_1).f1) then (if bt303.2.2 = ((rd_T62 y273 x112_1).f1) then (if bt310.2 = ((rd_T62 y273 x112_1).f1) then (mE.l0 k1 y273 (y273.length : Int) (wrap64 (x112_1 + 1))) else (some false)) else (some false)) else (some false)) else (some false)) else (some false)) else (some false)) else (some false)) else (some false)))))))) else (none)) = some r := H
        have A42 := As.mk A420
        clear A420
        by_cases c43 : 7 ≤ 35184372088832
        ·rw [if_pos c43] at H
         have c43b0 := eq_true c43
         have c43b1 : decide (7 ≤ 35184372088832) = true := decide_eq_true c43
         clear c43
         obtain ⟨y284, hy284⟩ : ∃ y_ : List Int, y_ = (List.replicate 7 0) := ⟨_, rfl⟩
         replace H : ((match_Verify.f ((rd_T62 y273 x112_1).f0.f0) ((rd_T62 y273 x112_1).f0.f1) ((rd_T62 y273 x112_1).f0.f2) y284).bind fun bt287 => ((match_Cover.f k1 ((rd_T62 y273 x112_1).f0.f0) ((rd_T62 y273 x112_1).f0.f1) ((rd_T62 y273 x112_1).f0.f2)).bind fun bt289 => ((match_Free.f k1 ((rd_T62 y273 x112_1).f0.f0) ((rd_T62 y273 x112_1).f0.f1) ((rd_T62 y273 x112_1).f0.f2)).bind fun bt296 => ((match_Hall.f k1 ((rd_T62 y273 x112_1).f0.f0) ((rd_T62 y273 x112_1).f0.f1) ((rd_T62 y273 x112_1).f0.f2)).bind fun bt303 => ((match_Colours.f ((rd_T62 y273 x112_1).f0.f0) ((rd_T62 y273 x112_1).f0.f1) ((rd_T62 y273 x112_1).f0.f2)).bind fun bt310 => ((match_Check.f ((rd_T62 y273 x112_1).f0.f0) ((rd_T62 y273 x112_1).f0.f1) ((rd_T62 y273 x112_1).f0.f2)).bind fun t314 => (if t314 = ((rd_T62 y273 x112_1).f1) then (if t279 = ((rd_T62 y273 x112_1).f1) then (if t283 = ((rd_T62 y273 x112_1).f1) then (if bt287.2 = ((rd_T62 y273 x112_1).f1) then (if bt289.2.2 = ((rd_T62 y273 x112_1).f1) then (if bt296.2.2 = ((rd_T62 y273 x112_1).f1) then (if bt303.2.2 = ((rd_T62 y273 x112_1).f1) then (if bt310.2 = ((rd_T62 y273 x112_1).f1) then (mE.l0 k1 y273 (y273.length : Int) (wrap64 (x112_1 + 1))) else (some false)) else (some false)) else (some false)) else (some false)) else (some false)) else (some false)) else (some false)) else (some false)))))))) = some r := by first | (rw [hy284]; with_reducible exact H) | (have H2_ := (Option.bind_some _ _).symm.trans H; rw [hy284]; with_reducible exact H2_) | (have H2_ := (Option.bind_some _ _).symm.trans H; with_reducible exact H2_) | with_reducible exact H | (rw [hy284]; exact H) | exact H
         have Ny284 := As.mk hy284
         clear hy284
         replace H := Option.bind_eq_some_iff.mp H
         obtain ⟨⟨t287, t288⟩, A440, H⟩ := H
         replace H : ((match_Cover.f k1 ((rd_T62 y273 x112_1).f0.f0) ((rd_T62 y273 x112_1).f0.f1) ((rd_T62 y273 x112_1).f0.f2)).bind fun bt289 => ((match_Free.f k1 ((rd_T62 y273 x112_1).f0.f0) ((rd_T62 y273 x112_1).f0.f1) ((rd_T62 y273 x112_1).f0.f2)).bind fun bt296 => ((match_Hall.f k1 ((rd_T62 y273 x112_1).f0.f0) ((rd_T62 y273 x112_1).f0.f1) ((rd_T62 y273 x112_1).f0.f2)).bind fun bt303 => ((match_Colours.f ((rd_T62 y273 x112_1).f0.f0) ((rd_T62 y273 x112_1).f0.f1) ((rd_T62 y273 x112_1).f0.f2)).bind fun bt310 => ((match_Check.f ((rd_T62 y273 x112_1).f0.f0) ((rd_T62 y273 x112_1).f0.f1) ((rd_T62 y273 x112_1).f0.f2)).bind fun t314 => (if t314 = ((rd_T62 y273 x112_1).f1) then (if t279 = ((rd_T62 y273 x112_1).f1) then (if t283 = ((rd_T62 y273 x112_1).f1) then (if t288 = ((rd_T62 y273 x112_1).f1) then (if bt289.2.2 = ((rd_T62 y273 x112_1).f1) then (if bt296.2.2 = ((rd_T62 y273 x112_1).f1) then (if bt303.2.2 = ((rd_T62 y273 x112_1).f1) then (if bt310.2 = ((rd_T62 y273 x112_1).f1) then (mE.l0 k1 y273 (y273.length : Int) (wrap64 (x112_1 + 1))) else (some false)) else (some false)) else (some false)) else (some false)) else (some false)) else (some false)) else (some false)) else (some false))))))) = some r := H
         have A44 := As.mk A440
         clear A440
         replace H := Option.bind_eq_some_iff.mp H
         obtain ⟨⟨t289, t292, t295⟩, A450, H⟩ := H
         replace H : ((match_Free.f k1 ((rd_T62 y273 x112_1).f0.f0) ((rd_T62 y273 x112_1).f0.f1) ((rd_T62 y273 x112_1).f0.f2)).bind fun bt296 => ((match_Hall.f k1 ((rd_T62 y273 x112_1).f0.f0) ((rd_T62 y273 x112_1).f0.f1) ((rd_T62 y273 x112_1).f0.f2)).bind fun bt303 => ((match_Colours.f ((rd_T62 y273 x112_1).f0.f0) ((rd_T62 y273 x112_1).f0.f1) ((rd_T62 y273 x112_1).f0.f2)).bind fun bt310 => ((match_Check.f ((rd_T62 y273 x112_1).f0.f0) ((rd_T62 y273 x112_1).f0.f1) ((rd_T62 y273 x112_1).f0.f2)).bind fun t314 => (if t314 = ((rd_T62 y273 x112_1).f1) then (if t279 = ((rd_T62 y273 x112_1).f1) then (if t283 = ((rd_T62 y273 x112_1).f1) then (if t288 = ((rd_T62 y273 x112_1).f1) then (if t295 = ((rd_T62 y273 x112_1).f1) then (if bt296.2.2 = ((rd_T62 y273 x112_1).f1) then (if bt303.2.2 = ((rd_T62 y273 x112_1).f1) then (if bt310.2 = ((rd_T62 y273 x112_1).f1) then (mE.l0 k1 y273 (y273.length : Int) (wrap64 (x112_1 + 1))) else (some false)) else (some false)) else (some false)) else (some false)) else (some false)) else (some false)) else (some false)) else (some false)))))) = some r := H
         have A45 := As.mk A450
         clear A450
         replace H := Option.bind_eq_some_iff.mp H
         obtain ⟨⟨t296, t299, t302⟩, A460, H⟩ := H
         replace H : ((match_Hall.f k1 ((rd_T62 y273 x112_1).f0.f0) ((rd_T62 y273 x112_1).f0.f1) ((rd_T62 y273 x112_1).f0.f2)).bind fun bt303 => ((match_Colours.f ((rd_T62 y273 x112_1).f0.f0) ((rd_T62 y273 x112_1).f0.f1) ((rd_T62 y273 x112_1).f0.f2)).bind fun bt310 => ((match_Check.f ((rd_T62 y273 x112_1).f0.f0) ((rd_T62 y273 x112_1).f0.f1) ((rd_T62 y273 x112_1).f0.f2)).bind fun t314 => (if t314 = ((rd_T62 y273 x112_1).f1) then (if t279 = ((rd_T62 y273 x112_1).f1) then (if t283 = ((rd_T62 y273 x112_1).f1) then (if t288 = ((rd_T62 y273 x112_1).f1) then (if t295 = ((rd_T62 y273 x112_1).f1) then (if t302 = ((rd_T62 y273 x112_1).f1) then (if bt303.2.2 = ((rd_T62 y273 x112_1).f1) then (if bt310.2 = ((rd_T62 y273 x112_1).f1) then (mE.l0 k1 y273 (y273.length : Int) (wrap64 (x112_1 + 1))) else (some false)) else (some false)) else (some false)) else (some false)) else (some false)) else (some false)) else (some false)) else (some false))))) = some r := H
         have A46 := As.mk A460
         clear A460
         replace H := Option.bind_eq_some_iff.mp H
         obtain ⟨⟨t303, t306, t309⟩, A470, H⟩ := H
         replace H : ((match_Colours.f ((rd_T62 y273 x112_1).f0.f0) ((rd_T62 y273 x112_1).f0.f1) ((rd_T62 y273 x112_1).f0.f2)).bind fun bt310 => ((match_Check.f ((rd_T62 y273 x112_1).f0.f0) ((rd_T62 y273 x112_1).f0.f1) ((rd_T62 y273 x112_1).f0.f2)).bind fun t314 => (if t314 = ((rd_T62 y273 x112_1).f1) then (if t279 = ((rd_T62 y273 x112_1).f1) then (if t283 = ((rd_T62 y273 x112_1).f1) then (if t288 = ((rd_T62 y273 x112_1).f1) then (if t295 = ((rd_T62 y273 x112_1).f1) then (if t302 = ((rd_T62 y273 x112_1).f1) then (if t309 = ((rd_T62 y273 x112_1).f1) then (if bt310.2 = ((rd_T62 y273 x112_1).f1) then (mE.l0 k1 y273 (y273.length : Int) (wrap64 (x112_1 + 1))) else (some false)) else (some false)) else (some false)) else (some false)) else (some false)) else (some false)) else (some false)) else (some false)))) = some r := H
         have A47 := As.mk A470
         clear A470
         replace H := Option.bind_eq_some_iff.mp H
         obtain ⟨⟨t310, t313⟩, A480, H⟩ := H
         replace H : ((match_Check.f ((rd_T62 y273 x112_1).f0.f0) ((rd_T62 y273 x112_1).f0.f1) ((rd_T62 y273 x112_1).f0.f2)).bind fun t314 => (if t314 = ((rd_T62 y273 x112_1).f1) then (if t279 = ((rd_T62 y273 x112_1).f1) then (if t283 = ((rd_T62 y273 x112_1).f1) then (if t288 = ((rd_T62 y273 x112_1).f1) then (if t295 = ((rd_T62 y273 x112_1).f1) then (if t302 = ((rd_T62 y273 x112_1).f1) then (if t309 = ((rd_T62 y273 x112_1).f1) then (if t313 = ((rd_T62 y273 x112_1).f1) then (mE.l0 k1 y273 (y273.length : Int) (wrap64 (x112_1 + 1))) else (some false)) else (some false)) else (some false)) else (some false)) else (some false)) else (some false)) else (some false)) else (some false))) = some r := H
         have A48 := As.mk A480
         clear A480
         replace H := Option.bind_eq_some_iff.mp H
         obtain ⟨t314, A490, H⟩ := H
         replace H : (if t314 = ((rd_T62 y273 x112_1).f1) then (if t279 = ((rd_T62 y273 x112_1).f1) then (if t283 = ((rd_T62 y273 x112_1).f1) then (if t288 = ((rd_T62 y273 x112_1).f1) then (if t295 = ((rd_T62 y273 x112_1).f1) then (if t302 = ((rd_T62 y273 x112_1).f1) then (if t309 = ((rd_T62 y273 x112_1).f1) then (if t313 = ((rd_T62 y273 x112_1).f1) then (mE.l0 k1 y273 (y273.length : Int) (wrap64 (x112_1 + 1))) else (some false)) else (some false)) else (some false)) else (some false)) else (some false)) else (some false)) else (some false)) else (some false)) = some r := H
         have A49 := As.mk A490
         clear A490
         by_cases c50 : t314 = ((rd_T62 y273 x112_1).f1)
         ·rw [if_pos c50] at H
          have c50b0 : (t314 == ((rd_T62 y273 x112_1).f1)) = true := beq_iff_eq.mpr c50
          have c50b1 : (t314 != ((rd_T62 y273 x112_1).f1)) = false := bne_eq_false_iff_eq.mpr c50
          clear c50
          by_cases c51 : t279 = ((rd_T62 y273 x112_1).f1)
          ·rw [if_pos c51] at H
           have c51b0 : (t279 == ((rd_T62 y273 x112_1).f1)) = true := beq_iff_eq.mpr c51
           have c51b1 : (t279 != ((rd_T62 y273 x112_1).f1)) = false := bne_eq_false_iff_eq.mpr c51
           clear c51
           by_cases c52 : t283 = ((rd_T62 y273 x112_1).f1)
           ·rw [if_pos c52] at H
            have c52b0 : (t283 == ((rd_T62 y273 x112_1).f1)) = true := beq_iff_eq.mpr c52
            have c52b1 : (t283 != ((rd_T62 y273 x112_1).f1)) = false := bne_eq_false_iff_eq.mpr c52
            clear c52
            by_cases c53 : t288 = ((rd_T62 y273 x112_1).f1)
            ·rw [if_pos c53] at H
             have c53b0 : (t288 == ((rd_T62 y273 x112_1).f1)) = true := beq_iff_eq.mpr c53
             have c53b1 : (t288 != ((rd_T62 y273 x112_1).f1)) = false := bne_eq_false_iff_eq.mpr c53
             clear c53
             by_cases c54 : t295 = ((rd_T62 y273 x112_1).f1)
             ·rw [if_pos c54] at H
              have c54b0 : (t295 == ((rd_T62 y273 x112_1).f1)) = true := beq_iff_eq.mpr c54
              have c54b1 : (t295 != ((rd_T62 y273 x112_1).f1)) = false := bne_eq_false_iff_eq.mpr c54
              clear c54
              by_cases c55 : t302 = ((rd_T62 y273 x112_1).f1)
              ·rw [if_pos c55] at H
               have c55b0 : (t302 == ((rd_T62 y273 x112_1).f1)) = true := beq_iff_eq.mpr c55
               have c55b1 : (t302 != ((rd_T62 y273 x112_1).f1)) = false := bne_eq_false_iff_eq.mpr c55
               clear c55
               by_cases c56 : t309 = ((rd_T62 y273 x112_1).f1)
               ·rw [if_pos c56] at H
                have c56b0 : (t309 == ((rd_T62 y273 x112_1).f1)) = true := beq_iff_eq.mpr c56
                have c56b1 : (t309 != ((rd_T62 y273 x112_1).f1)) = false := bne_eq_false_iff_eq.mpr c56
                clear c56
                by_cases c57 : t313 = ((rd_T62 y273 x112_1).f1)
                ·rw [if_pos c57] at H
                 have c57b0 : (t313 == ((rd_T62 y273 x112_1).f1)) = true := beq_iff_eq.mpr c57
                 have c57b1 : (t313 != ((rd_T62 y273 x112_1).f1)) = false := bne_eq_false_iff_eq.mpr c57
                 clear c57
                 have H' := As.mk H
                 clear H
                 have p276 : 0 ≤ (x112_1 : Int) := of_decide_eq_true (by first | (with_reducible assumption) | assumption)
                 have q276 : x112_1 < (y273.length : Int) := of_decide_eq_true (by first | (with_reducible assumption) | assumption)
                 obtain ⟨ad276, A276_2, c276_2, e276, hx276_0, hx276_1, hx276_2, hx276_3, hl276_2, hi276_2⟩ := at_T62 (Kd.N_reads' HO_110.out).2.2 x112_1 p276 q276
                 cases e276
                 obtain ⟨ce276, hce276, hMe276, hcc276⟩ := Kd.N_get HO_110.out z62 x112_1 p276 (by first | exact q276 | exact of_decide_eq_true (by first | (with_reducible assumption) | assumption) | (have e_ := (Kd.N_reads' HO_110.out).1; omega))
                 obtain ⟨ua276_2, uc276_2, rfl, ul276_2, ge276_2⟩ := k62_openF hMe276
                 have hv276_2 := hcc276 2 _ rfl
                 rw [add_field _ _ 2 (by omega)] at hv276_2
                 replace hv276_2 := Option.some.inj (hv276_2.symm.trans hx276_2)
                 injection hv276_2 with hva_ hvn_ hvc_
                 rw [hva_] at ge276_2
                 rw [hvc_] at ul276_2
                 have HL276_2 := As.mk (show Kd.V k40 40 _ w.heap.size _ _ ((rd_T62 y273 x112_1).f0.f2) from Kd.V_mk ul276_2 ge276_2)
                 clear hva_ hvn_ hvc_ ge276_2 ul276_2
                 clear hcc276 hce276
                 have HR276_2 := As.mk hi276_2
                 have HC276_2 := As.mk hl276_2
                 clear hi276_2 hl276_2
                 replace p276 := eq_true p276
                 replace q276 := eq_true q276
                 try go_wp2_with (first | ((with_reducible refine gate_dst (N := 2) rfl ?_); (try (refine gate_guard (by rfl) ?_; dsimp only)); refine box_event ?hg (N := 2) ?hd (cs := #[.int .i64 0, .int .i64 0, .slice none 0 0, .int .i64 0]) (t := 62) ?hr ?_; (case hd => rfl); (case hg => rfl); (case hr => first | (go_simp; done) | (go_simp; rfl)); intro gb277 hg w58 hbox hb; have n0_ := As.mk (Kd.N_below (Kd.N_elderB (nup HO_110.out) gb277 (Nat.le_of_eq hg.symm)) hb); have n1_ := As.mk (Kd.V_below (Kd.V_elderB (vup HL276_2.out) gb277 (Nat.le_of_eq hg.symm)) hb); have n2_ := As.mk (Kd.C_below (by repeat (first | (with_reducible exact HR276_2.out) | (with_reducible refine Kd.C_alloc ?_ _) | (with_reducible refine Kd.C_drewN ?_ _) | (with_reducible refine Kd.C_drew ?_) | exact HR276_2.out)) hb); have n3_ := As.mk (below_step (hup0 HB.out) hb); have n4_ := As.mk (hbox); have n5_ := As.mk ((by rw [hg]; exact (below_size (hup0 HB.out)) : w.heap.size ≤ gb277)); have n6_ := As.mk ((by rw [hg]; exact (below_size (hup0 HB.out)) : w.heap.size ≤ gb277)); clear HO_110; clear HL276_2; clear HR276_2; clear HB; have HO_110 := n0_; have HL276_2 := n1_; have HR276_2 := n2_; have HB := n3_; have BK277 := n4_; have GW277 := n5_; have GE277 := n6_; clear n0_ n1_ n2_ n3_ n4_ n5_ n6_; clear hb hbox hg; have hcz59_0 : w58.cell? ⟨gb277, 0, none⟩ = some (.int .i64 0) := (blk_cell BK277.out 0).trans rfl; have hcz59_1 : w58.cell? ⟨gb277, 1, none⟩ = some (.int .i64 0) := (blk_cell BK277.out 1).trans rfl; have hcz59_2 : w58.cell? ⟨gb277, 2, none⟩ = some (.slice none 0 0) := (blk_cell BK277.out 2).trans rfl; have hcz59_3 : w58.cell? ⟨gb277, 3, none⟩ = some (.int .i64 0) := (blk_cell BK277.out 3).trans rfl; have hfz59_0 := blk_frozen BK277.out 0; have hfz59_1 := blk_frozen BK277.out 1; have hfz59_2 := blk_frozen BK277.out 2; have hfz59_3 := blk_frozen BK277.out 3) | ((with_reducible refine gate_callee (f := 21) rfl ?_); refine goesL_ (some 119) rfl rfl Try.func21 (by kernel_rfl) rfl #[.agg #[.int .i64 ((rd_T62 y273 x112_1).f0.f0), .int .i64 ((rd_T62 y273 x112_1).f0.f1), .slice A276_2 ((rd_T62 y273 x112_1).f0.f2).length c276_2]] rfl (by (try simp only [List.map_toArray, List.map_cons, List.map_nil]); first | done | rfl | (simp only [List.length_drop, List.length_take]; rfl)) ?_; (with_reducible refine (match_Size.calls k1 ((rd_T62 y273 x112_1).f0.f0) ((rd_T62 y273 x112_1).f0.f1) _ _ ((rd_T62 y273 x112_1).f0.f2) t278 t279 _ ?side1 ?side2 A41.out).mono ?_); (case side1 => repeat (first | exact ((Kd.V_reads' (by (with_reducible repeat (first | apply Kd.V_alloc | apply Kd.V_drewN | apply Kd.V_drew)); exact (Kd.V_mono (Kd.V_far (p := ⟨gb277, 3, none⟩) (Kd.V_far (p := ⟨gb277, 2, none⟩) (Kd.V_far (p := ⟨gb277, 1, none⟩) (Kd.V_far (p := ⟨gb277, 0, none⟩) (Kd.V_mono HL276_2.out (fun k_ hk => (⟨hk, hk.2⟩ : _ ∧ k_ ≠ gb277))) (fun _ hk => hk.2) (.int .i64 ((rd_T62 y273 x112_1).f0.f0))) (fun _ hk => hk.2) (.int .i64 ((rd_T62 y273 x112_1).f0.f1))) (fun _ hk => hk.2) (.slice A276_2 ((rd_T62 y273 x112_1).f0.f2).length c276_2)) (fun _ hk => hk.2) (.int .i64 ((rd_T62 y273 x112_1).f1))) (fun _ h_ => h_.1)))).2.2) | (with_reducible refine Kd.C_alloc ?_ _) | (with_reducible refine Kd.C_drewN ?_ _) | (with_reducible refine Kd.C_drew ?_))); (case side2 => exact HC276_2.out); rintro e w60 ⟨rfl, hb⟩; refine ⟨_, rfl, ?_⟩; have n0_ := As.mk (Kd.N_below (by (with_reducible repeat (first | apply Kd.N_alloc | apply Kd.N_drewN | apply Kd.N_drew)); exact (Kd.N_mono (Kd.N_far (p := ⟨gb277, 3, none⟩) (Kd.N_far (p := ⟨gb277, 2, none⟩) (Kd.N_far (p := ⟨gb277, 1, none⟩) (Kd.N_far (p := ⟨gb277, 0, none⟩) (Kd.N_mono HO_110.out (fun k_ hk => (⟨hk, hk.2⟩ : _ ∧ k_ ≠ gb277))) (fun _ hk => hk.2) (.int .i64 ((rd_T62 y273 x112_1).f0.f0))) (fun _ hk => hk.2) (.int .i64 ((rd_T62 y273 x112_1).f0.f1))) (fun _ hk => hk.2) (.slice A276_2 ((rd_T62 y273 x112_1).f0.f2).length c276_2)) (fun _ hk => hk.2) (.int .i64 ((rd_T62 y273 x112_1).f1))) (fun _ h_ => h_.1))) hb); have n1_ := As.mk (Kd.V_below (by (with_reducible repeat (first | apply Kd.V_alloc | apply Kd.V_drewN | apply Kd.V_drew)); exact (Kd.V_mono (Kd.V_far (p := ⟨gb277, 3, none⟩) (Kd.V_far (p := ⟨gb277, 2, none⟩) (Kd.V_far (p := ⟨gb277, 1, none⟩) (Kd.V_far (p := ⟨gb277, 0, none⟩) (Kd.V_mono HL276_2.out (fun k_ hk => (⟨hk, hk.2⟩ : _ ∧ k_ ≠ gb277))) (fun _ hk => hk.2) (.int .i64 ((rd_T62 y273 x112_1).f0.f0))) (fun _ hk => hk.2) (.int .i64 ((rd_T62 y273 x112_1).f0.f1))) (fun _ hk => hk.2) (.slice A276_2 ((rd_T62 y273 x112_1).f0.f2).length c276_2)) (fun _ hk => hk.2) (.int .i64 ((rd_T62 y273 x112_1).f1))) (fun _ h_ => h_.1))) hb); have n2_ := As.mk (Kd.C_below ((Kd.V_reads' (by (with_reducible repeat (first | apply Kd.V_alloc | apply Kd.V_drewN | apply Kd.V_drew)); exact (Kd.V_mono (Kd.V_far (p := ⟨gb277, 3, none⟩) (Kd.V_far (p := ⟨gb277, 2, none⟩) (Kd.V_far (p := ⟨gb277, 1, none⟩) (Kd.V_far (p := ⟨gb277, 0, none⟩) (Kd.V_mono HL276_2.out (fun k_ hk => (⟨hk, hk.2⟩ : _ ∧ k_ ≠ gb277))) (fun _ hk => hk.2) (.int .i64 ((rd_T62 y273 x112_1).f0.f0))) (fun _ hk => hk.2) (.int .i64 ((rd_T62 y273 x112_1).f0.f1))) (fun _ hk => hk.2) (.slice A276_2 ((rd_T62 y273 x112_1).f0.f2).length c276_2)) (fun _ hk => hk.2) (.int .i64 ((rd_T62 y273 x112_1).f1))) (fun _ h_ => h_.1)))).2.2) hb); have n3_ := As.mk (blk_below (g := gb277) (o := .cells #[.int .i64 ((rd_T62 y273 x112_1).f0.f0), .int .i64 ((rd_T62 y273 x112_1).f0.f1), .slice A276_2 ((rd_T62 y273 x112_1).f0.f2).length c276_2, .int .i64 ((rd_T62 y273 x112_1).f1)] 62 (0, 0)) (by (with_reducible repeat (first | refine blk_drewN ?_ _ | refine blk_drew ?_ | refine blk_alloc ?_ _)); refine blk_put (cs := #[.int .i64 ((rd_T62 y273 x112_1).f0.f0), .int .i64 ((rd_T62 y273 x112_1).f0.f1), .slice A276_2 ((rd_T62 y273 x112_1).f0.f2).length c276_2, .int .i64 0]) ?_ 3 _ rfl; (with_reducible repeat (first | refine blk_drewN ?_ _ | refine blk_drew ?_ | refine blk_alloc ?_ _)); refine blk_put (cs := #[.int .i64 ((rd_T62 y273 x112_1).f0.f0), .int .i64 ((rd_T62 y273 x112_1).f0.f1), .slice none 0 0, .int .i64 0]) ?_ 2 _ rfl; (with_reducible repeat (first | refine blk_drewN ?_ _ | refine blk_drew ?_ | refine blk_alloc ?_ _)); refine blk_put (cs := #[.int .i64 ((rd_T62 y273 x112_1).f0.f0), .int .i64 0, .slice none 0 0, .int .i64 0]) ?_ 1 _ rfl; (with_reducible repeat (first | refine blk_drewN ?_ _ | refine blk_drew ?_ | refine blk_alloc ?_ _)); refine blk_put (cs := #[.int .i64 0, .int .i64 0, .slice none 0 0, .int .i64 0]) ?_ 0 _ rfl; (with_reducible repeat (first | refine blk_drewN ?_ _ | refine blk_drew ?_ | refine blk_alloc ?_ _)); exact BK277.out) hb); have n4_ := As.mk (below_step (by repeat (first | (with_reducible first | exact HB.out | apply below_alloc | apply pw_below_drewN | apply below_drew1 | refine below_set ?_ GE277.out) | exact HB.out)) hb); clear HO_110; clear HL276_2; clear HR276_2; clear BK277; clear HB; have HO_110 := n0_; have HL276_2 := n1_; have HR276_2 := n2_; have BK277 := n3_; have HB := n4_; clear n0_ n1_ n2_ n3_ n4_; (try clear hb); (try clear hb2); (try clear hk); (try clear hi); have hcz61_0 : w60.cell? ⟨gb277, 0, none⟩ = some (.int .i64 ((rd_T62 y273 x112_1).f0.f0)) := (blk_cell BK277.out 0).trans rfl; have hcz61_1 : w60.cell? ⟨gb277, 1, none⟩ = some (.int .i64 ((rd_T62 y273 x112_1).f0.f1)) := (blk_cell BK277.out 1).trans rfl; have hcz61_2 : w60.cell? ⟨gb277, 2, none⟩ = some (.slice A276_2 ((rd_T62 y273 x112_1).f0.f2).length c276_2) := (blk_cell BK277.out 2).trans rfl; have hcz61_3 : w60.cell? ⟨gb277, 3, none⟩ = some (.int .i64 ((rd_T62 y273 x112_1).f1)) := (blk_cell BK277.out 3).trans rfl; have hfz61_0 := blk_frozen BK277.out 0; have hfz61_1 := blk_frozen BK277.out 1; have hfz61_2 := blk_frozen BK277.out 2; have hfz61_3 := blk_frozen BK277.out 3) | ((with_reducible refine gate_callee (f := 35) rfl ?_); refine goesL_ (some 125) rfl rfl Try.func35 (by kernel_rfl) rfl #[.agg #[.int .i64 ((rd_T62 y273 x112_1).f0.f0), .int .i64 ((rd_T62 y273 x112_1).f0.f1), .slice A276_2 ((rd_T62 y273 x112_1).f0.f2).length c276_2]] rfl (by (try simp only [List.map_toArray, List.map_cons, List.map_nil]); first | done | rfl | (simp only [List.length_drop, List.length_take]; rfl)) ?_; (with_reducible refine (match_Maximum.calls k1 ((rd_T62 y273 x112_1).f0.f0) ((rd_T62 y273 x112_1).f0.f1) _ _ ((rd_T62 y273 x112_1).f0.f2) t280 t283 _ ?side1 ?side2 A42.out).mono ?_); (case side1 => repeat (first | exact (by repeat (first | (with_reducible exact HR276_2.out) | (with_reducible refine Kd.C_alloc ?_ _) | (with_reducible refine Kd.C_drewN ?_ _) | (with_reducible refine Kd.C_drew ?_) | exact HR276_2.out)) | (with_reducible refine Kd.C_alloc ?_ _) | (with_reducible refine Kd.C_drewN ?_ _) | (with_reducible refine Kd.C_drew ?_))); (case side2 => exact HC276_2.out); rintro e w62 ⟨v281, rfl, ho0, hb⟩; refine ⟨_, rfl, ?_⟩; have n0_ := As.mk (Kd.N_elder' (nup HO_110.out) (Kd.R_base ho0) hb); have n1_ := As.mk (Kd.V_elder' (vup HL276_2.out) (Kd.R_base ho0) hb); have n2_ := As.mk (Kd.R_lower ho0 (below_size (by repeat (first | (with_reducible first | exact HB.out | apply below_alloc | apply pw_below_drewN | apply below_drew1 | refine below_set ?_ GE277.out) | exact HB.out)))); have n3_ := As.mk (Kd.C_below (by repeat (first | (with_reducible exact HR276_2.out) | (with_reducible refine Kd.C_alloc ?_ _) | (with_reducible refine Kd.C_drewN ?_ _) | (with_reducible refine Kd.C_drew ?_) | exact HR276_2.out)) hb); have n4_ := As.mk (blk_below (g := gb277) (o := .cells #[.int .i64 ((rd_T62 y273 x112_1).f0.f0), .int .i64 ((rd_T62 y273 x112_1).f0.f1), .slice A276_2 ((rd_T62 y273 x112_1).f0.f2).length c276_2, .int .i64 ((rd_T62 y273 x112_1).f1)] 62 (0, 0)) (bup BK277.out) hb); have n5_ := As.mk (below_step (by repeat (first | (with_reducible first | exact HB.out | apply below_alloc | apply pw_below_drewN | apply below_drew1 | refine below_set ?_ GE277.out) | exact HB.out)) hb); clear HO_110; clear HL276_2; clear HR276_2; clear BK277; clear HB; have HO_110 := n0_; have HL276_2 := n1_; have HO282 := n2_; have HR276_2 := n3_; have BK277 := n4_; have HB := n5_; clear n0_ n1_ n2_ n3_ n4_ n5_; (try clear hb); (try clear hb2); (try clear hk); (try clear hi); (try clear ho0)))
                 have n0_ := As.mk (Kd.N_drew HO_110.out)
                 have n1_ := As.mk (Kd.V_drew HL276_2.out)
                 have n2_ := As.mk (Kd.R_drew HO282.out)
                 have n3_ := As.mk (blk_drew BK277.out)
                 have n4_ := As.mk (Kd.C_drew HR276_2.out)
                 have n5_ := As.mk (below_drew1 HB.out)
                 clear HO_110
                 clear HL276_2
                 clear HO282
                 clear BK277
                 clear HR276_2
                 clear HB
                 have HO_110 := n0_
                 have HL276_2 := n1_
                 have HO282 := n2_
                 have BK277 := n3_
                 have HR276_2 := n4_
                 have HB := n5_
                 clear n0_ n1_ n2_ n3_ n4_ n5_
                 refine start_ (n := 9) (S := fun w' => w'.cell? ⟨gb277, 0, none⟩ = some (.int .i64 ((rd_T62 y273 x112_1).f0.f0)) ∧ w'.cell? ⟨gb277, 1, none⟩ = some (.int .i64 ((rd_T62 y273 x112_1).f0.f1)) ∧ w'.cell? ⟨gb277, 2, none⟩ = some (.slice A276_2 ((rd_T62 y273 x112_1).f0.f2).length c276_2) ∧ w'.cell? ⟨gb277, 3, none⟩ = some (.int .i64 ((rd_T62 y273 x112_1).f1))) (ds := []) #[false, false, false, false, false, false, false, false, false] (by kernel_rfl) rfl rfl ⟨(blk_cell BK277.out 0).trans rfl, (blk_cell BK277.out 1).trans rfl, (blk_cell BK277.out 2).trans rfl, (blk_cell BK277.out 3).trans rfl⟩ (fun hHeld => ?_); refine with_tabW mE.tab8 mE.bits8 (fun HT_ HW_ => ?_)
                 generalize w62.drew = w63 at HO_110 HL276_2 HO282 BK277 HR276_2 HB hHeld ⊢
                 refine pure_ (i := 0) (N := some 129) (v := ?_) (a' := ?_) #[true, false, false, false, false, false, false, false, false] rfl rfl (any_of HT_.out (by kernel_rfl)) (fun _ _ _ h => h) (Or.inl ⟨by rfl, ?_⟩) ?_ ?_
                 rotate_left
                 ·intro w'
                  go_simp
                  with_reducible rfl
                 rotate_left
                 ·simp only [Act.put, List.setIfInBounds_toArray, List.set_cons_zero, List.set_cons_succ, i64_w, i32_w]
                  rfl
                 refine take_ (i := 1) (N := some 130) (v := ?_) (a' := ?_) #[true, true, false, false, false, false, false, false, false] rfl rfl (take_ofW HT_.out HW_.out (by kernel_rfl)) (fun _ _ _ h => h) (Or.inl ⟨by rfl, ?_⟩) hHeld ?_ ?_
                 rotate_left
                 ·rintro w' ⟨s0, s1, s2, s3⟩
                  go_simp
                  with_reducible rfl
                 rotate_left
                 ·simp only [Act.put, List.setIfInBounds_toArray, List.set_cons_zero, List.set_cons_succ, i64_w, i32_w]
                  rfl
                 refine one_ (i := 2) (N := some 131) #[true, true, true, false, false, false, false, false, false] rfl rfl (one_of HT_.out (by kernel_rfl)) (by decide) (fun K hK => ?_)
                 refine Kd.R_make_step (Kd.int .i64) _ 3 (by rfl) (N := 131) rfl 29 _ _ rfl 7 rfl rfl Try.underlying29 (.int .i64 0) 8 info3 rfl (by decide) (by omega) 0 (ok := fun _ => True) (okp := fun _ => True) rfl (fun _ hk => hk) trivial (by omega) (by omega) (Below.refl _ _) (Nat.le_refl _) ?_
                 intro v285 w64 ho65 hb hg_ hnew_
                 clear hg_ hnew_
                 (first | rw [← Ny284.out] at ho65 | (simp only [Int.reduceToNat] at ho65; rw [← Ny284.out] at ho65))
                 have n0_ := As.mk (Kd.N_elder' (nup HO_110.out) (Kd.R_base ho65) hb)
                 have n1_ := As.mk (Kd.V_elder' (vup HL276_2.out) (Kd.R_base ho65) hb)
                 have n2_ := As.mk (Kd.R_elder' (rup HO282.out) (Kd.R_base ho65) hb)
                 have n3_ := As.mk (Kd.R_lower (Kd.R_new' ho65 (Kd.R_lt (rup HO282.out))) (below_size (by repeat (first | (with_reducible first | exact HB.out | apply below_alloc | apply pw_below_drewN | apply below_drew1 | refine below_set ?_ GE277.out) | exact HB.out))))
                 have n4_ := As.mk (Kd.C_below (by repeat (first | (with_reducible exact HR276_2.out) | (with_reducible refine Kd.C_alloc ?_ _) | (with_reducible refine Kd.C_drewN ?_ _) | (with_reducible refine Kd.C_drew ?_) | exact HR276_2.out)) hb)
                 have n5_ := As.mk (blk_below (g := gb277) (o := .cells #[.int .i64 ((rd_T62 y273 x112_1).f0.f0), .int .i64 ((rd_T62 y273 x112_1).f0.f1), .slice A276_2 ((rd_T62 y273 x112_1).f0.f2).length c276_2, .int .i64 ((rd_T62 y273 x112_1).f1)] 62 (0, 0)) (bup BK277.out) hb)
                 have n6_ := As.mk (below_step (by repeat (first | (with_reducible first | exact HB.out | apply below_alloc | apply pw_below_drewN | apply below_drew1 | refine below_set ?_ GE277.out) | exact HB.out)) hb)
                 clear HO_110
                 clear HL276_2
                 clear HO282
                 clear HR276_2
                 clear BK277
                 clear HB
                 have HO_110 := n0_
                 have HL276_2 := n1_
                 have HO282 := n2_
                 have HO286 := n3_
                 have HR276_2 := n4_
                 have BK277 := n5_
                 have HB := n6_
                 clear n0_ n1_ n2_ n3_ n4_ n5_ n6_
                 clear hb ho65
                 obtain ⟨Ao66, co66, eo66⟩ := Kd.R_slice HO286.out
                 (first | subst eo66 | (injection eo66 with f1_ f2_ f3_; have f4_ := f1_.symm; have f5_ := f3_.symm; clear f1_ f2_ f3_; subst f4_; subst f5_))
                 refine hK.out _ _ ⟨(blk_cell BK277.out 0).trans rfl, (blk_cell BK277.out 1).trans rfl, (blk_cell BK277.out 2).trans rfl, (blk_cell BK277.out 3).trans rfl⟩ (fun hHeld => ?_)
                 clear hK K
                 refine norm_ (a' := ?_) ?_ ?_
                 rotate_left
                 ·show Act.put _ (some 131) _ = _
                  simp only [Act.put, List.setIfInBounds_toArray, List.set_cons_zero, List.set_cons_succ, i64_w, i32_w]
                  rfl
                 refine one_ (i := 3) (N := some 132) #[true, true, true, true, false, false, false, false, false] rfl rfl (one_of HT_.out (by kernel_rfl)) (by decide) (fun K hK => ?_)
                 refine goes_ Try.func33 (by kernel_rfl) rfl #[.agg #[.int .i64 ((rd_T62 y273 x112_1).f0.f0), .int .i64 ((rd_T62 y273 x112_1).f0.f1), .slice A276_2 ((rd_T62 y273 x112_1).f0.f2).length c276_2], .slice Ao66 y284.length co66] (by rfl) rfl rfl (by (try simp only [List.map_toArray, List.map_cons, List.map_nil]); first | done | rfl | (simp only [List.length_drop, List.length_take]; rfl)) ?_
                 with_reducible refine (match_Verify.calls ((rd_T62 y273 x112_1).f0.f0) ((rd_T62 y273 x112_1).f0.f1) _ _ ((rd_T62 y273 x112_1).f0.f2) _ _ y284 t287 t288 _ ?side1 ?side2 ?side3 ?side4 A44.out).mono ?_
                 (case side1 => repeat (first | exact (by repeat (first | (with_reducible exact HR276_2.out) | (with_reducible refine Kd.C_alloc ?_ _) | (with_reducible refine Kd.C_drewN ?_ _) | (with_reducible refine Kd.C_drew ?_) | exact HR276_2.out)) | (with_reducible refine Kd.C_alloc ?_ _) | (with_reducible refine Kd.C_drewN ?_ _) | (with_reducible refine Kd.C_drew ?_)))
                 (case side2 => exact HC276_2.out)
                 (case side3 => repeat (first | exact (Kd.R_reads' HO286.out).2.2 | (with_reducible refine Kd.C_alloc ?_ _) | (with_reducible refine Kd.C_drewN ?_ _) | (with_reducible refine Kd.C_drew ?_)))
                 (case side4 => exact (Kd.R_reads' HO286.out).2.1)
                 rintro e w67 ⟨rfl, hb⟩
                 refine ⟨_, rfl, ?_⟩
                 have n0_ := As.mk (Kd.N_below (nup HO_110.out) hb)
                 have n1_ := As.mk (Kd.V_below (vup HL276_2.out) hb)
                 have n2_ := As.mk (Kd.R_below (rup HO282.out) hb)
                 have n3_ := As.mk (Kd.R_below (rup HO286.out) hb)
                 have n4_ := As.mk (Kd.C_below (by repeat (first | (with_reducible exact HR276_2.out) | (with_reducible refine Kd.C_alloc ?_ _) | (with_reducible refine Kd.C_drewN ?_ _) | (with_reducible refine Kd.C_drew ?_) | exact HR276_2.out)) hb)
                 have n5_ := As.mk (blk_below (g := gb277) (o := .cells #[.int .i64 ((rd_T62 y273 x112_1).f0.f0), .int .i64 ((rd_T62 y273 x112_1).f0.f1), .slice A276_2 ((rd_T62 y273 x112_1).f0.f2).length c276_2, .int .i64 ((rd_T62 y273 x112_1).f1)] 62 (0, 0)) (bup BK277.out) hb)
                 have n6_ := As.mk (below_step (by repeat (first | (with_reducible first | exact HB.out | apply below_alloc | apply pw_below_drewN | apply below_drew1 | refine below_set ?_ GE277.out) | exact HB.out)) hb)
                 clear HO_110
                 clear HL276_2
                 clear HO282
                 clear HO286
                 clear HR276_2
                 clear BK277
                 clear HB
                 have HO_110 := n0_
                 have HL276_2 := n1_
                 have HO282 := n2_
                 have HO286 := n3_
                 have HR276_2 := n4_
                 have BK277 := n5_
                 have HB := n6_
                 clear n0_ n1_ n2_ n3_ n4_ n5_ n6_
                 (try clear hb)
                 (try clear hb2)
                 (try clear hk)
                 (try clear hi)
                 refine hK.out _ _ ⟨(blk_cell BK277.out 0).trans rfl, (blk_cell BK277.out 1).trans rfl, (blk_cell BK277.out 2).trans rfl, (blk_cell BK277.out 3).trans rfl⟩ (fun hHeld => ?_)
                 clear hK K
                 refine norm_ (a' := ?_) ?_ ?_
                 rotate_left
                 ·show Act.put _ (some 132) _ = _
                  simp only [Act.put, List.setIfInBounds_toArray, List.set_cons_zero, List.set_cons_succ, i64_w, i32_w]
                  rfl
                 refine pure_ (i := 4) (N := some 128) (v := ?_) (a' := ?_) #[true, true, true, true, true, false, false, false, false] rfl rfl (any_of HT_.out (by kernel_rfl)) (fun _ _ _ h => h) (Or.inl ⟨by rfl, ?_⟩) ?_ ?_
                 rotate_left
                 ·intro w'
                  go_simp
                  with_reducible rfl
                 rotate_left
                 ·simp only [Act.put, List.setIfInBounds_toArray, List.set_cons_zero, List.set_cons_succ, i64_w, i32_w]
                  rfl
                 refine pure_ (i := 5) (N := some 133) (v := ?_) (a' := ?_) #[true, true, true, true, true, true, false, false, false] rfl rfl (any_of HT_.out (by kernel_rfl)) (fun _ _ _ h => h) (Or.inl ⟨by rfl, ?_⟩) ?_ ?_
                 rotate_left
                 ·intro w'
                  go_simp
                  with_reducible rfl
                 rotate_left
                 ·simp only [Act.put, List.setIfInBounds_toArray, List.set_cons_zero, List.set_cons_succ, i64_w, i32_w]
                  rfl
                 refine pure_ (i := 6) (N := some 134) (v := ?_) (a' := ?_) #[true, true, true, true, true, true, true, false, false] rfl rfl (any_of HT_.out (by kernel_rfl)) (fun _ _ _ h => h) (Or.inl ⟨by rfl, ?_⟩) ?_ ?_
                 rotate_left
                 ·intro w'
                  go_simp
                  with_reducible rfl
                 rotate_left
                 ·simp only [Act.put, List.setIfInBounds_toArray, List.set_cons_zero, List.set_cons_succ, i64_w, i32_w]
                  rfl
                 refine pure_ (i := 7) (N := some 7) (v := ?_) (a' := ?_) #[true, true, true, true, true, true, true, true, false] rfl rfl (any_of HT_.out (by kernel_rfl)) (fun _ _ _ h => h) (Or.inl ⟨by rfl, ?_⟩) ?_ ?_
                 rotate_left
                 ·intro w'
                  go_simp
                  with_reducible rfl
                 rotate_left
                 ·simp only [Act.put, List.setIfInBounds_toArray, List.set_cons_zero, List.set_cons_succ, i64_w, i32_w]
                  rfl
                 refine pure_ (i := 8) (N := some 8) (v := ?_) (a' := ?_) #[true, true, true, true, true, true, true, true, true] rfl rfl (any_of HT_.out (by kernel_rfl)) (fun _ _ _ h => h) (Or.inl ⟨by rfl, ?_⟩) ?_ ?_
                 rotate_left
                 ·intro w'
                  go_simp
                  with_reducible rfl
                 rotate_left
                 ·simp only [Act.put, List.setIfInBounds_toArray, List.set_cons_zero, List.set_cons_succ, i64_w, i32_w]
                  rfl
                 refine done_ (done_of HT_.out (by kernel_rfl)) ?_
                 have hcz68_0 : w67.cell? ⟨gb277, 0, none⟩ = some (.int .i64 ((rd_T62 y273 x112_1).f0.f0)) := (blk_cell BK277.out 0).trans rfl
                 have hcz68_1 : w67.cell? ⟨gb277, 1, none⟩ = some (.int .i64 ((rd_T62 y273 x112_1).f0.f1)) := (blk_cell BK277.out 1).trans rfl
                 have hcz68_2 : w67.cell? ⟨gb277, 2, none⟩ = some (.slice A276_2 ((rd_T62 y273 x112_1).f0.f2).length c276_2) := (blk_cell BK277.out 2).trans rfl
                 have hcz68_3 : w67.cell? ⟨gb277, 3, none⟩ = some (.int .i64 ((rd_T62 y273 x112_1).f1)) := (blk_cell BK277.out 3).trans rfl
                 have hfz68_0 := blk_frozen BK277.out 0
                 have hfz68_1 := blk_frozen BK277.out 1
                 have hfz68_2 := blk_frozen BK277.out 2
                 have hfz68_3 := blk_frozen BK277.out 3
                 try go_wp2_with (first | ((with_reducible refine gate_callee (f := 27) rfl ?_); refine goesL_ (some 138) rfl rfl Try.func27 (by kernel_rfl) rfl #[.agg #[.int .i64 ((rd_T62 y273 x112_1).f0.f0), .int .i64 ((rd_T62 y273 x112_1).f0.f1), .slice A276_2 ((rd_T62 y273 x112_1).f0.f2).length c276_2]] rfl (by (try simp only [List.map_toArray, List.map_cons, List.map_nil]); first | done | rfl | (simp only [List.length_drop, List.length_take]; rfl)) ?_; (with_reducible refine (match_Cover.calls k1 ((rd_T62 y273 x112_1).f0.f0) ((rd_T62 y273 x112_1).f0.f1) _ _ ((rd_T62 y273 x112_1).f0.f2) t289 t292 t295 _ ?side1 ?side2 A45.out).mono ?_); (case side1 => repeat (first | exact (by repeat (first | (with_reducible exact HR276_2.out) | (with_reducible refine Kd.C_alloc ?_ _) | (with_reducible refine Kd.C_drewN ?_ _) | (with_reducible refine Kd.C_drew ?_) | exact HR276_2.out)) | (with_reducible refine Kd.C_alloc ?_ _) | (with_reducible refine Kd.C_drewN ?_ _) | (with_reducible refine Kd.C_drew ?_))); (case side2 => exact HC276_2.out); rintro e w69 ⟨v290, v293, rfl, ho0, ho1, hb⟩; refine ⟨_, rfl, ?_⟩; have n0_ := As.mk (Kd.N_mono (Kd.N_told (Kd.N_told (Kd.N_old (nup HO_110.out) hb) (Kd.R_base ho0)) (Kd.R_base ho1)) (fun _ h_ => h_.1)); have n1_ := As.mk (Kd.V_mono (Kd.V_told (Kd.V_told (Kd.V_old (vup HL276_2.out) hb) (Kd.R_base ho0)) (Kd.R_base ho1)) (fun _ h_ => h_.1)); have n2_ := As.mk (Kd.R_mono (Kd.R_told (Kd.R_told (Kd.R_old (rup HO282.out) hb) (Kd.R_base ho0)) (Kd.R_base ho1)) (fun _ h_ => h_.1)); have n3_ := As.mk (Kd.R_mono (Kd.R_told (Kd.R_told (Kd.R_old (rup HO286.out) hb) (Kd.R_base ho0)) (Kd.R_base ho1)) (fun _ h_ => h_.1)); have n4_ := As.mk (Kd.R_lower (Kd.R_new' (Kd.R_new' ho0 (Kd.R_lt (rup HO282.out))) (Kd.R_lt (rup HO286.out))) (below_size (by repeat (first | (with_reducible first | exact HB.out | apply below_alloc | apply pw_below_drewN | apply below_drew1 | refine below_set ?_ GE277.out) | exact HB.out)))); have n5_ := As.mk (Kd.R_lower (Kd.R_new' (Kd.R_new' ho1 (Kd.R_lt (rup HO282.out))) (Kd.R_lt (rup HO286.out))) (below_size (by repeat (first | (with_reducible first | exact HB.out | apply below_alloc | apply pw_below_drewN | apply below_drew1 | refine below_set ?_ GE277.out) | exact HB.out)))); have n6_ := As.mk (Kd.C_below (by repeat (first | (with_reducible exact HR276_2.out) | (with_reducible refine Kd.C_alloc ?_ _) | (with_reducible refine Kd.C_drewN ?_ _) | (with_reducible refine Kd.C_drew ?_) | exact HR276_2.out)) hb); have n7_ := As.mk (blk_below (g := gb277) (o := .cells #[.int .i64 ((rd_T62 y273 x112_1).f0.f0), .int .i64 ((rd_T62 y273 x112_1).f0.f1), .slice A276_2 ((rd_T62 y273 x112_1).f0.f2).length c276_2, .int .i64 ((rd_T62 y273 x112_1).f1)] 62 (0, 0)) (bup BK277.out) hb); have n8_ := As.mk (below_step (by repeat (first | (with_reducible first | exact HB.out | apply below_alloc | apply pw_below_drewN | apply below_drew1 | refine below_set ?_ GE277.out) | exact HB.out)) hb); clear HO_110; clear HL276_2; clear HO282; clear HO286; clear HR276_2; clear BK277; clear HB; have HO_110 := n0_; have HL276_2 := n1_; have HO282 := n2_; have HO286 := n3_; have HO291 := n4_; have HO294 := n5_; have HR276_2 := n6_; have BK277 := n7_; have HB := n8_; clear n0_ n1_ n2_ n3_ n4_ n5_ n6_ n7_ n8_; (try clear hb); (try clear hb2); (try clear hk); (try clear hi); (try clear ho0); (try clear ho1); have hcz70_0 : w69.cell? ⟨gb277, 0, none⟩ = some (.int .i64 ((rd_T62 y273 x112_1).f0.f0)) := (blk_cell BK277.out 0).trans rfl; have hcz70_1 : w69.cell? ⟨gb277, 1, none⟩ = some (.int .i64 ((rd_T62 y273 x112_1).f0.f1)) := (blk_cell BK277.out 1).trans rfl; have hcz70_2 : w69.cell? ⟨gb277, 2, none⟩ = some (.slice A276_2 ((rd_T62 y273 x112_1).f0.f2).length c276_2) := (blk_cell BK277.out 2).trans rfl; have hcz70_3 : w69.cell? ⟨gb277, 3, none⟩ = some (.int .i64 ((rd_T62 y273 x112_1).f1)) := (blk_cell BK277.out 3).trans rfl; have hfz70_0 := blk_frozen BK277.out 0; have hfz70_1 := blk_frozen BK277.out 1; have hfz70_2 := blk_frozen BK277.out 2; have hfz70_3 := blk_frozen BK277.out 3) | ((with_reducible refine gate_callee (f := 25) rfl ?_); refine goesL_ (some 145) rfl rfl Try.func25 (by kernel_rfl) rfl #[.agg #[.int .i64 ((rd_T62 y273 x112_1).f0.f0), .int .i64 ((rd_T62 y273 x112_1).f0.f1), .slice A276_2 ((rd_T62 y273 x112_1).f0.f2).length c276_2]] rfl (by (try simp only [List.map_toArray, List.map_cons, List.map_nil]); first | done | rfl | (simp only [List.length_drop, List.length_take]; rfl)) ?_; (with_reducible refine (match_Free.calls k1 ((rd_T62 y273 x112_1).f0.f0) ((rd_T62 y273 x112_1).f0.f1) _ _ ((rd_T62 y273 x112_1).f0.f2) t296 t299 t302 _ ?side1 ?side2 A46.out).mono ?_); (case side1 => repeat (first | exact (by repeat (first | (with_reducible exact HR276_2.out) | (with_reducible refine Kd.C_alloc ?_ _) | (with_reducible refine Kd.C_drewN ?_ _) | (with_reducible refine Kd.C_drew ?_) | exact HR276_2.out)) | (with_reducible refine Kd.C_alloc ?_ _) | (with_reducible refine Kd.C_drewN ?_ _) | (with_reducible refine Kd.C_drew ?_))); (case side2 => exact HC276_2.out); rintro e w71 ⟨v297, v300, rfl, ho0, ho1, hb⟩; refine ⟨_, rfl, ?_⟩; have n0_ := As.mk (Kd.N_mono (Kd.N_told (Kd.N_told (Kd.N_old (nup HO_110.out) hb) (Kd.R_base ho0)) (Kd.R_base ho1)) (fun _ h_ => h_.1)); have n1_ := As.mk (Kd.V_mono (Kd.V_told (Kd.V_told (Kd.V_old (vup HL276_2.out) hb) (Kd.R_base ho0)) (Kd.R_base ho1)) (fun _ h_ => h_.1)); have n2_ := As.mk (Kd.R_mono (Kd.R_told (Kd.R_told (Kd.R_old (rup HO282.out) hb) (Kd.R_base ho0)) (Kd.R_base ho1)) (fun _ h_ => h_.1)); have n3_ := As.mk (Kd.R_mono (Kd.R_told (Kd.R_told (Kd.R_old (rup HO286.out) hb) (Kd.R_base ho0)) (Kd.R_base ho1)) (fun _ h_ => h_.1)); have n4_ := As.mk (Kd.R_mono (Kd.R_told (Kd.R_told (Kd.R_old (rup HO291.out) hb) (Kd.R_base ho0)) (Kd.R_base ho1)) (fun _ h_ => h_.1)); have n5_ := As.mk (Kd.R_mono (Kd.R_told (Kd.R_told (Kd.R_old (rup HO294.out) hb) (Kd.R_base ho0)) (Kd.R_base ho1)) (fun _ h_ => h_.1)); have n6_ := As.mk (Kd.R_lower (Kd.R_new' (Kd.R_new' (Kd.R_new' (Kd.R_new' ho0 (Kd.R_lt (rup HO282.out))) (Kd.R_lt (rup HO286.out))) (Kd.R_lt (rup HO291.out))) (Kd.R_lt (rup HO294.out))) (below_size (by repeat (first | (with_reducible first | exact HB.out | apply below_alloc | apply pw_below_drewN | apply below_drew1 | refine below_set ?_ GE277.out) | exact HB.out)))); have n7_ := As.mk (Kd.R_lower (Kd.R_new' (Kd.R_new' (Kd.R_new' (Kd.R_new' ho1 (Kd.R_lt (rup HO282.out))) (Kd.R_lt (rup HO286.out))) (Kd.R_lt (rup HO291.out))) (Kd.R_lt (rup HO294.out))) (below_size (by repeat (first | (with_reducible first | exact HB.out | apply below_alloc | apply pw_below_drewN | apply below_drew1 | refine below_set ?_ GE277.out) | exact HB.out)))); have n8_ := As.mk (Kd.C_below (by repeat (first | (with_reducible exact HR276_2.out) | (with_reducible refine Kd.C_alloc ?_ _) | (with_reducible refine Kd.C_drewN ?_ _) | (with_reducible refine Kd.C_drew ?_) | exact HR276_2.out)) hb); have n9_ := As.mk (blk_below (g := gb277) (o := .cells #[.int .i64 ((rd_T62 y273 x112_1).f0.f0), .int .i64 ((rd_T62 y273 x112_1).f0.f1), .slice A276_2 ((rd_T62 y273 x112_1).f0.f2).length c276_2, .int .i64 ((rd_T62 y273 x112_1).f1)] 62 (0, 0)) (bup BK277.out) hb); have n10_ := As.mk (below_step (by repeat (first | (with_reducible first | exact HB.out | apply below_alloc | apply pw_below_drewN | apply below_drew1 | refine below_set ?_ GE277.out) | exact HB.out)) hb); clear HO_110; clear HL276_2; clear HO282; clear HO286; clear HO291; clear HO294; clear HR276_2; clear BK277; clear HB; have HO_110 := n0_; have HL276_2 := n1_; have HO282 := n2_; have HO286 := n3_; have HO291 := n4_; have HO294 := n5_; have HO298 := n6_; have HO301 := n7_; have HR276_2 := n8_; have BK277 := n9_; have HB := n10_; clear n0_ n1_ n2_ n3_ n4_ n5_ n6_ n7_ n8_ n9_ n10_; (try clear hb); (try clear hb2); (try clear hk); (try clear hi); (try clear ho0); (try clear ho1); have hcz72_0 : w71.cell? ⟨gb277, 0, none⟩ = some (.int .i64 ((rd_T62 y273 x112_1).f0.f0)) := (blk_cell BK277.out 0).trans rfl; have hcz72_1 : w71.cell? ⟨gb277, 1, none⟩ = some (.int .i64 ((rd_T62 y273 x112_1).f0.f1)) := (blk_cell BK277.out 1).trans rfl; have hcz72_2 : w71.cell? ⟨gb277, 2, none⟩ = some (.slice A276_2 ((rd_T62 y273 x112_1).f0.f2).length c276_2) := (blk_cell BK277.out 2).trans rfl; have hcz72_3 : w71.cell? ⟨gb277, 3, none⟩ = some (.int .i64 ((rd_T62 y273 x112_1).f1)) := (blk_cell BK277.out 3).trans rfl; have hfz72_0 := blk_frozen BK277.out 0; have hfz72_1 := blk_frozen BK277.out 1; have hfz72_2 := blk_frozen BK277.out 2; have hfz72_3 := blk_frozen BK277.out 3) | ((with_reducible refine gate_callee (f := 13) rfl ?_); refine goesL_ (some 152) rfl rfl Try.func13 (by kernel_rfl) rfl #[.agg #[.int .i64 ((rd_T62 y273 x112_1).f0.f0), .int .i64 ((rd_T62 y273 x112_1).f0.f1), .slice A276_2 ((rd_T62 y273 x112_1).f0.f2).length c276_2]] rfl (by (try simp only [List.map_toArray, List.map_cons, List.map_nil]); first | done | rfl | (simp only [List.length_drop, List.length_take]; rfl)) ?_; (with_reducible refine (match_Hall.calls k1 ((rd_T62 y273 x112_1).f0.f0) ((rd_T62 y273 x112_1).f0.f1) _ _ ((rd_T62 y273 x112_1).f0.f2) t303 t306 t309 _ ?side1 ?side2 A47.out).mono ?_); (case side1 => repeat (first | exact (by repeat (first | (with_reducible exact HR276_2.out) | (with_reducible refine Kd.C_alloc ?_ _) | (with_reducible refine Kd.C_drewN ?_ _) | (with_reducible refine Kd.C_drew ?_) | exact HR276_2.out)) | (with_reducible refine Kd.C_alloc ?_ _) | (with_reducible refine Kd.C_drewN ?_ _) | (with_reducible refine Kd.C_drew ?_))); (case side2 => exact HC276_2.out); rintro e w73 ⟨v304, v307, rfl, ho0, ho1, hb⟩; refine ⟨_, rfl, ?_⟩; have n0_ := As.mk (Kd.N_mono (Kd.N_told (Kd.N_told (Kd.N_old (nup HO_110.out) hb) (Kd.R_base ho0)) (Kd.R_base ho1)) (fun _ h_ => h_.1)); have n1_ := As.mk (Kd.V_mono (Kd.V_told (Kd.V_told (Kd.V_old (vup HL276_2.out) hb) (Kd.R_base ho0)) (Kd.R_base ho1)) (fun _ h_ => h_.1)); have n2_ := As.mk (Kd.R_mono (Kd.R_told (Kd.R_told (Kd.R_old (rup HO282.out) hb) (Kd.R_base ho0)) (Kd.R_base ho1)) (fun _ h_ => h_.1)); have n3_ := As.mk (Kd.R_mono (Kd.R_told (Kd.R_told (Kd.R_old (rup HO286.out) hb) (Kd.R_base ho0)) (Kd.R_base ho1)) (fun _ h_ => h_.1)); have n4_ := As.mk (Kd.R_mono (Kd.R_told (Kd.R_told (Kd.R_old (rup HO291.out) hb) (Kd.R_base ho0)) (Kd.R_base ho1)) (fun _ h_ => h_.1)); have n5_ := As.mk (Kd.R_mono (Kd.R_told (Kd.R_told (Kd.R_old (rup HO294.out) hb) (Kd.R_base ho0)) (Kd.R_base ho1)) (fun _ h_ => h_.1)); have n6_ := As.mk (Kd.R_mono (Kd.R_told (Kd.R_told (Kd.R_old (rup HO298.out) hb) (Kd.R_base ho0)) (Kd.R_base ho1)) (fun _ h_ => h_.1)); have n7_ := As.mk (Kd.R_mono (Kd.R_told (Kd.R_told (Kd.R_old (rup HO301.out) hb) (Kd.R_base ho0)) (Kd.R_base ho1)) (fun _ h_ => h_.1)); have n8_ := As.mk (Kd.R_lower (Kd.R_new' (Kd.R_new' (Kd.R_new' (Kd.R_new' (Kd.R_new' (Kd.R_new' ho0 (Kd.R_lt (rup HO282.out))) (Kd.R_lt (rup HO286.out))) (Kd.R_lt (rup HO291.out))) (Kd.R_lt (rup HO294.out))) (Kd.R_lt (rup HO298.out))) (Kd.R_lt (rup HO301.out))) (below_size (by repeat (first | (with_reducible first | exact HB.out | apply below_alloc | apply pw_below_drewN | apply below_drew1 | refine below_set ?_ GE277.out) | exact HB.out)))); have n9_ := As.mk (Kd.R_lower (Kd.R_new' (Kd.R_new' (Kd.R_new' (Kd.R_new' (Kd.R_new' (Kd.R_new' ho1 (Kd.R_lt (rup HO282.out))) (Kd.R_lt (rup HO286.out))) (Kd.R_lt (rup HO291.out))) (Kd.R_lt (rup HO294.out))) (Kd.R_lt (rup HO298.out))) (Kd.R_lt (rup HO301.out))) (below_size (by repeat (first | (with_reducible first | exact HB.out | apply below_alloc | apply pw_below_drewN | apply below_drew1 | refine below_set ?_ GE277.out) | exact HB.out)))); have n10_ := As.mk (Kd.C_below (by repeat (first | (with_reducible exact HR276_2.out) | (with_reducible refine Kd.C_alloc ?_ _) | (with_reducible refine Kd.C_drewN ?_ _) | (with_reducible refine Kd.C_drew ?_) | exact HR276_2.out)) hb); have n11_ := As.mk (blk_below (g := gb277) (o := .cells #[.int .i64 ((rd_T62 y273 x112_1).f0.f0), .int .i64 ((rd_T62 y273 x112_1).f0.f1), .slice A276_2 ((rd_T62 y273 x112_1).f0.f2).length c276_2, .int .i64 ((rd_T62 y273 x112_1).f1)] 62 (0, 0)) (bup BK277.out) hb); have n12_ := As.mk (below_step (by repeat (first | (with_reducible first | exact HB.out | apply below_alloc | apply pw_below_drewN | apply below_drew1 | refine below_set ?_ GE277.out) | exact HB.out)) hb); clear HO_110; clear HL276_2; clear HO282; clear HO286; clear HO291; clear HO294; clear HO298; clear HO301; clear HR276_2; clear BK277; clear HB; have HO_110 := n0_; have HL276_2 := n1_; have HO282 := n2_; have HO286 := n3_; have HO291 := n4_; have HO294 := n5_; have HO298 := n6_; have HO301 := n7_; have HO305 := n8_; have HO308 := n9_; have HR276_2 := n10_; have BK277 := n11_; have HB := n12_; clear n0_ n1_ n2_ n3_ n4_ n5_ n6_ n7_ n8_ n9_ n10_ n11_ n12_; (try clear hb); (try clear hb2); (try clear hk); (try clear hi); (try clear ho0); (try clear ho1); have hcz74_0 : w73.cell? ⟨gb277, 0, none⟩ = some (.int .i64 ((rd_T62 y273 x112_1).f0.f0)) := (blk_cell BK277.out 0).trans rfl; have hcz74_1 : w73.cell? ⟨gb277, 1, none⟩ = some (.int .i64 ((rd_T62 y273 x112_1).f0.f1)) := (blk_cell BK277.out 1).trans rfl; have hcz74_2 : w73.cell? ⟨gb277, 2, none⟩ = some (.slice A276_2 ((rd_T62 y273 x112_1).f0.f2).length c276_2) := (blk_cell BK277.out 2).trans rfl; have hcz74_3 : w73.cell? ⟨gb277, 3, none⟩ = some (.int .i64 ((rd_T62 y273 x112_1).f1)) := (blk_cell BK277.out 3).trans rfl; have hfz74_0 := blk_frozen BK277.out 0; have hfz74_1 := blk_frozen BK277.out 1; have hfz74_2 := blk_frozen BK277.out 2; have hfz74_3 := blk_frozen BK277.out 3) | ((with_reducible refine gate_callee (f := 38) rfl ?_); refine goesL_ (some 159) rfl rfl Try.func38 (by kernel_rfl) rfl #[.agg #[.int .i64 ((rd_T62 y273 x112_1).f0.f0), .int .i64 ((rd_T62 y273 x112_1).f0.f1), .slice A276_2 ((rd_T62 y273 x112_1).f0.f2).length c276_2]] rfl (by (try simp only [List.map_toArray, List.map_cons, List.map_nil]); first | done | rfl | (simp only [List.length_drop, List.length_take]; rfl)) ?_; (with_reducible refine (match_Colours.calls ((rd_T62 y273 x112_1).f0.f0) ((rd_T62 y273 x112_1).f0.f1) _ _ ((rd_T62 y273 x112_1).f0.f2) t310 t313 _ ?side1 ?side2 A48.out).mono ?_); (case side1 => repeat (first | exact (by repeat (first | (with_reducible exact HR276_2.out) | (with_reducible refine Kd.C_alloc ?_ _) | (with_reducible refine Kd.C_drewN ?_ _) | (with_reducible refine Kd.C_drew ?_) | exact HR276_2.out)) | (with_reducible refine Kd.C_alloc ?_ _) | (with_reducible refine Kd.C_drewN ?_ _) | (with_reducible refine Kd.C_drew ?_))); (case side2 => exact HC276_2.out); rintro e w75 ⟨v311, rfl, ho0, hb⟩; refine ⟨_, rfl, ?_⟩; have n0_ := As.mk (Kd.N_elder' (nup HO_110.out) (Kd.R_base ho0) hb); have n1_ := As.mk (Kd.V_elder' (vup HL276_2.out) (Kd.R_base ho0) hb); have n2_ := As.mk (Kd.R_elder' (rup HO282.out) (Kd.R_base ho0) hb); have n3_ := As.mk (Kd.R_elder' (rup HO286.out) (Kd.R_base ho0) hb); have n4_ := As.mk (Kd.R_elder' (rup HO291.out) (Kd.R_base ho0) hb); have n5_ := As.mk (Kd.R_elder' (rup HO294.out) (Kd.R_base ho0) hb); have n6_ := As.mk (Kd.R_elder' (rup HO298.out) (Kd.R_base ho0) hb); have n7_ := As.mk (Kd.R_elder' (rup HO301.out) (Kd.R_base ho0) hb); have n8_ := As.mk (Kd.R_elder' (rup HO305.out) (Kd.R_base ho0) hb); have n9_ := As.mk (Kd.R_elder' (rup HO308.out) (Kd.R_base ho0) hb); have n10_ := As.mk (Kd.R_lower (Kd.R_new' (Kd.R_new' (Kd.R_new' (Kd.R_new' (Kd.R_new' (Kd.R_new' (Kd.R_new' (Kd.R_new' ho0 (Kd.R_lt (rup HO282.out))) (Kd.R_lt (rup HO286.out))) (Kd.R_lt (rup HO291.out))) (Kd.R_lt (rup HO294.out))) (Kd.R_lt (rup HO298.out))) (Kd.R_lt (rup HO301.out))) (Kd.R_lt (rup HO305.out))) (Kd.R_lt (rup HO308.out))) (below_size (by repeat (first | (with_reducible first | exact HB.out | apply below_alloc | apply pw_below_drewN | apply below_drew1 | refine below_set ?_ GE277.out) | exact HB.out)))); have n11_ := As.mk (Kd.C_below (by repeat (first | (with_reducible exact HR276_2.out) | (with_reducible refine Kd.C_alloc ?_ _) | (with_reducible refine Kd.C_drewN ?_ _) | (with_reducible refine Kd.C_drew ?_) | exact HR276_2.out)) hb); have n12_ := As.mk (blk_below (g := gb277) (o := .cells #[.int .i64 ((rd_T62 y273 x112_1).f0.f0), .int .i64 ((rd_T62 y273 x112_1).f0.f1), .slice A276_2 ((rd_T62 y273 x112_1).f0.f2).length c276_2, .int .i64 ((rd_T62 y273 x112_1).f1)] 62 (0, 0)) (bup BK277.out) hb); have n13_ := As.mk (below_step (by repeat (first | (with_reducible first | exact HB.out | apply below_alloc | apply pw_below_drewN | apply below_drew1 | refine below_set ?_ GE277.out) | exact HB.out)) hb); clear HO_110; clear HL276_2; clear HO282; clear HO286; clear HO291; clear HO294; clear HO298; clear HO301; clear HO305; clear HO308; clear HR276_2; clear BK277; clear HB; have HO_110 := n0_; have HL276_2 := n1_; have HO282 := n2_; have HO286 := n3_; have HO291 := n4_; have HO294 := n5_; have HO298 := n6_; have HO301 := n7_; have HO305 := n8_; have HO308 := n9_; have HO312 := n10_; have HR276_2 := n11_; have BK277 := n12_; have HB := n13_; clear n0_ n1_ n2_ n3_ n4_ n5_ n6_ n7_ n8_ n9_ n10_ n11_ n12_ n13_; (try clear hb); (try clear hb2); (try clear hk); (try clear hi); (try clear ho0)))
                 have n0_ := As.mk (Kd.N_drew HO_110.out)
                 have n1_ := As.mk (Kd.V_drew HL276_2.out)
                 have n2_ := As.mk (Kd.R_drew HO282.out)
                 have n3_ := As.mk (Kd.R_drew HO286.out)
                 have n4_ := As.mk (Kd.R_drew HO291.out)
                 have n5_ := As.mk (Kd.R_drew HO294.out)
                 have n6_ := As.mk (Kd.R_drew HO298.out)
                 have n7_ := As.mk (Kd.R_drew HO301.out)
                 have n8_ := As.mk (Kd.R_drew HO305.out)
                 have n9_ := As.mk (Kd.R_drew HO308.out)
                 have n10_ := As.mk (Kd.R_drew HO312.out)
                 have n11_ := As.mk (blk_drew BK277.out)
                 have n12_ := As.mk (Kd.C_drew HR276_2.out)
                 have n13_ := As.mk (below_drew1 HB.out)
                 clear HO_110
                 clear HL276_2
                 clear HO282
                 clear HO286
                 clear HO291
                 clear HO294
                 clear HO298
                 clear HO301
                 clear HO305
                 clear HO308
                 clear HO312
                 clear BK277
                 clear HR276_2
                 clear HB
                 have HO_110 := n0_
                 have HL276_2 := n1_
                 have HO282 := n2_
                 have HO286 := n3_
                 have HO291 := n4_
                 have HO294 := n5_
                 have HO298 := n6_
                 have HO301 := n7_
                 have HO305 := n8_
                 have HO308 := n9_
                 have HO312 := n10_
                 have BK277 := n11_
                 have HR276_2 := n12_
                 have HB := n13_
                 clear n0_ n1_ n2_ n3_ n4_ n5_ n6_ n7_ n8_ n9_ n10_ n11_ n12_ n13_
                 refine start_ (n := 48) (S := fun w' => w'.cell? ⟨gb277, 0, none⟩ = some (.int .i64 ((rd_T62 y273 x112_1).f0.f0)) ∧ w'.cell? ⟨gb277, 1, none⟩ = some (.int .i64 ((rd_T62 y273 x112_1).f0.f1)) ∧ w'.cell? ⟨gb277, 2, none⟩ = some (.slice A276_2 ((rd_T62 y273 x112_1).f0.f2).length c276_2) ∧ w'.cell? ⟨gb277, 3, none⟩ = some (.int .i64 ((rd_T62 y273 x112_1).f1))) (ds := []) #[false, false, false, false, false, false, false, false, false, false, false, false, false, false, false, false, false, false, false, false, false, false, false, false, false, false, false, false, false, false, false, false, false, false, false, false, false, false, false, false, false, false, false, false, false, false, false, false] (by kernel_rfl) rfl rfl ⟨(blk_cell BK277.out 0).trans rfl, (blk_cell BK277.out 1).trans rfl, (blk_cell BK277.out 2).trans rfl, (blk_cell BK277.out 3).trans rfl⟩ (fun hHeld => ?_); refine with_tabW mE.tab13 mE.bits13 (fun HT_ HW_ => ?_)
                 generalize w75.drew = w76 at HO_110 HL276_2 HO282 HO286 HO291 HO294 HO298 HO301 HO305 HO308 HO312 BK277 HR276_2 HB hHeld ⊢
                 refine pure_ (i := 0) (N := some 162) (v := ?_) (a' := ?_) #[true, false, false, false, false, false, false, false, false, false, false, false, false, false, false, false, false, false, false, false, false, false, false, false, false, false, false, false, false, false, false, false, false, false, false, false, false, false, false, false, false, false, false, false, false, false, false, false] rfl rfl (any_of HT_.out (by kernel_rfl)) (fun _ _ _ h => h) (Or.inl ⟨by rfl, ?_⟩) ?_ ?_
                 rotate_left
                 ·intro w'
                  go_simp
                  with_reducible rfl
                 rotate_left
                 ·simp only [Act.put, List.setIfInBounds_toArray, List.set_cons_zero, List.set_cons_succ, i64_w, i32_w]
                  rfl
                 refine pure_ (i := 3) (N := some 165) (v := ?_) (a' := ?_) #[true, false, false, true, false, false, false, false, false, false, false, false, false, false, false, false, false, false, false, false, false, false, false, false, false, false, false, false, false, false, false, false, false, false, false, false, false, false, false, false, false, false, false, false, false, false, false, false] rfl rfl (any_of HT_.out (by kernel_rfl)) (fun _ _ _ h => h) (Or.inl ⟨by rfl, ?_⟩) ?_ ?_
                 rotate_left
                 ·intro w'
                  go_simp
                  with_reducible rfl
                 rotate_left
                 ·simp only [Act.put, List.setIfInBounds_toArray, List.set_cons_zero, List.set_cons_succ, i64_w, i32_w]
                  rfl
                 refine take_ (i := 1) (N := some 163) (v := ?_) (a' := ?_) #[true, true, false, true, false, false, false, false, false, false, false, false, false, false, false, false, false, false, false, false, false, false, false, false, false, false, false, false, false, false, false, false, false, false, false, false, false, false, false, false, false, false, false, false, false, false, false, false] rfl rfl (take_ofW HT_.out HW_.out (by kernel_rfl)) (fun _ _ _ h => h) (Or.inl ⟨by rfl, ?_⟩) hHeld ?_ ?_
                 rotate_left
                 ·rintro w' ⟨s0, s1, s2, s3⟩
                  go_simp
                  with_reducible rfl
                 rotate_left
                 ·simp only [Act.put, List.setIfInBounds_toArray, List.set_cons_zero, List.set_cons_succ, i64_w, i32_w]
                  rfl
                 refine take_ (i := 4) (N := some 166) (v := ?_) (a' := ?_) #[true, true, false, true, true, false, false, false, false, false, false, false, false, false, false, false, false, false, false, false, false, false, false, false, false, false, false, false, false, false, false, false, false, false, false, false, false, false, false, false, false, false, false, false, false, false, false, false] rfl rfl (take_ofW HT_.out HW_.out (by kernel_rfl)) (fun _ _ _ h => h) (Or.inl ⟨by rfl, ?_⟩) hHeld ?_ ?_
                 rotate_left
                 ·rintro w' ⟨s0, s1, s2, s3⟩
                  go_simp
                  with_reducible rfl
                 rotate_left
                 ·simp only [Act.put, List.setIfInBounds_toArray, List.set_cons_zero, List.set_cons_succ, i64_w, i32_w]
                  rfl
                 refine one_ (i := 2) (N := some 164) #[true, true, true, true, true, false, false, false, false, false, false, false, false, false, false, false, false, false, false, false, false, false, false, false, false, false, false, false, false, false, false, false, false, false, false, false, false, false, false, false, false, false, false, false, false, false, false, false] rfl rfl (one_of HT_.out (by kernel_rfl)) (by decide) (fun K hK => ?_)
                 refine goes_ Try.func23 (by kernel_rfl) rfl #[.agg #[.int .i64 ((rd_T62 y273 x112_1).f0.f0), .int .i64 ((rd_T62 y273 x112_1).f0.f1), .slice A276_2 ((rd_T62 y273 x112_1).f0.f2).length c276_2]] (by rfl) rfl rfl (by (try simp only [List.map_toArray, List.map_cons, List.map_nil]); first | done | rfl | (simp only [List.length_drop, List.length_take]; rfl)) ?_
                 with_reducible refine (match_Check.calls ((rd_T62 y273 x112_1).f0.f0) ((rd_T62 y273 x112_1).f0.f1) _ _ ((rd_T62 y273 x112_1).f0.f2) t314 _ ?side1 ?side2 A49.out).mono ?_
                 (case side1 => repeat (first | exact (by repeat (first | (with_reducible exact HR276_2.out) | (with_reducible refine Kd.C_alloc ?_ _) | (with_reducible refine Kd.C_drewN ?_ _) | (with_reducible refine Kd.C_drew ?_) | exact HR276_2.out)) | (with_reducible refine Kd.C_alloc ?_ _) | (with_reducible refine Kd.C_drewN ?_ _) | (with_reducible refine Kd.C_drew ?_)))
                 (case side2 => exact HC276_2.out)
                 rintro e w77 ⟨rfl, hb⟩
                 refine ⟨_, rfl, ?_⟩
                 have n0_ := As.mk (Kd.N_below (nup HO_110.out) hb)
                 have n1_ := As.mk (Kd.V_below (vup HL276_2.out) hb)
                 have n2_ := As.mk (Kd.R_below (rup HO282.out) hb)
                 have n3_ := As.mk (Kd.R_below (rup HO286.out) hb)
                 have n4_ := As.mk (Kd.R_below (rup HO291.out) hb)
                 have n5_ := As.mk (Kd.R_below (rup HO294.out) hb)
                 have n6_ := As.mk (Kd.R_below (rup HO298.out) hb)
                 have n7_ := As.mk (Kd.R_below (rup HO301.out) hb)
                 have n8_ := As.mk (Kd.R_below (rup HO305.out) hb)
                 have n9_ := As.mk (Kd.R_below (rup HO308.out) hb)
                 have n10_ := As.mk (Kd.R_below (rup HO312.out) hb)
                 have n11_ := As.mk (Kd.C_below (by repeat (first | (with_reducible exact HR276_2.out) | (with_reducible refine Kd.C_alloc ?_ _) | (with_reducible refine Kd.C_drewN ?_ _) | (with_reducible refine Kd.C_drew ?_) | exact HR276_2.out)) hb)
                 have n12_ := As.mk (blk_below (g := gb277) (o := .cells #[.int .i64 ((rd_T62 y273 x112_1).f0.f0), .int .i64 ((rd_T62 y273 x112_1).f0.f1), .slice A276_2 ((rd_T62 y273 x112_1).f0.f2).length c276_2, .int .i64 ((rd_T62 y273 x112_1).f1)] 62 (0, 0)) (bup BK277.out) hb)
                 have n13_ := As.mk (below_step (by repeat (first | (with_reducible first | exact HB.out | apply below_alloc | apply pw_below_drewN | apply below_drew1 | refine below_set ?_ GE277.out) | exact HB.out)) hb)
                 clear HO_110
                 clear HL276_2
                 clear HO282
                 clear HO286
                 clear HO291
                 clear HO294
                 clear HO298
                 clear HO301
                 clear HO305
                 clear HO308
                 clear HO312
                 clear HR276_2
                 clear BK277
                 clear HB
                 have HO_110 := n0_
                 have HL276_2 := n1_
                 have HO282 := n2_
                 have HO286 := n3_
                 have HO291 := n4_
                 have HO294 := n5_
                 have HO298 := n6_
                 have HO301 := n7_
                 have HO305 := n8_
                 have HO308 := n9_
                 have HO312 := n10_
                 have HR276_2 := n11_
                 have BK277 := n12_
                 have HB := n13_
                 clear n0_ n1_ n2_ n3_ n4_ n5_ n6_ n7_ n8_ n9_ n10_ n11_ n12_ n13_
                 (try clear hb)
                 (try clear hb2)
                 (try clear hk)
                 (try clear hi)
                 refine hK.out _ _ ⟨(blk_cell BK277.out 0).trans rfl, (blk_cell BK277.out 1).trans rfl, (blk_cell BK277.out 2).trans rfl, (blk_cell BK277.out 3).trans rfl⟩ (fun hHeld => ?_)
                 clear hK K
                 refine norm_ (a' := ?_) ?_ ?_
                 rotate_left
                 ·show Act.put _ (some 164) _ = _
                  simp only [Act.put, List.setIfInBounds_toArray, List.set_cons_zero, List.set_cons_succ, i64_w, i32_w]
                  rfl
                 refine pure_ (i := 5) (N := some 167) (v := ?_) (a' := ?_) #[true, true, true, true, true, true, false, false, false, false, false, false, false, false, false, false, false, false, false, false, false, false, false, false, false, false, false, false, false, false, false, false, false, false, false, false, false, false, false, false, false, false, false, false, false, false, false, false] rfl rfl (any_of HT_.out (by kernel_rfl)) (fun _ _ _ h => h) (Or.inl ⟨by rfl, ?_⟩) ?_ ?_
                 rotate_left
                 ·intro w'
                  go_simp
                  with_reducible rfl
                 rotate_left
                 ·simp only [Act.put, List.setIfInBounds_toArray, List.set_cons_zero, List.set_cons_succ, i64_w, i32_w]
                  rfl
                 refine pure_ (i := 6) (N := some 168) (v := ?_) (a' := ?_) #[true, true, true, true, true, true, true, false, false, false, false, false, false, false, false, false, false, false, false, false, false, false, false, false, false, false, false, false, false, false, false, false, false, false, false, false, false, false, false, false, false, false, false, false, false, false, false, false] rfl rfl (any_of HT_.out (by kernel_rfl)) (fun _ _ _ h => h) (Or.inl ⟨by rfl, ?_⟩) ?_ ?_
                 rotate_left
                 ·intro w'
                  go_simp
                  with_reducible rfl
                 rotate_left
                 ·simp only [Act.put, List.setIfInBounds_toArray, List.set_cons_zero, List.set_cons_succ, i64_w, i32_w]
                  rfl
                 refine pure_ (i := 7) (N := some 169) (v := ?_) (a' := ?_) #[true, true, true, true, true, true, true, true, false, false, false, false, false, false, false, false, false, false, false, false, false, false, false, false, false, false, false, false, false, false, false, false, false, false, false, false, false, false, false, false, false, false, false, false, false, false, false, false] rfl rfl (any_of HT_.out (by kernel_rfl)) (fun _ _ _ h => h) (Or.inl ⟨by rfl, ?_⟩) ?_ ?_
                 rotate_left
                 ·intro w'
                  go_simp
                  with_reducible rfl
                 rotate_left
                 ·simp only [Act.put, List.setIfInBounds_toArray, List.set_cons_zero, List.set_cons_succ, i64_w, i32_w]
                  rfl
                 refine pure_ (i := 8) (N := some 170) (v := ?_) (a' := ?_) #[true, true, true, true, true, true, true, true, true, false, false, false, false, false, false, false, false, false, false, false, false, false, false, false, false, false, false, false, false, false, false, false, false, false, false, false, false, false, false, false, false, false, false, false, false, false, false, false] rfl rfl (any_of HT_.out (by kernel_rfl)) (fun _ _ _ h => h) (Or.inl ⟨by rfl, ?_⟩) ?_ ?_
                 rotate_left
                 ·intro w'
                  go_simp
                  with_reducible rfl
                 rotate_left
                 ·simp only [Act.put, List.setIfInBounds_toArray, List.set_cons_zero, List.set_cons_succ, i64_w, i32_w]
                  rfl
                 refine take_ (i := 9) (N := some 171) (v := ?_) (a' := ?_) #[true, true, true, true, true, true, true, true, true, true, false, false, false, false, false, false, false, false, false, false, false, false, false, false, false, false, false, false, false, false, false, false, false, false, false, false, false, false, false, false, false, false, false, false, false, false, false, false] rfl rfl (take_ofW HT_.out HW_.out (by kernel_rfl)) (fun _ _ _ h => h) (Or.inl ⟨by rfl, ?_⟩) hHeld ?_ ?_
                 rotate_left
                 ·rintro w' ⟨s0, s1, s2, s3⟩
                  go_simp
                  with_reducible rfl
                 rotate_left
                 ·simp only [Act.put, List.setIfInBounds_toArray, List.set_cons_zero, List.set_cons_succ, i64_w, i32_w]
                  rfl
                 refine pure_ (i := 10) (N := some 172) (v := ?_) (a' := ?_) #[true, true, true, true, true, true, true, true, true, true, true, false, false, false, false, false, false, false, false, false, false, false, false, false, false, false, false, false, false, false, false, false, false, false, false, false, false, false, false, false, false, false, false, false, false, false, false, false] rfl rfl (any_of HT_.out (by kernel_rfl)) (fun _ _ _ h => h) (Or.inl ⟨by rfl, ?_⟩) ?_ ?_
                 rotate_left
                 ·intro w'
                  go_simp
                  with_reducible rfl
                 rotate_left
                 ·simp only [Act.put, List.setIfInBounds_toArray, List.set_cons_zero, List.set_cons_succ, i64_w, i32_w]
                  rfl
                 refine pure_ (i := 11) (N := some 173) (v := ?_) (a' := ?_) #[true, true, true, true, true, true, true, true, true, true, true, true, false, false, false, false, false, false, false, false, false, false, false, false, false, false, false, false, false, false, false, false, false, false, false, false, false, false, false, false, false, false, false, false, false, false, false, false] rfl rfl (any_of HT_.out (by kernel_rfl)) (fun _ _ _ h => h) (Or.inl ⟨by rfl, ?_⟩) ?_ ?_
                 rotate_left
                 ·intro w'
                  go_simp
                  with_reducible rfl
                 rotate_left
                 ·simp only [Act.put, List.setIfInBounds_toArray, List.set_cons_zero, List.set_cons_succ, i64_w, i32_w]
                  rfl
                 refine pure_ (i := 12) (N := some 174) (v := ?_) (a' := ?_) #[true, true, true, true, true, true, true, true, true, true, true, true, true, false, false, false, false, false, false, false, false, false, false, false, false, false, false, false, false, false, false, false, false, false, false, false, false, false, false, false, false, false, false, false, false, false, false, false] rfl rfl (any_of HT_.out (by kernel_rfl)) (fun _ _ _ h => h) (Or.inl ⟨by rfl, ?_⟩) ?_ ?_
                 rotate_left
                 ·intro w'
                  go_simp
                  with_reducible rfl
                 rotate_left
                 ·simp only [Act.put, List.setIfInBounds_toArray, List.set_cons_zero, List.set_cons_succ, i64_w, i32_w]
                  rfl
                 refine pure_ (i := 13) (N := some 175) (v := ?_) (a' := ?_) #[true, true, true, true, true, true, true, true, true, true, true, true, true, true, false, false, false, false, false, false, false, false, false, false, false, false, false, false, false, false, false, false, false, false, false, false, false, false, false, false, false, false, false, false, false, false, false, false] rfl rfl (any_of HT_.out (by kernel_rfl)) (fun _ _ _ h => h) (Or.inl ⟨by rfl, ?_⟩) ?_ ?_
                 rotate_left
                 ·intro w'
                  go_simp
                  with_reducible rfl
                 rotate_left
                 ·simp only [Act.put, List.setIfInBounds_toArray, List.set_cons_zero, List.set_cons_succ, i64_w, i32_w]
                  rfl
                 refine pure_ (i := 14) (N := some 176) (v := ?_) (a' := ?_) #[true, true, true, true, true, true, true, true, true, true, true, true, true, true, true, false, false, false, false, false, false, false, false, false, false, false, false, false, false, false, false, false, false, false, false, false, false, false, false, false, false, false, false, false, false, false, false, false] rfl rfl (any_of HT_.out (by kernel_rfl)) (fun _ _ _ h => h) (Or.inl ⟨by rfl, ?_⟩) ?_ ?_
                 rotate_left
                 ·intro w'
                  go_simp
                  with_reducible rfl
                 rotate_left
                 ·simp only [Act.put, List.setIfInBounds_toArray, List.set_cons_zero, List.set_cons_succ, i64_w, i32_w]
                  rfl
                 refine take_ (i := 15) (N := some 177) (v := ?_) (a' := ?_) #[true, true, true, true, true, true, true, true, true, true, true, true, true, true, true, true, false, false, false, false, false, false, false, false, false, false, false, false, false, false, false, false, false, false, false, false, false, false, false, false, false, false, false, false, false, false, false, false] rfl rfl (take_ofW HT_.out HW_.out (by kernel_rfl)) (fun _ _ _ h => h) (Or.inl ⟨by rfl, ?_⟩) hHeld ?_ ?_
                 rotate_left
                 ·rintro w' ⟨s0, s1, s2, s3⟩
                  go_simp
                  with_reducible rfl
                 rotate_left
                 ·simp only [Act.put, List.setIfInBounds_toArray, List.set_cons_zero, List.set_cons_succ, i64_w, i32_w]
                  rfl
                 refine pure_ (i := 16) (N := some 178) (v := ?_) (a' := ?_) #[true, true, true, true, true, true, true, true, true, true, true, true, true, true, true, true, true, false, false, false, false, false, false, false, false, false, false, false, false, false, false, false, false, false, false, false, false, false, false, false, false, false, false, false, false, false, false, false] rfl rfl (any_of HT_.out (by kernel_rfl)) (fun _ _ _ h => h) (Or.inl ⟨by rfl, ?_⟩) ?_ ?_
                 rotate_left
                 ·intro w'
                  go_simp
                  with_reducible rfl
                 rotate_left
                 ·simp only [Act.put, List.setIfInBounds_toArray, List.set_cons_zero, List.set_cons_succ, i64_w, i32_w]
                  rfl
                 refine pure_ (i := 17) (N := some 179) (v := ?_) (a' := ?_) #[true, true, true, true, true, true, true, true, true, true, true, true, true, true, true, true, true, true, false, false, false, false, false, false, false, false, false, false, false, false, false, false, false, false, false, false, false, false, false, false, false, false, false, false, false, false, false, false] rfl rfl (any_of HT_.out (by kernel_rfl)) (fun _ _ _ h => h) (Or.inl ⟨by rfl, ?_⟩) ?_ ?_
                 rotate_left
                 ·intro w'
                  go_simp
                  with_reducible rfl
                 rotate_left
                 ·simp only [Act.put, List.setIfInBounds_toArray, List.set_cons_zero, List.set_cons_succ, i64_w, i32_w]
                  rfl
                 refine pure_ (i := 18) (N := some 180) (v := ?_) (a' := ?_) #[true, true, true, true, true, true, true, true, true, true, true, true, true, true, true, true, true, true, true, false, false, false, false, false, false, false, false, false, false, false, false, false, false, false, false, false, false, false, false, false, false, false, false, false, false, false, false, false] rfl rfl (any_of HT_.out (by kernel_rfl)) (fun _ _ _ h => h) (Or.inl ⟨by rfl, ?_⟩) ?_ ?_
                 rotate_left
                 ·intro w'
                  go_simp
                  with_reducible rfl
                 rotate_left
                 ·simp only [Act.put, List.setIfInBounds_toArray, List.set_cons_zero, List.set_cons_succ, i64_w, i32_w]
                  rfl
                 refine pure_ (i := 19) (N := some 181) (v := ?_) (a' := ?_) #[true, true, true, true, true, true, true, true, true, true, true, true, true, true, true, true, true, true, true, true, false, false, false, false, false, false, false, false, false, false, false, false, false, false, false, false, false, false, false, false, false, false, false, false, false, false, false, false] rfl rfl (any_of HT_.out (by kernel_rfl)) (fun _ _ _ h => h) (Or.inl ⟨by rfl, ?_⟩) ?_ ?_
                 rotate_left
                 ·intro w'
                  go_simp
                  with_reducible rfl
                 rotate_left
                 ·simp only [Act.put, List.setIfInBounds_toArray, List.set_cons_zero, List.set_cons_succ, i64_w, i32_w]
                  rfl
                 refine pure_ (i := 20) (N := some 182) (v := ?_) (a' := ?_) #[true, true, true, true, true, true, true, true, true, true, true, true, true, true, true, true, true, true, true, true, true, false, false, false, false, false, false, false, false, false, false, false, false, false, false, false, false, false, false, false, false, false, false, false, false, false, false, false] rfl rfl (any_of HT_.out (by kernel_rfl)) (fun _ _ _ h => h) (Or.inl ⟨by rfl, ?_⟩) ?_ ?_
                 rotate_left
                 ·intro w'
                  go_simp
                  with_reducible rfl
                 rotate_left
                 ·simp only [Act.put, List.setIfInBounds_toArray, List.set_cons_zero, List.set_cons_succ, i64_w, i32_w]
                  rfl
                 refine take_ (i := 21) (N := some 183) (v := ?_) (a' := ?_) #[true, true, true, true, true, true, true, true, true, true, true, true, true, true, true, true, true, true, true, true, true, true, false, false, false, false, false, false, false, false, false, false, false, false, false, false, false, false, false, false, false, false, false, false, false, false, false, false] rfl rfl (take_ofW HT_.out HW_.out (by kernel_rfl)) (fun _ _ _ h => h) (Or.inl ⟨by rfl, ?_⟩) hHeld ?_ ?_
                 rotate_left
                 ·rintro w' ⟨s0, s1, s2, s3⟩
                  go_simp
                  with_reducible rfl
                 rotate_left
                 ·simp only [Act.put, List.setIfInBounds_toArray, List.set_cons_zero, List.set_cons_succ, i64_w, i32_w]
                  rfl
                 refine pure_ (i := 22) (N := some 184) (v := ?_) (a' := ?_) #[true, true, true, true, true, true, true, true, true, true, true, true, true, true, true, true, true, true, true, true, true, true, true, false, false, false, false, false, false, false, false, false, false, false, false, false, false, false, false, false, false, false, false, false, false, false, false, false] rfl rfl (any_of HT_.out (by kernel_rfl)) (fun _ _ _ h => h) (Or.inl ⟨by rfl, ?_⟩) ?_ ?_
                 rotate_left
                 ·intro w'
                  go_simp
                  with_reducible rfl
                 rotate_left
                 ·simp only [Act.put, List.setIfInBounds_toArray, List.set_cons_zero, List.set_cons_succ, i64_w, i32_w]
                  rfl
                 refine pure_ (i := 23) (N := some 185) (v := ?_) (a' := ?_) #[true, true, true, true, true, true, true, true, true, true, true, true, true, true, true, true, true, true, true, true, true, true, true, true, false, false, false, false, false, false, false, false, false, false, false, false, false, false, false, false, false, false, false, false, false, false, false, false] rfl rfl (any_of HT_.out (by kernel_rfl)) (fun _ _ _ h => h) (Or.inl ⟨by rfl, ?_⟩) ?_ ?_
                 rotate_left
                 ·intro w'
                  go_simp
                  with_reducible rfl
                 rotate_left
                 ·simp only [Act.put, List.setIfInBounds_toArray, List.set_cons_zero, List.set_cons_succ, i64_w, i32_w]
                  rfl
                 refine pure_ (i := 24) (N := some 186) (v := ?_) (a' := ?_) #[true, true, true, true, true, true, true, true, true, true, true, true, true, true, true, true, true, true, true, true, true, true, true, true, true, false, false, false, false, false, false, false, false, false, false, false, false, false, false, false, false, false, false, false, false, false, false, false] rfl rfl (any_of HT_.out (by kernel_rfl)) (fun _ _ _ h => h) (Or.inl ⟨by rfl, ?_⟩) ?_ ?_
                 rotate_left
                 ·intro w'
                  go_simp
                  with_reducible rfl
                 rotate_left
                 ·simp only [Act.put, List.setIfInBounds_toArray, List.set_cons_zero, List.set_cons_succ, i64_w, i32_w]
                  rfl
                 refine pure_ (i := 25) (N := some 187) (v := ?_) (a' := ?_) #[true, true, true, true, true, true, true, true, true, true, true, true, true, true, true, true, true, true, true, true, true, true, true, true, true, true, false, false, false, false, false, false, false, false, false, false, false, false, false, false, false, false, false, false, false, false, false, false] rfl rfl (any_of HT_.out (by kernel_rfl)) (fun _ _ _ h => h) (Or.inl ⟨by rfl, ?_⟩) ?_ ?_
                 rotate_left
                 ·intro w'
                  go_simp
                  with_reducible rfl
                 rotate_left
                 ·simp only [Act.put, List.setIfInBounds_toArray, List.set_cons_zero, List.set_cons_succ, i64_w, i32_w]
                  rfl
                 refine pure_ (i := 26) (N := some 188) (v := ?_) (a' := ?_) #[true, true, true, true, true, true, true, true, true, true, true, true, true, true, true, true, true, true, true, true, true, true, true, true, true, true, true, false, false, false, false, false, false, false, false, false, false, false, false, false, false, false, false, false, false, false, false, false] rfl rfl (any_of HT_.out (by kernel_rfl)) (fun _ _ _ h => h) (Or.inl ⟨by rfl, ?_⟩) ?_ ?_
                 rotate_left
                 ·intro w'
                  go_simp
                  with_reducible rfl
                 rotate_left
                 ·simp only [Act.put, List.setIfInBounds_toArray, List.set_cons_zero, List.set_cons_succ, i64_w, i32_w]
                  rfl
                 refine take_ (i := 27) (N := some 189) (v := ?_) (a' := ?_) #[true, true, true, true, true, true, true, true, true, true, true, true, true, true, true, true, true, true, true, true, true, true, true, true, true, true, true, true, false, false, false, false, false, false, false, false, false, false, false, false, false, false, false, false, false, false, false, false] rfl rfl (take_ofW HT_.out HW_.out (by kernel_rfl)) (fun _ _ _ h => h) (Or.inl ⟨by rfl, ?_⟩) hHeld ?_ ?_
                 rotate_left
                 ·rintro w' ⟨s0, s1, s2, s3⟩
                  go_simp
                  with_reducible rfl
                 rotate_left
                 ·simp only [Act.put, List.setIfInBounds_toArray, List.set_cons_zero, List.set_cons_succ, i64_w, i32_w]
                  rfl
                 refine pure_ (i := 28) (N := some 190) (v := ?_) (a' := ?_) #[true, true, true, true, true, true, true, true, true, true, true, true, true, true, true, true, true, true, true, true, true, true, true, true, true, true, true, true, true, false, false, false, false, false, false, false, false, false, false, false, false, false, false, false, false, false, false, false] rfl rfl (any_of HT_.out (by kernel_rfl)) (fun _ _ _ h => h) (Or.inl ⟨by rfl, ?_⟩) ?_ ?_
                 rotate_left
                 ·intro w'
                  go_simp
                  with_reducible rfl
                 rotate_left
                 ·simp only [Act.put, List.setIfInBounds_toArray, List.set_cons_zero, List.set_cons_succ, i64_w, i32_w]
                  rfl
                 refine pure_ (i := 29) (N := some 191) (v := ?_) (a' := ?_) #[true, true, true, true, true, true, true, true, true, true, true, true, true, true, true, true, true, true, true, true, true, true, true, true, true, true, true, true, true, true, false, false, false, false, false, false, false, false, false, false, false, false, false, false, false, false, false, false] rfl rfl (any_of HT_.out (by kernel_rfl)) (fun _ _ _ h => h) (Or.inl ⟨by rfl, ?_⟩) ?_ ?_
                 rotate_left
                 ·intro w'
                  go_simp
                  with_reducible rfl
                 rotate_left
                 ·simp only [Act.put, List.setIfInBounds_toArray, List.set_cons_zero, List.set_cons_succ, i64_w, i32_w]
                  rfl
                 refine pure_ (i := 30) (N := some 192) (v := ?_) (a' := ?_) #[true, true, true, true, true, true, true, true, true, true, true, true, true, true, true, true, true, true, true, true, true, true, true, true, true, true, true, true, true, true, true, false, false, false, false, false, false, false, false, false, false, false, false, false, false, false, false, false] rfl rfl (any_of HT_.out (by kernel_rfl)) (fun _ _ _ h => h) (Or.inl ⟨by rfl, ?_⟩) ?_ ?_
                 rotate_left
                 ·intro w'
                  go_simp
                  with_reducible rfl
                 rotate_left
                 ·simp only [Act.put, List.setIfInBounds_toArray, List.set_cons_zero, List.set_cons_succ, i64_w, i32_w]
                  rfl
                 refine pure_ (i := 31) (N := some 193) (v := ?_) (a' := ?_) #[true, true, true, true, true, true, true, true, true, true, true, true, true, true, true, true, true, true, true, true, true, true, true, true, true, true, true, true, true, true, true, true, false, false, false, false, false, false, false, false, false, false, false, false, false, false, false, false] rfl rfl (any_of HT_.out (by kernel_rfl)) (fun _ _ _ h => h) (Or.inl ⟨by rfl, ?_⟩) ?_ ?_
                 rotate_left
                 ·intro w'
                  go_simp
                  with_reducible rfl
                 rotate_left
                 ·simp only [Act.put, List.setIfInBounds_toArray, List.set_cons_zero, List.set_cons_succ, i64_w, i32_w]
                  rfl
                 refine pure_ (i := 32) (N := some 194) (v := ?_) (a' := ?_) #[true, true, true, true, true, true, true, true, true, true, true, true, true, true, true, true, true, true, true, true, true, true, true, true, true, true, true, true, true, true, true, true, true, false, false, false, false, false, false, false, false, false, false, false, false, false, false, false] rfl rfl (any_of HT_.out (by kernel_rfl)) (fun _ _ _ h => h) (Or.inl ⟨by rfl, ?_⟩) ?_ ?_
                 rotate_left
                 ·intro w'
                  go_simp
                  with_reducible rfl
                 rotate_left
                 ·simp only [Act.put, List.setIfInBounds_toArray, List.set_cons_zero, List.set_cons_succ, i64_w, i32_w]
                  rfl
                 refine take_ (i := 33) (N := some 195) (v := ?_) (a' := ?_) #[true, true, true, true, true, true, true, true, true, true, true, true, true, true, true, true, true, true, true, true, true, true, true, true, true, true, true, true, true, true, true, true, true, true, false, false, false, false, false, false, false, false, false, false, false, false, false, false] rfl rfl (take_ofW HT_.out HW_.out (by kernel_rfl)) (fun _ _ _ h => h) (Or.inl ⟨by rfl, ?_⟩) hHeld ?_ ?_
                 rotate_left
                 ·rintro w' ⟨s0, s1, s2, s3⟩
                  go_simp
                  with_reducible rfl
                 rotate_left
                 ·simp only [Act.put, List.setIfInBounds_toArray, List.set_cons_zero, List.set_cons_succ, i64_w, i32_w]
                  rfl
                 refine pure_ (i := 34) (N := some 196) (v := ?_) (a' := ?_) #[true, true, true, true, true, true, true, true, true, true, true, true, true, true, true, true, true, true, true, true, true, true, true, true, true, true, true, true, true, true, true, true, true, true, true, false, false, false, false, false, false, false, false, false, false, false, false, false] rfl rfl (any_of HT_.out (by kernel_rfl)) (fun _ _ _ h => h) (Or.inl ⟨by rfl, ?_⟩) ?_ ?_
                 rotate_left
                 ·intro w'
                  go_simp
                  with_reducible rfl
                 rotate_left
                 ·simp only [Act.put, List.setIfInBounds_toArray, List.set_cons_zero, List.set_cons_succ, i64_w, i32_w]
                  rfl
                 refine pure_ (i := 35) (N := some 197) (v := ?_) (a' := ?_) #[true, true, true, true, true, true, true, true, true, true, true, true, true, true, true, true, true, true, true, true, true, true, true, true, true, true, true, true, true, true, true, true, true, true, true, true, false, false, false, false, false, false, false, false, false, false, false, false] rfl rfl (any_of HT_.out (by kernel_rfl)) (fun _ _ _ h => h) (Or.inl ⟨by rfl, ?_⟩) ?_ ?_
                 rotate_left
                 ·intro w'
                  go_simp
                  with_reducible rfl
                 rotate_left
                 ·simp only [Act.put, List.setIfInBounds_toArray, List.set_cons_zero, List.set_cons_succ, i64_w, i32_w]
                  rfl
                 refine pure_ (i := 36) (N := some 198) (v := ?_) (a' := ?_) #[true, true, true, true, true, true, true, true, true, true, true, true, true, true, true, true, true, true, true, true, true, true, true, true, true, true, true, true, true, true, true, true, true, true, true, true, true, false, false, false, false, false, false, false, false, false, false, false] rfl rfl (any_of HT_.out (by kernel_rfl)) (fun _ _ _ h => h) (Or.inl ⟨by rfl, ?_⟩) ?_ ?_
                 rotate_left
                 ·intro w'
                  go_simp
                  with_reducible rfl
                 rotate_left
                 ·simp only [Act.put, List.setIfInBounds_toArray, List.set_cons_zero, List.set_cons_succ, i64_w, i32_w]
                  rfl
                 refine pure_ (i := 37) (N := some 199) (v := ?_) (a' := ?_) #[true, true, true, true, true, true, true, true, true, true, true, true, true, true, true, true, true, true, true, true, true, true, true, true, true, true, true, true, true, true, true, true, true, true, true, true, true, true, false, false, false, false, false, false, false, false, false, false] rfl rfl (any_of HT_.out (by kernel_rfl)) (fun _ _ _ h => h) (Or.inl ⟨by rfl, ?_⟩) ?_ ?_
                 rotate_left
                 ·intro w'
                  go_simp
                  with_reducible rfl
                 rotate_left
                 ·simp only [Act.put, List.setIfInBounds_toArray, List.set_cons_zero, List.set_cons_succ, i64_w, i32_w]
                  rfl
                 refine pure_ (i := 38) (N := some 200) (v := ?_) (a' := ?_) #[true, true, true, true, true, true, true, true, true, true, true, true, true, true, true, true, true, true, true, true, true, true, true, true, true, true, true, true, true, true, true, true, true, true, true, true, true, true, true, false, false, false, false, false, false, false, false, false] rfl rfl (any_of HT_.out (by kernel_rfl)) (fun _ _ _ h => h) (Or.inl ⟨by rfl, ?_⟩) ?_ ?_
                 rotate_left
                 ·intro w'
                  go_simp
                  with_reducible rfl
                 rotate_left
                 ·simp only [Act.put, List.setIfInBounds_toArray, List.set_cons_zero, List.set_cons_succ, i64_w, i32_w]
                  rfl
                 refine take_ (i := 39) (N := some 201) (v := ?_) (a' := ?_) #[true, true, true, true, true, true, true, true, true, true, true, true, true, true, true, true, true, true, true, true, true, true, true, true, true, true, true, true, true, true, true, true, true, true, true, true, true, true, true, true, false, false, false, false, false, false, false, false] rfl rfl (take_ofW HT_.out HW_.out (by kernel_rfl)) (fun _ _ _ h => h) (Or.inl ⟨by rfl, ?_⟩) hHeld ?_ ?_
                 rotate_left
                 ·rintro w' ⟨s0, s1, s2, s3⟩
                  go_simp
                  with_reducible rfl
                 rotate_left
                 ·simp only [Act.put, List.setIfInBounds_toArray, List.set_cons_zero, List.set_cons_succ, i64_w, i32_w]
                  rfl
                 refine pure_ (i := 40) (N := some 202) (v := ?_) (a' := ?_) #[true, true, true, true, true, true, true, true, true, true, true, true, true, true, true, true, true, true, true, true, true, true, true, true, true, true, true, true, true, true, true, true, true, true, true, true, true, true, true, true, true, false, false, false, false, false, false, false] rfl rfl (any_of HT_.out (by kernel_rfl)) (fun _ _ _ h => h) (Or.inl ⟨by rfl, ?_⟩) ?_ ?_
                 rotate_left
                 ·intro w'
                  go_simp
                  with_reducible rfl
                 rotate_left
                 ·simp only [Act.put, List.setIfInBounds_toArray, List.set_cons_zero, List.set_cons_succ, i64_w, i32_w]
                  rfl
                 refine pure_ (i := 41) (N := some 203) (v := ?_) (a' := ?_) #[true, true, true, true, true, true, true, true, true, true, true, true, true, true, true, true, true, true, true, true, true, true, true, true, true, true, true, true, true, true, true, true, true, true, true, true, true, true, true, true, true, true, false, false, false, false, false, false] rfl rfl (any_of HT_.out (by kernel_rfl)) (fun _ _ _ h => h) (Or.inl ⟨by rfl, ?_⟩) ?_ ?_
                 rotate_left
                 ·intro w'
                  go_simp
                  with_reducible rfl
                 rotate_left
                 ·simp only [Act.put, List.setIfInBounds_toArray, List.set_cons_zero, List.set_cons_succ, i64_w, i32_w]
                  rfl
                 refine pure_ (i := 42) (N := some 204) (v := ?_) (a' := ?_) #[true, true, true, true, true, true, true, true, true, true, true, true, true, true, true, true, true, true, true, true, true, true, true, true, true, true, true, true, true, true, true, true, true, true, true, true, true, true, true, true, true, true, true, false, false, false, false, false] rfl rfl (any_of HT_.out (by kernel_rfl)) (fun _ _ _ h => h) (Or.inl ⟨by rfl, ?_⟩) ?_ ?_
                 rotate_left
                 ·intro w'
                  go_simp
                  with_reducible rfl
                 rotate_left
                 ·simp only [Act.put, List.setIfInBounds_toArray, List.set_cons_zero, List.set_cons_succ, i64_w, i32_w]
                  rfl
                 refine pure_ (i := 43) (N := some 205) (v := ?_) (a' := ?_) #[true, true, true, true, true, true, true, true, true, true, true, true, true, true, true, true, true, true, true, true, true, true, true, true, true, true, true, true, true, true, true, true, true, true, true, true, true, true, true, true, true, true, true, true, false, false, false, false] rfl rfl (any_of HT_.out (by kernel_rfl)) (fun _ _ _ h => h) (Or.inl ⟨by rfl, ?_⟩) ?_ ?_
                 rotate_left
                 ·intro w'
                  go_simp
                  with_reducible rfl
                 rotate_left
                 ·simp only [Act.put, List.setIfInBounds_toArray, List.set_cons_zero, List.set_cons_succ, i64_w, i32_w]
                  rfl
                 refine pure_ (i := 44) (N := some 206) (v := ?_) (a' := ?_) #[true, true, true, true, true, true, true, true, true, true, true, true, true, true, true, true, true, true, true, true, true, true, true, true, true, true, true, true, true, true, true, true, true, true, true, true, true, true, true, true, true, true, true, true, true, false, false, false] rfl rfl (any_of HT_.out (by kernel_rfl)) (fun _ _ _ h => h) (Or.inl ⟨by rfl, ?_⟩) ?_ ?_
                 rotate_left
                 ·intro w'
                  go_simp
                  with_reducible rfl
                 rotate_left
                 ·simp only [Act.put, List.setIfInBounds_toArray, List.set_cons_zero, List.set_cons_succ, i64_w, i32_w]
                  rfl
                 refine take_ (i := 45) (N := some 207) (v := ?_) (a' := ?_) #[true, true, true, true, true, true, true, true, true, true, true, true, true, true, true, true, true, true, true, true, true, true, true, true, true, true, true, true, true, true, true, true, true, true, true, true, true, true, true, true, true, true, true, true, true, true, false, false] rfl rfl (take_ofW HT_.out HW_.out (by kernel_rfl)) (fun _ _ _ h => h) (Or.inl ⟨by rfl, ?_⟩) hHeld ?_ ?_
                 rotate_left
                 ·rintro w' ⟨s0, s1, s2, s3⟩
                  go_simp
                  with_reducible rfl
                 rotate_left
                 ·simp only [Act.put, List.setIfInBounds_toArray, List.set_cons_zero, List.set_cons_succ, i64_w, i32_w]
                  rfl
                 refine pure_ (i := 46) (N := some 208) (v := ?_) (a' := ?_) #[true, true, true, true, true, true, true, true, true, true, true, true, true, true, true, true, true, true, true, true, true, true, true, true, true, true, true, true, true, true, true, true, true, true, true, true, true, true, true, true, true, true, true, true, true, true, true, false] rfl rfl (any_of HT_.out (by kernel_rfl)) (fun _ _ _ h => h) (Or.inl ⟨by rfl, ?_⟩) ?_ ?_
                 rotate_left
                 ·intro w'
                  go_simp
                  with_reducible rfl
                 rotate_left
                 ·simp only [Act.put, List.setIfInBounds_toArray, List.set_cons_zero, List.set_cons_succ, i64_w, i32_w]
                  rfl
                 refine pure_ (i := 47) (N := some 209) (v := ?_) (a' := ?_) #[true, true, true, true, true, true, true, true, true, true, true, true, true, true, true, true, true, true, true, true, true, true, true, true, true, true, true, true, true, true, true, true, true, true, true, true, true, true, true, true, true, true, true, true, true, true, true, true] rfl rfl (any_of HT_.out (by kernel_rfl)) (fun _ _ _ h => h) (Or.inl ⟨by rfl, ?_⟩) ?_ ?_
                 rotate_left
                 ·intro w'
                  go_simp
                  with_reducible rfl
                 rotate_left
                 ·simp only [Act.put, List.setIfInBounds_toArray, List.set_cons_zero, List.set_cons_succ, i64_w, i32_w]
                  rfl
                 refine done_ (done_of HT_.out (by kernel_rfl)) ?_
                 try go_wp2
                 go_roundg k1
                 case measure => have := HK1.out; omega
                 case rel => exact ⟨(wrap64 (x112_1 + 1)), (by first | rfl | (simp; done) | (simp [*]; done)), H', ⟨by have := HK1.out; omega⟩, ⟨by (with_reducible repeat (first | apply Kd.N_alloc | apply Kd.N_drewN | apply Kd.N_drew)); exact Kd.N_mono HO_110.out (fun _ hk => trivial)⟩, ⟨by repeat (first | (with_reducible first | exact HB.out | apply below_alloc | apply pw_below_drewN | apply below_drew1 | refine below_set ?_ GE277.out) | exact HB.out)⟩⟩
                ·rw [if_neg c57] at H
                 exact absurd (Option.some.inj H) (by rw [hrt]; exact Bool.false_ne_true)
               ·rw [if_neg c56] at H
                exact absurd (Option.some.inj H) (by rw [hrt]; exact Bool.false_ne_true)
              ·rw [if_neg c55] at H
               exact absurd (Option.some.inj H) (by rw [hrt]; exact Bool.false_ne_true)
             ·rw [if_neg c54] at H
              exact absurd (Option.some.inj H) (by rw [hrt]; exact Bool.false_ne_true)
            ·rw [if_neg c53] at H
             exact absurd (Option.some.inj H) (by rw [hrt]; exact Bool.false_ne_true)
           ·rw [if_neg c52] at H
            exact absurd (Option.some.inj H) (by rw [hrt]; exact Bool.false_ne_true)
          ·rw [if_neg c51] at H
           exact absurd (Option.some.inj H) (by rw [hrt]; exact Bool.false_ne_true)
         ·rw [if_neg c50] at H
          exact absurd (Option.some.inj H) (by rw [hrt]; exact Bool.false_ne_true)
        ·rw [if_neg c43] at H
         exact absurd H (by simp)
       ·rw [if_neg c40] at H
        exact absurd H (by simp)
      ·rw [if_neg c39] at H
       exact absurd H (by simp)
     ·clear H
      go_upto_region 16 with (fail)
      rename_i hK
      exact exB w r hrt k1 y273 x112_1 c38 HL0 HO_110 HB _ (by rfl) _ _ (by rfl) _ hK
  ·rw [if_neg c3] at H
   exact absurd H (by simp)
 ·replace c2 := Bool.eq_false_iff.mpr c2
  subst c2
  have H1 : (some false) = some r := by rw [if_neg (show ¬ (false = true) by decide)] at H; exact H
  clear H
  have H := H1
  clear H1
  exact absurd (Option.some.inj H) (by rw [hrt]; exact Bool.false_ne_true)
def mE.Pure : Prop := ∃ k, mE.f k  = some true
theorem mE.walk (P : mE.Pure)  (w : World)  :
  Calls Try.prog 11 #[] w fun e w' => e = .returned (.bool true) ∧ Below w.heap.size w w' := by
 obtain ⟨k, h⟩ := P  
 refine (mE.calls k true w h rfl).mono ?_
 rintro e w' ⟨rfl, hd⟩
 exact ⟨rfl, hd⟩
end Go.Proofs.Ytlleokhmgblfnaa.M
end
