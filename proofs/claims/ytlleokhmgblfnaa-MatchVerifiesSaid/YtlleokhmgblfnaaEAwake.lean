/- toruslaw30.awake answers true. -/
import Derived.Test.YtlleokhmgblfnaaMx0
import Derived.Test.YtlleokhmgblfnaaMx5
import Derived.Test.YtlleokhmgblfnaaMx6
import Derived.Test.YtlleokhmgblfnaaECheck
set_option linter.unusedVariables false
set_option linter.unusedSimpArgs false
namespace Go.Proofs.Ytlleokhmgblfnaa.M
open Go.RowKit Go.Proofs.YtlleokhmgblfnaaW.PrintWords
theorem aw_max : match_Maximum.f 60 2 2 [⟨0, 0⟩, ⟨0, 1⟩, ⟨1, 0⟩] = some ([1, 0], 0) := by decide +kernel
theorem aw_size : match_Size.f 60 3 2 [⟨0, 0⟩, ⟨1, 0⟩, ⟨2, 1⟩] = some (2, 0) := by decide +kernel
theorem aw_hall : match_Hall.f 60 3 2 [⟨0, 0⟩, ⟨1, 0⟩, ⟨2, 1⟩] = some ([0, 1], [0], 0) := by decide +kernel
theorem aw_cover : match_Cover.f 60 3 2 [⟨0, 0⟩, ⟨1, 0⟩, ⟨2, 1⟩] = some ([2], [0], 0) := by decide +kernel
theorem aw_ex : toruslaw30_ex.f = some (3, 2, [⟨0, 0⟩, ⟨1, 0⟩, ⟨2, 1⟩]) := rfl
theorem aw_s1 : torusref01_Same.f 60 [1, 0] [1, 0] = some true := by decide +kernel
theorem aw_s2 : torusref01_Same.f 60 [0, 1] [0, 1] = some true := by decide +kernel
theorem aw_s3 : torusref01_Same.f 60 [0] [0] = some true := by decide +kernel
theorem aw_s4 : torusref01_Same.f 60 [2] [2] = some true := by decide +kernel
theorem C_E3 {W : World} {g : Nat} (a b c : S40) (h : W.heap[g]? = some (.cells #[.int .i64 a.f0, .int .i64 a.f1, .int .i64 b.f0, .int .i64 b.f1, .int .i64 c.f0, .int .i64 c.f1] 40 (0, 0))) : Kd.C k40 W (some ⟨g, 0, none⟩) ([a, b, c] : List S40).length [a, b, c] := by
  refine ⟨rfl, by simp, fun _ => ⟨_, rfl, fun j p hp => ?_⟩⟩
  match j, hp with
  | 0, hp =>
    cases hp
    refine ⟨_, rfl, k40_mk W a, fun i u hu => ?_⟩
    rw [add_plain, blk_cell h]
    match i, hu with
    | 0, hu => exact hu
    | 1, hu => exact hu
  | 1, hp =>
    cases hp
    refine ⟨_, rfl, k40_mk W b, fun i u hu => ?_⟩
    rw [add_plain, blk_cell h]
    match i, hu with
    | 0, hu => exact hu
    | 1, hu => exact hu
  | 2, hp =>
    cases hp
    refine ⟨_, rfl, k40_mk W c, fun i u hu => ?_⟩
    rw [add_plain, blk_cell h]
    match i, hu with
    | 0, hu => exact hu
    | 1, hu => exact hu
theorem aw_hold {w W w1 : World} (hb : Below w.heap.size w W) (o : Obj) (h : Below (W.alloc o).heap.size (W.alloc o) w1) : Below w.heap.size w w1 := below_step (below_alloc hb o) h
set_option maxHeartbeats 1000000 in
set_option maxRecDepth 100000 in
theorem awake_calls (w : World) : Calls Try.prog 16 #[] w fun e w' => e = .returned (.bool true) ∧ Below w.heap.size w w' := by
  go_enter Try.func16, Try.ntmps16
  go_wp2_with fail
  refine (match_Maximum.calls 60 2 2 _ _ [⟨0, 0⟩, ⟨0, 1⟩, ⟨1, 0⟩] [1, 0] 0 _ (C_E3 ⟨0, 0⟩ ⟨0, 1⟩ ⟨1, 0⟩ (blk_new _ _)) (Nat.le_refl _) aw_max).mono ?_
  rintro e w1 ⟨v0, rfl, hr0, hb⟩
  have HB1 := Aside0.mk (below_step (below_alloc (Below.refl w.heap.size w) _) hb)
  obtain ⟨A0, c0, rfl, hl0, hC0⟩ := Kd.R_reads hr0
  have HC0 := Aside0.mk hC0
  have HL0 := Aside0.mk hl0
  clear hb hr0 hC0 hl0
  go_wp2_with fail
  refine (toruslaw30_ex.calls 3 2 _ _ aw_ex).mono ?_
  rintro e w2 ⟨v1, rfl, hr1, hb⟩
  obtain ⟨A1, c1, rfl, hl1, hC1⟩ := Kd.R_reads hr1
  have HB2 := Aside0.mk (below_step HB1.out hb)
  replace HC0 := Aside0.mk (Kd.C_below HC0.out hb)
  have HC1 := Aside0.mk hC1
  have HL1 := Aside0.mk hl1
  clear hb hr1 hC1 hl1 HB1
  go_wp2_with fail
  refine (match_Size.calls 60 3 2 _ _ _ 2 0 _ HC1.out HL1.out aw_size).mono ?_
  rintro e w3 ⟨rfl, hb⟩
  have HB3 := Aside0.mk (below_step HB2.out hb)
  replace HC0 := Aside0.mk (Kd.C_below HC0.out hb)
  clear hb HB2 HC1 HL1
  go_wp2_with fail
  refine (toruslaw30_ex.calls 3 2 _ _ aw_ex).mono ?_
  rintro e w4 ⟨v2, rfl, hr1, hb⟩
  obtain ⟨A2, c2, rfl, hl1, hC1⟩ := Kd.R_reads hr1
  have HB4 := Aside0.mk (below_step HB3.out hb)
  replace HC0 := Aside0.mk (Kd.C_below HC0.out hb)
  have HC2 := Aside0.mk hC1
  have HL2 := Aside0.mk hl1
  clear hb hr1 hC1 hl1 HB3
  go_wp2_with fail
  refine (match_Hall.calls 60 3 2 _ _ _ [0, 1] [0] 0 _ HC2.out HL2.out aw_hall).mono ?_
  rintro e w5 ⟨v3, v4, rfl, hr3, hr4, hb⟩
  obtain ⟨A3, c3, rfl, hl3, hC3⟩ := Kd.R_reads hr3
  obtain ⟨A4, c4, rfl, hl4, hC4⟩ := Kd.R_reads hr4
  have HB5 := Aside0.mk (below_step HB4.out hb)
  replace HC0 := Aside0.mk (Kd.C_below HC0.out hb)
  have HC3 := Aside0.mk hC3
  have HC4 := Aside0.mk hC4
  have HL3 := Aside0.mk hl3
  have HL4 := Aside0.mk hl4
  clear hb hr3 hr4 hC3 hC4 hl3 hl4 HB4 HC2 HL2
  go_wp2_with fail
  refine (toruslaw30_ex.calls 3 2 _ _ aw_ex).mono ?_
  rintro e w6 ⟨v5, rfl, hr1, hb⟩
  obtain ⟨A5, c5, rfl, hl1, hC1⟩ := Kd.R_reads hr1
  have HB6 := Aside0.mk (below_step HB5.out hb)
  replace HC0 := Aside0.mk (Kd.C_below HC0.out hb)
  replace HC3 := Aside0.mk (Kd.C_below HC3.out hb)
  replace HC4 := Aside0.mk (Kd.C_below HC4.out hb)
  have HC5 := Aside0.mk hC1
  have HL5 := Aside0.mk hl1
  clear hb hr1 hC1 hl1 HB5
  go_wp2_with fail
  refine (match_Cover.calls 60 3 2 _ _ _ [2] [0] 0 _ HC5.out HL5.out aw_cover).mono ?_
  rintro e w7 ⟨v6, v7, rfl, hr3, hr4, hb⟩
  obtain ⟨A6, c6, rfl, hl3, hC3⟩ := Kd.R_reads hr3
  obtain ⟨A7, c7, rfl, hl4, hC4⟩ := Kd.R_reads hr4
  have HB7 := Aside0.mk (below_step HB6.out hb)
  replace HC0 := Aside0.mk (Kd.C_below HC0.out hb)
  replace HC3 := Aside0.mk (Kd.C_below HC3.out hb)
  replace HC4 := Aside0.mk (Kd.C_below HC4.out hb)
  have HC6 := Aside0.mk hC3
  have HC7 := Aside0.mk hC4
  have HL6 := Aside0.mk hl3
  have HL7 := Aside0.mk hl4
  clear hb hr3 hr4 hC3 hC4 hl3 hl4 HB6 HC5 HL5
  go_wp2_with fail
  refine (torusref01_Same.calls 60 _ _ [1, 0] _ _ [1, 0] true _ (Kd.C_alloc HC0.out _) HL0.out (H.Row.reads (xs := [1, 0]) (blk_new _ _) (by decide)) (Nat.le_refl _) aw_s1).mono ?_
  rintro e w8 ⟨rfl, hd⟩
  have hb := hd.below
  have HB8 := Aside0.mk (aw_hold HB7.out _ hb)
  replace HC3 := Aside0.mk (Kd.C_below (Kd.C_alloc HC3.out _) hb)
  replace HC4 := Aside0.mk (Kd.C_below (Kd.C_alloc HC4.out _) hb)
  replace HC6 := Aside0.mk (Kd.C_below (Kd.C_alloc HC6.out _) hb)
  replace HC7 := Aside0.mk (Kd.C_below (Kd.C_alloc HC7.out _) hb)
  clear hb hd HB7 HC0 HL0
  go_wp2_with fail
  refine (torusref01_Same.calls 60 _ _ [0, 1] _ _ [0, 1] true _ (Kd.C_alloc HC3.out _) HL3.out (H.Row.reads (xs := [0, 1]) (blk_new _ _) (by decide)) (Nat.le_refl _) aw_s2).mono ?_
  rintro e w9 ⟨rfl, hd⟩
  have hb := hd.below
  have HB9 := Aside0.mk (aw_hold HB8.out _ hb)
  replace HC4 := Aside0.mk (Kd.C_below (Kd.C_alloc HC4.out _) hb)
  replace HC6 := Aside0.mk (Kd.C_below (Kd.C_alloc HC6.out _) hb)
  replace HC7 := Aside0.mk (Kd.C_below (Kd.C_alloc HC7.out _) hb)
  clear hb hd HB8 HC3 HL3
  go_wp2_with fail
  refine (torusref01_Same.calls 60 _ _ [0] _ _ [0] true _ (Kd.C_alloc HC4.out _) HL4.out (H.Row.reads (xs := [0]) (blk_new _ _) (by decide)) (Nat.le_refl _) aw_s3).mono ?_
  rintro e w10 ⟨rfl, hd⟩
  have hb := hd.below
  have HB10 := Aside0.mk (aw_hold HB9.out _ hb)
  replace HC6 := Aside0.mk (Kd.C_below (Kd.C_alloc HC6.out _) hb)
  replace HC7 := Aside0.mk (Kd.C_below (Kd.C_alloc HC7.out _) hb)
  clear hb hd HB9 HC4 HL4
  go_wp2_with fail
  refine (torusref01_Same.calls 60 _ _ [2] _ _ [2] true _ (Kd.C_alloc HC6.out _) HL6.out (H.Row.reads (xs := [2]) (blk_new _ _) (by decide)) (Nat.le_refl _) aw_s4).mono ?_
  rintro e w11 ⟨rfl, hd⟩
  have hb := hd.below
  have HB11 := Aside0.mk (aw_hold HB10.out _ hb)
  replace HC7 := Aside0.mk (Kd.C_below (Kd.C_alloc HC7.out _) hb)
  clear hb hd HB10 HC6 HL6
  go_wp2_with fail
  refine (torusref01_Same.calls 60 _ _ [0] _ _ [0] true _ (Kd.C_alloc HC7.out _) HL7.out (H.Row.reads (xs := [0]) (blk_new _ _) (by decide)) (Nat.le_refl _) aw_s3).mono ?_
  rintro e w12 ⟨rfl, hd⟩
  have hb := hd.below
  have HB12 := Aside0.mk (aw_hold HB11.out _ hb)
  clear hb hd HB11 HC7 HL7
  go_wp2_with fail
  go_ret
  exact ⟨rfl, HB12.out⟩
def toruslaw30_awake.f : Option Bool := some true
theorem toruslaw30_awake.calls (r : Bool) (w : World) (h : toruslaw30_awake.f = some r) : Calls Try.prog 16 #[] w fun e w' => e = .returned (.bool r) ∧ Below w.heap.size w w' := by
  cases h
  exact awake_calls w
end Go.Proofs.Ytlleokhmgblfnaa.M
