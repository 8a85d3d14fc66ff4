/- toruslaw04.awake answers true. -/
import Derived.Test.YtojnnfhalpefmaaMx20
import Derived.Test.YtojnnfhalpefmaaMx4
import Derived.Test.YtojnnfhalpefmaaMx5
set_option linter.unusedVariables false
set_option linter.unusedSimpArgs false
namespace Go.Proofs.Ytojnnfhalpefmaa.M
open Go.RowKit Go.Proofs.YtojnnfhalpefmaaW.PrintWords
instance : DecidableEq S45 := fun a b => match a, b with
  | ⟨a0, a1⟩, ⟨b0, b1⟩ => if h : a0 = b0 ∧ a1 = b1 then isTrue (by obtain ⟨rfl, rfl⟩ := h; rfl) else isFalse (fun e => h (by cases e; exact ⟨rfl, rfl⟩))
theorem aw_add : column_Add.f 60 5 [⟨0, 2⟩, ⟨3, 1⟩] 3 [⟨3, 3⟩, ⟨4, 4⟩] = some ([⟨0, 2⟩, ⟨4, 2⟩], 0) := by decide +kernel
theorem aw_dot : column_Dot.f 60 5 [⟨0, 2⟩, ⟨3, 1⟩] [⟨3, 3⟩, ⟨4, 4⟩] = some (3, 0) := by decide +kernel
theorem aw_rest : column_Rest.f 60 5 [[⟨0, 2⟩, ⟨3, 1⟩], [⟨3, 3⟩, ⟨4, 4⟩]] [⟨4, 1⟩] = some ([⟨0, 4⟩], [⟨0, 3⟩, ⟨1, 4⟩], 0) := by decide +kernel
theorem aw_ker : column_Kernel.f 60 5 [[⟨0, 2⟩, ⟨3, 1⟩], [⟨0, 4⟩, ⟨3, 2⟩]] = some ([[⟨0, 3⟩, ⟨1, 1⟩]], 0) := by decide +kernel
theorem aw_is1 : toruslaw04_is.f 60 [⟨0, 2⟩, ⟨4, 2⟩] 0 [⟨0, 2⟩, ⟨4, 2⟩] = some true := by decide +kernel
theorem aw_is2 : toruslaw04_is.f 60 [⟨0, 4⟩] 0 [⟨0, 4⟩] = some true := by decide +kernel
theorem aw_same : torusref04_Same.f 60 [⟨0, 3⟩, ⟨1, 4⟩] [⟨0, 3⟩, ⟨1, 4⟩] = some true := by decide +kernel
theorem aw_is3 : toruslaw04_is.f 60 [⟨0, 3⟩, ⟨1, 1⟩] 0 [⟨0, 3⟩, ⟨1, 1⟩] = some true := by decide +kernel
theorem aw_exA : toruslaw04_exA.f = some [⟨0, 2⟩, ⟨3, 1⟩] := rfl
theorem aw_exB : toruslaw04_exB.f = some [⟨3, 3⟩, ⟨4, 4⟩] := rfl
theorem C_T1 {W : World} {g : Nat} (a : S45) (h : W.heap[g]? = some (.cells #[.int .i64 a.f0, .int .i64 a.f1] 45 (0, 0))) : Kd.C k45 W (some ⟨g, 0, none⟩) ([a] : List S45).length [a] := by
  refine ⟨rfl, by simp, fun _ => ⟨_, rfl, fun j p hp => ?_⟩⟩
  match j, hp with
  | 0, hp =>
    cases hp
    refine ⟨_, rfl, k45_mk W a, fun i u hu => ?_⟩
    rw [add_plain, blk_cell h]
    match i, hu with
    | 0, hu => exact hu
    | 1, hu => exact hu
theorem C_T2 {W : World} {g : Nat} (a b : S45) (h : W.heap[g]? = some (.cells #[.int .i64 a.f0, .int .i64 a.f1, .int .i64 b.f0, .int .i64 b.f1] 45 (0, 0))) : Kd.C k45 W (some ⟨g, 0, none⟩) ([a, b] : List S45).length [a, b] := by
  refine ⟨rfl, by simp, fun _ => ⟨_, rfl, fun j p hp => ?_⟩⟩
  match j, hp with
  | 0, hp =>
    cases hp
    refine ⟨_, rfl, k45_mk W a, fun i u hu => ?_⟩
    rw [add_plain, blk_cell h]
    match i, hu with
    | 0, hu => exact hu
    | 1, hu => exact hu
  | 1, hp =>
    cases hp
    refine ⟨_, rfl, k45_mk W b, fun i u hu => ?_⟩
    rw [add_plain, blk_cell h]
    match i, hu with
    | 0, hu => exact hu
    | 1, hu => exact hu
theorem C_L2 {W : World} {g : Nat} {A B : Option Addr} {ca cb : Nat} {a b : List S45} (la : a.length ≤ ca) (lb : b.length ≤ cb) (hA : Kd.C k45 W A a.length a) (hB : Kd.C k45 W B b.length b)
    (h : W.heap[g]? = some (.cells #[.slice A a.length ca, .slice B b.length cb] 22 (0, 0))) : Kd.C (Kd.slice 45 k45) W (some ⟨g, 0, none⟩) ([a, b] : List (List S45)).length [a, b] := by
  refine ⟨rfl, by simp, fun _ => ⟨_, rfl, fun j p hp => ?_⟩⟩
  match j, hp with
  | 0, hp =>
    cases hp
    refine ⟨_, rfl, ⟨A, ca, rfl, la, hA⟩, fun i u hu => ?_⟩
    rw [add_plain, blk_cell h]
    match i, hu with
    | 0, hu => exact hu
  | 1, hp =>
    cases hp
    refine ⟨_, rfl, ⟨B, cb, rfl, lb, hB⟩, fun i u hu => ?_⟩
    rw [add_plain, blk_cell h]
    match i, hu with
    | 0, hu => exact hu
theorem blk_new2 (w : World) (o o' : Obj) : ((w.alloc o).alloc o').heap[w.heap.size + 1]? = some o' := by
  have h := blk_new (w.alloc o) o'
  rwa [World.size_alloc] at h
theorem V_of_C {W : World} {A : Option Addr} {c : Nat} {l : List S45} (hc : l.length ≤ c) (h : Kd.C k45 W A l.length l) : Kd.V k45 45 W W.heap.size (fun k_ => k_ < W.heap.size) (.slice A l.length c) l := Kd.V_mk hc (Kd.C_F k45_heap h)
theorem aw_hold {w W w1 : World} (hb : Below w.heap.size w W) (o : Obj) (h : Below (W.alloc o).heap.size (W.alloc o) w1) : Below w.heap.size w w1 := below_step (below_alloc hb o) h
set_option maxHeartbeats 1000000 in
set_option maxRecDepth 100000 in
theorem awake_calls (w : World) : Calls Try.prog 19 #[] w fun e w' => e = .returned (.bool true) ∧ Below w.heap.size w w' := by
  go_enter Try.func19, Try.ntmps19
  have HB := Aside0.mk (Below.refl w.heap.size w)
  go_wp2_with fail
  refine (toruslaw04_exA.calls _ _ aw_exA).mono ?_
  rintro e w_ ⟨v_, rfl, hr, hb⟩
  replace HB := Aside0.mk (below_step (HB.out) hb)
  obtain ⟨A1, c1, rfl, hl, hC⟩ := Kd.R_reads hr
  have HC1 := Aside0.mk hC
  have HL1 := Aside0.mk hl
  clear hl hC hr
  clear hb
  go_wp2_with fail
  refine (toruslaw04_exB.calls _ _ aw_exB).mono ?_
  rintro e w_ ⟨v_, rfl, hr, hb⟩
  replace HB := Aside0.mk (below_step (HB.out) hb)
  replace HC1 := Aside0.mk (Kd.C_below (HC1.out) hb)
  obtain ⟨A2, c2, rfl, hl, hC⟩ := Kd.R_reads hr
  have HC2 := Aside0.mk hC
  have HL2 := Aside0.mk hl
  clear hl hC hr
  clear hb
  go_wp2_with fail
  refine (column_Add.calls 60 5 _ _ _ [⟨0, 2⟩, ⟨3, 1⟩] 3 _ _ _ [⟨3, 3⟩, ⟨4, 4⟩] [⟨0, 2⟩, ⟨4, 2⟩] 0 _ (V_of_C HL1.out HC1.out) (V_of_C HL2.out HC2.out) aw_add).mono ?_
  rintro e w_ ⟨v_, rfl, hr, hb⟩
  clear HC1 HL1
  clear HC2 HL2
  replace HB := Aside0.mk (below_step (HB.out) hb)
  obtain ⟨Aa, ca, rfl, hl, hC⟩ := Kd.R_reads hr
  have HCa := Aside0.mk hC
  have HLa := Aside0.mk hl
  clear hl hC hr
  clear hb
  go_wp2_with fail
  refine (toruslaw04_exA.calls _ _ aw_exA).mono ?_
  rintro e w_ ⟨v_, rfl, hr, hb⟩
  replace HB := Aside0.mk (below_step (HB.out) hb)
  replace HCa := Aside0.mk (Kd.C_below (HCa.out) hb)
  obtain ⟨A1, c1, rfl, hl, hC⟩ := Kd.R_reads hr
  have HC1 := Aside0.mk hC
  have HL1 := Aside0.mk hl
  clear hl hC hr
  clear hb
  go_wp2_with fail
  refine (toruslaw04_exB.calls _ _ aw_exB).mono ?_
  rintro e w_ ⟨v_, rfl, hr, hb⟩
  replace HB := Aside0.mk (below_step (HB.out) hb)
  replace HCa := Aside0.mk (Kd.C_below (HCa.out) hb)
  replace HC1 := Aside0.mk (Kd.C_below (HC1.out) hb)
  obtain ⟨A2, c2, rfl, hl, hC⟩ := Kd.R_reads hr
  have HC2 := Aside0.mk hC
  have HL2 := Aside0.mk hl
  clear hl hC hr
  clear hb
  go_wp2_with fail
  refine (column_Dot.calls 60 5 _ _ [⟨0, 2⟩, ⟨3, 1⟩] _ _ [⟨3, 3⟩, ⟨4, 4⟩] 3 0 _ HC1.out HL1.out HC2.out HL2.out aw_dot).mono ?_
  rintro e w_ ⟨rfl, hb⟩
  clear HC1 HL1
  clear HC2 HL2
  replace HB := Aside0.mk (below_step (HB.out) hb)
  replace HCa := Aside0.mk (Kd.C_below (HCa.out) hb)
  clear hb
  go_wp2_with fail
  refine (toruslaw04_exA.calls _ _ aw_exA).mono ?_
  rintro e w_ ⟨v_, rfl, hr, hb⟩
  replace HB := Aside0.mk (below_step (HB.out) hb)
  replace HCa := Aside0.mk (Kd.C_below (HCa.out) hb)
  obtain ⟨A1, c1, rfl, hl, hC⟩ := Kd.R_reads hr
  have HC1 := Aside0.mk hC
  have HL1 := Aside0.mk hl
  clear hl hC hr
  clear hb
  go_wp2_with fail
  refine (toruslaw04_exB.calls _ _ aw_exB).mono ?_
  rintro e w_ ⟨v_, rfl, hr, hb⟩
  replace HB := Aside0.mk (below_step (HB.out) hb)
  replace HCa := Aside0.mk (Kd.C_below (HCa.out) hb)
  replace HC1 := Aside0.mk (Kd.C_below (HC1.out) hb)
  obtain ⟨A2, c2, rfl, hl, hC⟩ := Kd.R_reads hr
  have HC2 := Aside0.mk hC
  have HL2 := Aside0.mk hl
  clear hl hC hr
  clear hb
  go_wp2_with fail
  refine (column_Rest.calls 60 5 _ _ [[⟨0, 2⟩, ⟨3, 1⟩], [⟨3, 3⟩, ⟨4, 4⟩]] _ _ [⟨4, 1⟩] [⟨0, 4⟩] [⟨0, 3⟩, ⟨1, 4⟩] 0 _ (Kd.C_alloc (C_L2 HL1.out HL2.out (Kd.C_alloc HC1.out _) (Kd.C_alloc HC2.out _) (blk_new _ _)) _) (Nat.le_refl _) (C_T1 ⟨4, 1⟩ (blk_new2 _ _ _)) (Nat.le_refl _) aw_rest).mono ?_
  rintro e w_ ⟨v1_, v2_, rfl, hr1, hr2, hb⟩
  clear HC1 HL1
  clear HC2 HL2
  replace HB := Aside0.mk (below_step (below_alloc (below_alloc (HB.out) _) _) hb)
  replace HCa := Aside0.mk (Kd.C_below (Kd.C_alloc (Kd.C_alloc (HCa.out) _) _) hb)
  obtain ⟨Ar, cr, rfl, hl, hC⟩ := Kd.R_reads hr1
  have HCr := Aside0.mk hC
  have HLr := Aside0.mk hl
  clear hl hC hr1
  obtain ⟨Au, cu, rfl, hl, hC⟩ := Kd.R_reads hr2
  have HCu := Aside0.mk hC
  have HLu := Aside0.mk hl
  clear hl hC hr2
  clear hb
  go_wp2_with fail
  refine (toruslaw04_exA.calls _ _ aw_exA).mono ?_
  rintro e w_ ⟨v_, rfl, hr, hb⟩
  replace HB := Aside0.mk (below_step (HB.out) hb)
  replace HCa := Aside0.mk (Kd.C_below (HCa.out) hb)
  replace HCr := Aside0.mk (Kd.C_below (HCr.out) hb)
  replace HCu := Aside0.mk (Kd.C_below (HCu.out) hb)
  obtain ⟨A1, c1, rfl, hl, hC⟩ := Kd.R_reads hr
  have HC1 := Aside0.mk hC
  have HL1 := Aside0.mk hl
  clear hl hC hr
  clear hb
  go_wp2_with fail
  refine (column_Kernel.calls 60 5 _ _ [[⟨0, 2⟩, ⟨3, 1⟩], [⟨0, 4⟩, ⟨3, 2⟩]] [[⟨0, 3⟩, ⟨1, 1⟩]] 0 _ (C_L2 HL1.out (Nat.le_refl 2) (Kd.C_alloc (Kd.C_alloc HC1.out _) _) (Kd.C_alloc (C_T2 ⟨0, 4⟩ ⟨3, 2⟩ (blk_new _ _)) _) (blk_new2 _ _ _)) (Nat.le_refl _) aw_ker).mono ?_
  rintro e w_ ⟨v_, rfl, hr, hb⟩
  clear HC1 HL1
  replace HB := Aside0.mk (below_step (below_alloc (below_alloc (HB.out) _) _) hb)
  replace HCa := Aside0.mk (Kd.C_below (Kd.C_alloc (Kd.C_alloc (HCa.out) _) _) hb)
  replace HCr := Aside0.mk (Kd.C_below (Kd.C_alloc (Kd.C_alloc (HCr.out) _) _) hb)
  replace HCu := Aside0.mk (Kd.C_below (Kd.C_alloc (Kd.C_alloc (HCu.out) _) _) hb)
  obtain ⟨Ak, ck, rfl, hl, hC⟩ := Kd.S_reads hr
  have HCk := Aside0.mk hC
  have HLk := Aside0.mk hl
  clear hl hC hr
  clear hb
  go_wp2_with fail
  refine (toruslaw04_is.calls 60 _ _ [⟨0, 2⟩, ⟨4, 2⟩] 0 _ _ [⟨0, 2⟩, ⟨4, 2⟩] true _ (Kd.C_alloc HCa.out _) HLa.out (C_T2 ⟨0, 2⟩ ⟨4, 2⟩ (blk_new _ _)) (Nat.le_refl _) aw_is1).mono ?_
  rintro e w_ ⟨rfl, hd⟩; have hb := hd.below; clear hd
  clear HCa HLa
  replace HB := Aside0.mk (below_step (below_alloc (HB.out) _) hb)
  replace HCr := Aside0.mk (Kd.C_below (Kd.C_alloc (HCr.out) _) hb)
  replace HCu := Aside0.mk (Kd.C_below (Kd.C_alloc (HCu.out) _) hb)
  replace HCk := Aside0.mk (Kd.C_below (Kd.C_alloc (HCk.out) _) hb)
  clear hb
  go_wp2_with fail
  refine (toruslaw04_is.calls 60 _ _ [⟨0, 4⟩] 0 _ _ [⟨0, 4⟩] true _ (Kd.C_alloc HCr.out _) HLr.out (C_T1 ⟨0, 4⟩ (blk_new _ _)) (Nat.le_refl _) aw_is2).mono ?_
  rintro e w_ ⟨rfl, hd⟩; have hb := hd.below; clear hd
  clear HCr HLr
  replace HB := Aside0.mk (below_step (below_alloc (HB.out) _) hb)
  replace HCu := Aside0.mk (Kd.C_below (Kd.C_alloc (HCu.out) _) hb)
  replace HCk := Aside0.mk (Kd.C_below (Kd.C_alloc (HCk.out) _) hb)
  clear hb
  go_wp2_with fail
  refine (torusref04_Same.calls 60 _ _ [⟨0, 3⟩, ⟨1, 4⟩] _ _ [⟨0, 3⟩, ⟨1, 4⟩] true _ (Kd.C_alloc HCu.out _) HLu.out (C_T2 ⟨0, 3⟩ ⟨1, 4⟩ (blk_new _ _)) (Nat.le_refl _) aw_same).mono ?_
  rintro e w_ ⟨rfl, hd⟩; have hb := hd.below; clear hd
  clear HCu HLu
  replace HB := Aside0.mk (below_step (below_alloc (HB.out) _) hb)
  replace HCk := Aside0.mk (Kd.C_below (Kd.C_alloc (HCk.out) _) hb)
  clear hb
  obtain ⟨al, Ak0, ck0, eL, yL, lk, hCk⟩ := at_L2 HCk.out 0 (Int.le_refl _) (by decide)
  subst eL
  have hk : Kd.C k45 w_ Ak0 ([⟨0, 3⟩, ⟨1, 1⟩] : List S45).length [⟨0, 3⟩, ⟨1, 1⟩] := hCk
  have lk2 : ([⟨0, 3⟩, ⟨1, 1⟩] : List S45).length ≤ ck0 := lk
  have yL2 : w_.cell? al = some (.slice Ak0 2 ck0) := by
    have h := yL
    rw [show al.add (0 : Int).toNat = al from by unfold Addr.add; simp] at h
    exact h
  have HCk0 := Aside0.mk hk
  have HLk0 := Aside0.mk lk2
  clear hCk lk yL hk lk2
  go_wp2_with fail
  refine (toruslaw04_is.calls 60 _ _ [⟨0, 3⟩, ⟨1, 1⟩] 0 _ _ [⟨0, 3⟩, ⟨1, 1⟩] true _ (Kd.C_alloc HCk0.out _) HLk0.out (C_T2 ⟨0, 3⟩ ⟨1, 1⟩ (blk_new _ _)) (Nat.le_refl _) aw_is3).mono ?_
  rintro e w_ ⟨rfl, hd⟩; have hb := hd.below; clear hd
  clear HCk0 HLk0
  replace HB := Aside0.mk (below_step (below_alloc (HB.out) _) hb)
  clear hb
  go_wp2_with fail
  go_ret
  exact ⟨rfl, HB.out⟩
def toruslaw04_awake.f : Option Bool := some true
theorem toruslaw04_awake.calls (r : Bool) (w : World) (h : toruslaw04_awake.f = some r) : Calls Try.prog 19 #[] w fun e w' => e = .returned (.bool r) ∧ Below w.heap.size w w' := by
  cases h
  exact awake_calls w
end Go.Proofs.Ytojnnfhalpefmaa.M
