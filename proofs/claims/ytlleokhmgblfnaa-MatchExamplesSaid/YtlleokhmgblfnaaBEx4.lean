/- A part of the proof: texts of this seat joined (printed and by hand), without what is not used. -/
import Derived.Test.YtlleokhmgblfnaaBEx3
set_option linter.unusedVariables false
set_option linter.unusedSimpArgs false
set_option linter.unusedSectionVars false
section
namespace Go.Proofs.Ytlleokhmgblfnaa.M
open Go.RowKit Go.Proofs.YtlleokhmgblfnaaW.PrintWords Go.Proofs.YtlleokhmgblfnaaW.PrintLast Go.Proofs.YtlleokhmgblfnaaW.PrintMore
attribute [local go_sem] max2_int min2_int max_two min_two max_three min_three max_four min_four
mutual
def pairing_Reach.l0 : Nat → List (List Int) → List Int → List Int → List Bool → List Bool → List Int → Int → Int → Option (List Bool × List Bool)
 | 0, _, _, _, _, _, _, _, _ => none
 | k + 1, x0, x1, x2, x6, x7, x8, x21, x22 => if x22 < x21 then (if 0 ≤ x22 then (if x22 < (x1.length : Int) then (if (rd x1 x22) < 0 then (if x22 < (x6.length : Int) then (if x8.length < 17592186044416 then (pairing_Reach.l0 k x0 x1 x2 (x6.set (x22 : Int).toNat true) x7 (x8 ++ [x22]) x21 (wrap64 (x22 + 1))) else (none)) else (none)) else (pairing_Reach.l0 k x0 x1 x2 x6 x7 x8 x21 (wrap64 (x22 + 1)))) else (none)) else (none)) else (pairing_Reach.l1 k x0 x2 x6 x7 x8)
def pairing_Reach.l1 : Nat → List (List Int) → List Int → List Bool → List Bool → List Int → Option (List Bool × List Bool)
 | 0, _, _, _, _, _ => none
 | k + 1, x0, x2, x6, x7, x8 => if (x8.length : Int) > 0 then (if 0 < (x8.length : Int) then (if 1 ≤ (x8.length : Int) then (if 0 ≤ (rd x8 0) then (if (rd x8 0) < (x0.length : Int) then (pairing_Reach.l2 k x0 x2 x6 x7 (x8.drop (1 : Int).toNat) (rd_L5 x0 (rd x8 0)) ((rd_L5 x0 (rd x8 0)).length : Int) 0) else (none)) else (none)) else (none)) else (none)) else (some (x6, x7))
def pairing_Reach.l2 : Nat → List (List Int) → List Int → List Bool → List Bool → List Int → List Int → Int → Int → Option (List Bool × List Bool)
 | 0, _, _, _, _, _, _, _, _ => none
 | k + 1, x0, x2, x6, x7, x8, x49, x50, x51 => if x51 < x50 then (if 0 ≤ x51 then (if x51 < (x49.length : Int) then (if 0 ≤ (rd x49 x51) then (if (rd x49 x51) < (x7.length : Int) then ((some (x7.set ((rd x49 x51) : Int).toNat true : List Bool)).bind fun y131 => (if (rd x49 x51) < (x2.length : Int) then (if (rd x2 (rd x49 x51)) ≥ 0 then (if 0 ≤ (rd x2 (rd x49 x51)) then (if (rd x2 (rd x49 x51)) < (x6.length : Int) then (if (rdOf false x6 (rd x2 (rd x49 x51)) = true) then (pairing_Reach.l2 k x0 x2 x6 y131 x8 x49 x50 (wrap64 (x51 + 1))) else (if x8.length < 17592186044416 then (pairing_Reach.l2 k x0 x2 (x6.set ((rd x2 (rd x49 x51)) : Int).toNat true) y131 (x8 ++ [rd x2 (rd x49 x51)]) x49 x50 (wrap64 (x51 + 1))) else (none))) else (none)) else (none)) else (pairing_Reach.l2 k x0 x2 x6 y131 x8 x49 x50 (wrap64 (x51 + 1)))) else (none))) else (none)) else (none)) else (none)) else (none)) else (pairing_Reach.l1 k x0 x2 x6 x7 x8)
end
def pairing_Reach.f (k : Nat) (l0 : List (List Int)) (l1 : List Int) (l2 : List Int) : Option (List Bool × List Bool) := if 0 ≤ (l0.length : Int) then (if ((l0.length : Int) : Int).toNat ≤ 281474976710656 then (if 0 ≤ (l2.length : Int) then (if ((l2.length : Int) : Int).toNat ≤ 281474976710656 then (pairing_Reach.l0 k l0 l1 l2 (List.replicate ((l0.length : Int) : Int).toNat false) (List.replicate ((l2.length : Int) : Int).toNat false) ([] : List Int) (l0.length : Int) 0) else (none)) else (none)) else (none)) else (none)
theorem pairing_Reach.mono_l : ∀ k, (∀ y0 y1 y2 y3 y4 y5 y6 y7, LeO (pairing_Reach.l0 k y0 y1 y2 y3 y4 y5 y6 y7) (pairing_Reach.l0 (k + 1) y0 y1 y2 y3 y4 y5 y6 y7)) ∧ (∀ y0 y1 y2 y3 y4, LeO (pairing_Reach.l1 k y0 y1 y2 y3 y4) (pairing_Reach.l1 (k + 1) y0 y1 y2 y3 y4)) ∧ (∀ y0 y1 y2 y3 y4 y5 y6 y7, LeO (pairing_Reach.l2 k y0 y1 y2 y3 y4 y5 y6 y7) (pairing_Reach.l2 (k + 1) y0 y1 y2 y3 y4 y5 y6 y7))
 | 0 => ⟨fun _ _ _ _ _ _ _ _ r h => by simp [pairing_Reach.l0] at h, fun _ _ _ _ _ r h => by simp [pairing_Reach.l1] at h, fun _ _ _ _ _ _ _ _ r h => by simp [pairing_Reach.l2] at h⟩
 | k + 1 => by
  obtain ⟨ih0, ih1, ih2⟩ := pairing_Reach.mono_l k
  refine ⟨?_, ?_, ?_⟩
  ·intro y0 y1 y2 y3 y4 y5 y6 y7
   unfold pairing_Reach.l0
   repeat' first
   | (with_reducible exact ih0 _ _ _ _ _ _ _ _)
   | (with_reducible exact ih1 _ _ _ _ _)
   | (with_reducible exact ih2 _ _ _ _ _ _ _ _)
   | (with_reducible exact LeO.refl _)
   | (with_reducible exact LeO.none _)
   | (with_reducible refine LeO.ite ?_ ?_)
   | (with_reducible refine LeO.bind ?_ (fun _ => ?_))
   | exact ih0 _ _ _ _ _ _ _ _
   | exact ih1 _ _ _ _ _
   | exact ih2 _ _ _ _ _ _ _ _
   | exact LeO.none _
   | refine LeO.ite ?_ ?_
   | refine LeO.bind ?_ (fun _ => ?_)
  ·intro y0 y1 y2 y3 y4
   unfold pairing_Reach.l1
   repeat' first
   | (with_reducible exact ih0 _ _ _ _ _ _ _ _)
   | (with_reducible exact ih1 _ _ _ _ _)
   | (with_reducible exact ih2 _ _ _ _ _ _ _ _)
   | (with_reducible exact LeO.refl _)
   | (with_reducible exact LeO.none _)
   | (with_reducible refine LeO.ite ?_ ?_)
   | (with_reducible refine LeO.bind ?_ (fun _ => ?_))
   | exact ih0 _ _ _ _ _ _ _ _
   | exact ih1 _ _ _ _ _
   | exact ih2 _ _ _ _ _ _ _ _
   | exact LeO.none _
   | refine LeO.ite ?_ ?_
   | refine LeO.bind ?_ (fun _ => ?_)
  ·intro y0 y1 y2 y3 y4 y5 y6 y7
   unfold pairing_Reach.l2
   repeat' first
   | (with_reducible exact ih0 _ _ _ _ _ _ _ _)
   | (with_reducible exact ih1 _ _ _ _ _)
   | (with_reducible exact ih2 _ _ _ _ _ _ _ _)
   | (with_reducible exact LeO.refl _)
   | (with_reducible exact LeO.none _)
   | (with_reducible refine LeO.ite ?_ ?_)
   | (with_reducible refine LeO.bind ?_ (fun _ => ?_))
   | exact ih0 _ _ _ _ _ _ _ _
   | exact ih1 _ _ _ _ _
   | exact ih2 _ _ _ _ _ _ _ _
   | exact LeO.none _
   | refine LeO.ite ?_ ?_
   | refine LeO.bind ?_ (fun _ => ?_)
theorem pairing_Reach.mono : ∀ a0 a1 a2 k, LeO (pairing_Reach.f k a0 a1 a2) (pairing_Reach.f (k + 1) a0 a1 a2) := by
 intro a0 a1 a2 k
 obtain ⟨ih0, ih1, ih2⟩ := pairing_Reach.mono_l k
 unfold pairing_Reach.f
 repeat' first
   | (with_reducible exact ih0 _ _ _ _ _ _ _ _)
   | (with_reducible exact ih1 _ _ _ _ _)
   | (with_reducible exact ih2 _ _ _ _ _ _ _ _)
   | (with_reducible exact LeO.refl _)
   | (with_reducible exact LeO.none _)
   | (with_reducible refine LeO.ite ?_ ?_)
   | (with_reducible refine LeO.bind ?_ (fun _ => ?_))
   | exact ih0 _ _ _ _ _ _ _ _
   | exact ih1 _ _ _ _ _
   | exact ih2 _ _ _ _ _ _ _ _
   | exact LeO.none _
   | refine LeO.ite ?_ ?_
   | refine LeO.bind ?_ (fun _ => ?_)
def pairing_Reach.T1 : Bool × List (List Nat × List Nat) := (true, [([], []), ([0], [0]), ([1, 1], [1]), ([], []), ([3], [3]), ([4, 4], [4]), ([2, 0, 1, 2], [2]), ([5, 6, 0, 1, 2, 3, 4, 5, 6], [5])])
def pairing_Reach.B1 : List Nat := [0, 1, 3, 0, 8, 24, 7, 127]
theorem pairing_Reach.tab1 : rtab .any (opsOf Try.f50 1) = pairing_Reach.T1 := by kernel_rfl
theorem pairing_Reach.bits1 : waitsOk pairing_Reach.T1.2 pairing_Reach.B1 = true := by kernel_rfl
set_option maxHeartbeats 8000000 in
set_option maxRecDepth 100000 in
theorem pairing_Reach.calls (k : Nat) (A0 : Option Addr) (c0 : Nat) (l0 : List (List Int)) (A1 : Option Addr) (c1 : Nat) (l1 : List Int) (A2 : Option Addr) (c2 : Nat) (l2 : List Int) (r1 : List Bool) (r2 : List Bool) (w : World) (hr0 : Kd.C (Kd.slice 3 (Kd.int .i64)) w A0 l0.length l0) (hc0 : l0.length ≤ c0) (hr1 : Kd.C (Kd.int .i64) w A1 l1.length l1) (hc1 : l1.length ≤ c1) (hr2 : Kd.C (Kd.int .i64) w A2 l2.length l2) (hc2 : l2.length ≤ c2) (h : pairing_Reach.f k l0 l1 l2 = some (r1, r2)) :
  Calls Try.prog 50 #[.slice A0 l0.length c0, .slice A1 l1.length c1, .slice A2 l2.length c2] w fun e w' => ∃ v0_ v1_ : Value, e = .returned (.tuple #[v0_, v1_]) ∧ Kd.R Kd.bool 4 w' w.heap.size (fun k_ => some k_ ≠ (v1_ : Value).ownBlock) v0_ r1 ∧ Kd.R Kd.bool 4 w' w.heap.size (fun k_ => some k_ ≠ (v0_ : Value).ownBlock) v1_ r2 ∧ Below w.heap.size w w' := by
 have HR0 := As.mk hr0
 have HC0 := As.mk hc0
 clear hr0 hc0
 have HR1 := As.mk hr1
 have HC1 := As.mk hc1
 clear hr1 hc1
 have HR2 := As.mk hr2
 have HC2 := As.mk hc2
 clear hr2 hc2
 have HB := As.mk (Below.refl w.heap.size w)
 have H : (if 0 ≤ (l0.length : Int) then (if ((l0.length : Int) : Int).toNat ≤ 281474976710656 then (if 0 ≤ (l2.length : Int) then (if ((l2.length : Int) : Int).toNat ≤ 281474976710656 then (pairing_Reach.l0 k l0 l1 l2 (List.replicate ((l0.length : Int) : Int).toNat false) (List.replicate ((l2.length : Int) : Int).toNat false) ([] : List Int) (l0.length : Int) 0) else (none)) else (none)) else (none)) else (none)) = some (r1, r2) := h
 clear h
 by_cases c4 : 0 ≤ (l0.length : Int)
 ·rw [if_pos c4] at H
  have c4b0 := eq_true c4
  have c4b1 : decide (0 ≤ (l0.length : Int)) = true := decide_eq_true c4
  clear c4
  by_cases c5 : ((l0.length : Int) : Int).toNat ≤ 281474976710656
  ·rw [if_pos c5] at H
   have c5b0 := eq_true c5
   have c5b1 : decide (((l0.length : Int) : Int).toNat ≤ 281474976710656) = true := decide_eq_true c5
   clear c5
   obtain ⟨y114, hy114⟩ : ∃ y_ : List Bool, y_ = (List.replicate ((l0.length : Int) : Int).toNat false) := ⟨_, rfl⟩
   replace H : (if 0 ≤ (l2.length : Int) then (if ((l2.length : Int) : Int).toNat ≤ 281474976710656 then (pairing_Reach.l0 k l0 l1 l2 y114 (List.replicate ((l2.length : Int) : Int).toNat false) ([] : List Int) (l0.length : Int) 0) else (none)) else (none)) = some (r1, r2) := by first | (rw [hy114]; with_reducible exact H) | (have H2_ := (Option.bind_some _ _).symm.trans H; rw [hy114]; with_reducible exact H2_) | (have H2_ := (Option.bind_some _ _).symm.trans H; with_reducible exact H2_) | with_reducible exact H | (rw [hy114]; exact H) | exact H
   have Ny114 := As.mk hy114
   clear hy114
   by_cases c6 : 0 ≤ (l2.length : Int)
   ·rw [if_pos c6] at H
    have c6b0 := eq_true c6
    have c6b1 : decide (0 ≤ (l2.length : Int)) = true := decide_eq_true c6
    clear c6
    by_cases c7 : ((l2.length : Int) : Int).toNat ≤ 281474976710656
    ·rw [if_pos c7] at H
     have c7b0 := eq_true c7
     have c7b1 : decide (((l2.length : Int) : Int).toNat ≤ 281474976710656) = true := decide_eq_true c7
     clear c7
     obtain ⟨y117, hy117⟩ : ∃ y_ : List Bool, y_ = (List.replicate ((l2.length : Int) : Int).toNat false) := ⟨_, rfl⟩
     replace H : (pairing_Reach.l0 k l0 l1 l2 y114 y117 ([] : List Int) (l0.length : Int) 0) = some (r1, r2) := by first | (rw [hy117]; with_reducible exact H) | (have H2_ := (Option.bind_some _ _).symm.trans H; rw [hy117]; with_reducible exact H2_) | (have H2_ := (Option.bind_some _ _).symm.trans H; with_reducible exact H2_) | with_reducible exact H | (rw [hy117]; exact H) | exact H
     have Ny117 := As.mk hy117
     clear hy117
     have H' := As.mk H
     clear H
     go_enter Try.func50, Try.ntmps50
     try go_wp2
     have n0_ := As.mk (below_drew1 HB.out)
     clear HB
     have HB := n0_
     clear n0_
     refine start_ (n := 8) (S := fun w' => True) (ds := []) #[false, false, false, false, false, false, false, false] (by kernel_rfl) rfl rfl trivial (fun hHeld => ?_); refine with_tabW pairing_Reach.tab1 pairing_Reach.bits1 (fun HT_ HW_ => ?_)
     generalize w.drew = w8 at HB hHeld ⊢
     refine pure_ (i := 0) (N := some 14) (v := ?_) (a' := ?_) #[true, false, false, false, false, false, false, false] rfl rfl (any_of HT_.out (by kernel_rfl)) (fun _ _ _ h => h) (Or.inl ⟨by rfl, ?_⟩) ?_ ?_
     rotate_left
     ·intro w'
      go_simp
      with_reducible rfl
     rotate_left
     ·simp only [Act.put, List.setIfInBounds_toArray, List.set_cons_zero, List.set_cons_succ, i64_w, i32_w]
      rfl
     refine pure_ (i := 1) (N := some 15) (v := ?_) (a' := ?_) #[true, true, false, false, false, false, false, false] rfl rfl (any_of HT_.out (by kernel_rfl)) (fun _ _ _ h => h) (Or.inl ⟨by rfl, ?_⟩) ?_ ?_
     rotate_left
     ·intro w'
      go_simp
      with_reducible rfl
     rotate_left
     ·simp only [Act.put, List.setIfInBounds_toArray, List.set_cons_zero, List.set_cons_succ, i64_w, i32_w]
      rfl
     refine pure_ (i := 3) (N := some 17) (v := ?_) (a' := ?_) #[true, true, false, true, false, false, false, false] rfl rfl (any_of HT_.out (by kernel_rfl)) (fun _ _ _ h => h) (Or.inl ⟨by rfl, ?_⟩) ?_ ?_
     rotate_left
     ·intro w'
      go_simp
      with_reducible rfl
     rotate_left
     ·simp only [Act.put, List.setIfInBounds_toArray, List.set_cons_zero, List.set_cons_succ, i64_w, i32_w]
      rfl
     refine pure_ (i := 4) (N := some 18) (v := ?_) (a' := ?_) #[true, true, false, true, true, false, false, false] rfl rfl (any_of HT_.out (by kernel_rfl)) (fun _ _ _ h => h) (Or.inl ⟨by rfl, ?_⟩) ?_ ?_
     rotate_left
     ·intro w'
      go_simp
      with_reducible rfl
     rotate_left
     ·simp only [Act.put, List.setIfInBounds_toArray, List.set_cons_zero, List.set_cons_succ, i64_w, i32_w]
      rfl
     refine join_ (σ := Value × Value) 1 #[true, true, true, true, true, true, true, false] (fun s_ => [(16, s_.1), (19, s_.2), (6, s_.1)]) (fun s_ w' => (Kd.R Kd.bool 4 w' w.heap.size (fun k_ => some k_ ≠ (s_.2 : Value).ownBlock) s_.1 y114) ∧ (Kd.R Kd.bool 4 w' w.heap.size (fun k_ => some k_ ≠ (s_.1 : Value).ownBlock) s_.2 y117) ∧ (Below w.heap.size w w')) ?_ ?_
     rotate_left
     ·intro hCont
      refine two_ (i := 2) (j := 5) (Ni := some 16) (Nj := some 19) #[true, true, true, true, true, false, false, false] #[true, true, false, true, true, true, false, false] rfl rfl rfl rfl (two_of HT_.out (by kernel_rfl)) (by decide) (by decide) (fun K hK => ?_) (fun K hK => ?_)
      ·skip
       refine Kd.R_make_step Kd.bool _ 4 (by rfl) (N := 16) rfl 65 _ _ rfl (l0.length : Int) rfl rfl Try.underlying65 (.bool false) 1 info4 rfl (by decide) (by omega) false (ok := fun _ => True) (okp := fun _ => True) rfl (fun _ hk => hk) trivial (of_decide_eq_true (by first | (with_reducible assumption) | assumption)) (Nat.le_trans (Nat.mul_le_mul_right _ (of_decide_eq_true (by first | (with_reducible assumption) | assumption) : (l0.length : Int).toNat ≤ 281474976710656)) (by omega)) (Below.refl _ _) (Nat.le_refl _) ?_
       intro v115 w9 ho10 hb hg_ hnew_
       clear hg_ hnew_
       (first | rw [← Ny114.out] at ho10 | (simp only [Int.reduceToNat] at ho10; rw [← Ny114.out] at ho10))
       have n0_ := As.mk (Kd.R_lower ho10 (below_size (hup0 HB.out)))
       have n1_ := As.mk (below_step (hup0 HB.out) hb)
       clear HB
       have HO116 := n0_
       have HB := n1_
       clear n0_ n1_
       clear hb ho10
       refine hK.out _ _ trivial (fun hHeld => ?_)
       clear hK K
       refine norm_ (a' := ?_) ?_ ?_
       rotate_left
       ·show Act.put _ (some 16) _ = _
        simp only [Act.put, List.setIfInBounds_toArray, List.set_cons_zero, List.set_cons_succ, i64_w, i32_w]
        rfl
       refine pure_ (i := 6) (N := some 6) (v := ?_) (a' := ?_) #[true, true, true, true, true, false, true, false] rfl rfl (any_of HT_.out (by kernel_rfl)) (fun _ _ _ h => h) (Or.inl ⟨by rfl, ?_⟩) ?_ ?_
       rotate_left
       ·intro w'
        go_simp
        with_reducible rfl
       rotate_left
       ·simp only [Act.put, List.setIfInBounds_toArray, List.set_cons_zero, List.set_cons_succ, i64_w, i32_w]
        rfl
       refine one_ (i := 5) (N := some 19) #[true, true, true, true, true, true, true, false] rfl rfl (one_of HT_.out (by kernel_rfl)) (by decide) (fun K hK => ?_)
       refine Kd.R_make_step Kd.bool _ 4 (by rfl) (N := 19) rfl 65 _ _ rfl (l2.length : Int) rfl rfl Try.underlying65 (.bool false) 1 info4 rfl (by decide) (by omega) false (ok := fun _ => True) (okp := fun _ => True) rfl (fun _ hk => hk) trivial (of_decide_eq_true (by first | (with_reducible assumption) | assumption)) (Nat.le_trans (Nat.mul_le_mul_right _ (of_decide_eq_true (by first | (with_reducible assumption) | assumption) : (l2.length : Int).toNat ≤ 281474976710656)) (by omega)) (Below.refl _ _) (Nat.le_refl _) ?_
       intro v118 w11 ho12 hb hg_ hnew_
       clear hg_ hnew_
       (first | rw [← Ny117.out] at ho12 | (simp only [Int.reduceToNat] at ho12; rw [← Ny117.out] at ho12))
       have n0_ := As.mk (Kd.R_elder' (rup HO116.out) (Kd.R_base ho12) hb)
       have n1_ := As.mk (Kd.R_lower (Kd.R_new' ho12 (Kd.R_lt (rup HO116.out))) (below_size (hup0 HB.out)))
       have n2_ := As.mk (below_step (hup0 HB.out) hb)
       clear HO116
       clear HB
       have HO116 := n0_
       have HO119 := n1_
       have HB := n2_
       clear n0_ n1_ n2_
       clear hb ho12
       refine hK.out _ _ trivial (fun hHeld => ?_)
       clear hK K
       refine norm_ (a' := ?_) ?_ ?_
       rotate_left
       ·show Act.put _ (some 19) _ = _
        simp only [Act.put, List.setIfInBounds_toArray, List.set_cons_zero, List.set_cons_succ, i64_w, i32_w]
        rfl
       exact norm_ (by simp only [putAll, Act.put, List.setIfInBounds_toArray, List.set_cons_zero, List.set_cons_succ]) (hCont (v115, v118) _ ⟨(by (with_reducible repeat (first | apply Kd.R_alloc | apply Kd.R_drewN | apply Kd.R_drew)); exact Kd.R_mono HO116.out (fun _ hk => hk.2)), (by (with_reducible repeat (first | apply Kd.R_alloc | apply Kd.R_drewN | apply Kd.R_drew)); exact Kd.R_mono HO119.out (fun _ hk => hk.2)), (hup0 HB.out)⟩)
      ·skip
       refine Kd.R_make_step Kd.bool _ 4 (by rfl) (N := 19) rfl 65 _ _ rfl (l2.length : Int) rfl rfl Try.underlying65 (.bool false) 1 info4 rfl (by decide) (by omega) false (ok := fun _ => True) (okp := fun _ => True) rfl (fun _ hk => hk) trivial (of_decide_eq_true (by first | (with_reducible assumption) | assumption)) (Nat.le_trans (Nat.mul_le_mul_right _ (of_decide_eq_true (by first | (with_reducible assumption) | assumption) : (l2.length : Int).toNat ≤ 281474976710656)) (by omega)) (Below.refl _ _) (Nat.le_refl _) ?_
       intro v118 w9 ho10 hb hg_ hnew_
       clear hg_ hnew_
       (first | rw [← Ny117.out] at ho10 | (simp only [Int.reduceToNat] at ho10; rw [← Ny117.out] at ho10))
       have n0_ := As.mk (Kd.R_lower ho10 (below_size (hup0 HB.out)))
       have n1_ := As.mk (below_step (hup0 HB.out) hb)
       clear HB
       have HO119 := n0_
       have HB := n1_
       clear n0_ n1_
       clear hb ho10
       refine hK.out _ _ trivial (fun hHeld => ?_)
       clear hK K
       refine norm_ (a' := ?_) ?_ ?_
       rotate_left
       ·show Act.put _ (some 19) _ = _
        simp only [Act.put, List.setIfInBounds_toArray, List.set_cons_zero, List.set_cons_succ, i64_w, i32_w]
        rfl
       refine one_ (i := 2) (N := some 16) #[true, true, true, true, true, true, false, false] rfl rfl (one_of HT_.out (by kernel_rfl)) (by decide) (fun K hK => ?_)
       refine Kd.R_make_step Kd.bool _ 4 (by rfl) (N := 16) rfl 65 _ _ rfl (l0.length : Int) rfl rfl Try.underlying65 (.bool false) 1 info4 rfl (by decide) (by omega) false (ok := fun _ => True) (okp := fun _ => True) rfl (fun _ hk => hk) trivial (of_decide_eq_true (by first | (with_reducible assumption) | assumption)) (Nat.le_trans (Nat.mul_le_mul_right _ (of_decide_eq_true (by first | (with_reducible assumption) | assumption) : (l0.length : Int).toNat ≤ 281474976710656)) (by omega)) (Below.refl _ _) (Nat.le_refl _) ?_
       intro v115 w11 ho12 hb hg_ hnew_
       clear hg_ hnew_
       (first | rw [← Ny114.out] at ho12 | (simp only [Int.reduceToNat] at ho12; rw [← Ny114.out] at ho12))
       have n0_ := As.mk (Kd.R_elder' (rup HO119.out) (Kd.R_base ho12) hb)
       have n1_ := As.mk (Kd.R_lower (Kd.R_new' ho12 (Kd.R_lt (rup HO119.out))) (below_size (hup0 HB.out)))
       have n2_ := As.mk (below_step (hup0 HB.out) hb)
       clear HO119
       clear HB
       have HO119 := n0_
       have HO116 := n1_
       have HB := n2_
       clear n0_ n1_ n2_
       clear hb ho12
       refine hK.out _ _ trivial (fun hHeld => ?_)
       clear hK K
       refine norm_ (a' := ?_) ?_ ?_
       rotate_left
       ·show Act.put _ (some 16) _ = _
        simp only [Act.put, List.setIfInBounds_toArray, List.set_cons_zero, List.set_cons_succ, i64_w, i32_w]
        rfl
       refine pure_ (i := 6) (N := some 6) (v := ?_) (a' := ?_) #[true, true, true, true, true, true, true, false] rfl rfl (any_of HT_.out (by kernel_rfl)) (fun _ _ _ h => h) (Or.inl ⟨by rfl, ?_⟩) ?_ ?_
       rotate_left
       ·intro w'
        go_simp
        with_reducible rfl
       rotate_left
       ·simp only [Act.put, List.setIfInBounds_toArray, List.set_cons_zero, List.set_cons_succ, i64_w, i32_w]
        rfl
       exact norm_ (by simp only [putAll, Act.put, List.setIfInBounds_toArray, List.set_cons_zero, List.set_cons_succ]) (hCont (v115, v118) _ ⟨(by (with_reducible repeat (first | apply Kd.R_alloc | apply Kd.R_drewN | apply Kd.R_drew)); exact Kd.R_mono HO116.out (fun _ hk => hk.2)), (by (with_reducible repeat (first | apply Kd.R_alloc | apply Kd.R_drewN | apply Kd.R_drew)); exact Kd.R_mono HO119.out (fun _ hk => hk.2)), (hup0 HB.out)⟩)
     rintro ⟨v115, v118⟩ w13 ⟨h0_, h1_, h2_⟩
     have n0_ : As (Kd.R Kd.bool 4 w13 w.heap.size (fun k_ => some k_ ≠ (v118 : Value).ownBlock) v115 y114) := ⟨h0_⟩
     have n1_ : As (Kd.R Kd.bool 4 w13 w.heap.size (fun k_ => some k_ ≠ (v115 : Value).ownBlock) v118 y117) := ⟨h1_⟩
     have n2_ : As (Below w.heap.size w w13) := ⟨h2_⟩
     clear HB
     clear h0_ h1_ h2_
     have HO116 := n0_
     have HO119 := n1_
     have HB := n2_
     clear n0_ n1_ n2_
     have hHeld := trivial
     refine norm_ (a' := ?_) ?_ ?_
     rotate_left
     ·simp only [putAll, Act.put, List.setIfInBounds_toArray, List.set_cons_zero, List.set_cons_succ]
      rfl
     refine pure_ (i := 7) (N := some 7) (v := ?_) (a' := ?_) #[true, true, true, true, true, true, true, true] rfl rfl (any_of HT_.out (by kernel_rfl)) (fun _ _ _ h => h) (Or.inl ⟨by rfl, ?_⟩) ?_ ?_
     rotate_left
     ·intro w'
      go_simp
      with_reducible rfl
     rotate_left
     ·simp only [Act.put, List.setIfInBounds_toArray, List.set_cons_zero, List.set_cons_succ, i64_w, i32_w]
      rfl
     refine done_ (done_of HT_.out (by kernel_rfl)) ?_
     try go_wp2
     go_loopg [8, 22] k (fun kq v8 v22 w' => ∃ (x6_1 : List Bool) (x8_1 : List Int) (x22_1 : Int), v22 = .int .i64 x22_1 ∧ As (pairing_Reach.l0 kq l0 l1 l2 x6_1 y117 x8_1 (l0.length : Int) x22_1 = some (r1, r2)) ∧ As (kq ≤ k) ∧ As (Kd.R Kd.bool 4 w' w.heap.size (fun k_ => some k_ ≠ (v118 : Value).ownBlock) v115 x6_1) ∧ As (Kd.R Kd.bool 4 w' w.heap.size (fun k_ => some k_ ≠ (v115 : Value).ownBlock) v118 y117) ∧ As (Kd.Q (Kd.int .i64) 3 w' w.heap.size (fun _ => True) v8 x8_1) ∧ As (Below w.heap.size w w'))
     case atStart => exact ⟨(y114), (([] : List Int)), (0), (by first | rfl | (simp; done) | (simp [*]; done)), H', ⟨Nat.le_refl _⟩, ⟨by (with_reducible repeat (first | apply Kd.R_alloc | apply Kd.R_drewN | apply Kd.R_drew)); exact HO116.out⟩, ⟨by (with_reducible repeat (first | apply Kd.R_alloc | apply Kd.R_drewN | apply Kd.R_drew)); exact HO119.out⟩, ⟨Kd.Q_of_R (by first | exact Kd.R_nil _ _ _ _ _ | exact Kd.N_nil _ _ _ _ _ | exact Kd.V_nil _ _ _ _ _ | exact Kd.Q_nil _ _ _ _ _ | exact Kd.S_nil _ _ _ _ _)⟩, ⟨by repeat (first | (with_reducible first | exact HB.out | apply below_alloc | apply pw_below_drewN | apply below_drew1) | exact HB.out)⟩⟩
     case round =>
      clear H'
      try clear c1
      try clear c2
      try clear p2
      try clear c4
      try clear c4b0
      try clear c4b1
      try clear c5
      try clear c5b0
      try clear c5b1
      try clear c6
      try clear c6b0
      try clear c6b1
      try clear c7
      try clear c7b0
      try clear c7b1
      obtain ⟨x6_1, x8_1, x22_1, rfl, HA, HK1, HO_6, HO_7, HO_8, HB⟩ := hrel
      cases gk with
      | zero => exact absurd HA.out (by simp [pairing_Reach.l0])
      | succ k1 =>
       have H := HA.out
       clear HA
       simp only [pairing_Reach.l0] at H
       by_cases c14 : x22_1 < (l0.length : Int)
       ·rw [if_pos c14] at H
        have c14b0 : decide (x22_1 < (l0.length : Int)) = true := decide_eq_true c14
        clear c14
        by_cases c15 : 0 ≤ x22_1
        ·rw [if_pos c15] at H
         have c15b0 : decide (0 ≤ x22_1) = true := decide_eq_true c15
         clear c15
         by_cases c16 : x22_1 < (l1.length : Int)
         ·rw [if_pos c16] at H
          have c16b0 : decide (x22_1 < (l1.length : Int)) = true := decide_eq_true c16
          clear c16
          by_cases c17 : (rd l1 x22_1) < 0
          ·rw [if_pos c17] at H
           have c17b0 : decide ((rd l1 x22_1) < 0) = true := decide_eq_true c17
           clear c17
           by_cases c18 : x22_1 < (x6_1.length : Int)
           ·rw [if_pos c18] at H
            have c18b0 : decide (x22_1 < (x6_1.length : Int)) = true := decide_eq_true c18
            clear c18
            obtain ⟨y121, hy121⟩ : ∃ y_ : List Bool, y_ = (x6_1.set (x22_1 : Int).toNat true) := ⟨_, rfl⟩
            replace H : (if x8_1.length < 17592186044416 then (pairing_Reach.l0 k1 l0 l1 l2 y121 y117 (x8_1 ++ [x22_1]) (l0.length : Int) (wrap64 (x22_1 + 1))) else (none)) = some (r1, r2) := by first | (rw [hy121]; with_reducible exact H) | (have H2_ := (Option.bind_some _ _).symm.trans H; rw [hy121]; with_reducible exact H2_) | (have H2_ := (Option.bind_some _ _).symm.trans H; with_reducible exact H2_) | with_reducible exact H | (rw [hy121]; exact H) | exact H
            have Ny121 := As.mk hy121
            clear hy121
            by_cases c20 : x8_1.length < 17592186044416
            ·rw [if_pos c20] at H
             have LMc20 := As.mk c20
             clear c20
             obtain ⟨y122, hy122⟩ : ∃ y_ : List Int, y_ = (x8_1 ++ [x22_1]) := ⟨_, rfl⟩
             replace H : (pairing_Reach.l0 k1 l0 l1 l2 y121 y117 y122 (l0.length : Int) (wrap64 (x22_1 + 1))) = some (r1, r2) := by first | (rw [hy122]; with_reducible exact H) | (have H2_ := (Option.bind_some _ _).symm.trans H; rw [hy122]; with_reducible exact H2_) | (have H2_ := (Option.bind_some _ _).symm.trans H; with_reducible exact H2_) | with_reducible exact H | (rw [hy122]; exact H) | exact H
             have Ny122 := As.mk hy122
             clear hy122
             have H' := As.mk H
             clear H
             have p120 : 0 ≤ (x22_1 : Int) := of_decide_eq_true (by first | (with_reducible assumption) | assumption)
             have q120 : x22_1 < (l1.length : Int) := of_decide_eq_true (by first | (with_reducible assumption) | assumption)
             obtain ⟨ad120, e120, hx120_0⟩ := Kd.at_int HR1.out x22_1 p120 q120
             cases e120
             replace hx120_0 := (HB.out.cell (World.block_lt_of_cell? w _ hx120_0)).trans hx120_0
             replace p120 := eq_true p120
             replace q120 := eq_true q120
             have p19 : 0 ≤ (x22_1 : Int) := of_decide_eq_true (by first | (with_reducible assumption) | assumption)
             have q19 : (x22_1 : Int) < ((x6_1.length : Int) : Int) := of_decide_eq_true (by first | (with_reducible assumption) | assumption)
             obtain ⟨go19, co19, eo19, gb19, gl19, cl19, HG19⟩ := Kd.R_form HO_6.out (by first | omega | (have e_ := (Kd.R_reads' HO_6.out).1; omega))
             (first | cases eo19 | (injection eo19 with ea_ en_ ec_; (first | subst ea_ | (injection ea_ with ea_; subst ea_)); subst ec_; clear en_))
             have GB19 := As.mk gb19
             have GG19 := As.mk HG19
             clear gb19 gl19 HG19
             obtain ⟨hx19_0, hf19_0⟩ := Kd.R_celln false HO_6.out (x22_1 : Int) p19 q19
             replace p19 := eq_true p19
             replace q19 := eq_true q19
             have HP21 := Kd.R_putg HO_6.out (x22_1 : Int) true
             go_wp2_with (first | ((with_reducible refine gate_store (t := 4) (p := 32) rfl ?_); refine store_event (t := 4) (p := 32) (v := ?vo_w22) (w1 := (wr.setCell ⟨go19, (x22_1 : Int).toNat, none⟩ (.bool true))) ?hg ?ho ?hn ?hr ?_; (case ho => rfl); (case hg => rfl); (case hn => rfl); (case hr => first | (go_simp; done) | (go_simp; rfl)); intro w22 hw; have hg : wr.grownBy w22 (some go19) := (by rw [hw]; exact HP21.2); have hp_ : Kd.R Kd.bool 4 w22 w.heap.size (fun k_ => some k_ ≠ (v118 : Value).ownBlock) (.slice (some ⟨go19, 0, none⟩) x6_1.length co19) y121 := (by rw [hw, Ny121.out]; exact HP21.1); clear HP21; have n0_ := As.mk (hp_); have n1_ := As.mk (Kd.R_after (v := (.slice (some ⟨go19, 0, none⟩) x6_1.length co19)) (v1 := (.slice (some ⟨go19, 0, none⟩) x6_1.length co19)) (ok := (fun _ => True)) (by (with_reducible repeat (first | apply Kd.R_alloc | apply Kd.R_drewN | apply Kd.R_drew)); exact Kd.R_mono HO_7.out (fun _ hk => ⟨trivial, hk⟩)) hg (.inl rfl)); have n2_ := As.mk (Kd.Q_over' (v := (.slice (some ⟨go19, 0, none⟩) x6_1.length co19)) (qup HO_8.out) (Kd.R_typed HO_6.out) (by decide) hg); have n3_ := As.mk ((by rw [hw]; exact below_set (HB.out) GB19.out : Below w.heap.size w w22)); clear HO_6; clear HO_7; clear HO_8; clear HB; have HO_6 := n0_; have HO_7 := n1_; have HO_8 := n2_; have HB := n3_; clear n0_ n1_ n2_ n3_; clear hg hw hp_) | ((with_reducible refine gate_builtin (b := .append) (xs := #[.tmp 33, .tmp 35]) rfl ?_); at_builtin; refine Kd.Q_append (Kd.int .i64) (w0 := w) w.heap.size rfl (.tmp 33) (.tmp 35) 29 3 (.int .i64 0) 8 rfl Try.underlying29 info3 rfl (by decide) (by omega) u8 x8_1 x22_1 [.int .i64 x22_1] (fun _ => True) (fun _ => False) rfl rfl ?aP (fun _ hk => hk.elim) ?aF ?aO ?aB ?aS ?aL ?_; (case aP => exact rfl); (case aB => exact (hup0 HB.out)); (case aF => exact (fun _ _ => trivial)); (case aO => exact (qup HO_8.out)); (case aS => exact (below_size (hup0 HB.out))); (case aL => have := LMc20.out; omega); intro v123 w23 ho hb hg hat; rw [← Ny122.out] at ho; have n0_ := As.mk (Kd.R_over' (rup HO_6.out) (Kd.Q_typed (qup HO_8.out)) (by decide) hg); have n1_ := As.mk (Kd.R_over' (rup HO_7.out) (Kd.Q_typed (qup HO_8.out)) (by decide) hg); have n2_ := As.mk (hb); have n3_ := As.mk (ho); clear HO_6; clear HO_7; clear HB; clear HO_8; have HO_6 := n0_; have HO_7 := n1_; have HB := n2_; have HO124 := n3_; clear n0_ n1_ n2_ n3_; clear ho hb hg hat))
             go_roundg k1
             case measure => have := HK1.out; omega
             case rel => exact ⟨(y121), (y122), (wrap64 (x22_1 + 1)), (by first | rfl | (simp; done) | (simp [*]; done)), H', ⟨by have := HK1.out; omega⟩, ⟨by (with_reducible repeat (first | apply Kd.R_alloc | apply Kd.R_drewN | apply Kd.R_drew)); exact HO_6.out⟩, ⟨by (with_reducible repeat (first | apply Kd.R_alloc | apply Kd.R_drewN | apply Kd.R_drew)); exact Kd.R_mono HO_7.out (fun _ hk => hk.2)⟩, ⟨by (with_reducible repeat (first | apply Kd.Q_alloc | apply Kd.Q_drewN | apply Kd.Q_drew)); exact HO124.out⟩, ⟨by repeat (first | (with_reducible first | exact HB.out | apply below_alloc | apply pw_below_drewN | apply below_drew1) | exact HB.out)⟩⟩
            ·rw [if_neg c20] at H
             exact absurd H (by simp)
           ·rw [if_neg c18] at H
            exact absurd H (by simp)
          ·rw [if_neg c17] at H
           have c17b0 : decide ((rd l1 x22_1) < 0) = false := decide_eq_false c17
           clear c17
           have H' := As.mk H
           clear H
           have p120 : 0 ≤ (x22_1 : Int) := of_decide_eq_true (by first | (with_reducible assumption) | assumption)
           have q120 : x22_1 < (l1.length : Int) := of_decide_eq_true (by first | (with_reducible assumption) | assumption)
           obtain ⟨ad120, e120, hx120_0⟩ := Kd.at_int HR1.out x22_1 p120 q120
           cases e120
           replace hx120_0 := (HB.out.cell (World.block_lt_of_cell? w _ hx120_0)).trans hx120_0
           replace p120 := eq_true p120
           replace q120 := eq_true q120
           go_wp2
           go_roundg k1
           case measure => have := HK1.out; omega
           case rel => exact ⟨(x6_1), (x8_1), (wrap64 (x22_1 + 1)), (by first | rfl | (simp; done) | (simp [*]; done)), H', ⟨by have := HK1.out; omega⟩, ⟨by (with_reducible repeat (first | apply Kd.R_alloc | apply Kd.R_drewN | apply Kd.R_drew)); exact HO_6.out⟩, ⟨by (with_reducible repeat (first | apply Kd.R_alloc | apply Kd.R_drewN | apply Kd.R_drew)); exact HO_7.out⟩, ⟨by (with_reducible repeat (first | apply Kd.Q_alloc | apply Kd.Q_drewN | apply Kd.Q_drew)); exact HO_8.out⟩, ⟨by repeat (first | (with_reducible first | exact HB.out | apply below_alloc | apply pw_below_drewN | apply below_drew1) | exact HB.out)⟩⟩
         ·rw [if_neg c16] at H
          exact absurd H (by simp)
        ·rw [if_neg c15] at H
         exact absurd H (by simp)
       ·rw [if_neg c14] at H
        have c14b0 : decide (x22_1 < (l0.length : Int)) = false := decide_eq_false c14
        clear c14
        have H' := As.mk H
        clear H
        go_wp2
        go_loopg [8] k1 (fun kq v8 w' => ∃ (x6_2 : List Bool) (x7_2 : List Bool) (x8_2 : List Int), As (pairing_Reach.l1 kq l0 l2 x6_2 x7_2 x8_2 = some (r1, r2)) ∧ As (kq ≤ k1) ∧ As (Kd.R Kd.bool 4 w' w.heap.size (fun k_ => some k_ ≠ (v118 : Value).ownBlock) v115 x6_2) ∧ As (Kd.R Kd.bool 4 w' w.heap.size (fun k_ => some k_ ≠ (v115 : Value).ownBlock) v118 x7_2) ∧ As (Kd.Q (Kd.int .i64) 3 w' w.heap.size (fun _ => True) v8 x8_2) ∧ As (Below w.heap.size w w'))
        case atStart => exact ⟨(x6_1), (y117), (x8_1), H', ⟨Nat.le_refl _⟩, ⟨by (with_reducible repeat (first | apply Kd.R_alloc | apply Kd.R_drewN | apply Kd.R_drew)); exact HO_6.out⟩, ⟨by (with_reducible repeat (first | apply Kd.R_alloc | apply Kd.R_drewN | apply Kd.R_drew)); exact HO_7.out⟩, ⟨by (with_reducible repeat (first | apply Kd.Q_alloc | apply Kd.Q_drewN | apply Kd.Q_drew)); exact HO_8.out⟩, ⟨by repeat (first | (with_reducible first | exact HB.out | apply below_alloc | apply pw_below_drewN | apply below_drew1) | exact HB.out)⟩⟩
        case round =>
         clear H'
         try clear c1
         try clear p1
         try clear q1
         try clear hx1
         try clear c2
         try clear p2
         try clear c4
         try clear c4b0
         try clear c4b1
         try clear c5
         try clear c5b0
         try clear c5b1
         try clear c6
         try clear c6b0
         try clear c6b1
         try clear p6
         try clear c7
         try clear c7b0
         try clear c7b1
         try clear p12
         try clear q12
         try clear hx12
         try clear c14
         try clear c14b0
         try clear c15
         try clear c15b0
         try clear c16
         try clear c16b0
         try clear c17
         try clear c17b0
         try clear c18
         try clear c18b0
         try clear p19
         try clear q19
         try clear hx19
         try clear hf19
         try clear c20
         try clear hx120_0
         try clear hx19_0
         try clear p120
         try clear p19
         try clear p2
         try clear q120
         try clear q19
         obtain ⟨x6_2, x7_2, x8_2, HA, HK2, HO_6, HO_7, HO_8, HB⟩ := hrel
         cases gk with
         | zero => exact absurd HA.out (by simp [pairing_Reach.l1])
         | succ k2 =>
          have H := HA.out
          clear HA
          simp only [pairing_Reach.l1] at H
          by_cases c24 : (x8_2.length : Int) > 0
          ·rw [if_pos c24] at H
           have c24b0 : decide (0 < (x8_2.length : Int)) = true := decide_eq_true c24
           have c24b1 : decide (0 < x8_2.length) = true := decide_eq_true (by omega)
           clear c24
           by_cases c25 : 0 < (x8_2.length : Int)
           ·rw [if_pos c25] at H
            have c25b0 : decide (0 < (x8_2.length : Int)) = true := decide_eq_true c25
            have c25b1 : decide (0 < x8_2.length) = true := decide_eq_true (by omega)
            clear c25
            by_cases c26 : 1 ≤ (x8_2.length : Int)
            ·rw [if_pos c26] at H
             have c26b0 := eq_true c26
             have c26b1 : decide (1 ≤ (x8_2.length : Int)) = true := decide_eq_true c26
             clear c26
             obtain ⟨y126, hy126⟩ : ∃ y_ : List Int, y_ = (x8_2.drop (1 : Int).toNat) := ⟨_, rfl⟩
             replace H : (if 0 ≤ (rd x8_2 0) then (if (rd x8_2 0) < (l0.length : Int) then (pairing_Reach.l2 k2 l0 l2 x6_2 x7_2 y126 (rd_L5 l0 (rd x8_2 0)) ((rd_L5 l0 (rd x8_2 0)).length : Int) 0) else (none)) else (none)) = some (r1, r2) := by first | (rw [hy126]; with_reducible exact H) | (have H2_ := (Option.bind_some _ _).symm.trans H; rw [hy126]; with_reducible exact H2_) | (have H2_ := (Option.bind_some _ _).symm.trans H; with_reducible exact H2_) | with_reducible exact H | (rw [hy126]; exact H) | exact H
             have Ny126 := As.mk hy126
             clear hy126
             by_cases c27 : 0 ≤ (rd x8_2 0)
             ·rw [if_pos c27] at H
              have c27b0 : decide (0 ≤ (rd x8_2 0)) = true := decide_eq_true c27
              clear c27
              by_cases c28 : (rd x8_2 0) < (l0.length : Int)
              ·rw [if_pos c28] at H
               have c28b0 : decide ((rd x8_2 0) < (l0.length : Int)) = true := decide_eq_true c28
               clear c28
               have H' := As.mk H
               clear H
               obtain ⟨Ao29, co29, eo29, _⟩ := Kd.Q_slice HO_8.out
               subst eo29
               have p125 : 0 ≤ (0 : Int) := (by omega)
               have q125 : 0 < (x8_2.length : Int) := of_decide_eq_true (by first | (with_reducible assumption) | assumption)
               obtain ⟨ad125, e125, hx125_0⟩ := Kd.at_int (Kd.Q_reads' HO_8.out).2.2 0 p125 q125
               cases e125
               have qi125 : (0 < x8_2.length) = True := eq_true (by omega)
               (try rw [show ((0 : Int)).toNat = 0 from rfl] at hx125_0)
               (try rw [Addr.add_zero'] at hx125_0)
               replace p125 := eq_true p125
               replace q125 := eq_true q125
               have q30 : (1 : Int) ≤ ((x8_2.length : Int) : Int) := of_decide_eq_true (by first | (with_reducible assumption) | assumption)
               obtain ⟨i030, hi030, _, hsz30, _⟩ := info_parts info3
               have hcut30 := cut_from (P := Try.prog) 29 3 .i64 Try.underlying29 hi030 1 hsz30 (some ad125) x8_2.length co29 1 (by omega) q30
               have hr30 := Kd.Q_drop (k := (1 : Int).toNat) HO_8.out (by omega)
               obtain ⟨A30, hA30⟩ : ∃ A1, A1 = (if co29 = (1 : Int).toNat then (some ad125) else ((some ad125) : Option Addr).map (·.add ((1 : Int).toNat * 1))) := ⟨_, rfl⟩
               obtain ⟨c30, hc30⟩ : ∃ c1, c1 = co29 - (1 : Int).toNat := ⟨_, rfl⟩
               have hy30 : y126.length = x8_2.length - (1 : Int).toNat := (by rw [Ny126.out, List.length_drop])
               rw [← Ny126.out] at hr30
               rw [← hy30, ← hA30, ← hc30] at hcut30
               replace hr30 : Kd.Q (Kd.int .i64) 3 wr w.heap.size (fun _ => True) (.slice A30 y126.length c30) y126 := (by rw [hA30, hc30, hy30]; exact hr30)
               have HE30 : As ((Value.slice A30 y126.length c30).ownBlock = (.slice (some ad125) x8_2.length co29 : Value).ownBlock) := ⟨by rw [hA30]; split <;> (cases ((some ad125) : Option Addr) <;> rfl)⟩
               clear hy30 hi030 hsz30 HO_8 hA30 hc30
               have HO128 := As.mk hr30
               clear hr30
               replace q30 := eq_true q30
               have p129 : 0 ≤ ((rd x8_2 0) : Int) := of_decide_eq_true (by first | (with_reducible assumption) | assumption)
               have q129 : (rd x8_2 0) < (l0.length : Int) := of_decide_eq_true (by first | (with_reducible assumption) | assumption)
               obtain ⟨ad129, A129_0, c129_0, e129, hx129_0, hl129_0, hi129_0⟩ := at_L5 HR0.out (rd x8_2 0) p129 q129
               cases e129
               replace hx129_0 := (HB.out.cell (World.block_lt_of_cell? w _ hx129_0)).trans hx129_0
               have HR129_0 := As.mk hi129_0
               have HC129_0 := As.mk hl129_0
               clear hi129_0 hl129_0
               replace p129 := eq_true p129
               replace q129 := eq_true q129
               go_wp2
               go_loopg [8, 51] k2 (fun kq v8 v51 w' => ∃ (x6_3 : List Bool) (x7_3 : List Bool) (x8_3 : List Int) (x51_3 : Int), v51 = .int .i64 x51_3 ∧ As (pairing_Reach.l2 kq l0 l2 x6_3 x7_3 x8_3 (rd_L5 l0 (rd x8_2 0)) ((rd_L5 l0 (rd x8_2 0)).length : Int) x51_3 = some (r1, r2)) ∧ As (kq ≤ k2) ∧ As (Kd.R Kd.bool 4 w' w.heap.size (fun k_ => some k_ ≠ (v118 : Value).ownBlock) v115 x6_3) ∧ As (Kd.R Kd.bool 4 w' w.heap.size (fun k_ => some k_ ≠ (v115 : Value).ownBlock) v118 x7_3) ∧ As (Kd.Q (Kd.int .i64) 3 w' w.heap.size (fun _ => True) v8 x8_3) ∧ As (Below w.heap.size w w'))
               case atStart => exact ⟨(x6_2), (x7_2), (y126), (0), (by first | rfl | (simp; done) | (simp [*]; done)), H', ⟨Nat.le_refl _⟩, ⟨by (with_reducible repeat (first | apply Kd.R_alloc | apply Kd.R_drewN | apply Kd.R_drew)); exact HO_6.out⟩, ⟨by (with_reducible repeat (first | apply Kd.R_alloc | apply Kd.R_drewN | apply Kd.R_drew)); exact HO_7.out⟩, ⟨by (with_reducible repeat (first | apply Kd.Q_alloc | apply Kd.Q_drewN | apply Kd.Q_drew)); exact HO128.out⟩, ⟨by repeat (first | (with_reducible first | exact HB.out | apply below_alloc | apply pw_below_drewN | apply below_drew1) | exact HB.out)⟩⟩
               case round =>
                clear H'
                try clear c1
                try clear p1
                try clear q1
                try clear hx1
                try clear qi1
                try clear c2
                try clear p2
                try clear c3
                try clear q3
                try clear c4
                try clear c4b0
                try clear c4b1
                try clear c5
                try clear c5b0
                try clear c5b1
                try clear c6
                try clear c6b0
                try clear c6b1
                try clear p6
                try clear c7
                try clear c7b0
                try clear c7b1
                try clear c12
                try clear p12
                try clear q12
                try clear hx12
                try clear qi12
                try clear c14
                try clear c14b0
                try clear c15
                try clear c15b0
                try clear c16
                try clear c16b0
                try clear c17
                try clear c17b0
                try clear c18
                try clear c18b0
                try clear p19
                try clear q19
                try clear hx19
                try clear hf19
                try clear c20
                try clear c24
                try clear c24b0
                try clear c24b1
                try clear c25
                try clear c25b0
                try clear c25b1
                try clear c26
                try clear c26b0
                try clear c26b1
                try clear c27
                try clear c27b0
                try clear c28
                try clear c28b0
                try clear c30
                try clear q30
                try clear hx120_0
                try clear hx125_0
                try clear hx129_0
                try clear hx19_0
                try clear p1
                try clear p12
                try clear p120
                try clear p125
                try clear p129
                try clear p19
                try clear p2
                try clear p6
                try clear q1
                try clear q12
                try clear q120
                try clear q125
                try clear q129
                try clear q19
                try clear q30
                obtain ⟨x6_3, x7_3, x8_3, x51_3, rfl, HA, HK3, HO_6, HO_7, HO_8, HB⟩ := hrel
                cases gk with
                | zero => exact absurd HA.out (by simp [pairing_Reach.l2])
                | succ k3 =>
                 have H := HA.out
                 clear HA
                 simp only [pairing_Reach.l2] at H
                 by_cases c31 : x51_3 < ((rd_L5 l0 (rd x8_2 0)).length : Int)
                 ·rw [if_pos c31] at H
                  have c31b0 : decide (x51_3 < ((rd_L5 l0 (rd x8_2 0)).length : Int)) = true := decide_eq_true c31
                  clear c31
                  by_cases c32 : 0 ≤ x51_3
                  ·rw [if_pos c32] at H
                   have c32b0 : decide (0 ≤ x51_3) = true := decide_eq_true c32
                   clear c32
                   by_cases c33 : x51_3 < ((rd_L5 l0 (rd x8_2 0)).length : Int)
                   ·rw [if_pos c33] at H
                    have c33b0 : decide (x51_3 < ((rd_L5 l0 (rd x8_2 0)).length : Int)) = true := decide_eq_true c33
                    clear c33
                    by_cases c34 : 0 ≤ (rd (rd_L5 l0 (rd x8_2 0)) x51_3)
                    ·rw [if_pos c34] at H
                     have c34b0 : decide (0 ≤ (rd (rd_L5 l0 (rd x8_2 0)) x51_3)) = true := decide_eq_true c34
                     clear c34
                     by_cases c35 : (rd (rd_L5 l0 (rd x8_2 0)) x51_3) < (x7_3.length : Int)
                     ·rw [if_pos c35] at H
                      have c35b0 : decide ((rd (rd_L5 l0 (rd x8_2 0)) x51_3) < (x7_3.length : Int)) = true := decide_eq_true c35
                      clear c35
                      obtain ⟨y131, hy131⟩ : ∃ y_ : List Bool, y_ = (x7_3.set ((rd (rd_L5 l0 (rd x8_2 0)) x51_3) : Int).toNat true) := ⟨_, rfl⟩
                      replace H : (if (rd (rd_L5 l0 (rd x8_2 0)) x51_3) < (l2.length : Int) then (if (rd l2 (rd (rd_L5 l0 (rd x8_2 0)) x51_3)) ≥ 0 then (if 0 ≤ (rd l2 (rd (rd_L5 l0 (rd x8_2 0)) x51_3)) then (if (rd l2 (rd (rd_L5 l0 (rd x8_2 0)) x51_3)) < (x6_3.length : Int) then (if (rdOf false x6_3 (rd l2 (rd (rd_L5 l0 (rd x8_2 0)) x51_3)) = true) then (pairing_Reach.l2 k3 l0 l2 x6_3 y131 x8_3 (rd_L5 l0 (rd x8_2 0)) ((rd_L5 l0 (rd x8_2 0)).length : Int) (wrap64 (x51_3 + 1))) else (if x8_3.length < 17592186044416 then (pairing_Reach.l2 k3 l0 l2 (x6_3.set ((rd l2 (rd (rd_L5 l0 (rd x8_2 0)) x51_3)) : Int).toNat true) y131 (x8_3 ++ [rd l2 (rd (rd_L5 l0 (rd x8_2 0)) x51_3)]) (rd_L5 l0 (rd x8_2 0)) ((rd_L5 l0 (rd x8_2 0)).length : Int) (wrap64 (x51_3 + 1))) else (none))) else (none)) else (none)) else (pairing_Reach.l2 k3 l0 l2 x6_3 y131 x8_3 (rd_L5 l0 (rd x8_2 0)) ((rd_L5 l0 (rd x8_2 0)).length : Int) (wrap64 (x51_3 + 1)))) else (none)) = some (r1, r2) := by first | (rw [hy131]; with_reducible exact H) | (have H2_ := (Option.bind_some _ _).symm.trans H; rw [hy131]; with_reducible exact H2_) | (have H2_ := (Option.bind_some _ _).symm.trans H; with_reducible exact H2_) | with_reducible exact H | (rw [hy131]; exact H) | exact H
                      have Ny131 := As.mk hy131
                      clear hy131
                      by_cases c37 : (rd (rd_L5 l0 (rd x8_2 0)) x51_3) < (l2.length : Int)
                      ·rw [if_pos c37] at H
                       have c37b0 : decide ((rd (rd_L5 l0 (rd x8_2 0)) x51_3) < (l2.length : Int)) = true := decide_eq_true c37
                       clear c37
                       by_cases c38 : (rd l2 (rd (rd_L5 l0 (rd x8_2 0)) x51_3)) ≥ 0
                       ·rw [if_pos c38] at H
                        have c38b0 : decide (0 ≤ (rd l2 (rd (rd_L5 l0 (rd x8_2 0)) x51_3))) = true := decide_eq_true c38
                        clear c38
                        by_cases c39 : 0 ≤ (rd l2 (rd (rd_L5 l0 (rd x8_2 0)) x51_3))
                        ·rw [if_pos c39] at H
                         have c39b0 : decide (0 ≤ (rd l2 (rd (rd_L5 l0 (rd x8_2 0)) x51_3))) = true := decide_eq_true c39
                         clear c39
                         by_cases c40 : (rd l2 (rd (rd_L5 l0 (rd x8_2 0)) x51_3)) < (x6_3.length : Int)
                         ·rw [if_pos c40] at H
                          have c40b0 : decide ((rd l2 (rd (rd_L5 l0 (rd x8_2 0)) x51_3)) < (x6_3.length : Int)) = true := decide_eq_true c40
                          clear c40
                          obtain ⟨bq41, hbq41⟩ : ∃ b_ : Bool, b_ = (rdOf false x6_3 (rd l2 (rd (rd_L5 l0 (rd x8_2 0)) x51_3))) := ⟨_, rfl⟩
                          replace H : (if (bq41 = true) then (pairing_Reach.l2 k3 l0 l2 x6_3 y131 x8_3 (rd_L5 l0 (rd x8_2 0)) ((rd_L5 l0 (rd x8_2 0)).length : Int) (wrap64 (x51_3 + 1))) else (if x8_3.length < 17592186044416 then (pairing_Reach.l2 k3 l0 l2 (x6_3.set ((rd l2 (rd (rd_L5 l0 (rd x8_2 0)) x51_3)) : Int).toNat true) y131 (x8_3 ++ [rd l2 (rd (rd_L5 l0 (rd x8_2 0)) x51_3)]) (rd_L5 l0 (rd x8_2 0)) ((rd_L5 l0 (rd x8_2 0)).length : Int) (wrap64 (x51_3 + 1))) else (none))) = some (r1, r2) := by rw [← hbq41] at H; exact H
                          have Nbq41 := As.mk hbq41
                          clear hbq41
                          by_cases c42 : (bq41 = true)
                          ·subst c42
                           have H1 : (pairing_Reach.l2 k3 l0 l2 x6_3 y131 x8_3 (rd_L5 l0 (rd x8_2 0)) ((rd_L5 l0 (rd x8_2 0)).length : Int) (wrap64 (x51_3 + 1))) = some (r1, r2) := by rw [if_pos rfl] at H; exact H
                           clear H
                           have H := H1
                           clear H1
                           have H' := As.mk H
                           clear H
                           have p130 : 0 ≤ (x51_3 : Int) := of_decide_eq_true (by first | (with_reducible assumption) | assumption)
                           have q130 : x51_3 < ((rd_L5 l0 (rd x8_2 0)).length : Int) := of_decide_eq_true (by first | (with_reducible assumption) | assumption)
                           obtain ⟨ad130, e130, hx130_0⟩ := Kd.at_int HR129_0.out x51_3 p130 q130
                           cases e130
                           replace hx130_0 := (HB.out.cell (World.block_lt_of_cell? w _ hx130_0)).trans hx130_0
                           replace p130 := eq_true p130
                           replace q130 := eq_true q130
                           have p36 : 0 ≤ ((rd (rd_L5 l0 (rd x8_2 0)) x51_3) : Int) := of_decide_eq_true (by first | (with_reducible assumption) | assumption)
                           have q36 : ((rd (rd_L5 l0 (rd x8_2 0)) x51_3) : Int) < ((x7_3.length : Int) : Int) := of_decide_eq_true (by first | (with_reducible assumption) | assumption)
                           obtain ⟨go36, co36, eo36, gb36, gl36, cl36, HG36⟩ := Kd.R_form HO_7.out (by first | omega | (have e_ := (Kd.R_reads' HO_7.out).1; omega))
                           (first | cases eo36 | (injection eo36 with ea_ en_ ec_; (first | subst ea_ | (injection ea_ with ea_; subst ea_)); subst ec_; clear en_))
                           have GB36 := As.mk gb36
                           have GG36 := As.mk HG36
                           clear gb36 gl36 HG36
                           obtain ⟨hx36_0, hf36_0⟩ := Kd.R_celln false HO_7.out ((rd (rd_L5 l0 (rd x8_2 0)) x51_3) : Int) p36 q36
                           replace p36 := eq_true p36
                           replace q36 := eq_true q36
                           have HP43 := Kd.R_putg HO_7.out ((rd (rd_L5 l0 (rd x8_2 0)) x51_3) : Int) true
                           go_wp2_with (first | ((with_reducible refine gate_store (t := 4) (p := 57) rfl ?_); refine store_event (t := 4) (p := 57) (v := ?vo_w44) (w1 := (wr.setCell ⟨go36, ((rd (rd_L5 l0 (rd x8_2 0)) x51_3) : Int).toNat, none⟩ (.bool true))) ?hg ?ho ?hn ?hr ?_; (case ho => rfl); (case hg => rfl); (case hn => rfl); (case hr => first | (go_simp; done) | (go_simp; rfl)); intro w44 hw; have hg : wr.grownBy w44 (some go36) := (by rw [hw]; exact HP43.2); have hp_ : Kd.R Kd.bool 4 w44 w.heap.size (fun k_ => some k_ ≠ (v115 : Value).ownBlock) (.slice (some ⟨go36, 0, none⟩) x7_3.length co36) y131 := (by rw [hw, Ny131.out]; exact HP43.1); clear HP43; have n0_ := As.mk (Kd.R_after (v := (.slice (some ⟨go36, 0, none⟩) x7_3.length co36)) (v1 := (.slice (some ⟨go36, 0, none⟩) x7_3.length co36)) (ok := (fun _ => True)) (by (with_reducible repeat (first | apply Kd.R_alloc | apply Kd.R_drewN | apply Kd.R_drew)); exact Kd.R_mono HO_6.out (fun _ hk => ⟨trivial, hk⟩)) hg (.inl rfl)); have n1_ := As.mk (hp_); have n2_ := As.mk (Kd.Q_over' (v := (.slice (some ⟨go36, 0, none⟩) x7_3.length co36)) (qup HO_8.out) (Kd.R_typed HO_7.out) (by decide) hg); have n3_ := As.mk ((by rw [hw]; exact below_set (HB.out) GB36.out : Below w.heap.size w w44)); clear HO_6; clear HO_7; clear HO_8; clear HB; have HO_6 := n0_; have HO_7 := n1_; have HO_8 := n2_; have HB := n3_; clear n0_ n1_ n2_ n3_; clear hg hw hp_; have p132 : 0 ≤ ((rd (rd_L5 l0 (rd x8_2 0)) x51_3) : Int) := of_decide_eq_true (by first | (with_reducible assumption) | assumption); have q132 : (rd (rd_L5 l0 (rd x8_2 0)) x51_3) < (l2.length : Int) := of_decide_eq_true (by first | (with_reducible assumption) | assumption); obtain ⟨ad132, e132, hx132_0⟩ := Kd.at_int HR2.out (rd (rd_L5 l0 (rd x8_2 0)) x51_3) p132 q132; cases e132; replace hx132_0 := (HB.out.cell (World.block_lt_of_cell? w _ hx132_0)).trans hx132_0; replace p132 := eq_true p132; replace q132 := eq_true q132; obtain ⟨Ao45, co45, eo45⟩ := Kd.R_slice HO_6.out; subst eo45; have p133 : 0 ≤ ((rd l2 (rd (rd_L5 l0 (rd x8_2 0)) x51_3)) : Int) := of_decide_eq_true (by first | (with_reducible assumption) | assumption); have q133 : (rd l2 (rd (rd_L5 l0 (rd x8_2 0)) x51_3)) < (x6_3.length : Int) := of_decide_eq_true (by first | (with_reducible assumption) | assumption); obtain ⟨ad133, e133, hx133_0⟩ := Kd.at_bool (Kd.R_reads' HO_6.out).2.2 (rd l2 (rd (rd_L5 l0 (rd x8_2 0)) x51_3)) p133 q133; (try rw [← Nbq41.out] at hx133_0); cases e133; replace p133 := eq_true p133; replace q133 := eq_true q133))
                           go_roundg k3
                           case measure => have := HK1.out; have := HK2.out; have := HK3.out; omega
                           case rel => exact ⟨(x6_3), (y131), (x8_3), (wrap64 (x51_3 + 1)), (by first | rfl | (simp; done) | (simp [*]; done)), H', ⟨by have := HK1.out; have := HK2.out; have := HK3.out; omega⟩, ⟨by (with_reducible repeat (first | apply Kd.R_alloc | apply Kd.R_drewN | apply Kd.R_drew)); exact Kd.R_mono HO_6.out (fun _ hk => hk.2)⟩, ⟨by (with_reducible repeat (first | apply Kd.R_alloc | apply Kd.R_drewN | apply Kd.R_drew)); exact HO_7.out⟩, ⟨by (with_reducible repeat (first | apply Kd.Q_alloc | apply Kd.Q_drewN | apply Kd.Q_drew)); exact HO_8.out⟩, ⟨by repeat (first | (with_reducible first | exact HB.out | apply below_alloc | apply pw_below_drewN | apply below_drew1) | exact HB.out)⟩⟩
                          ·replace c42 := Bool.eq_false_iff.mpr c42
                           subst c42
                           have H1 : (if x8_3.length < 17592186044416 then (pairing_Reach.l2 k3 l0 l2 (x6_3.set ((rd l2 (rd (rd_L5 l0 (rd x8_2 0)) x51_3)) : Int).toNat true) y131 (x8_3 ++ [rd l2 (rd (rd_L5 l0 (rd x8_2 0)) x51_3)]) (rd_L5 l0 (rd x8_2 0)) ((rd_L5 l0 (rd x8_2 0)).length : Int) (wrap64 (x51_3 + 1))) else (none)) = some (r1, r2) := by rw [if_neg (show ¬ (false = true) by decide)] at H; exact H
                           clear H
                           have H := H1
                           clear H1
                           obtain ⟨y134, hy134⟩ : ∃ y_ : List Bool, y_ = (x6_3.set ((rd l2 (rd (rd_L5 l0 (rd x8_2 0)) x51_3)) : Int).toNat true) := ⟨_, rfl⟩
                           replace H : (if x8_3.length < 17592186044416 then (pairing_Reach.l2 k3 l0 l2 y134 y131 (x8_3 ++ [rd l2 (rd (rd_L5 l0 (rd x8_2 0)) x51_3)]) (rd_L5 l0 (rd x8_2 0)) ((rd_L5 l0 (rd x8_2 0)).length : Int) (wrap64 (x51_3 + 1))) else (none)) = some (r1, r2) := by first | (rw [hy134]; with_reducible exact H) | (have H2_ := (Option.bind_some _ _).symm.trans H; rw [hy134]; with_reducible exact H2_) | (have H2_ := (Option.bind_some _ _).symm.trans H; with_reducible exact H2_) | with_reducible exact H | (rw [hy134]; exact H) | exact H
                           have Ny134 := As.mk hy134
                           clear hy134
                           by_cases c47 : x8_3.length < 17592186044416
                           ·rw [if_pos c47] at H
                            have LMc47 := As.mk c47
                            clear c47
                            obtain ⟨y135, hy135⟩ : ∃ y_ : List Int, y_ = (x8_3 ++ [rd l2 (rd (rd_L5 l0 (rd x8_2 0)) x51_3)]) := ⟨_, rfl⟩
                            replace H : (pairing_Reach.l2 k3 l0 l2 y134 y131 y135 (rd_L5 l0 (rd x8_2 0)) ((rd_L5 l0 (rd x8_2 0)).length : Int) (wrap64 (x51_3 + 1))) = some (r1, r2) := by first | (rw [hy135]; with_reducible exact H) | (have H2_ := (Option.bind_some _ _).symm.trans H; rw [hy135]; with_reducible exact H2_) | (have H2_ := (Option.bind_some _ _).symm.trans H; with_reducible exact H2_) | with_reducible exact H | (rw [hy135]; exact H) | exact H
                            have Ny135 := As.mk hy135
                            clear hy135
                            have H' := As.mk H
                            clear H
                            have p130 : 0 ≤ (x51_3 : Int) := of_decide_eq_true (by first | (with_reducible assumption) | assumption)
                            have q130 : x51_3 < ((rd_L5 l0 (rd x8_2 0)).length : Int) := of_decide_eq_true (by first | (with_reducible assumption) | assumption)
                            obtain ⟨ad130, e130, hx130_0⟩ := Kd.at_int HR129_0.out x51_3 p130 q130
                            cases e130
                            replace hx130_0 := (HB.out.cell (World.block_lt_of_cell? w _ hx130_0)).trans hx130_0
                            replace p130 := eq_true p130
                            replace q130 := eq_true q130
                            have p36 : 0 ≤ ((rd (rd_L5 l0 (rd x8_2 0)) x51_3) : Int) := of_decide_eq_true (by first | (with_reducible assumption) | assumption)
                            have q36 : ((rd (rd_L5 l0 (rd x8_2 0)) x51_3) : Int) < ((x7_3.length : Int) : Int) := of_decide_eq_true (by first | (with_reducible assumption) | assumption)
                            obtain ⟨go36, co36, eo36, gb36, gl36, cl36, HG36⟩ := Kd.R_form HO_7.out (by first | omega | (have e_ := (Kd.R_reads' HO_7.out).1; omega))
                            (first | cases eo36 | (injection eo36 with ea_ en_ ec_; (first | subst ea_ | (injection ea_ with ea_; subst ea_)); subst ec_; clear en_))
                            have GB36 := As.mk gb36
                            have GG36 := As.mk HG36
                            clear gb36 gl36 HG36
                            obtain ⟨hx36_0, hf36_0⟩ := Kd.R_celln false HO_7.out ((rd (rd_L5 l0 (rd x8_2 0)) x51_3) : Int) p36 q36
                            replace p36 := eq_true p36
                            replace q36 := eq_true q36
                            have HP48 := Kd.R_putg HO_7.out ((rd (rd_L5 l0 (rd x8_2 0)) x51_3) : Int) true
                            go_wp2_with (first | ((with_reducible refine gate_store (t := 4) (p := 57) rfl ?_); refine store_event (t := 4) (p := 57) (v := ?vo_w49) (w1 := (wr.setCell ⟨go36, ((rd (rd_L5 l0 (rd x8_2 0)) x51_3) : Int).toNat, none⟩ (.bool true))) ?hg ?ho ?hn ?hr ?_; (case ho => rfl); (case hg => rfl); (case hn => rfl); (case hr => first | (go_simp; done) | (go_simp; rfl)); intro w49 hw; have hg : wr.grownBy w49 (some go36) := (by rw [hw]; exact HP48.2); have hp_ : Kd.R Kd.bool 4 w49 w.heap.size (fun k_ => some k_ ≠ (v115 : Value).ownBlock) (.slice (some ⟨go36, 0, none⟩) x7_3.length co36) y131 := (by rw [hw, Ny131.out]; exact HP48.1); clear HP48; have n0_ := As.mk (Kd.R_after (v := (.slice (some ⟨go36, 0, none⟩) x7_3.length co36)) (v1 := (.slice (some ⟨go36, 0, none⟩) x7_3.length co36)) (ok := (fun _ => True)) (by (with_reducible repeat (first | apply Kd.R_alloc | apply Kd.R_drewN | apply Kd.R_drew)); exact Kd.R_mono HO_6.out (fun _ hk => ⟨trivial, hk⟩)) hg (.inl rfl)); have n1_ := As.mk (hp_); have n2_ := As.mk (Kd.Q_over' (v := (.slice (some ⟨go36, 0, none⟩) x7_3.length co36)) (qup HO_8.out) (Kd.R_typed HO_7.out) (by decide) hg); have n3_ := As.mk ((by rw [hw]; exact below_set (HB.out) GB36.out : Below w.heap.size w w49)); clear HO_6; clear HO_7; clear HO_8; clear HB; have HO_6 := n0_; have HO_7 := n1_; have HO_8 := n2_; have HB := n3_; clear n0_ n1_ n2_ n3_; clear hg hw hp_; have p132 : 0 ≤ ((rd (rd_L5 l0 (rd x8_2 0)) x51_3) : Int) := of_decide_eq_true (by first | (with_reducible assumption) | assumption); have q132 : (rd (rd_L5 l0 (rd x8_2 0)) x51_3) < (l2.length : Int) := of_decide_eq_true (by first | (with_reducible assumption) | assumption); obtain ⟨ad132, e132, hx132_0⟩ := Kd.at_int HR2.out (rd (rd_L5 l0 (rd x8_2 0)) x51_3) p132 q132; cases e132; replace hx132_0 := (HB.out.cell (World.block_lt_of_cell? w _ hx132_0)).trans hx132_0; replace p132 := eq_true p132; replace q132 := eq_true q132; obtain ⟨Ao50, co50, eo50⟩ := Kd.R_slice HO_6.out; subst eo50; have p133 : 0 ≤ ((rd l2 (rd (rd_L5 l0 (rd x8_2 0)) x51_3)) : Int) := of_decide_eq_true (by first | (with_reducible assumption) | assumption); have q133 : (rd l2 (rd (rd_L5 l0 (rd x8_2 0)) x51_3)) < (x6_3.length : Int) := of_decide_eq_true (by first | (with_reducible assumption) | assumption); obtain ⟨ad133, e133, hx133_0⟩ := Kd.at_bool (Kd.R_reads' HO_6.out).2.2 (rd l2 (rd (rd_L5 l0 (rd x8_2 0)) x51_3)) p133 q133; (try rw [← Nbq41.out] at hx133_0); cases e133; replace p133 := eq_true p133; replace q133 := eq_true q133; have p46 : 0 ≤ ((rd l2 (rd (rd_L5 l0 (rd x8_2 0)) x51_3)) : Int) := of_decide_eq_true (by first | (with_reducible assumption) | assumption); have q46 : ((rd l2 (rd (rd_L5 l0 (rd x8_2 0)) x51_3)) : Int) < ((x6_3.length : Int) : Int) := of_decide_eq_true (by first | (with_reducible assumption) | assumption); obtain ⟨go46, co46, eo46, gb46, gl46, cl46, HG46⟩ := Kd.R_form HO_6.out (by first | omega | (have e_ := (Kd.R_reads' HO_6.out).1; omega)); (first | cases eo46 | (injection eo46 with ea_ en_ ec_; (first | subst ea_ | (injection ea_ with ea_; subst ea_)); subst ec_; clear en_)); have GB46 := As.mk gb46; have GG46 := As.mk HG46; clear gb46 gl46 HG46; (first | simp only [add_plain] at hx133_0 | skip); obtain ⟨hx46_0, hf46_0⟩ := Kd.R_celln false HO_6.out ((rd l2 (rd (rd_L5 l0 (rd x8_2 0)) x51_3)) : Int) p46 q46; replace p46 := eq_true p46; replace q46 := eq_true q46; have n_ := As.mk (Kd.R_mono (ok' := (fun k_ => some k_ ≠ (.slice (some ⟨go36, 0, none⟩) x7_3.length co36 : Value).ownBlock)) HO_6.out (fun k_ hk => hk.2)); clear HO_6; have HO_6 := n_; clear n_; obtain ⟨hy51_, hz51_⟩ := Kd.R_celln false HO_6.out ((rd l2 (rd (rd_L5 l0 (rd x8_2 0)) x51_3)) : Int) (of_decide_eq_true (by first | (with_reducible assumption) | assumption)) (of_decide_eq_true (by first | (with_reducible assumption) | assumption)); have HP51 := Kd.R_putg HO_6.out ((rd l2 (rd (rd_L5 l0 (rd x8_2 0)) x51_3)) : Int) true) | ((with_reducible refine gate_store (t := 4) (p := 73) rfl ?_); refine store_event (t := 4) (p := 73) (v := ?vo_w52) (w1 := (w49.setCell ⟨go46, ((rd l2 (rd (rd_L5 l0 (rd x8_2 0)) x51_3)) : Int).toNat, none⟩ (.bool true))) ?hg ?ho ?hn ?hr ?_; (case ho => rfl); (case hg => rfl); (case hn => rfl); (case hr => first | (go_simp; done) | (go_simp; rfl)); intro w52 hw; have hg : w49.grownBy w52 (some go46) := (by rw [hw]; exact HP51.2); have hp_ : Kd.R Kd.bool 4 w52 w.heap.size (fun k_ => some k_ ≠ (.slice (some ⟨go36, 0, none⟩) x7_3.length co36 : Value).ownBlock) (.slice (some ⟨go46, 0, none⟩) x6_3.length co50) y134 := (by rw [hw, Ny134.out]; exact HP51.1); clear HP51; have n0_ := As.mk (hp_); have n1_ := As.mk (Kd.R_after (v := (.slice (some ⟨go46, 0, none⟩) x6_3.length co50)) (v1 := (.slice (some ⟨go46, 0, none⟩) x6_3.length co50)) (ok := (fun _ => True)) (by (with_reducible repeat (first | apply Kd.R_alloc | apply Kd.R_drewN | apply Kd.R_drew)); exact Kd.R_mono HO_7.out (fun _ hk => ⟨trivial, hk⟩)) hg (.inl rfl)); have n2_ := As.mk (Kd.Q_over' (v := (.slice (some ⟨go46, 0, none⟩) x6_3.length co50)) (qup HO_8.out) (Kd.R_typed HO_6.out) (by decide) hg); have n3_ := As.mk ((by rw [hw]; exact below_set (HB.out) GB46.out : Below w.heap.size w w52)); clear HO_6; clear HO_7; clear HO_8; clear HB; have HO_6 := n0_; have HO_7 := n1_; have HO_8 := n2_; have HB := n3_; clear n0_ n1_ n2_ n3_; clear hg hw hp_) | ((with_reducible refine gate_builtin (b := .append) (xs := #[.tmp 74, .tmp 76]) rfl ?_); at_builtin; refine Kd.Q_append (Kd.int .i64) (w0 := w) w.heap.size rfl (.tmp 74) (.tmp 76) 29 3 (.int .i64 0) 8 rfl Try.underlying29 info3 rfl (by decide) (by omega) u8 x8_3 (rd l2 (rd (rd_L5 l0 (rd x8_2 0)) x51_3)) [.int .i64 (rd l2 (rd (rd_L5 l0 (rd x8_2 0)) x51_3))] (fun _ => True) (fun _ => False) rfl rfl ?aP (fun _ hk => hk.elim) ?aF ?aO ?aB ?aS ?aL ?_; (case aP => exact rfl); (case aB => exact (hup0 HB.out)); (case aF => exact (fun _ _ => trivial)); (case aO => exact (qup HO_8.out)); (case aS => exact (below_size (hup0 HB.out))); (case aL => have := LMc47.out; omega); intro v136 w53 ho hb hg hat; rw [← Ny135.out] at ho; have n0_ := As.mk (Kd.R_over' (rup HO_6.out) (Kd.Q_typed (qup HO_8.out)) (by decide) hg); have n1_ := As.mk (Kd.R_over' (rup HO_7.out) (Kd.Q_typed (qup HO_8.out)) (by decide) hg); have n2_ := As.mk (hb); have n3_ := As.mk (ho); clear HO_6; clear HO_7; clear HB; clear HO_8; have HO_6 := n0_; have HO_7 := n1_; have HB := n2_; have HO137 := n3_; clear n0_ n1_ n2_ n3_; clear ho hb hg hat))
                            go_roundg k3
                            case measure => have := HK1.out; have := HK2.out; have := HK3.out; omega
                            case rel => exact ⟨(y134), (y131), (y135), (wrap64 (x51_3 + 1)), (by first | rfl | (simp; done) | (simp [*]; done)), H', ⟨by have := HK1.out; have := HK2.out; have := HK3.out; omega⟩, ⟨by (with_reducible repeat (first | apply Kd.R_alloc | apply Kd.R_drewN | apply Kd.R_drew)); exact HO_6.out⟩, ⟨by (with_reducible repeat (first | apply Kd.R_alloc | apply Kd.R_drewN | apply Kd.R_drew)); exact Kd.R_mono HO_7.out (fun _ hk => hk.2)⟩, ⟨by (with_reducible repeat (first | apply Kd.Q_alloc | apply Kd.Q_drewN | apply Kd.Q_drew)); exact HO137.out⟩, ⟨by repeat (first | (with_reducible first | exact HB.out | apply below_alloc | apply pw_below_drewN | apply below_drew1) | exact HB.out)⟩⟩
                           ·rw [if_neg c47] at H
                            exact absurd H (by simp)
                         ·rw [if_neg c40] at H
                          exact absurd H (by simp)
                        ·rw [if_neg c39] at H
                         exact absurd H (by simp)
                       ·rw [if_neg c38] at H
                        have c38b0 : decide (0 ≤ (rd l2 (rd (rd_L5 l0 (rd x8_2 0)) x51_3))) = false := decide_eq_false c38
                        clear c38
                        have H' := As.mk H
                        clear H
                        have p130 : 0 ≤ (x51_3 : Int) := of_decide_eq_true (by first | (with_reducible assumption) | assumption)
                        have q130 : x51_3 < ((rd_L5 l0 (rd x8_2 0)).length : Int) := of_decide_eq_true (by first | (with_reducible assumption) | assumption)
                        obtain ⟨ad130, e130, hx130_0⟩ := Kd.at_int HR129_0.out x51_3 p130 q130
                        cases e130
                        replace hx130_0 := (HB.out.cell (World.block_lt_of_cell? w _ hx130_0)).trans hx130_0
                        replace p130 := eq_true p130
                        replace q130 := eq_true q130
                        have p36 : 0 ≤ ((rd (rd_L5 l0 (rd x8_2 0)) x51_3) : Int) := of_decide_eq_true (by first | (with_reducible assumption) | assumption)
                        have q36 : ((rd (rd_L5 l0 (rd x8_2 0)) x51_3) : Int) < ((x7_3.length : Int) : Int) := of_decide_eq_true (by first | (with_reducible assumption) | assumption)
                        obtain ⟨go36, co36, eo36, gb36, gl36, cl36, HG36⟩ := Kd.R_form HO_7.out (by first | omega | (have e_ := (Kd.R_reads' HO_7.out).1; omega))
                        (first | cases eo36 | (injection eo36 with ea_ en_ ec_; (first | subst ea_ | (injection ea_ with ea_; subst ea_)); subst ec_; clear en_))
                        have GB36 := As.mk gb36
                        have GG36 := As.mk HG36
                        clear gb36 gl36 HG36
                        obtain ⟨hx36_0, hf36_0⟩ := Kd.R_celln false HO_7.out ((rd (rd_L5 l0 (rd x8_2 0)) x51_3) : Int) p36 q36
                        replace p36 := eq_true p36
                        replace q36 := eq_true q36
                        have HP54 := Kd.R_putg HO_7.out ((rd (rd_L5 l0 (rd x8_2 0)) x51_3) : Int) true
                        go_wp2_with (first | ((with_reducible refine gate_store (t := 4) (p := 57) rfl ?_); refine store_event (t := 4) (p := 57) (v := ?vo_w55) (w1 := (wr.setCell ⟨go36, ((rd (rd_L5 l0 (rd x8_2 0)) x51_3) : Int).toNat, none⟩ (.bool true))) ?hg ?ho ?hn ?hr ?_; (case ho => rfl); (case hg => rfl); (case hn => rfl); (case hr => first | (go_simp; done) | (go_simp; rfl)); intro w55 hw; have hg : wr.grownBy w55 (some go36) := (by rw [hw]; exact HP54.2); have hp_ : Kd.R Kd.bool 4 w55 w.heap.size (fun k_ => some k_ ≠ (v115 : Value).ownBlock) (.slice (some ⟨go36, 0, none⟩) x7_3.length co36) y131 := (by rw [hw, Ny131.out]; exact HP54.1); clear HP54; have n0_ := As.mk (Kd.R_after (v := (.slice (some ⟨go36, 0, none⟩) x7_3.length co36)) (v1 := (.slice (some ⟨go36, 0, none⟩) x7_3.length co36)) (ok := (fun _ => True)) (by (with_reducible repeat (first | apply Kd.R_alloc | apply Kd.R_drewN | apply Kd.R_drew)); exact Kd.R_mono HO_6.out (fun _ hk => ⟨trivial, hk⟩)) hg (.inl rfl)); have n1_ := As.mk (hp_); have n2_ := As.mk (Kd.Q_over' (v := (.slice (some ⟨go36, 0, none⟩) x7_3.length co36)) (qup HO_8.out) (Kd.R_typed HO_7.out) (by decide) hg); have n3_ := As.mk ((by rw [hw]; exact below_set (HB.out) GB36.out : Below w.heap.size w w55)); clear HO_6; clear HO_7; clear HO_8; clear HB; have HO_6 := n0_; have HO_7 := n1_; have HO_8 := n2_; have HB := n3_; clear n0_ n1_ n2_ n3_; clear hg hw hp_; have p132 : 0 ≤ ((rd (rd_L5 l0 (rd x8_2 0)) x51_3) : Int) := of_decide_eq_true (by first | (with_reducible assumption) | assumption); have q132 : (rd (rd_L5 l0 (rd x8_2 0)) x51_3) < (l2.length : Int) := of_decide_eq_true (by first | (with_reducible assumption) | assumption); obtain ⟨ad132, e132, hx132_0⟩ := Kd.at_int HR2.out (rd (rd_L5 l0 (rd x8_2 0)) x51_3) p132 q132; cases e132; replace hx132_0 := (HB.out.cell (World.block_lt_of_cell? w _ hx132_0)).trans hx132_0; replace p132 := eq_true p132; replace q132 := eq_true q132))
                        go_roundg k3
                        case measure => have := HK1.out; have := HK2.out; have := HK3.out; omega
                        case rel => exact ⟨(x6_3), (y131), (x8_3), (wrap64 (x51_3 + 1)), (by first | rfl | (simp; done) | (simp [*]; done)), H', ⟨by have := HK1.out; have := HK2.out; have := HK3.out; omega⟩, ⟨by (with_reducible repeat (first | apply Kd.R_alloc | apply Kd.R_drewN | apply Kd.R_drew)); exact Kd.R_mono HO_6.out (fun _ hk => hk.2)⟩, ⟨by (with_reducible repeat (first | apply Kd.R_alloc | apply Kd.R_drewN | apply Kd.R_drew)); exact HO_7.out⟩, ⟨by (with_reducible repeat (first | apply Kd.Q_alloc | apply Kd.Q_drewN | apply Kd.Q_drew)); exact HO_8.out⟩, ⟨by repeat (first | (with_reducible first | exact HB.out | apply below_alloc | apply pw_below_drewN | apply below_drew1) | exact HB.out)⟩⟩
                      ·rw [if_neg c37] at H
                       exact absurd H (by simp)
                     ·rw [if_neg c35] at H
                      exact absurd H (by simp)
                    ·rw [if_neg c34] at H
                     exact absurd H (by simp)
                   ·rw [if_neg c33] at H
                    exact absurd H (by simp)
                  ·rw [if_neg c32] at H
                   exact absurd H (by simp)
                 ·rw [if_neg c31] at H
                  have c31b0 : decide (x51_3 < ((rd_L5 l0 (rd x8_2 0)).length : Int)) = false := decide_eq_false c31
                  clear c31
                  have H' := As.mk H
                  clear H
                  go_wp2
                  go_roundg k3
                  case measure => have := HK1.out; have := HK2.out; have := HK3.out; omega
                  case rel => exact ⟨(x6_3), (x7_3), (x8_3), H', ⟨by have := HK1.out; have := HK2.out; have := HK3.out; omega⟩, ⟨by (with_reducible repeat (first | apply Kd.R_alloc | apply Kd.R_drewN | apply Kd.R_drew)); exact HO_6.out⟩, ⟨by (with_reducible repeat (first | apply Kd.R_alloc | apply Kd.R_drewN | apply Kd.R_drew)); exact HO_7.out⟩, ⟨by (with_reducible repeat (first | apply Kd.Q_alloc | apply Kd.Q_drewN | apply Kd.Q_drew)); exact HO_8.out⟩, ⟨by repeat (first | (with_reducible first | exact HB.out | apply below_alloc | apply pw_below_drewN | apply below_drew1) | exact HB.out)⟩⟩
              ·rw [if_neg c28] at H
               exact absurd H (by simp)
             ·rw [if_neg c27] at H
              exact absurd H (by simp)
            ·rw [if_neg c26] at H
             exact absurd H (by simp)
           ·rw [if_neg c25] at H
            exact absurd H (by simp)
          ·rw [if_neg c24] at H
           have c24b0 : decide (0 < (x8_2.length : Int)) = false := decide_eq_false c24
           have c24b1 : decide (0 < x8_2.length) = false := decide_eq_false (by omega)
           clear c24
           simp only [Option.some.injEq, Prod.mk.injEq] at H
           obtain ⟨rfl, rfl⟩ := H
           obtain ⟨Ao56, co56, eo56, _⟩ := Kd.Q_slice HO_8.out
           subst eo56
           go_wp2
           go_ret2
           exact ⟨_, _, by first | rfl | (simp [errW_none, errW_some] <;> rfl) | (simp [*, errW_none, errW_some] <;> rfl), by (with_reducible repeat (first | apply Kd.R_alloc | apply Kd.R_drewN | apply Kd.R_drew)); exact HO_6.out, by (with_reducible repeat (first | apply Kd.R_alloc | apply Kd.R_drewN | apply Kd.R_drew)); exact HO_7.out, by repeat (first | (with_reducible first | exact HB.out | apply below_alloc | apply pw_below_drewN | apply below_drew1) | exact HB.out)⟩
    ·rw [if_neg c7] at H
     exact absurd H (by simp)
   ·rw [if_neg c6] at H
    exact absurd H (by simp)
  ·rw [if_neg c5] at H
   exact absurd H (by simp)
 ·rw [if_neg c4] at H
  exact absurd H (by simp)
def match_reach.f (k : Nat) (l0 : List (List Int)) (a1 : Int) : Option (List Bool × List Bool) := (pairing_Greatest.f k l0 a1).bind fun bt138 => ((pairing_Reach.f k l0 bt138.1 bt138.2).bind fun bt144 => (some (bt144.1, bt144.2)))
theorem match_reach.mono : ∀ a0 a1 k, LeO (match_reach.f k a0 a1) (match_reach.f (k + 1) a0 a1) := by
 intro a0 a1 k
 unfold match_reach.f
 repeat' first
   | (with_reducible exact pairing_Greatest.mono _ _ _)
   | (with_reducible exact pairing_Reach.mono _ _ _ _)
   | (with_reducible exact LeO.refl _)
   | (with_reducible exact LeO.none _)
   | (with_reducible refine LeO.ite ?_ ?_)
   | (with_reducible refine LeO.bind ?_ (fun _ => ?_))
   | exact pairing_Greatest.mono _ _ _
   | exact pairing_Reach.mono _ _ _ _
   | exact LeO.none _
   | refine LeO.ite ?_ ?_
   | refine LeO.bind ?_ (fun _ => ?_)
set_option maxHeartbeats 8000000 in
set_option maxRecDepth 100000 in
theorem match_reach.calls (k : Nat) (A0 : Option Addr) (c0 : Nat) (l0 : List (List Int)) (a1 : Int) (r1 : List Bool) (r2 : List Bool) (w : World) (hr0 : Kd.C (Kd.slice 3 (Kd.int .i64)) w A0 l0.length l0) (hc0 : l0.length ≤ c0) (h : match_reach.f k l0 a1 = some (r1, r2)) :
  Calls Try.prog 41 #[.slice A0 l0.length c0, .int .i64 a1] w fun e w' => ∃ v0_ v1_ : Value, e = .returned (.tuple #[v0_, v1_]) ∧ Kd.R Kd.bool 4 w' w.heap.size (fun k_ => some k_ ≠ (v1_ : Value).ownBlock) v0_ r1 ∧ Kd.R Kd.bool 4 w' w.heap.size (fun k_ => some k_ ≠ (v0_ : Value).ownBlock) v1_ r2 ∧ Below w.heap.size w w' := by
 have HR0 := As.mk hr0
 have HC0 := As.mk hc0
 clear hr0 hc0
 have HB := As.mk (Below.refl w.heap.size w)
 have H : ((pairing_Greatest.f k l0 a1).bind fun bt138 => ((pairing_Reach.f k l0 bt138.1 bt138.2).bind fun bt144 => (some (bt144.1, bt144.2)))) = some (r1, r2) := h
 clear h
 replace H := Option.bind_eq_some_iff.mp H
 obtain ⟨⟨t138, t139⟩, A30, H⟩ := H
 replace H : ((pairing_Reach.f k l0 t138 t139).bind fun bt144 => (some (bt144.1, bt144.2))) = some (r1, r2) := H
 have A3 := As.mk A30
 clear A30
 replace H := Option.bind_eq_some_iff.mp H
 obtain ⟨⟨t144, t145⟩, A40, H⟩ := H
 replace H : (some (t144, t145)) = some (r1, r2) := H
 have A4 := As.mk A40
 clear A40
 simp only [Option.some.injEq, Prod.mk.injEq] at H
 obtain ⟨rfl, rfl⟩ := H
 go_enter Try.func41, Try.ntmps41
 go_wp2_with (first | ((with_reducible refine gate_callee (f := 46) rfl ?_); refine goesL_ (some 11) rfl rfl Try.func46 (by kernel_rfl) rfl #[.slice A0 l0.length c0, .int .i64 a1] rfl (by (try simp only [List.map_toArray, List.map_cons, List.map_nil]); first | done | rfl | (simp only [List.length_drop, List.length_take]; rfl)) ?_; (with_reducible refine (pairing_Greatest.calls k _ _ l0 a1 t138 t139 _ ?side1 ?side2 A3.out).mono ?_); (case side1 => repeat (first | exact HR0.out | (with_reducible refine Kd.C_alloc ?_ _) | (with_reducible refine Kd.C_drewN ?_ _) | (with_reducible refine Kd.C_drew ?_))); (case side2 => exact HC0.out); rintro e w5 ⟨v140, v142, rfl, ho0, ho1, hb⟩; refine ⟨_, rfl, ?_⟩; have n0_ := As.mk (Kd.R_lower ho0 (below_size (hup0 HB.out))); have n1_ := As.mk (Kd.R_lower ho1 (below_size (hup0 HB.out))); have n2_ := As.mk (below_step (hup0 HB.out) hb); clear HB; have HO141 := n0_; have HO143 := n1_; have HB := n2_; clear n0_ n1_ n2_; (try clear hb); (try clear hb2); (try clear hk); (try clear hi); (try clear ho0); (try clear ho1); obtain ⟨Ao6, co6, eo6⟩ := Kd.R_slice HO141.out; subst eo6; obtain ⟨Ao7, co7, eo7⟩ := Kd.R_slice HO143.out; subst eo7) | ((with_reducible refine gate_callee (f := 50) rfl ?_); refine goesL_ (some 17) rfl rfl Try.func50 (by kernel_rfl) rfl #[.slice A0 l0.length c0, .slice Ao6 t138.length co6, .slice Ao7 t139.length co7] rfl (by (try simp only [List.map_toArray, List.map_cons, List.map_nil]); first | done | rfl | (simp only [List.length_drop, List.length_take]; rfl)) ?_; (with_reducible refine (pairing_Reach.calls k _ _ l0 _ _ t138 _ _ t139 t144 t145 _ ?side1 ?side2 ?side3 ?side4 ?side5 ?side6 A4.out).mono ?_); (case side1 => repeat (first | exact (Kd.C_below HR0.out HB.out) | (with_reducible refine Kd.C_alloc ?_ _) | (with_reducible refine Kd.C_drewN ?_ _) | (with_reducible refine Kd.C_drew ?_))); (case side2 => exact HC0.out); (case side3 => repeat (first | exact (Kd.R_reads' HO141.out).2.2 | (with_reducible refine Kd.C_alloc ?_ _) | (with_reducible refine Kd.C_drewN ?_ _) | (with_reducible refine Kd.C_drew ?_))); (case side4 => exact (Kd.R_reads' HO141.out).2.1); (case side5 => repeat (first | exact (Kd.R_reads' HO143.out).2.2 | (with_reducible refine Kd.C_alloc ?_ _) | (with_reducible refine Kd.C_drewN ?_ _) | (with_reducible refine Kd.C_drew ?_))); (case side6 => exact (Kd.R_reads' HO143.out).2.1); rintro e w8 ⟨v146, v148, rfl, ho0, ho1, hb⟩; refine ⟨_, rfl, ?_⟩; have n0_ := As.mk (Kd.R_below (rup HO141.out) hb); have n1_ := As.mk (Kd.R_below (rup HO143.out) hb); have n2_ := As.mk (Kd.R_lower ho0 (below_size (hup0 HB.out))); have n3_ := As.mk (Kd.R_lower ho1 (below_size (hup0 HB.out))); have n4_ := As.mk (below_step (hup0 HB.out) hb); clear HO141; clear HO143; clear HB; have HO141 := n0_; have HO143 := n1_; have HO147 := n2_; have HO149 := n3_; have HB := n4_; clear n0_ n1_ n2_ n3_ n4_; (try clear hb); (try clear hb2); (try clear hk); (try clear hi); (try clear ho0); (try clear ho1)))
 go_ret2
 exact ⟨_, _, by first | rfl | (simp [errW_none, errW_some] <;> rfl) | (simp [*, errW_none, errW_some] <;> rfl), by (with_reducible repeat (first | apply Kd.R_alloc | apply Kd.R_drewN | apply Kd.R_drew)); exact HO147.out, by (with_reducible repeat (first | apply Kd.R_alloc | apply Kd.R_drewN | apply Kd.R_drew)); exact HO149.out, by repeat (first | (with_reducible first | exact HB.out | apply below_alloc | apply pw_below_drewN | apply below_drew1) | exact HB.out)⟩
end Go.Proofs.Ytlleokhmgblfnaa.M
end
