/- A part of the proof: texts of this seat joined (printed and by hand), without what is not used. -/
import Derived.Test.YtlleokhmgblfnaaBCol2
set_option linter.unusedVariables false
set_option linter.unusedSimpArgs false
set_option linter.unusedSectionVars false
section
namespace Go.Proofs.Ytlleokhmgblfnaa.M
open Go.RowKit Go.Proofs.YtlleokhmgblfnaaW.PrintWords Go.Proofs.YtlleokhmgblfnaaW.PrintLast Go.Proofs.YtlleokhmgblfnaaW.PrintMore
attribute [local go_sem] max2_int min2_int max_two min_two max_three min_three max_four min_four   -- for this text's walks alone
def match_Hall.f (k : Nat) (a0_0 : Int) (a0_1 : Int) (l0_2 : List (S40)) : Option (List Int × List Int × Int) := (match_Check.f a0_0 a0_1 l0_2).bind fun t166 => (if t166 = 0 then ((match_Graph_neighbours.f k a0_0 a0_1 l0_2).bind fun t167 => ((match_reach.f k t167 a0_1).bind fun bt170 => ((pairing_Chosen.f k bt170.1 true).bind fun t176 => (if (t176.length : Int) = 0 then (some (([] : List Int), ([] : List Int), 4)) else ((pairing_Chosen.f k bt170.2 true).bind fun t179 => (some (t176, t179, 0))))))) else (some (([] : List Int), ([] : List Int), t166)))
theorem match_Hall.mono : ∀ a0 a1 a2 k, LeO (match_Hall.f k a0 a1 a2) (match_Hall.f (k + 1) a0 a1 a2) := by
  intro a0 a1 a2 k
  unfold match_Hall.f
  repeat' first
      | (with_reducible exact match_Graph_neighbours.mono _ _ _ _)
      | (with_reducible exact match_reach.mono _ _ _)
      | (with_reducible exact pairing_Chosen.mono _ _ _)
      | (with_reducible exact LeO.refl _)
      | (with_reducible exact LeO.none _)
      | (with_reducible refine LeO.ite ?_ ?_)
      | (with_reducible refine LeO.bind ?_ (fun _ => ?_))
      | exact match_Graph_neighbours.mono _ _ _ _
      | exact match_reach.mono _ _ _
      | exact pairing_Chosen.mono _ _ _
      | exact LeO.none _
      | refine LeO.ite ?_ ?_
      | refine LeO.bind ?_ (fun _ => ?_)
def match_Hall.T4 : Bool × List (List Nat × List Nat) := (true, [([], []), ([0], [0]), ([], []), ([2], [2]), ([1, 3, 1], [1, 3]), ([4], [4]), ([5], [5]), ([5], [5]), ([6, 4, 0, 1, 2, 3, 4, 5, 6], [6]), ([7, 8, 0, 1, 2, 3, 4, 5, 6, 7, 8], [7])])
def match_Hall.B4 : List Nat := [0, 1, 0, 4, 15, 31, 63, 63, 127, 511]
theorem match_Hall.tab4 : rtab .any (opsOf Try.f13 4) = match_Hall.T4 := by kernel_rfl
theorem match_Hall.bits4 : waitsOk match_Hall.T4.2 match_Hall.B4 = true := by kernel_rfl
set_option maxHeartbeats 8000000 in
set_option maxRecDepth 100000 in
theorem match_Hall.calls (k : Nat) (a0_0 : Int) (a0_1 : Int) (A0_2 : Option Addr) (c0_2 : Nat) (l0_2 : List (S40)) (r1 : List Int) (r2 : List Int) (r3 : Int) (w : World) (hr0_2 : Kd.C k40 w A0_2 l0_2.length l0_2) (hc0_2 : l0_2.length ≤ c0_2) (h : match_Hall.f k a0_0 a0_1 l0_2 = some (r1, r2, r3)) :
    Calls Try.prog 13 #[.agg #[.int .i64 a0_0, .int .i64 a0_1, .slice A0_2 l0_2.length c0_2]] w fun e w' => ∃ v0_ v1_ : Value, e = .returned (.tuple #[v0_, v1_, .int .i64 r3]) ∧ Kd.R (Kd.int .i64) 3 w' w.heap.size (fun k_ => some k_ ≠ (v1_ : Value).ownBlock) v0_ r1 ∧ Kd.R (Kd.int .i64) 3 w' w.heap.size (fun k_ => some k_ ≠ (v0_ : Value).ownBlock) v1_ r2 ∧ Below w.heap.size w w' := by
  have hu33 := Try.underlying33
  have HR0_2 := Aside0.mk hr0_2
  have HC0_2 := Aside0.mk hc0_2
  clear hr0_2 hc0_2
  have HB := Aside0.mk (Below.refl w.heap.size w)
  have H : ((match_Check.f a0_0 a0_1 l0_2).bind fun t166 => (if t166 = 0 then ((match_Graph_neighbours.f k a0_0 a0_1 l0_2).bind fun t167 => ((match_reach.f k t167 a0_1).bind fun bt170 => ((pairing_Chosen.f k bt170.1 true).bind fun t176 => (if (t176.length : Int) = 0 then (some (([] : List Int), ([] : List Int), 4)) else ((pairing_Chosen.f k bt170.2 true).bind fun t179 => (some (t176, t179, 0))))))) else (some (([] : List Int), ([] : List Int), t166)))) = some (r1, r2, r3) := h
  clear h
  replace H := Option.bind_eq_some_iff.mp H
  obtain ⟨t166, A20, H⟩ := H
  replace H : (if t166 = 0 then ((match_Graph_neighbours.f k a0_0 a0_1 l0_2).bind fun t167 => ((match_reach.f k t167 a0_1).bind fun bt170 => ((pairing_Chosen.f k bt170.1 true).bind fun t176 => (if (t176.length : Int) = 0 then (some (([] : List Int), ([] : List Int), 4)) else ((pairing_Chosen.f k bt170.2 true).bind fun t179 => (some (t176, t179, 0))))))) else (some (([] : List Int), ([] : List Int), t166))) = some (r1, r2, r3) := H
  have A2 := Aside0.mk A20
  clear A20
  by_cases c3 : t166 = 0
  · rw [if_pos c3] at H
    have c3b0 : (t166 == 0) = true := beq_iff_eq.mpr c3
    have c3b1 : (t166 != 0) = false := bne_eq_false_iff_eq.mpr c3
    clear c3
    replace H := Option.bind_eq_some_iff.mp H
    obtain ⟨t167, A40, H⟩ := H
    replace H : ((match_reach.f k t167 a0_1).bind fun bt170 => ((pairing_Chosen.f k bt170.1 true).bind fun t176 => (if (t176.length : Int) = 0 then (some (([] : List Int), ([] : List Int), 4)) else ((pairing_Chosen.f k bt170.2 true).bind fun t179 => (some (t176, t179, 0)))))) = some (r1, r2, r3) := H
    have A4 := Aside0.mk A40
    clear A40
    replace H := Option.bind_eq_some_iff.mp H
    obtain ⟨⟨t170, t171⟩, A50, H⟩ := H
    replace H : ((pairing_Chosen.f k t170 true).bind fun t176 => (if (t176.length : Int) = 0 then (some (([] : List Int), ([] : List Int), 4)) else ((pairing_Chosen.f k t171 true).bind fun t179 => (some (t176, t179, 0))))) = some (r1, r2, r3) := H
    have A5 := Aside0.mk A50
    clear A50
    replace H := Option.bind_eq_some_iff.mp H
    obtain ⟨t176, A60, H⟩ := H
    replace H : (if (t176.length : Int) = 0 then (some (([] : List Int), ([] : List Int), 4)) else ((pairing_Chosen.f k t171 true).bind fun t179 => (some (t176, t179, 0)))) = some (r1, r2, r3) := H
    have A6 := Aside0.mk A60
    clear A60
    by_cases c7 : (t176.length : Int) = 0
    · rw [if_pos c7] at H
      have c7b0 : ((t176.length : Int) == 0) = true := beq_iff_eq.mpr c7
      have c7b1 : ((t176.length : Int) != 0) = false := bne_eq_false_iff_eq.mpr c7
      clear c7
      simp only [Option.some.injEq, Prod.mk.injEq] at H
      obtain ⟨rfl, rfl, rfl⟩ := H
      go_enter Try.func13, Try.ntmps13
      try go_wp2_with (first | ((with_reducible refine gate_dst (N := 1) rfl ?_); refine box_event ?hg (N := 1) ?hd (cs := #[.int .i64 a0_0, .int .i64 a0_1, .slice A0_2 l0_2.length c0_2]) (t := 33) ?hr ?_; (case hd => rfl); (case hg => rfl); (case hr => first | (go_simp; done) | (go_simp; rfl)); intro gb165 hg w8 hbox hb; have n0_ := Aside0.mk (below_step (by repeat (first | (with_reducible first | exact HB.out | apply below_alloc | apply pw_below_drewN | apply below_drew1) | exact HB.out)) hb); have n1_ := Aside0.mk (hbox); have n2_ := Aside0.mk ((by rw [hg]; exact (below_size (by repeat (first | (with_reducible first | exact HB.out | apply below_alloc | apply pw_below_drewN | apply below_drew1) | exact HB.out))) : w.heap.size ≤ gb165)); have n3_ := Aside0.mk ((by rw [hg]; exact (below_size (by repeat (first | (with_reducible first | exact HB.out | apply below_alloc | apply pw_below_drewN | apply below_drew1) | exact HB.out))) : w.heap.size ≤ gb165)); clear HB; have HB := n0_; have BK165 := n1_; have GW165 := n2_; have GE165 := n3_; clear n0_ n1_ n2_ n3_; clear hb hbox hg; have hcz9_0 : w8.cell? ⟨gb165, 0, none⟩ = some (.int .i64 a0_0) := (blk_cell BK165.out 0).trans rfl; have hcz9_1 : w8.cell? ⟨gb165, 1, none⟩ = some (.int .i64 a0_1) := (blk_cell BK165.out 1).trans rfl; have hcz9_2 : w8.cell? ⟨gb165, 2, none⟩ = some (.slice A0_2 l0_2.length c0_2) := (blk_cell BK165.out 2).trans rfl; have hfz9_0 := blk_frozen BK165.out 0; have hfz9_1 := blk_frozen BK165.out 1; have hfz9_2 := blk_frozen BK165.out 2) | ((with_reducible refine gate_callee (f := 23) rfl ?_); refine goesL_ (some 9) rfl rfl Try.func23 (by kernel_rfl) rfl #[.agg #[.int .i64 a0_0, .int .i64 a0_1, .slice A0_2 l0_2.length c0_2]] rfl (by (try simp only [List.map_toArray, List.map_cons, List.map_nil]); first | done | rfl | (simp only [List.length_drop, List.length_take]; rfl)) ?_; (with_reducible refine (match_Check.calls a0_0 a0_1 _ _ l0_2 t166 _ ?side1 ?side2 A2.out).mono ?_); (case side1 => repeat (first | exact (Kd.C_below HR0_2.out HB.out) | (with_reducible refine Kd.C_alloc ?_ _) | (with_reducible refine Kd.C_drewN ?_ _) | (with_reducible refine Kd.C_drew ?_))); (case side2 => exact HC0_2.out); rintro e w10 ⟨rfl, hb⟩; refine ⟨_, rfl, ?_⟩; have n0_ := Aside0.mk (blk_below (g := gb165) (o := .cells #[.int .i64 a0_0, .int .i64 a0_1, .slice A0_2 l0_2.length c0_2] 33 (0, 0)) (by (with_reducible repeat (first | refine blk_drewN ?_ _ | refine blk_drew ?_ | refine blk_alloc ?_ _)); exact BK165.out) hb); have n1_ := Aside0.mk (below_step (by repeat (first | (with_reducible first | exact HB.out | apply below_alloc | apply pw_below_drewN | apply below_drew1 | refine below_set ?_ GE165.out) | exact HB.out)) hb); clear BK165; clear HB; have BK165 := n0_; have HB := n1_; clear n0_ n1_; (try clear hb); (try clear hb2); (try clear hk); (try clear hi)))
      have n0_ := Aside0.mk (blk_drew BK165.out)
      have n1_ := Aside0.mk (below_drew1 HB.out)
      clear BK165
      clear HB
      have BK165 := n0_
      have HB := n1_
      clear n0_ n1_
      refine start_ (n := 10) (S := fun w' => w'.cell? ⟨gb165, 0, none⟩ = some (.int .i64 a0_0) ∧ w'.cell? ⟨gb165, 1, none⟩ = some (.int .i64 a0_1) ∧ w'.cell? ⟨gb165, 2, none⟩ = some (.slice A0_2 l0_2.length c0_2)) (ds := []) #[false, false, false, false, false, false, false, false, false, false] (by kernel_rfl) rfl rfl ⟨(blk_cell BK165.out 0).trans rfl, (blk_cell BK165.out 1).trans rfl, (blk_cell BK165.out 2).trans rfl⟩ (fun hHeld => ?_); refine with_tabW match_Hall.tab4 match_Hall.bits4 (fun HT_ HW_ => ?_)
      generalize w10.drew = w11 at BK165 HB hHeld ⊢
      refine pure_ (i := 2) (N := some 16) (v := ?_) (a' := ?_) #[false, false, true, false, false, false, false, false, false, false] rfl rfl (any_of HT_.out (by kernel_rfl)) (fun _ _ _ h => h) (Or.inl ⟨by rfl, ?_⟩) ?_ ?_
      rotate_left
      · intro w'
        go_simp
        with_reducible rfl
      rotate_left
      · simp only [Act.put, List.setIfInBounds_toArray, List.set_cons_zero, List.set_cons_succ, i64_w, i32_w]
        rfl
      refine take_ (i := 0) (N := some 14) (v := ?_) (a' := ?_) #[true, false, true, false, false, false, false, false, false, false] rfl rfl (take_ofW HT_.out HW_.out (by kernel_rfl)) (fun _ _ _ h => h) (Or.inl ⟨by rfl, ?_⟩) hHeld ?_ ?_
      rotate_left
      · rintro w' ⟨s0, s1, s2⟩
        go_simp
        with_reducible rfl
      rotate_left
      · simp only [Act.put, List.setIfInBounds_toArray, List.set_cons_zero, List.set_cons_succ, i64_w, i32_w]
        rfl
      refine take_ (i := 3) (N := some 17) (v := ?_) (a' := ?_) #[true, false, true, true, false, false, false, false, false, false] rfl rfl (take_ofW HT_.out HW_.out (by kernel_rfl)) (fun _ _ _ h => h) (Or.inl ⟨by rfl, ?_⟩) hHeld ?_ ?_
      rotate_left
      · rintro w' ⟨s0, s1, s2⟩
        go_simp
        with_reducible rfl
      rotate_left
      · simp only [Act.put, List.setIfInBounds_toArray, List.set_cons_zero, List.set_cons_succ, i64_w, i32_w]
        rfl
      refine one_ (i := 1) (N := some 15) #[true, true, true, true, false, false, false, false, false, false] rfl rfl (one_of HT_.out (by kernel_rfl)) (by decide) (fun K hK => ?_)
      refine goes_ Try.func42 (by kernel_rfl) rfl #[.agg #[.int .i64 a0_0, .int .i64 a0_1, .slice A0_2 l0_2.length c0_2]] (by rfl) rfl rfl (by (try simp only [List.map_toArray, List.map_cons, List.map_nil]); first | done | rfl | (simp only [List.length_drop, List.length_take]; rfl)) ?_
      with_reducible refine (match_Graph_neighbours.calls k a0_0 a0_1 _ _ l0_2 t167 _ ?side1 ?side2 A4.out).mono ?_
      (case side1 => repeat (first | exact (Kd.C_below HR0_2.out HB.out) | (with_reducible refine Kd.C_alloc ?_ _) | (with_reducible refine Kd.C_drewN ?_ _) | (with_reducible refine Kd.C_drew ?_)))
      (case side2 => exact HC0_2.out)
      rintro e w12 ⟨v168, rfl, ho0, hb⟩
      refine ⟨_, rfl, ?_⟩
      have n0_ := Aside0.mk (Kd.S_lower ho0 (below_size (by repeat (first | (with_reducible first | exact HB.out | apply below_alloc | apply pw_below_drewN | apply below_drew1 | refine below_set ?_ GE165.out) | exact HB.out))))
      have n1_ := Aside0.mk (blk_below (g := gb165) (o := .cells #[.int .i64 a0_0, .int .i64 a0_1, .slice A0_2 l0_2.length c0_2] 33 (0, 0)) (by (with_reducible repeat (first | refine blk_drewN ?_ _ | refine blk_drew ?_ | refine blk_alloc ?_ _)); exact BK165.out) hb)
      have n2_ := Aside0.mk (below_step (by repeat (first | (with_reducible first | exact HB.out | apply below_alloc | apply pw_below_drewN | apply below_drew1 | refine below_set ?_ GE165.out) | exact HB.out)) hb)
      clear BK165
      clear HB
      have HO169 := n0_
      have BK165 := n1_
      have HB := n2_
      clear n0_ n1_ n2_
      (try clear hb)
      (try clear hb2)
      (try clear hk)
      (try clear hi)
      (try clear ho0)
      obtain ⟨Ao13, co13, eo13⟩ := Kd.S_slice HO169.out
      (first | subst eo13 | (injection eo13 with f1_ f2_ f3_; have f4_ := f1_.symm; have f5_ := f3_.symm; clear f1_ f2_ f3_; subst f4_; subst f5_))
      refine hK.out _ _ ⟨(blk_cell BK165.out 0).trans rfl, (blk_cell BK165.out 1).trans rfl, (blk_cell BK165.out 2).trans rfl⟩ (fun hHeld => ?_)
      clear hK K
      refine norm_ (a' := ?_) ?_ ?_
      rotate_left
      · show Act.put _ (some 15) _ = _
        simp only [Act.put, List.setIfInBounds_toArray, List.set_cons_zero, List.set_cons_succ, i64_w, i32_w]
        rfl
      refine one_ (i := 4) (N := some 18) #[true, true, true, true, true, false, false, false, false, false] rfl rfl (one_of HT_.out (by kernel_rfl)) (by decide) (fun K hK => ?_)
      refine goes_ Try.func41 (by kernel_rfl) rfl #[.slice Ao13 t167.length co13, .int .i64 a0_1] (by rfl) rfl rfl (by (try simp only [List.map_toArray, List.map_cons, List.map_nil]); first | done | rfl | (simp only [List.length_drop, List.length_take]; rfl)) ?_
      with_reducible refine (match_reach.calls k _ _ t167 a0_1 t170 t171 _ ?side1 ?side2 A5.out).mono ?_
      (case side1 => repeat (first | exact (Kd.S_reads' HO169.out).2.2 | (with_reducible refine Kd.C_alloc ?_ _) | (with_reducible refine Kd.C_drewN ?_ _) | (with_reducible refine Kd.C_drew ?_)))
      (case side2 => exact (Kd.S_reads' HO169.out).2.1)
      rintro e w14 ⟨v172, v174, rfl, ho0, ho1, hb⟩
      refine ⟨_, rfl, ?_⟩
      have n0_ := Aside0.mk (Kd.S_below (by (with_reducible repeat (first | apply Kd.S_alloc | apply Kd.S_drewN | apply Kd.S_drew)); exact HO169.out) hb)
      have n1_ := Aside0.mk (Kd.R_lower ho0 (below_size (by repeat (first | (with_reducible first | exact HB.out | apply below_alloc | apply pw_below_drewN | apply below_drew1 | refine below_set ?_ GE165.out) | exact HB.out))))
      have n2_ := Aside0.mk (Kd.R_lower ho1 (below_size (by repeat (first | (with_reducible first | exact HB.out | apply below_alloc | apply pw_below_drewN | apply below_drew1 | refine below_set ?_ GE165.out) | exact HB.out))))
      have n3_ := Aside0.mk (blk_below (g := gb165) (o := .cells #[.int .i64 a0_0, .int .i64 a0_1, .slice A0_2 l0_2.length c0_2] 33 (0, 0)) (by (with_reducible repeat (first | refine blk_drewN ?_ _ | refine blk_drew ?_ | refine blk_alloc ?_ _)); exact BK165.out) hb)
      have n4_ := Aside0.mk (below_step (by repeat (first | (with_reducible first | exact HB.out | apply below_alloc | apply pw_below_drewN | apply below_drew1 | refine below_set ?_ GE165.out) | exact HB.out)) hb)
      clear HO169
      clear BK165
      clear HB
      have HO169 := n0_
      have HO173 := n1_
      have HO175 := n2_
      have BK165 := n3_
      have HB := n4_
      clear n0_ n1_ n2_ n3_ n4_
      (try clear hb)
      (try clear hb2)
      (try clear hk)
      (try clear hi)
      (try clear ho0)
      (try clear ho1)
      refine hK.out _ _ ⟨(blk_cell BK165.out 0).trans rfl, (blk_cell BK165.out 1).trans rfl, (blk_cell BK165.out 2).trans rfl⟩ (fun hHeld => ?_)
      clear hK K
      refine norm_ (a' := ?_) ?_ ?_
      rotate_left
      · show Act.put _ (some 18) _ = _
        simp only [Act.put, List.setIfInBounds_toArray, List.set_cons_zero, List.set_cons_succ, i64_w, i32_w]
        rfl
      refine pure_ (i := 5) (N := some 13) (v := ?_) (a' := ?_) #[true, true, true, true, true, true, false, false, false, false] rfl rfl (any_of HT_.out (by kernel_rfl)) (fun _ _ _ h => h) (Or.inl ⟨by rfl, ?_⟩) ?_ ?_
      rotate_left
      · intro w'
        go_simp
        with_reducible rfl
      rotate_left
      · simp only [Act.put, List.setIfInBounds_toArray, List.set_cons_zero, List.set_cons_succ, i64_w, i32_w]
        rfl
      refine pure_ (i := 6) (N := some 19) (v := ?_) (a' := ?_) #[true, true, true, true, true, true, true, false, false, false] rfl rfl (any_of HT_.out (by kernel_rfl)) (fun _ _ _ h => h) (Or.inl ⟨by rfl, ?_⟩) ?_ ?_
      rotate_left
      · intro w'
        go_simp
        with_reducible rfl
      rotate_left
      · simp only [Act.put, List.setIfInBounds_toArray, List.set_cons_zero, List.set_cons_succ, i64_w, i32_w]
        rfl
      refine pure_ (i := 7) (N := some 20) (v := ?_) (a' := ?_) #[true, true, true, true, true, true, true, true, false, false] rfl rfl (any_of HT_.out (by kernel_rfl)) (fun _ _ _ h => h) (Or.inl ⟨by rfl, ?_⟩) ?_ ?_
      rotate_left
      · intro w'
        go_simp
        with_reducible rfl
      rotate_left
      · simp only [Act.put, List.setIfInBounds_toArray, List.set_cons_zero, List.set_cons_succ, i64_w, i32_w]
        rfl
      refine pure_ (i := 8) (N := some 6) (v := ?_) (a' := ?_) #[true, true, true, true, true, true, true, true, true, false] rfl rfl (any_of HT_.out (by kernel_rfl)) (fun _ _ _ h => h) (Or.inl ⟨by rfl, ?_⟩) ?_ ?_
      rotate_left
      · intro w'
        go_simp
        with_reducible rfl
      rotate_left
      · simp only [Act.put, List.setIfInBounds_toArray, List.set_cons_zero, List.set_cons_succ, i64_w, i32_w]
        rfl
      refine pure_ (i := 9) (N := some 7) (v := ?_) (a' := ?_) #[true, true, true, true, true, true, true, true, true, true] rfl rfl (any_of HT_.out (by kernel_rfl)) (fun _ _ _ h => h) (Or.inl ⟨by rfl, ?_⟩) ?_ ?_
      rotate_left
      · intro w'
        go_simp
        with_reducible rfl
      rotate_left
      · simp only [Act.put, List.setIfInBounds_toArray, List.set_cons_zero, List.set_cons_succ, i64_w, i32_w]
        rfl
      refine done_ (done_of HT_.out (by kernel_rfl)) ?_
      obtain ⟨Ao15, co15, eo15⟩ := Kd.R_slice HO173.out
      subst eo15
      try go_wp2_with (first | ((with_reducible refine gate_callee (f := 43) rfl ?_); refine goesL_ (some 22) rfl rfl Try.func43 (by kernel_rfl) rfl #[.slice Ao15 t170.length co15, .bool true] rfl (by (try simp only [List.map_toArray, List.map_cons, List.map_nil]); first | done | rfl | (simp only [List.length_drop, List.length_take]; rfl)) ?_; (with_reducible refine (pairing_Chosen.calls k _ _ t170 true t176 _ ?side1 ?side2 A6.out).mono ?_); (case side1 => repeat (first | exact (Kd.R_reads' HO173.out).2.2 | (with_reducible refine Kd.C_alloc ?_ _) | (with_reducible refine Kd.C_drewN ?_ _) | (with_reducible refine Kd.C_drew ?_))); (case side2 => exact (Kd.R_reads' HO173.out).2.1); rintro e w16 ⟨v177, rfl, ho0, hb⟩; refine ⟨_, rfl, ?_⟩; have n0_ := Aside0.mk (Kd.S_elder' (by (with_reducible repeat (first | apply Kd.S_alloc | apply Kd.S_drewN | apply Kd.S_drew)); exact HO169.out) (Kd.R_base ho0) hb); have n1_ := Aside0.mk (Kd.R_below (by (with_reducible repeat (first | apply Kd.R_alloc | apply Kd.R_drewN | apply Kd.R_drew)); exact HO173.out) hb); have n2_ := Aside0.mk (Kd.R_below (by (with_reducible repeat (first | apply Kd.R_alloc | apply Kd.R_drewN | apply Kd.R_drew)); exact HO175.out) hb); have n3_ := Aside0.mk (Kd.R_lower ho0 (below_size (by repeat (first | (with_reducible first | exact HB.out | apply below_alloc | apply pw_below_drewN | apply below_drew1 | refine below_set ?_ GE165.out) | exact HB.out)))); have n4_ := Aside0.mk (blk_below (g := gb165) (o := .cells #[.int .i64 a0_0, .int .i64 a0_1, .slice A0_2 l0_2.length c0_2] 33 (0, 0)) (by (with_reducible repeat (first | refine blk_drewN ?_ _ | refine blk_drew ?_ | refine blk_alloc ?_ _)); exact BK165.out) hb); have n5_ := Aside0.mk (below_step (by repeat (first | (with_reducible first | exact HB.out | apply below_alloc | apply pw_below_drewN | apply below_drew1 | refine below_set ?_ GE165.out) | exact HB.out)) hb); clear HO169; clear HO173; clear HO175; clear BK165; clear HB; have HO169 := n0_; have HO173 := n1_; have HO175 := n2_; have HO178 := n3_; have BK165 := n4_; have HB := n5_; clear n0_ n1_ n2_ n3_ n4_ n5_; (try clear hb); (try clear hb2); (try clear hk); (try clear hi); (try clear ho0); obtain ⟨Ao17, co17, eo17⟩ := Kd.R_slice HO178.out; subst eo17))
      go_ret3
      exact ⟨_, _, by first | rfl | (simp [errW_none, errW_some] <;> rfl) | (simp [*, errW_none, errW_some] <;> rfl), by first | exact Kd.R_nil _ _ _ _ _ | exact Kd.N_nil _ _ _ _ _ | exact Kd.V_nil _ _ _ _ _ | exact Kd.Q_nil _ _ _ _ _ | exact Kd.S_nil _ _ _ _ _, by first | exact Kd.R_nil _ _ _ _ _ | exact Kd.N_nil _ _ _ _ _ | exact Kd.V_nil _ _ _ _ _ | exact Kd.Q_nil _ _ _ _ _ | exact Kd.S_nil _ _ _ _ _, by repeat (first | (with_reducible first | exact HB.out | apply below_alloc | apply pw_below_drewN | apply below_drew1 | refine below_set ?_ GE165.out) | exact HB.out)⟩
    · rw [if_neg c7] at H
      have c7b0 : ((t176.length : Int) == 0) = false := beq_eq_false_iff_ne.mpr c7
      have c7b1 : ((t176.length : Int) != 0) = true := bne_iff_ne.mpr c7
      have c7b2 : ¬ (t176 = []) := fun h_ => c7 (by rw [h_]; rfl)
      replace H := Option.bind_eq_some_iff.mp H
      obtain ⟨t179, A180, H⟩ := H
      replace H : (some (t176, t179, 0)) = some (r1, r2, r3) := H
      have A18 := Aside0.mk A180
      clear A180
      simp only [Option.some.injEq, Prod.mk.injEq] at H
      obtain ⟨rfl, rfl, rfl⟩ := H
      go_enter Try.func13, Try.ntmps13
      try go_wp2_with (first | ((with_reducible refine gate_dst (N := 1) rfl ?_); refine box_event ?hg (N := 1) ?hd (cs := #[.int .i64 a0_0, .int .i64 a0_1, .slice A0_2 l0_2.length c0_2]) (t := 33) ?hr ?_; (case hd => rfl); (case hg => rfl); (case hr => first | (go_simp; done) | (go_simp; rfl)); intro gb165 hg w19 hbox hb; have n0_ := Aside0.mk (below_step (by repeat (first | (with_reducible first | exact HB.out | apply below_alloc | apply pw_below_drewN | apply below_drew1) | exact HB.out)) hb); have n1_ := Aside0.mk (hbox); have n2_ := Aside0.mk ((by rw [hg]; exact (below_size (by repeat (first | (with_reducible first | exact HB.out | apply below_alloc | apply pw_below_drewN | apply below_drew1) | exact HB.out))) : w.heap.size ≤ gb165)); have n3_ := Aside0.mk ((by rw [hg]; exact (below_size (by repeat (first | (with_reducible first | exact HB.out | apply below_alloc | apply pw_below_drewN | apply below_drew1) | exact HB.out))) : w.heap.size ≤ gb165)); clear HB; have HB := n0_; have BK165 := n1_; have GW165 := n2_; have GE165 := n3_; clear n0_ n1_ n2_ n3_; clear hb hbox hg; have hcz20_0 : w19.cell? ⟨gb165, 0, none⟩ = some (.int .i64 a0_0) := (blk_cell BK165.out 0).trans rfl; have hcz20_1 : w19.cell? ⟨gb165, 1, none⟩ = some (.int .i64 a0_1) := (blk_cell BK165.out 1).trans rfl; have hcz20_2 : w19.cell? ⟨gb165, 2, none⟩ = some (.slice A0_2 l0_2.length c0_2) := (blk_cell BK165.out 2).trans rfl; have hfz20_0 := blk_frozen BK165.out 0; have hfz20_1 := blk_frozen BK165.out 1; have hfz20_2 := blk_frozen BK165.out 2) | ((with_reducible refine gate_callee (f := 23) rfl ?_); refine goesL_ (some 9) rfl rfl Try.func23 (by kernel_rfl) rfl #[.agg #[.int .i64 a0_0, .int .i64 a0_1, .slice A0_2 l0_2.length c0_2]] rfl (by (try simp only [List.map_toArray, List.map_cons, List.map_nil]); first | done | rfl | (simp only [List.length_drop, List.length_take]; rfl)) ?_; (with_reducible refine (match_Check.calls a0_0 a0_1 _ _ l0_2 t166 _ ?side1 ?side2 A2.out).mono ?_); (case side1 => repeat (first | exact (Kd.C_below HR0_2.out HB.out) | (with_reducible refine Kd.C_alloc ?_ _) | (with_reducible refine Kd.C_drewN ?_ _) | (with_reducible refine Kd.C_drew ?_))); (case side2 => exact HC0_2.out); rintro e w21 ⟨rfl, hb⟩; refine ⟨_, rfl, ?_⟩; have n0_ := Aside0.mk (blk_below (g := gb165) (o := .cells #[.int .i64 a0_0, .int .i64 a0_1, .slice A0_2 l0_2.length c0_2] 33 (0, 0)) (by (with_reducible repeat (first | refine blk_drewN ?_ _ | refine blk_drew ?_ | refine blk_alloc ?_ _)); exact BK165.out) hb); have n1_ := Aside0.mk (below_step (by repeat (first | (with_reducible first | exact HB.out | apply below_alloc | apply pw_below_drewN | apply below_drew1 | refine below_set ?_ GE165.out) | exact HB.out)) hb); clear BK165; clear HB; have BK165 := n0_; have HB := n1_; clear n0_ n1_; (try clear hb); (try clear hb2); (try clear hk); (try clear hi)))
      have n0_ := Aside0.mk (blk_drew BK165.out)
      have n1_ := Aside0.mk (below_drew1 HB.out)
      clear BK165
      clear HB
      have BK165 := n0_
      have HB := n1_
      clear n0_ n1_
      refine start_ (n := 10) (S := fun w' => w'.cell? ⟨gb165, 0, none⟩ = some (.int .i64 a0_0) ∧ w'.cell? ⟨gb165, 1, none⟩ = some (.int .i64 a0_1) ∧ w'.cell? ⟨gb165, 2, none⟩ = some (.slice A0_2 l0_2.length c0_2)) (ds := []) #[false, false, false, false, false, false, false, false, false, false] (by kernel_rfl) rfl rfl ⟨(blk_cell BK165.out 0).trans rfl, (blk_cell BK165.out 1).trans rfl, (blk_cell BK165.out 2).trans rfl⟩ (fun hHeld => ?_); refine with_tabW match_Hall.tab4 match_Hall.bits4 (fun HT_ HW_ => ?_)
      generalize w21.drew = w22 at BK165 HB hHeld ⊢
      refine pure_ (i := 2) (N := some 16) (v := ?_) (a' := ?_) #[false, false, true, false, false, false, false, false, false, false] rfl rfl (any_of HT_.out (by kernel_rfl)) (fun _ _ _ h => h) (Or.inl ⟨by rfl, ?_⟩) ?_ ?_
      rotate_left
      · intro w'
        go_simp
        with_reducible rfl
      rotate_left
      · simp only [Act.put, List.setIfInBounds_toArray, List.set_cons_zero, List.set_cons_succ, i64_w, i32_w]
        rfl
      refine take_ (i := 0) (N := some 14) (v := ?_) (a' := ?_) #[true, false, true, false, false, false, false, false, false, false] rfl rfl (take_ofW HT_.out HW_.out (by kernel_rfl)) (fun _ _ _ h => h) (Or.inl ⟨by rfl, ?_⟩) hHeld ?_ ?_
      rotate_left
      · rintro w' ⟨s0, s1, s2⟩
        go_simp
        with_reducible rfl
      rotate_left
      · simp only [Act.put, List.setIfInBounds_toArray, List.set_cons_zero, List.set_cons_succ, i64_w, i32_w]
        rfl
      refine take_ (i := 3) (N := some 17) (v := ?_) (a' := ?_) #[true, false, true, true, false, false, false, false, false, false] rfl rfl (take_ofW HT_.out HW_.out (by kernel_rfl)) (fun _ _ _ h => h) (Or.inl ⟨by rfl, ?_⟩) hHeld ?_ ?_
      rotate_left
      · rintro w' ⟨s0, s1, s2⟩
        go_simp
        with_reducible rfl
      rotate_left
      · simp only [Act.put, List.setIfInBounds_toArray, List.set_cons_zero, List.set_cons_succ, i64_w, i32_w]
        rfl
      refine one_ (i := 1) (N := some 15) #[true, true, true, true, false, false, false, false, false, false] rfl rfl (one_of HT_.out (by kernel_rfl)) (by decide) (fun K hK => ?_)
      refine goes_ Try.func42 (by kernel_rfl) rfl #[.agg #[.int .i64 a0_0, .int .i64 a0_1, .slice A0_2 l0_2.length c0_2]] (by rfl) rfl rfl (by (try simp only [List.map_toArray, List.map_cons, List.map_nil]); first | done | rfl | (simp only [List.length_drop, List.length_take]; rfl)) ?_
      with_reducible refine (match_Graph_neighbours.calls k a0_0 a0_1 _ _ l0_2 t167 _ ?side1 ?side2 A4.out).mono ?_
      (case side1 => repeat (first | exact (Kd.C_below HR0_2.out HB.out) | (with_reducible refine Kd.C_alloc ?_ _) | (with_reducible refine Kd.C_drewN ?_ _) | (with_reducible refine Kd.C_drew ?_)))
      (case side2 => exact HC0_2.out)
      rintro e w23 ⟨v168, rfl, ho0, hb⟩
      refine ⟨_, rfl, ?_⟩
      have n0_ := Aside0.mk (Kd.S_lower ho0 (below_size (by repeat (first | (with_reducible first | exact HB.out | apply below_alloc | apply pw_below_drewN | apply below_drew1 | refine below_set ?_ GE165.out) | exact HB.out))))
      have n1_ := Aside0.mk (blk_below (g := gb165) (o := .cells #[.int .i64 a0_0, .int .i64 a0_1, .slice A0_2 l0_2.length c0_2] 33 (0, 0)) (by (with_reducible repeat (first | refine blk_drewN ?_ _ | refine blk_drew ?_ | refine blk_alloc ?_ _)); exact BK165.out) hb)
      have n2_ := Aside0.mk (below_step (by repeat (first | (with_reducible first | exact HB.out | apply below_alloc | apply pw_below_drewN | apply below_drew1 | refine below_set ?_ GE165.out) | exact HB.out)) hb)
      clear BK165
      clear HB
      have HO169 := n0_
      have BK165 := n1_
      have HB := n2_
      clear n0_ n1_ n2_
      (try clear hb)
      (try clear hb2)
      (try clear hk)
      (try clear hi)
      (try clear ho0)
      obtain ⟨Ao24, co24, eo24⟩ := Kd.S_slice HO169.out
      (first | subst eo24 | (injection eo24 with f1_ f2_ f3_; have f4_ := f1_.symm; have f5_ := f3_.symm; clear f1_ f2_ f3_; subst f4_; subst f5_))
      refine hK.out _ _ ⟨(blk_cell BK165.out 0).trans rfl, (blk_cell BK165.out 1).trans rfl, (blk_cell BK165.out 2).trans rfl⟩ (fun hHeld => ?_)
      clear hK K
      refine norm_ (a' := ?_) ?_ ?_
      rotate_left
      · show Act.put _ (some 15) _ = _
        simp only [Act.put, List.setIfInBounds_toArray, List.set_cons_zero, List.set_cons_succ, i64_w, i32_w]
        rfl
      refine one_ (i := 4) (N := some 18) #[true, true, true, true, true, false, false, false, false, false] rfl rfl (one_of HT_.out (by kernel_rfl)) (by decide) (fun K hK => ?_)
      refine goes_ Try.func41 (by kernel_rfl) rfl #[.slice Ao24 t167.length co24, .int .i64 a0_1] (by rfl) rfl rfl (by (try simp only [List.map_toArray, List.map_cons, List.map_nil]); first | done | rfl | (simp only [List.length_drop, List.length_take]; rfl)) ?_
      with_reducible refine (match_reach.calls k _ _ t167 a0_1 t170 t171 _ ?side1 ?side2 A5.out).mono ?_
      (case side1 => repeat (first | exact (Kd.S_reads' HO169.out).2.2 | (with_reducible refine Kd.C_alloc ?_ _) | (with_reducible refine Kd.C_drewN ?_ _) | (with_reducible refine Kd.C_drew ?_)))
      (case side2 => exact (Kd.S_reads' HO169.out).2.1)
      rintro e w25 ⟨v172, v174, rfl, ho0, ho1, hb⟩
      refine ⟨_, rfl, ?_⟩
      have n0_ := Aside0.mk (Kd.S_below (by (with_reducible repeat (first | apply Kd.S_alloc | apply Kd.S_drewN | apply Kd.S_drew)); exact HO169.out) hb)
      have n1_ := Aside0.mk (Kd.R_lower ho0 (below_size (by repeat (first | (with_reducible first | exact HB.out | apply below_alloc | apply pw_below_drewN | apply below_drew1 | refine below_set ?_ GE165.out) | exact HB.out))))
      have n2_ := Aside0.mk (Kd.R_lower ho1 (below_size (by repeat (first | (with_reducible first | exact HB.out | apply below_alloc | apply pw_below_drewN | apply below_drew1 | refine below_set ?_ GE165.out) | exact HB.out))))
      have n3_ := Aside0.mk (blk_below (g := gb165) (o := .cells #[.int .i64 a0_0, .int .i64 a0_1, .slice A0_2 l0_2.length c0_2] 33 (0, 0)) (by (with_reducible repeat (first | refine blk_drewN ?_ _ | refine blk_drew ?_ | refine blk_alloc ?_ _)); exact BK165.out) hb)
      have n4_ := Aside0.mk (below_step (by repeat (first | (with_reducible first | exact HB.out | apply below_alloc | apply pw_below_drewN | apply below_drew1 | refine below_set ?_ GE165.out) | exact HB.out)) hb)
      clear HO169
      clear BK165
      clear HB
      have HO169 := n0_
      have HO173 := n1_
      have HO175 := n2_
      have BK165 := n3_
      have HB := n4_
      clear n0_ n1_ n2_ n3_ n4_
      (try clear hb)
      (try clear hb2)
      (try clear hk)
      (try clear hi)
      (try clear ho0)
      (try clear ho1)
      refine hK.out _ _ ⟨(blk_cell BK165.out 0).trans rfl, (blk_cell BK165.out 1).trans rfl, (blk_cell BK165.out 2).trans rfl⟩ (fun hHeld => ?_)
      clear hK K
      refine norm_ (a' := ?_) ?_ ?_
      rotate_left
      · show Act.put _ (some 18) _ = _
        simp only [Act.put, List.setIfInBounds_toArray, List.set_cons_zero, List.set_cons_succ, i64_w, i32_w]
        rfl
      refine pure_ (i := 5) (N := some 13) (v := ?_) (a' := ?_) #[true, true, true, true, true, true, false, false, false, false] rfl rfl (any_of HT_.out (by kernel_rfl)) (fun _ _ _ h => h) (Or.inl ⟨by rfl, ?_⟩) ?_ ?_
      rotate_left
      · intro w'
        go_simp
        with_reducible rfl
      rotate_left
      · simp only [Act.put, List.setIfInBounds_toArray, List.set_cons_zero, List.set_cons_succ, i64_w, i32_w]
        rfl
      refine pure_ (i := 6) (N := some 19) (v := ?_) (a' := ?_) #[true, true, true, true, true, true, true, false, false, false] rfl rfl (any_of HT_.out (by kernel_rfl)) (fun _ _ _ h => h) (Or.inl ⟨by rfl, ?_⟩) ?_ ?_
      rotate_left
      · intro w'
        go_simp
        with_reducible rfl
      rotate_left
      · simp only [Act.put, List.setIfInBounds_toArray, List.set_cons_zero, List.set_cons_succ, i64_w, i32_w]
        rfl
      refine pure_ (i := 7) (N := some 20) (v := ?_) (a' := ?_) #[true, true, true, true, true, true, true, true, false, false] rfl rfl (any_of HT_.out (by kernel_rfl)) (fun _ _ _ h => h) (Or.inl ⟨by rfl, ?_⟩) ?_ ?_
      rotate_left
      · intro w'
        go_simp
        with_reducible rfl
      rotate_left
      · simp only [Act.put, List.setIfInBounds_toArray, List.set_cons_zero, List.set_cons_succ, i64_w, i32_w]
        rfl
      refine pure_ (i := 8) (N := some 6) (v := ?_) (a' := ?_) #[true, true, true, true, true, true, true, true, true, false] rfl rfl (any_of HT_.out (by kernel_rfl)) (fun _ _ _ h => h) (Or.inl ⟨by rfl, ?_⟩) ?_ ?_
      rotate_left
      · intro w'
        go_simp
        with_reducible rfl
      rotate_left
      · simp only [Act.put, List.setIfInBounds_toArray, List.set_cons_zero, List.set_cons_succ, i64_w, i32_w]
        rfl
      refine pure_ (i := 9) (N := some 7) (v := ?_) (a' := ?_) #[true, true, true, true, true, true, true, true, true, true] rfl rfl (any_of HT_.out (by kernel_rfl)) (fun _ _ _ h => h) (Or.inl ⟨by rfl, ?_⟩) ?_ ?_
      rotate_left
      · intro w'
        go_simp
        with_reducible rfl
      rotate_left
      · simp only [Act.put, List.setIfInBounds_toArray, List.set_cons_zero, List.set_cons_succ, i64_w, i32_w]
        rfl
      refine done_ (done_of HT_.out (by kernel_rfl)) ?_
      obtain ⟨Ao26, co26, eo26⟩ := Kd.R_slice HO173.out
      subst eo26
      try go_wp2_with (first | ((with_reducible refine gate_callee (f := 43) rfl ?_); refine goesL_ (some 22) rfl rfl Try.func43 (by kernel_rfl) rfl #[.slice Ao26 t170.length co26, .bool true] rfl (by (try simp only [List.map_toArray, List.map_cons, List.map_nil]); first | done | rfl | (simp only [List.length_drop, List.length_take]; rfl)) ?_; (with_reducible refine (pairing_Chosen.calls k _ _ t170 true t176 _ ?side1 ?side2 A6.out).mono ?_); (case side1 => repeat (first | exact (Kd.R_reads' HO173.out).2.2 | (with_reducible refine Kd.C_alloc ?_ _) | (with_reducible refine Kd.C_drewN ?_ _) | (with_reducible refine Kd.C_drew ?_))); (case side2 => exact (Kd.R_reads' HO173.out).2.1); rintro e w27 ⟨v177, rfl, ho0, hb⟩; refine ⟨_, rfl, ?_⟩; have n0_ := Aside0.mk (Kd.S_elder' (by (with_reducible repeat (first | apply Kd.S_alloc | apply Kd.S_drewN | apply Kd.S_drew)); exact HO169.out) (Kd.R_base ho0) hb); have n1_ := Aside0.mk (Kd.R_below (by (with_reducible repeat (first | apply Kd.R_alloc | apply Kd.R_drewN | apply Kd.R_drew)); exact HO173.out) hb); have n2_ := Aside0.mk (Kd.R_below (by (with_reducible repeat (first | apply Kd.R_alloc | apply Kd.R_drewN | apply Kd.R_drew)); exact HO175.out) hb); have n3_ := Aside0.mk (Kd.R_lower ho0 (below_size (by repeat (first | (with_reducible first | exact HB.out | apply below_alloc | apply pw_below_drewN | apply below_drew1 | refine below_set ?_ GE165.out) | exact HB.out)))); have n4_ := Aside0.mk (blk_below (g := gb165) (o := .cells #[.int .i64 a0_0, .int .i64 a0_1, .slice A0_2 l0_2.length c0_2] 33 (0, 0)) (by (with_reducible repeat (first | refine blk_drewN ?_ _ | refine blk_drew ?_ | refine blk_alloc ?_ _)); exact BK165.out) hb); have n5_ := Aside0.mk (below_step (by repeat (first | (with_reducible first | exact HB.out | apply below_alloc | apply pw_below_drewN | apply below_drew1 | refine below_set ?_ GE165.out) | exact HB.out)) hb); clear HO169; clear HO173; clear HO175; clear BK165; clear HB; have HO169 := n0_; have HO173 := n1_; have HO175 := n2_; have HO178 := n3_; have BK165 := n4_; have HB := n5_; clear n0_ n1_ n2_ n3_ n4_ n5_; (try clear hb); (try clear hb2); (try clear hk); (try clear hi); (try clear ho0); obtain ⟨Ao28, co28, eo28⟩ := Kd.R_slice HO178.out; subst eo28; obtain ⟨Ao29, co29, eo29⟩ := Kd.R_slice HO175.out; subst eo29) | ((with_reducible refine gate_callee (f := 43) rfl ?_); refine goesL_ (some 28) rfl rfl Try.func43 (by kernel_rfl) rfl #[.slice Ao29 t171.length co29, .bool true] rfl (by (try simp only [List.map_toArray, List.map_cons, List.map_nil]); first | done | rfl | (simp only [List.length_drop, List.length_take]; rfl)) ?_; (with_reducible refine (pairing_Chosen.calls k _ _ t171 true t179 _ ?side1 ?side2 A18.out).mono ?_); (case side1 => repeat (first | exact (Kd.R_reads' HO175.out).2.2 | (with_reducible refine Kd.C_alloc ?_ _) | (with_reducible refine Kd.C_drewN ?_ _) | (with_reducible refine Kd.C_drew ?_))); (case side2 => exact (Kd.R_reads' HO175.out).2.1); rintro e w30 ⟨v180, rfl, ho0, hb⟩; refine ⟨_, rfl, ?_⟩; have n0_ := Aside0.mk (Kd.S_elder' (by (with_reducible repeat (first | apply Kd.S_alloc | apply Kd.S_drewN | apply Kd.S_drew)); exact HO169.out) (Kd.R_base ho0) hb); have n1_ := Aside0.mk (Kd.R_below (by (with_reducible repeat (first | apply Kd.R_alloc | apply Kd.R_drewN | apply Kd.R_drew)); exact HO173.out) hb); have n2_ := Aside0.mk (Kd.R_below (by (with_reducible repeat (first | apply Kd.R_alloc | apply Kd.R_drewN | apply Kd.R_drew)); exact HO175.out) hb); have n3_ := Aside0.mk (Kd.R_elder' (by (with_reducible repeat (first | apply Kd.R_alloc | apply Kd.R_drewN | apply Kd.R_drew)); exact HO178.out) (Kd.R_base ho0) hb); have n4_ := Aside0.mk (Kd.R_lower (Kd.R_new' ho0 (Kd.R_lt (by (with_reducible repeat (first | apply Kd.R_alloc | apply Kd.R_drewN | apply Kd.R_drew)); exact HO178.out))) (below_size (by repeat (first | (with_reducible first | exact HB.out | apply below_alloc | apply pw_below_drewN | apply below_drew1 | refine below_set ?_ GE165.out) | exact HB.out)))); have n5_ := Aside0.mk (blk_below (g := gb165) (o := .cells #[.int .i64 a0_0, .int .i64 a0_1, .slice A0_2 l0_2.length c0_2] 33 (0, 0)) (by (with_reducible repeat (first | refine blk_drewN ?_ _ | refine blk_drew ?_ | refine blk_alloc ?_ _)); exact BK165.out) hb); have n6_ := Aside0.mk (below_step (by repeat (first | (with_reducible first | exact HB.out | apply below_alloc | apply pw_below_drewN | apply below_drew1 | refine below_set ?_ GE165.out) | exact HB.out)) hb); clear HO169; clear HO173; clear HO175; clear HO178; clear BK165; clear HB; have HO169 := n0_; have HO173 := n1_; have HO175 := n2_; have HO178 := n3_; have HO181 := n4_; have BK165 := n5_; have HB := n6_; clear n0_ n1_ n2_ n3_ n4_ n5_ n6_; (try clear hb); (try clear hb2); (try clear hk); (try clear hi); (try clear ho0)))
      go_ret3
      exact ⟨_, _, by first | rfl | (simp [errW_none, errW_some] <;> rfl) | (simp [*, errW_none, errW_some] <;> rfl), by (with_reducible repeat (first | apply Kd.R_alloc | apply Kd.R_drewN | apply Kd.R_drew)); exact Kd.R_mono HO178.out (fun _ hk => hk.2), by (with_reducible repeat (first | apply Kd.R_alloc | apply Kd.R_drewN | apply Kd.R_drew)); exact Kd.R_mono HO181.out (fun _ hk => hk.2), by repeat (first | (with_reducible first | exact HB.out | apply below_alloc | apply pw_below_drewN | apply below_drew1 | refine below_set ?_ GE165.out) | exact HB.out)⟩
  · rw [if_neg c3] at H
    have c3b0 : (t166 == 0) = false := beq_eq_false_iff_ne.mpr c3
    have c3b1 : (t166 != 0) = true := bne_iff_ne.mpr c3
    simp only [Option.some.injEq, Prod.mk.injEq] at H
    obtain ⟨rfl, rfl, rfl⟩ := H
    go_enter Try.func13, Try.ntmps13
    go_wp2_with (first | ((with_reducible refine gate_dst (N := 1) rfl ?_); refine box_event ?hg (N := 1) ?hd (cs := #[.int .i64 a0_0, .int .i64 a0_1, .slice A0_2 l0_2.length c0_2]) (t := 33) ?hr ?_; (case hd => rfl); (case hg => rfl); (case hr => first | (go_simp; done) | (go_simp; rfl)); intro gb165 hg w31 hbox hb; have n0_ := Aside0.mk (below_step (by repeat (first | (with_reducible first | exact HB.out | apply below_alloc | apply pw_below_drewN | apply below_drew1) | exact HB.out)) hb); have n1_ := Aside0.mk (hbox); have n2_ := Aside0.mk ((by rw [hg]; exact (below_size (by repeat (first | (with_reducible first | exact HB.out | apply below_alloc | apply pw_below_drewN | apply below_drew1) | exact HB.out))) : w.heap.size ≤ gb165)); have n3_ := Aside0.mk ((by rw [hg]; exact (below_size (by repeat (first | (with_reducible first | exact HB.out | apply below_alloc | apply pw_below_drewN | apply below_drew1) | exact HB.out))) : w.heap.size ≤ gb165)); clear HB; have HB := n0_; have BK165 := n1_; have GW165 := n2_; have GE165 := n3_; clear n0_ n1_ n2_ n3_; clear hb hbox hg; have hcz32_0 : w31.cell? ⟨gb165, 0, none⟩ = some (.int .i64 a0_0) := (blk_cell BK165.out 0).trans rfl; have hcz32_1 : w31.cell? ⟨gb165, 1, none⟩ = some (.int .i64 a0_1) := (blk_cell BK165.out 1).trans rfl; have hcz32_2 : w31.cell? ⟨gb165, 2, none⟩ = some (.slice A0_2 l0_2.length c0_2) := (blk_cell BK165.out 2).trans rfl; have hfz32_0 := blk_frozen BK165.out 0; have hfz32_1 := blk_frozen BK165.out 1; have hfz32_2 := blk_frozen BK165.out 2) | ((with_reducible refine gate_callee (f := 23) rfl ?_); refine goesL_ (some 9) rfl rfl Try.func23 (by kernel_rfl) rfl #[.agg #[.int .i64 a0_0, .int .i64 a0_1, .slice A0_2 l0_2.length c0_2]] rfl (by (try simp only [List.map_toArray, List.map_cons, List.map_nil]); first | done | rfl | (simp only [List.length_drop, List.length_take]; rfl)) ?_; (with_reducible refine (match_Check.calls a0_0 a0_1 _ _ l0_2 t166 _ ?side1 ?side2 A2.out).mono ?_); (case side1 => repeat (first | exact (Kd.C_below HR0_2.out HB.out) | (with_reducible refine Kd.C_alloc ?_ _) | (with_reducible refine Kd.C_drewN ?_ _) | (with_reducible refine Kd.C_drew ?_))); (case side2 => exact HC0_2.out); rintro e w33 ⟨rfl, hb⟩; refine ⟨_, rfl, ?_⟩; have n0_ := Aside0.mk (blk_below (g := gb165) (o := .cells #[.int .i64 a0_0, .int .i64 a0_1, .slice A0_2 l0_2.length c0_2] 33 (0, 0)) (by (with_reducible repeat (first | refine blk_drewN ?_ _ | refine blk_drew ?_ | refine blk_alloc ?_ _)); exact BK165.out) hb); have n1_ := Aside0.mk (below_step (by repeat (first | (with_reducible first | exact HB.out | apply below_alloc | apply pw_below_drewN | apply below_drew1 | refine below_set ?_ GE165.out) | exact HB.out)) hb); clear BK165; clear HB; have BK165 := n0_; have HB := n1_; clear n0_ n1_; (try clear hb); (try clear hb2); (try clear hk); (try clear hi)))
    go_ret3
    exact ⟨_, _, by first | rfl | (simp [errW_none, errW_some] <;> rfl) | (simp [*, errW_none, errW_some] <;> rfl), by first | exact Kd.R_nil _ _ _ _ _ | exact Kd.N_nil _ _ _ _ _ | exact Kd.V_nil _ _ _ _ _ | exact Kd.Q_nil _ _ _ _ _ | exact Kd.S_nil _ _ _ _ _, by first | exact Kd.R_nil _ _ _ _ _ | exact Kd.N_nil _ _ _ _ _ | exact Kd.V_nil _ _ _ _ _ | exact Kd.Q_nil _ _ _ _ _ | exact Kd.S_nil _ _ _ _ _, by repeat (first | (with_reducible first | exact HB.out | apply below_alloc | apply pw_below_drewN | apply below_drew1 | refine below_set ?_ GE165.out) | exact HB.out)⟩
def toruslaw30_given.f (a0_0 : Int) (a0_1 : Int) (l0_2 : List (S40)) : Option (Int × Int × (List (S40))) := (some (([] : List (S40)) : List (S40))).bind fun y184 => (if y184.length + l0_2.length < 8796093022208 then (some (a0_0, a0_1, (y184 ++ l0_2))) else (none))
def toruslaw30_given.T1 : Bool × List (List Nat × List Nat) := (true, [([], []), ([0], [0]), ([], []), ([2], [2]), ([], []), ([], []), ([5], [5]), ([4, 6], [4, 6]), ([1, 3, 7], [1, 3, 7]), ([8, 7, 0, 1, 2, 3, 4, 5, 6, 7, 8], [8])])
def toruslaw30_given.B1 : List Nat := [0, 1, 0, 4, 0, 0, 32, 112, 255, 511]
theorem toruslaw30_given.tab1 : rtab .any (opsOf Try.f14 1) = toruslaw30_given.T1 := by kernel_rfl
theorem toruslaw30_given.bits1 : waitsOk toruslaw30_given.T1.2 toruslaw30_given.B1 = true := by kernel_rfl
set_option maxHeartbeats 8000000 in
set_option maxRecDepth 100000 in
theorem toruslaw30_given.calls (a0_0 : Int) (a0_1 : Int) (A0_2 : Option Addr) (c0_2 : Nat) (l0_2 : List (S40)) (r1 : Int) (r2 : Int) (r3 : List (S40)) (w : World) (hr0_2 : Kd.C k40 w A0_2 l0_2.length l0_2) (hc0_2 : l0_2.length ≤ c0_2) (h : toruslaw30_given.f a0_0 a0_1 l0_2 = some (r1, r2, r3)) :
    Calls Try.prog 14 #[.agg #[.int .i64 a0_0, .int .i64 a0_1, .slice A0_2 l0_2.length c0_2]] w fun e w' => ∃ v2_ : Value, e = .returned (.agg #[.int .i64 r1, .int .i64 r2, v2_]) ∧ Kd.R k40 40 w' w.heap.size (fun _ => True) v2_ r3 ∧ Below w.heap.size w w' := by
  have hu27 := Try.underlying27
  have hu33 := Try.underlying33
  have HR0_2 := Aside0.mk hr0_2
  have HC0_2 := Aside0.mk hc0_2
  clear hr0_2 hc0_2
  have HB := Aside0.mk (Below.refl w.heap.size w)
  have H : ((some (([] : List (S40)) : List (S40))).bind fun y184 => (if y184.length + l0_2.length < 8796093022208 then (some (a0_0, a0_1, (y184 ++ l0_2))) else (none))) = some (r1, r2, r3) := h
  clear h
  obtain ⟨y184, hy184⟩ : ∃ y_ : List (S40), y_ = (([] : List (S40))) := ⟨_, rfl⟩
  replace H : (if y184.length + l0_2.length < 8796093022208 then (some (a0_0, a0_1, (y184 ++ l0_2))) else (none)) = some (r1, r2, r3) := by first | (rw [hy184]; with_reducible exact H) | (have H2_ := (Option.bind_some _ _).symm.trans H; rw [hy184]; with_reducible exact H2_) | (have H2_ := (Option.bind_some _ _).symm.trans H; with_reducible exact H2_) | with_reducible exact H | (rw [hy184]; exact H) | exact H
  have Ny184 := Aside0.mk hy184
  clear hy184
  by_cases c2 : y184.length + l0_2.length < 8796093022208
  · rw [if_pos c2] at H
    have LMc2 := Aside0.mk c2
    clear c2
    obtain ⟨y187, hy187⟩ : ∃ y_ : List (S40), y_ = (y184 ++ l0_2) := ⟨_, rfl⟩
    replace H : (some (a0_0, a0_1, y187)) = some (r1, r2, r3) := by first | (rw [hy187]; with_reducible exact H) | (have H2_ := (Option.bind_some _ _).symm.trans H; rw [hy187]; with_reducible exact H2_) | (have H2_ := (Option.bind_some _ _).symm.trans H; with_reducible exact H2_) | with_reducible exact H | (rw [hy187]; exact H) | exact H
    have Ny187 := Aside0.mk hy187
    clear hy187
    simp only [Option.some.injEq, Prod.mk.injEq] at H
    obtain ⟨rfl, rfl, rfl⟩ := H
    go_enter Try.func14, Try.ntmps14
    try go_wp2_with (first | ((with_reducible refine gate_dst (N := 1) rfl ?_); refine box_event ?hg (N := 1) ?hd (cs := #[.int .i64 a0_0, .int .i64 a0_1, .slice A0_2 l0_2.length c0_2]) (t := 27) ?hr ?_; (case hd => rfl); (case hg => rfl); (case hr => first | (go_simp; done) | (go_simp; rfl)); intro gb182 hg w3 hbox hb; have n0_ := Aside0.mk (below_step (by repeat (first | (with_reducible first | exact HB.out | apply below_alloc | apply pw_below_drewN | apply below_drew1) | exact HB.out)) hb); have n1_ := Aside0.mk (hbox); have n2_ := Aside0.mk ((by rw [hg]; exact (below_size (by repeat (first | (with_reducible first | exact HB.out | apply below_alloc | apply pw_below_drewN | apply below_drew1) | exact HB.out))) : w.heap.size ≤ gb182)); have n3_ := Aside0.mk ((by rw [hg]; exact (below_size (by repeat (first | (with_reducible first | exact HB.out | apply below_alloc | apply pw_below_drewN | apply below_drew1) | exact HB.out))) : w.heap.size ≤ gb182)); clear HB; have HB := n0_; have BK182 := n1_; have GW182 := n2_; have GE182 := n3_; clear n0_ n1_ n2_ n3_; clear hb hbox hg) | ((with_reducible refine gate_dst (N := 2) rfl ?_); refine box_event ?hg (N := 2) ?hd (cs := #[.int .i64 0, .int .i64 0, .slice none 0 0]) (t := 33) ?hr ?_; (case hd => rfl); (case hg => rfl); (case hr => first | (go_simp; done) | (go_simp; rfl)); intro gb183 hg w4 hbox hb; have n0_ := Aside0.mk (blk_below (g := gb182) (o := .cells #[.int .i64 a0_0, .int .i64 a0_1, .slice A0_2 l0_2.length c0_2] 27 (0, 0)) (by (with_reducible repeat (first | refine blk_drewN ?_ _ | refine blk_drew ?_ | refine blk_alloc ?_ _)); exact BK182.out) hb); have n1_ := Aside0.mk (below_step (by repeat (first | (with_reducible first | exact HB.out | apply below_alloc | apply pw_below_drewN | apply below_drew1 | refine below_set ?_ GE182.out) | exact HB.out)) hb); have n2_ := Aside0.mk (hbox); have n3_ := Aside0.mk ((by rw [hg]; exact (below_size (by repeat (first | (with_reducible first | exact HB.out | apply below_alloc | apply pw_below_drewN | apply below_drew1 | refine below_set ?_ GE182.out) | exact HB.out))) : w.heap.size ≤ gb183)); have n4_ := Aside0.mk ((by rw [hg]; exact (below_size (by repeat (first | (with_reducible first | exact HB.out | apply below_alloc | apply pw_below_drewN | apply below_drew1 | refine below_set ?_ GE182.out) | exact HB.out))) : w.heap.size ≤ gb183)); have n5_ := Aside0.mk ((by rw [hg]; exact Nat.ne_of_lt (blk_lt (g := gb182) (o := .cells #[.int .i64 a0_0, .int .i64 a0_1, .slice A0_2 l0_2.length c0_2] 27 (0, 0)) (by (with_reducible repeat (first | refine blk_drewN ?_ _ | refine blk_drew ?_ | refine blk_alloc ?_ _)); exact BK182.out)) : gb182 ≠ gb183)); have n6_ := Aside0.mk ((by rw [hg]; exact Nat.ne_of_gt (blk_lt (g := gb182) (o := .cells #[.int .i64 a0_0, .int .i64 a0_1, .slice A0_2 l0_2.length c0_2] 27 (0, 0)) (by (with_reducible repeat (first | refine blk_drewN ?_ _ | refine blk_drew ?_ | refine blk_alloc ?_ _)); exact BK182.out)) : gb183 ≠ gb182)); clear BK182; clear HB; have BK182 := n0_; have HB := n1_; have BK183 := n2_; have GW183 := n3_; have GE183 := n4_; have NB182_183 := n5_; have NB183_182 := n6_; clear n0_ n1_ n2_ n3_ n4_ n5_ n6_; clear hb hbox hg))
    have n0_ := Aside0.mk (blk_drew BK182.out)
    have n1_ := Aside0.mk (blk_drew BK183.out)
    have n2_ := Aside0.mk (below_drew1 HB.out)
    clear BK182
    clear BK183
    clear HB
    have BK182 := n0_
    have BK183 := n1_
    have HB := n2_
    clear n0_ n1_ n2_
    refine start_ (n := 10) (S := fun w' => w'.cell? ⟨gb182, 0, none⟩ = some (.int .i64 a0_0) ∧ w'.cell? ⟨gb182, 1, none⟩ = some (.int .i64 a0_1) ∧ w'.cell? ⟨gb182, 2, none⟩ = some (.slice A0_2 l0_2.length c0_2)) (ds := []) #[false, false, false, false, false, false, false, false, false, false] (by kernel_rfl) rfl rfl ⟨(blk_cell BK182.out 0).trans rfl, (blk_cell BK182.out 1).trans rfl, (blk_cell BK182.out 2).trans rfl⟩ (fun hHeld => ?_); refine with_tabW toruslaw30_given.tab1 toruslaw30_given.bits1 (fun HT_ HW_ => ?_)
    generalize w4.drew = w5 at BK182 BK183 HB hHeld ⊢
    refine pure_ (i := 0) (N := some 3) (v := ?_) (a' := ?_) #[true, false, false, false, false, false, false, false, false, false] rfl rfl (any_of HT_.out (by kernel_rfl)) (fun _ _ _ h => h) (Or.inl ⟨by rfl, ?_⟩) ?_ ?_
    rotate_left
    · intro w'
      go_simp
      with_reducible rfl
    rotate_left
    · simp only [Act.put, List.setIfInBounds_toArray, List.set_cons_zero, List.set_cons_succ, i64_w, i32_w]
      rfl
    refine pure_ (i := 2) (N := some 5) (v := ?_) (a' := ?_) #[true, false, true, false, false, false, false, false, false, false] rfl rfl (any_of HT_.out (by kernel_rfl)) (fun _ _ _ h => h) (Or.inl ⟨by rfl, ?_⟩) ?_ ?_
    rotate_left
    · intro w'
      go_simp
      with_reducible rfl
    rotate_left
    · simp only [Act.put, List.setIfInBounds_toArray, List.set_cons_zero, List.set_cons_succ, i64_w, i32_w]
      rfl
    refine pure_ (i := 5) (N := some 8) (v := ?_) (a' := ?_) #[true, false, true, false, false, true, false, false, false, false] rfl rfl (any_of HT_.out (by kernel_rfl)) (fun _ _ _ h => h) (Or.inl ⟨by rfl, ?_⟩) ?_ ?_
    rotate_left
    · intro w'
      go_simp
      with_reducible rfl
    rotate_left
    · simp only [Act.put, List.setIfInBounds_toArray, List.set_cons_zero, List.set_cons_succ, i64_w, i32_w]
      rfl
    refine take_ (i := 1) (N := some 4) (v := ?_) (a' := ?_) #[true, true, true, false, false, true, false, false, false, false] rfl rfl (take_ofW HT_.out HW_.out (by kernel_rfl)) (fun _ _ _ h => h) (Or.inl ⟨by rfl, ?_⟩) hHeld ?_ ?_
    rotate_left
    · rintro w' ⟨s0, s1, s2⟩
      go_simp
      with_reducible rfl
    rotate_left
    · simp only [Act.put, List.setIfInBounds_toArray, List.set_cons_zero, List.set_cons_succ, i64_w, i32_w]
      rfl
    refine take_ (i := 3) (N := some 6) (v := ?_) (a' := ?_) #[true, true, true, true, false, true, false, false, false, false] rfl rfl (take_ofW HT_.out HW_.out (by kernel_rfl)) (fun _ _ _ h => h) (Or.inl ⟨by rfl, ?_⟩) hHeld ?_ ?_
    rotate_left
    · rintro w' ⟨s0, s1, s2⟩
      go_simp
      with_reducible rfl
    rotate_left
    · simp only [Act.put, List.setIfInBounds_toArray, List.set_cons_zero, List.set_cons_succ, i64_w, i32_w]
      rfl
    refine take_ (i := 6) (N := some 9) (v := ?_) (a' := ?_) #[true, true, true, true, false, true, true, false, false, false] rfl rfl (take_ofW HT_.out HW_.out (by kernel_rfl)) (fun _ _ _ h => h) (Or.inl ⟨by rfl, ?_⟩) hHeld ?_ ?_
    rotate_left
    · rintro w' ⟨s0, s1, s2⟩
      go_simp
      with_reducible rfl
    rotate_left
    · simp only [Act.put, List.setIfInBounds_toArray, List.set_cons_zero, List.set_cons_succ, i64_w, i32_w]
      rfl
    refine one_ (i := 4) (N := some 7) #[true, true, true, true, true, true, true, false, false, false] rfl rfl (one_of HT_.out (by kernel_rfl)) (by decide) (fun K hK => ?_)
    refine Kd.R_lit_step k40 _ 40 ?hg (N := 7) ?hd (xs := ([] : List (S40))) (inner := []) (ok := fun _ => True) (okp := fun _ => True) ?hr ?hp (fun _ hk => hk) trivial (Below.refl _ _) (Nat.le_refl _) (by simp) ?_; (case hd => rfl); (case hg => rfl); (case hr => first | (go_simp; done) | (go_simp; rfl)); (case hp => exact (Reps.none _ _))
    intro v185 w6 ho7 hb hg_ hnew_
    clear hg_ hnew_
    (first | rw [← Ny184.out] at ho7 | (simp only [Int.reduceToNat] at ho7; rw [← Ny184.out] at ho7))
    have n0_ := Aside0.mk (Kd.R_lower ho7 (below_size (by repeat (first | (with_reducible first | exact HB.out | apply below_alloc | apply pw_below_drewN | apply below_drew1 | refine below_set ?_ GE182.out | refine below_set ?_ GE183.out) | exact HB.out))))
    have n1_ := Aside0.mk (blk_below (g := gb182) (o := .cells #[.int .i64 a0_0, .int .i64 a0_1, .slice A0_2 l0_2.length c0_2] 27 (0, 0)) (by (with_reducible repeat (first | refine blk_drewN ?_ _ | refine blk_drew ?_ | refine blk_alloc ?_ _)); exact BK182.out) hb)
    have n2_ := Aside0.mk (blk_below (g := gb183) (o := .cells #[.int .i64 0, .int .i64 0, .slice none 0 0] 33 (0, 0)) (by (with_reducible repeat (first | refine blk_drewN ?_ _ | refine blk_drew ?_ | refine blk_alloc ?_ _)); exact BK183.out) hb)
    have n3_ := Aside0.mk (below_step (by repeat (first | (with_reducible first | exact HB.out | apply below_alloc | apply pw_below_drewN | apply below_drew1 | refine below_set ?_ GE182.out | refine below_set ?_ GE183.out) | exact HB.out)) hb)
    clear BK182
    clear BK183
    clear HB
    have HO186 := n0_
    have BK182 := n1_
    have BK183 := n2_
    have HB := n3_
    clear n0_ n1_ n2_ n3_
    clear hb ho7
    refine hK.out _ _ ⟨(blk_cell BK182.out 0).trans rfl, (blk_cell BK182.out 1).trans rfl, (blk_cell BK182.out 2).trans rfl⟩ (fun hHeld => ?_)
    clear hK K
    refine norm_ (a' := ?_) ?_ ?_
    rotate_left
    · show Act.put _ (some 7) _ = _
      simp only [Act.put, List.setIfInBounds_toArray, List.set_cons_zero, List.set_cons_succ, i64_w, i32_w]
      rfl
    refine one_ (i := 7) (N := some 10) #[true, true, true, true, true, true, true, true, false, false] rfl rfl (one_of HT_.out (by kernel_rfl)) (by decide) (fun K hK => ?_)
    refine Kd.R_append_rows_step k40 (w0 := w) w.heap.size (by rfl) (.tmp 7) (.tmp 9) 25 40 (.agg #[(.int .i64 0), (.int .i64 0)]) 16 rfl Try.underlying25 info40 rfl (by decide) (by omega) v185 y184 l0_2 _ _ _ (fun _ => True) (fun _ => False) rfl rfl ?aO ?aR (fun _ _ h => h) (fun _ h => h.elim) ?aF ?aB ?aS ?aL ?_
    (case aR => repeat (first | exact (Kd.C_below HR0_2.out HB.out) | (with_reducible refine Kd.C_alloc ?_ _) | (with_reducible refine Kd.C_drewN ?_ _) | (with_reducible refine Kd.C_drew ?_)))
    (case aB => exact (by repeat (first | (with_reducible first | exact HB.out | apply below_alloc | apply pw_below_drewN | apply below_drew1 | refine below_set ?_ GE182.out | refine below_set ?_ GE183.out) | exact HB.out)))
    (case aF => exact (fun _ _ => trivial))
    (case aO => exact (by (with_reducible repeat (first | apply Kd.R_alloc | apply Kd.R_drewN | apply Kd.R_drew)); exact HO186.out))
    (case aS => exact (below_size (by repeat (first | (with_reducible first | exact HB.out | apply below_alloc | apply pw_below_drewN | apply below_drew1 | refine below_set ?_ GE182.out | refine below_set ?_ GE183.out) | exact HB.out))))
    (case aL => have := LMc2.out; omega)
    intro v188 w8 ho hb hg hat
    rw [← Ny187.out] at ho
    have n0_ := Aside0.mk (blk_grown (g := gb182) (o := .cells #[.int .i64 a0_0, .int .i64 a0_1, .slice A0_2 l0_2.length c0_2] 27 (0, 0)) (by (with_reducible repeat (first | refine blk_drewN ?_ _ | refine blk_drew ?_ | refine blk_alloc ?_ _)); exact BK182.out) hg (Kd.R_ne HO186.out BK182.out (by decide)))
    have n1_ := Aside0.mk (blk_grown (g := gb183) (o := .cells #[.int .i64 0, .int .i64 0, .slice none 0 0] 33 (0, 0)) (by (with_reducible repeat (first | refine blk_drewN ?_ _ | refine blk_drew ?_ | refine blk_alloc ?_ _)); exact BK183.out) hg (Kd.R_ne HO186.out BK183.out (by decide)))
    have n2_ := Aside0.mk (hb)
    have n3_ := Aside0.mk (ho)
    clear BK182
    clear BK183
    clear HB
    clear HO186
    have BK182 := n0_
    have BK183 := n1_
    have HB := n2_
    have HO189 := n3_
    clear n0_ n1_ n2_ n3_
    clear ho hb hg hat
    obtain ⟨Ao9, co9, eo9⟩ := Kd.R_slice HO189.out
    (first | subst eo9 | (injection eo9 with f1_ f2_ f3_; have f4_ := f1_.symm; have f5_ := f3_.symm; clear f1_ f2_ f3_; subst f4_; subst f5_))
    refine hK.out _ _ ⟨(blk_cell BK182.out 0).trans rfl, (blk_cell BK182.out 1).trans rfl, (blk_cell BK182.out 2).trans rfl⟩ (fun hHeld => ?_)
    clear hK K
    refine norm_ (a' := ?_) ?_ ?_
    rotate_left
    · show Act.put _ (some 10) _ = _
      simp only [Act.put, List.setIfInBounds_toArray, List.set_cons_zero, List.set_cons_succ, i64_w, i32_w]
      rfl
    refine pure_ (i := 8) (N := some 11) (v := ?_) (a' := ?_) #[true, true, true, true, true, true, true, true, true, false] rfl rfl (any_of HT_.out (by kernel_rfl)) (fun _ _ _ h => h) (Or.inl ⟨by rfl, ?_⟩) ?_ ?_
    rotate_left
    · intro w'
      go_simp
      with_reducible rfl
    rotate_left
    · simp only [Act.put, List.setIfInBounds_toArray, List.set_cons_zero, List.set_cons_succ, i64_w, i32_w]
      rfl
    refine one_ (i := 9) (N := none) #[true, true, true, true, true, true, true, true, true, true] rfl rfl (one_of HT_.out (by kernel_rfl)) (by decide) (fun K hK => ?_)
    have hs10 : w8.cell? ⟨gb183, 0, none⟩ = some (.int .i64 0) := (blk_cell BK183.out 0).trans rfl
    have hfs10 := blk_frozen BK183.out 0
    have hns10_0 := NB182_183.out
    have hms10_0 := NB183_182.out
    have hs11 : w8.cell? ⟨gb183, 1, none⟩ = some (.int .i64 0) := (blk_cell BK183.out 1).trans rfl
    have hfs11 := blk_frozen BK183.out 1
    have hns11_0 := NB182_183.out
    have hms11_0 := NB183_182.out
    have hs12 : w8.cell? ⟨gb183, 2, none⟩ = some (.slice none 0 0) := (blk_cell BK183.out 2).trans rfl
    have hfs12 := blk_frozen BK183.out 2
    have hns12_0 := NB182_183.out
    have hms12_0 := NB183_182.out
    refine skip_ (w1 := ?_) (by rfl) rfl ?_ ?_
    rotate_left
    · go_simp
      rfl
    refine hK.out _ _ ⟨((cell_far (p := ⟨gb183, _, none⟩) NB182_183.out _).trans (((cell_far (p := ⟨gb183, _, none⟩) NB182_183.out _).trans (((cell_far (p := ⟨gb183, _, none⟩) NB182_183.out _).trans (hHeld.1)))))), ((cell_far (p := ⟨gb183, _, none⟩) NB182_183.out _).trans (((cell_far (p := ⟨gb183, _, none⟩) NB182_183.out _).trans (((cell_far (p := ⟨gb183, _, none⟩) NB182_183.out _).trans (hHeld.2.1)))))), ((cell_far (p := ⟨gb183, _, none⟩) NB182_183.out _).trans (((cell_far (p := ⟨gb183, _, none⟩) NB182_183.out _).trans (((cell_far (p := ⟨gb183, _, none⟩) NB182_183.out _).trans (hHeld.2.2))))))⟩ (fun hHeld => ?_)
    clear hK K
    refine done_ (done_of HT_.out (by kernel_rfl)) ?_
    try go_wp2
    refine bodyPost_ret (results_cell_row rfl _ _ gb183 33 #[.int .i64 a0_0, .int .i64 a0_1, .slice Ao9 y187.length co9] (0, 0) _ rfl (by (with_reducible repeat (first | refine blk_drewN ?_ _ | refine blk_drew ?_ | refine blk_alloc ?_ _)); refine blk_put (cs := #[.int .i64 a0_0, .int .i64 a0_1, .slice none 0 0]) ?_ 2 _ rfl; (with_reducible repeat (first | refine blk_drewN ?_ _ | refine blk_drew ?_ | refine blk_alloc ?_ _)); refine blk_put (cs := #[.int .i64 a0_0, .int .i64 0, .slice none 0 0]) ?_ 1 _ rfl; (with_reducible repeat (first | refine blk_drewN ?_ _ | refine blk_drew ?_ | refine blk_alloc ?_ _)); refine blk_put (cs := #[.int .i64 0, .int .i64 0, .slice none 0 0]) ?_ 0 _ rfl; (with_reducible repeat (first | refine blk_drewN ?_ _ | refine blk_drew ?_ | refine blk_alloc ?_ _)); exact BK183.out) Try.underlying33 rfl (by kernel_rfl)) rfl ?_
    exact ⟨_, by first | rfl | (simp [errW_none, errW_some] <;> rfl) | (simp [*, errW_none, errW_some] <;> rfl), by (with_reducible repeat (first | apply Kd.R_alloc | apply Kd.R_drewN | apply Kd.R_drew)); exact Kd.R_mono (Kd.R_far (p := ⟨gb183, 2, none⟩) (Kd.R_far (p := ⟨gb183, 1, none⟩) (Kd.R_far (p := ⟨gb183, 0, none⟩) (Kd.R_types HO189.out BK183.out (by decide)) (fun _ hk => hk.2) (.int .i64 a0_0)) (fun _ hk => hk.2) (.int .i64 a0_1)) (fun _ hk => hk.2) (.slice Ao9 y187.length co9)) (fun _ hk => trivial), by repeat (first | (with_reducible first | exact HB.out | apply below_alloc | apply pw_below_drewN | apply below_drew1 | refine below_set ?_ GE182.out | refine below_set ?_ GE183.out) | exact HB.out)⟩
  · rw [if_neg c2] at H
    exact absurd H (by simp)
def match_Maximum.f (k : Nat) (a0_0 : Int) (a0_1 : Int) (l0_2 : List (S40)) : Option (List Int × Int) := (match_Check.f a0_0 a0_1 l0_2).bind fun t191 => (if t191 = 0 then ((match_Graph_neighbours.f k a0_0 a0_1 l0_2).bind fun t192 => ((pairing_Greatest.f k t192 a0_1).bind fun bt195 => (some (bt195.1, 0)))) else (some (([] : List Int), t191)))
theorem match_Maximum.mono : ∀ a0 a1 a2 k, LeO (match_Maximum.f k a0 a1 a2) (match_Maximum.f (k + 1) a0 a1 a2) := by
  intro a0 a1 a2 k
  unfold match_Maximum.f
  repeat' first
      | (with_reducible exact match_Graph_neighbours.mono _ _ _ _)
      | (with_reducible exact pairing_Greatest.mono _ _ _)
      | (with_reducible exact LeO.refl _)
      | (with_reducible exact LeO.none _)
      | (with_reducible refine LeO.ite ?_ ?_)
      | (with_reducible refine LeO.bind ?_ (fun _ => ?_))
      | exact match_Graph_neighbours.mono _ _ _ _
      | exact pairing_Greatest.mono _ _ _
      | exact LeO.none _
      | refine LeO.ite ?_ ?_
      | refine LeO.bind ?_ (fun _ => ?_)
def match_Maximum.T4 : Bool × List (List Nat × List Nat) := (true, [([], []), ([0], [0]), ([], []), ([2], [2]), ([1, 3, 1], [1, 3]), ([4], [4]), ([5], [5]), ([5], [5]), ([6, 4, 0, 1, 2, 3, 4, 5, 6], [6]), ([7, 8, 0, 1, 2, 3, 4, 5, 6, 7, 8], [7])])
def match_Maximum.B4 : List Nat := [0, 1, 0, 4, 15, 31, 63, 63, 127, 511]
theorem match_Maximum.tab4 : rtab .any (opsOf Try.f35 4) = match_Maximum.T4 := by kernel_rfl
theorem match_Maximum.bits4 : waitsOk match_Maximum.T4.2 match_Maximum.B4 = true := by kernel_rfl
set_option maxHeartbeats 8000000 in
set_option maxRecDepth 100000 in
theorem match_Maximum.calls (k : Nat) (a0_0 : Int) (a0_1 : Int) (A0_2 : Option Addr) (c0_2 : Nat) (l0_2 : List (S40)) (r1 : List Int) (r2 : Int) (w : World) (hr0_2 : Kd.C k40 w A0_2 l0_2.length l0_2) (hc0_2 : l0_2.length ≤ c0_2) (h : match_Maximum.f k a0_0 a0_1 l0_2 = some (r1, r2)) :
    Calls Try.prog 35 #[.agg #[.int .i64 a0_0, .int .i64 a0_1, .slice A0_2 l0_2.length c0_2]] w fun e w' => ∃ v0_ : Value, e = .returned (.tuple #[v0_, .int .i64 r2]) ∧ Kd.R (Kd.int .i64) 3 w' w.heap.size (fun _ => True) v0_ r1 ∧ Below w.heap.size w w' := by
  have hu33 := Try.underlying33
  have HR0_2 := Aside0.mk hr0_2
  have HC0_2 := Aside0.mk hc0_2
  clear hr0_2 hc0_2
  have HB := Aside0.mk (Below.refl w.heap.size w)
  have H : ((match_Check.f a0_0 a0_1 l0_2).bind fun t191 => (if t191 = 0 then ((match_Graph_neighbours.f k a0_0 a0_1 l0_2).bind fun t192 => ((pairing_Greatest.f k t192 a0_1).bind fun bt195 => (some (bt195.1, 0)))) else (some (([] : List Int), t191)))) = some (r1, r2) := h
  clear h
  replace H := Option.bind_eq_some_iff.mp H
  obtain ⟨t191, A20, H⟩ := H
  replace H : (if t191 = 0 then ((match_Graph_neighbours.f k a0_0 a0_1 l0_2).bind fun t192 => ((pairing_Greatest.f k t192 a0_1).bind fun bt195 => (some (bt195.1, 0)))) else (some (([] : List Int), t191))) = some (r1, r2) := H
  have A2 := Aside0.mk A20
  clear A20
  by_cases c3 : t191 = 0
  · rw [if_pos c3] at H
    have c3b0 : (t191 == 0) = true := beq_iff_eq.mpr c3
    have c3b1 : (t191 != 0) = false := bne_eq_false_iff_eq.mpr c3
    clear c3
    replace H := Option.bind_eq_some_iff.mp H
    obtain ⟨t192, A40, H⟩ := H
    replace H : ((pairing_Greatest.f k t192 a0_1).bind fun bt195 => (some (bt195.1, 0))) = some (r1, r2) := H
    have A4 := Aside0.mk A40
    clear A40
    replace H := Option.bind_eq_some_iff.mp H
    obtain ⟨⟨t195, t196⟩, A50, H⟩ := H
    replace H : (some (t195, 0)) = some (r1, r2) := H
    have A5 := Aside0.mk A50
    clear A50
    simp only [Option.some.injEq, Prod.mk.injEq] at H
    obtain ⟨rfl, rfl⟩ := H
    go_enter Try.func35, Try.ntmps35
    try go_wp2_with (first | ((with_reducible refine gate_dst (N := 1) rfl ?_); refine box_event ?hg (N := 1) ?hd (cs := #[.int .i64 a0_0, .int .i64 a0_1, .slice A0_2 l0_2.length c0_2]) (t := 33) ?hr ?_; (case hd => rfl); (case hg => rfl); (case hr => first | (go_simp; done) | (go_simp; rfl)); intro gb190 hg w6 hbox hb; have n0_ := Aside0.mk (below_step (by repeat (first | (with_reducible first | exact HB.out | apply below_alloc | apply pw_below_drewN | apply below_drew1) | exact HB.out)) hb); have n1_ := Aside0.mk (hbox); have n2_ := Aside0.mk ((by rw [hg]; exact (below_size (by repeat (first | (with_reducible first | exact HB.out | apply below_alloc | apply pw_below_drewN | apply below_drew1) | exact HB.out))) : w.heap.size ≤ gb190)); have n3_ := Aside0.mk ((by rw [hg]; exact (below_size (by repeat (first | (with_reducible first | exact HB.out | apply below_alloc | apply pw_below_drewN | apply below_drew1) | exact HB.out))) : w.heap.size ≤ gb190)); clear HB; have HB := n0_; have BK190 := n1_; have GW190 := n2_; have GE190 := n3_; clear n0_ n1_ n2_ n3_; clear hb hbox hg; have hcz7_0 : w6.cell? ⟨gb190, 0, none⟩ = some (.int .i64 a0_0) := (blk_cell BK190.out 0).trans rfl; have hcz7_1 : w6.cell? ⟨gb190, 1, none⟩ = some (.int .i64 a0_1) := (blk_cell BK190.out 1).trans rfl; have hcz7_2 : w6.cell? ⟨gb190, 2, none⟩ = some (.slice A0_2 l0_2.length c0_2) := (blk_cell BK190.out 2).trans rfl; have hfz7_0 := blk_frozen BK190.out 0; have hfz7_1 := blk_frozen BK190.out 1; have hfz7_2 := blk_frozen BK190.out 2) | ((with_reducible refine gate_callee (f := 23) rfl ?_); refine goesL_ (some 8) rfl rfl Try.func23 (by kernel_rfl) rfl #[.agg #[.int .i64 a0_0, .int .i64 a0_1, .slice A0_2 l0_2.length c0_2]] rfl (by (try simp only [List.map_toArray, List.map_cons, List.map_nil]); first | done | rfl | (simp only [List.length_drop, List.length_take]; rfl)) ?_; (with_reducible refine (match_Check.calls a0_0 a0_1 _ _ l0_2 t191 _ ?side1 ?side2 A2.out).mono ?_); (case side1 => repeat (first | exact (Kd.C_below HR0_2.out HB.out) | (with_reducible refine Kd.C_alloc ?_ _) | (with_reducible refine Kd.C_drewN ?_ _) | (with_reducible refine Kd.C_drew ?_))); (case side2 => exact HC0_2.out); rintro e w8 ⟨rfl, hb⟩; refine ⟨_, rfl, ?_⟩; have n0_ := Aside0.mk (blk_below (g := gb190) (o := .cells #[.int .i64 a0_0, .int .i64 a0_1, .slice A0_2 l0_2.length c0_2] 33 (0, 0)) (by (with_reducible repeat (first | refine blk_drewN ?_ _ | refine blk_drew ?_ | refine blk_alloc ?_ _)); exact BK190.out) hb); have n1_ := Aside0.mk (below_step (by repeat (first | (with_reducible first | exact HB.out | apply below_alloc | apply pw_below_drewN | apply below_drew1 | refine below_set ?_ GE190.out) | exact HB.out)) hb); clear BK190; clear HB; have BK190 := n0_; have HB := n1_; clear n0_ n1_; (try clear hb); (try clear hb2); (try clear hk); (try clear hi)))
    have n0_ := Aside0.mk (blk_drew BK190.out)
    have n1_ := Aside0.mk (below_drew1 HB.out)
    clear BK190
    clear HB
    have BK190 := n0_
    have HB := n1_
    clear n0_ n1_
    refine start_ (n := 10) (S := fun w' => w'.cell? ⟨gb190, 0, none⟩ = some (.int .i64 a0_0) ∧ w'.cell? ⟨gb190, 1, none⟩ = some (.int .i64 a0_1) ∧ w'.cell? ⟨gb190, 2, none⟩ = some (.slice A0_2 l0_2.length c0_2)) (ds := []) #[false, false, false, false, false, false, false, false, false, false] (by kernel_rfl) rfl rfl ⟨(blk_cell BK190.out 0).trans rfl, (blk_cell BK190.out 1).trans rfl, (blk_cell BK190.out 2).trans rfl⟩ (fun hHeld => ?_); refine with_tabW match_Maximum.tab4 match_Maximum.bits4 (fun HT_ HW_ => ?_)
    generalize w8.drew = w9 at BK190 HB hHeld ⊢
    refine pure_ (i := 2) (N := some 15) (v := ?_) (a' := ?_) #[false, false, true, false, false, false, false, false, false, false] rfl rfl (any_of HT_.out (by kernel_rfl)) (fun _ _ _ h => h) (Or.inl ⟨by rfl, ?_⟩) ?_ ?_
    rotate_left
    · intro w'
      go_simp
      with_reducible rfl
    rotate_left
    · simp only [Act.put, List.setIfInBounds_toArray, List.set_cons_zero, List.set_cons_succ, i64_w, i32_w]
      rfl
    refine take_ (i := 0) (N := some 13) (v := ?_) (a' := ?_) #[true, false, true, false, false, false, false, false, false, false] rfl rfl (take_ofW HT_.out HW_.out (by kernel_rfl)) (fun _ _ _ h => h) (Or.inl ⟨by rfl, ?_⟩) hHeld ?_ ?_
    rotate_left
    · rintro w' ⟨s0, s1, s2⟩
      go_simp
      with_reducible rfl
    rotate_left
    · simp only [Act.put, List.setIfInBounds_toArray, List.set_cons_zero, List.set_cons_succ, i64_w, i32_w]
      rfl
    refine take_ (i := 3) (N := some 16) (v := ?_) (a' := ?_) #[true, false, true, true, false, false, false, false, false, false] rfl rfl (take_ofW HT_.out HW_.out (by kernel_rfl)) (fun _ _ _ h => h) (Or.inl ⟨by rfl, ?_⟩) hHeld ?_ ?_
    rotate_left
    · rintro w' ⟨s0, s1, s2⟩
      go_simp
      with_reducible rfl
    rotate_left
    · simp only [Act.put, List.setIfInBounds_toArray, List.set_cons_zero, List.set_cons_succ, i64_w, i32_w]
      rfl
    refine one_ (i := 1) (N := some 14) #[true, true, true, true, false, false, false, false, false, false] rfl rfl (one_of HT_.out (by kernel_rfl)) (by decide) (fun K hK => ?_)
    refine goes_ Try.func42 (by kernel_rfl) rfl #[.agg #[.int .i64 a0_0, .int .i64 a0_1, .slice A0_2 l0_2.length c0_2]] (by rfl) rfl rfl (by (try simp only [List.map_toArray, List.map_cons, List.map_nil]); first | done | rfl | (simp only [List.length_drop, List.length_take]; rfl)) ?_
    with_reducible refine (match_Graph_neighbours.calls k a0_0 a0_1 _ _ l0_2 t192 _ ?side1 ?side2 A4.out).mono ?_
    (case side1 => repeat (first | exact (Kd.C_below HR0_2.out HB.out) | (with_reducible refine Kd.C_alloc ?_ _) | (with_reducible refine Kd.C_drewN ?_ _) | (with_reducible refine Kd.C_drew ?_)))
    (case side2 => exact HC0_2.out)
    rintro e w10 ⟨v193, rfl, ho0, hb⟩
    refine ⟨_, rfl, ?_⟩
    have n0_ := Aside0.mk (Kd.S_lower ho0 (below_size (by repeat (first | (with_reducible first | exact HB.out | apply below_alloc | apply pw_below_drewN | apply below_drew1 | refine below_set ?_ GE190.out) | exact HB.out))))
    have n1_ := Aside0.mk (blk_below (g := gb190) (o := .cells #[.int .i64 a0_0, .int .i64 a0_1, .slice A0_2 l0_2.length c0_2] 33 (0, 0)) (by (with_reducible repeat (first | refine blk_drewN ?_ _ | refine blk_drew ?_ | refine blk_alloc ?_ _)); exact BK190.out) hb)
    have n2_ := Aside0.mk (below_step (by repeat (first | (with_reducible first | exact HB.out | apply below_alloc | apply pw_below_drewN | apply below_drew1 | refine below_set ?_ GE190.out) | exact HB.out)) hb)
    clear BK190
    clear HB
    have HO194 := n0_
    have BK190 := n1_
    have HB := n2_
    clear n0_ n1_ n2_
    (try clear hb)
    (try clear hb2)
    (try clear hk)
    (try clear hi)
    (try clear ho0)
    obtain ⟨Ao11, co11, eo11⟩ := Kd.S_slice HO194.out
    (first | subst eo11 | (injection eo11 with f1_ f2_ f3_; have f4_ := f1_.symm; have f5_ := f3_.symm; clear f1_ f2_ f3_; subst f4_; subst f5_))
    refine hK.out _ _ ⟨(blk_cell BK190.out 0).trans rfl, (blk_cell BK190.out 1).trans rfl, (blk_cell BK190.out 2).trans rfl⟩ (fun hHeld => ?_)
    clear hK K
    refine norm_ (a' := ?_) ?_ ?_
    rotate_left
    · show Act.put _ (some 14) _ = _
      simp only [Act.put, List.setIfInBounds_toArray, List.set_cons_zero, List.set_cons_succ, i64_w, i32_w]
      rfl
    refine one_ (i := 4) (N := some 17) #[true, true, true, true, true, false, false, false, false, false] rfl rfl (one_of HT_.out (by kernel_rfl)) (by decide) (fun K hK => ?_)
    refine goes_ Try.func46 (by kernel_rfl) rfl #[.slice Ao11 t192.length co11, .int .i64 a0_1] (by rfl) rfl rfl (by (try simp only [List.map_toArray, List.map_cons, List.map_nil]); first | done | rfl | (simp only [List.length_drop, List.length_take]; rfl)) ?_
    with_reducible refine (pairing_Greatest.calls k _ _ t192 a0_1 t195 t196 _ ?side1 ?side2 A5.out).mono ?_
    (case side1 => repeat (first | exact (Kd.S_reads' HO194.out).2.2 | (with_reducible refine Kd.C_alloc ?_ _) | (with_reducible refine Kd.C_drewN ?_ _) | (with_reducible refine Kd.C_drew ?_)))
    (case side2 => exact (Kd.S_reads' HO194.out).2.1)
    rintro e w12 ⟨v197, v199, rfl, ho0, ho1, hb⟩
    refine ⟨_, rfl, ?_⟩
    have n0_ := Aside0.mk (Kd.S_mono (Kd.S_told (Kd.S_told (Kd.S_old (by (with_reducible repeat (first | apply Kd.S_alloc | apply Kd.S_drewN | apply Kd.S_drew)); exact HO194.out) hb) (Kd.R_base ho0)) (Kd.R_base ho1)) (fun _ h_ => h_.1))
    have n1_ := Aside0.mk (Kd.R_lower ho0 (below_size (by repeat (first | (with_reducible first | exact HB.out | apply below_alloc | apply pw_below_drewN | apply below_drew1 | refine below_set ?_ GE190.out) | exact HB.out))))
    have n2_ := Aside0.mk (Kd.R_lower ho1 (below_size (by repeat (first | (with_reducible first | exact HB.out | apply below_alloc | apply pw_below_drewN | apply below_drew1 | refine below_set ?_ GE190.out) | exact HB.out))))
    have n3_ := Aside0.mk (blk_below (g := gb190) (o := .cells #[.int .i64 a0_0, .int .i64 a0_1, .slice A0_2 l0_2.length c0_2] 33 (0, 0)) (by (with_reducible repeat (first | refine blk_drewN ?_ _ | refine blk_drew ?_ | refine blk_alloc ?_ _)); exact BK190.out) hb)
    have n4_ := Aside0.mk (below_step (by repeat (first | (with_reducible first | exact HB.out | apply below_alloc | apply pw_below_drewN | apply below_drew1 | refine below_set ?_ GE190.out) | exact HB.out)) hb)
    clear HO194
    clear BK190
    clear HB
    have HO194 := n0_
    have HO198 := n1_
    have HO200 := n2_
    have BK190 := n3_
    have HB := n4_
    clear n0_ n1_ n2_ n3_ n4_
    (try clear hb)
    (try clear hb2)
    (try clear hk)
    (try clear hi)
    (try clear ho0)
    (try clear ho1)
    refine hK.out _ _ ⟨(blk_cell BK190.out 0).trans rfl, (blk_cell BK190.out 1).trans rfl, (blk_cell BK190.out 2).trans rfl⟩ (fun hHeld => ?_)
    clear hK K
    refine norm_ (a' := ?_) ?_ ?_
    rotate_left
    · show Act.put _ (some 17) _ = _
      simp only [Act.put, List.setIfInBounds_toArray, List.set_cons_zero, List.set_cons_succ, i64_w, i32_w]
      rfl
    refine pure_ (i := 5) (N := some 12) (v := ?_) (a' := ?_) #[true, true, true, true, true, true, false, false, false, false] rfl rfl (any_of HT_.out (by kernel_rfl)) (fun _ _ _ h => h) (Or.inl ⟨by rfl, ?_⟩) ?_ ?_
    rotate_left
    · intro w'
      go_simp
      with_reducible rfl
    rotate_left
    · simp only [Act.put, List.setIfInBounds_toArray, List.set_cons_zero, List.set_cons_succ, i64_w, i32_w]
      rfl
    refine pure_ (i := 6) (N := some 18) (v := ?_) (a' := ?_) #[true, true, true, true, true, true, true, false, false, false] rfl rfl (any_of HT_.out (by kernel_rfl)) (fun _ _ _ h => h) (Or.inl ⟨by rfl, ?_⟩) ?_ ?_
    rotate_left
    · intro w'
      go_simp
      with_reducible rfl
    rotate_left
    · simp only [Act.put, List.setIfInBounds_toArray, List.set_cons_zero, List.set_cons_succ, i64_w, i32_w]
      rfl
    refine pure_ (i := 7) (N := some 19) (v := ?_) (a' := ?_) #[true, true, true, true, true, true, true, true, false, false] rfl rfl (any_of HT_.out (by kernel_rfl)) (fun _ _ _ h => h) (Or.inl ⟨by rfl, ?_⟩) ?_ ?_
    rotate_left
    · intro w'
      go_simp
      with_reducible rfl
    rotate_left
    · simp only [Act.put, List.setIfInBounds_toArray, List.set_cons_zero, List.set_cons_succ, i64_w, i32_w]
      rfl
    refine pure_ (i := 8) (N := some 5) (v := ?_) (a' := ?_) #[true, true, true, true, true, true, true, true, true, false] rfl rfl (any_of HT_.out (by kernel_rfl)) (fun _ _ _ h => h) (Or.inl ⟨by rfl, ?_⟩) ?_ ?_
    rotate_left
    · intro w'
      go_simp
      with_reducible rfl
    rotate_left
    · simp only [Act.put, List.setIfInBounds_toArray, List.set_cons_zero, List.set_cons_succ, i64_w, i32_w]
      rfl
    refine pure_ (i := 9) (N := some 6) (v := ?_) (a' := ?_) #[true, true, true, true, true, true, true, true, true, true] rfl rfl (any_of HT_.out (by kernel_rfl)) (fun _ _ _ h => h) (Or.inl ⟨by rfl, ?_⟩) ?_ ?_
    rotate_left
    · intro w'
      go_simp
      with_reducible rfl
    rotate_left
    · simp only [Act.put, List.setIfInBounds_toArray, List.set_cons_zero, List.set_cons_succ, i64_w, i32_w]
      rfl
    refine done_ (done_of HT_.out (by kernel_rfl)) ?_
    try go_wp2
    go_ret2
    exact ⟨_, by first | rfl | (simp [errW_none, errW_some] <;> rfl) | (simp [*, errW_none, errW_some] <;> rfl), by (with_reducible repeat (first | apply Kd.R_alloc | apply Kd.R_drewN | apply Kd.R_drew)); exact Kd.R_mono HO198.out (fun _ hk => trivial), by repeat (first | (with_reducible first | exact HB.out | apply below_alloc | apply pw_below_drewN | apply below_drew1 | refine below_set ?_ GE190.out) | exact HB.out)⟩
  · rw [if_neg c3] at H
    have c3b0 : (t191 == 0) = false := beq_eq_false_iff_ne.mpr c3
    have c3b1 : (t191 != 0) = true := bne_iff_ne.mpr c3
    simp only [Option.some.injEq, Prod.mk.injEq] at H
    obtain ⟨rfl, rfl⟩ := H
    go_enter Try.func35, Try.ntmps35
    go_wp2_with (first | ((with_reducible refine gate_dst (N := 1) rfl ?_); refine box_event ?hg (N := 1) ?hd (cs := #[.int .i64 a0_0, .int .i64 a0_1, .slice A0_2 l0_2.length c0_2]) (t := 33) ?hr ?_; (case hd => rfl); (case hg => rfl); (case hr => first | (go_simp; done) | (go_simp; rfl)); intro gb190 hg w13 hbox hb; have n0_ := Aside0.mk (below_step (by repeat (first | (with_reducible first | exact HB.out | apply below_alloc | apply pw_below_drewN | apply below_drew1) | exact HB.out)) hb); have n1_ := Aside0.mk (hbox); have n2_ := Aside0.mk ((by rw [hg]; exact (below_size (by repeat (first | (with_reducible first | exact HB.out | apply below_alloc | apply pw_below_drewN | apply below_drew1) | exact HB.out))) : w.heap.size ≤ gb190)); have n3_ := Aside0.mk ((by rw [hg]; exact (below_size (by repeat (first | (with_reducible first | exact HB.out | apply below_alloc | apply pw_below_drewN | apply below_drew1) | exact HB.out))) : w.heap.size ≤ gb190)); clear HB; have HB := n0_; have BK190 := n1_; have GW190 := n2_; have GE190 := n3_; clear n0_ n1_ n2_ n3_; clear hb hbox hg; have hcz14_0 : w13.cell? ⟨gb190, 0, none⟩ = some (.int .i64 a0_0) := (blk_cell BK190.out 0).trans rfl; have hcz14_1 : w13.cell? ⟨gb190, 1, none⟩ = some (.int .i64 a0_1) := (blk_cell BK190.out 1).trans rfl; have hcz14_2 : w13.cell? ⟨gb190, 2, none⟩ = some (.slice A0_2 l0_2.length c0_2) := (blk_cell BK190.out 2).trans rfl; have hfz14_0 := blk_frozen BK190.out 0; have hfz14_1 := blk_frozen BK190.out 1; have hfz14_2 := blk_frozen BK190.out 2) | ((with_reducible refine gate_callee (f := 23) rfl ?_); refine goesL_ (some 8) rfl rfl Try.func23 (by kernel_rfl) rfl #[.agg #[.int .i64 a0_0, .int .i64 a0_1, .slice A0_2 l0_2.length c0_2]] rfl (by (try simp only [List.map_toArray, List.map_cons, List.map_nil]); first | done | rfl | (simp only [List.length_drop, List.length_take]; rfl)) ?_; (with_reducible refine (match_Check.calls a0_0 a0_1 _ _ l0_2 t191 _ ?side1 ?side2 A2.out).mono ?_); (case side1 => repeat (first | exact (Kd.C_below HR0_2.out HB.out) | (with_reducible refine Kd.C_alloc ?_ _) | (with_reducible refine Kd.C_drewN ?_ _) | (with_reducible refine Kd.C_drew ?_))); (case side2 => exact HC0_2.out); rintro e w15 ⟨rfl, hb⟩; refine ⟨_, rfl, ?_⟩; have n0_ := Aside0.mk (blk_below (g := gb190) (o := .cells #[.int .i64 a0_0, .int .i64 a0_1, .slice A0_2 l0_2.length c0_2] 33 (0, 0)) (by (with_reducible repeat (first | refine blk_drewN ?_ _ | refine blk_drew ?_ | refine blk_alloc ?_ _)); exact BK190.out) hb); have n1_ := Aside0.mk (below_step (by repeat (first | (with_reducible first | exact HB.out | apply below_alloc | apply pw_below_drewN | apply below_drew1 | refine below_set ?_ GE190.out) | exact HB.out)) hb); clear BK190; clear HB; have BK190 := n0_; have HB := n1_; clear n0_ n1_; (try clear hb); (try clear hb2); (try clear hk); (try clear hi)))
    go_ret2
    exact ⟨_, by first | rfl | (simp [errW_none, errW_some] <;> rfl) | (simp [*, errW_none, errW_some] <;> rfl), by first | exact Kd.R_nil _ _ _ _ _ | exact Kd.N_nil _ _ _ _ _ | exact Kd.V_nil _ _ _ _ _ | exact Kd.Q_nil _ _ _ _ _ | exact Kd.S_nil _ _ _ _ _, by repeat (first | (with_reducible first | exact HB.out | apply below_alloc | apply pw_below_drewN | apply below_drew1 | refine below_set ?_ GE190.out) | exact HB.out)⟩
end Go.Proofs.Ytlleokhmgblfnaa.M
end

section
namespace Go.Proofs.Ytlleokhmgblfnaa.M
open Go.RowKit Go.Proofs.YtlleokhmgblfnaaW.PrintWords Go.Proofs.YtlleokhmgblfnaaW.PrintLast Go.Proofs.YtlleokhmgblfnaaW.PrintMore
attribute [local go_sem] max2_int min2_int max_two min_two max_three min_three max_four min_four   -- for this text's walks alone
def match_Size.l0 : Nat → Int → Int → List Int → Int → Int → Option (Int × Int)
  | 0, _, _, _, _, _ => none
  | k + 1, x5, x6, x14, x15, x16 => if x16 < x15 then (if 0 ≤ x16 then (if x16 < (x14.length : Int) then (if (rd x14 x16) ≥ 0 then (match_Size.l0 k x5 (wrap64 (x6 + 1)) x14 x15 (wrap64 (x16 + 1))) else (match_Size.l0 k x5 x6 x14 x15 (wrap64 (x16 + 1)))) else (none)) else (none)) else (some (x6, x5))
def match_Size.f (k : Nat) (a0_0 : Int) (a0_1 : Int) (l0_2 : List (S40)) : Option (Int × Int) := (match_Maximum.f k a0_0 a0_1 l0_2).bind fun bt202 => (match_Size.l0 k bt202.2 0 bt202.1 (bt202.1.length : Int) 0)
theorem match_Size.mono_l : ∀ k, (∀ y0 y1 y2 y3 y4, LeO (match_Size.l0 k y0 y1 y2 y3 y4) (match_Size.l0 (k + 1) y0 y1 y2 y3 y4))
  | 0 => fun _ _ _ _ _ r h => by simp [match_Size.l0] at h
  | k + 1 => by
    have ih0 := match_Size.mono_l k
    · intro y0 y1 y2 y3 y4
      unfold match_Size.l0
      repeat' first
      | (with_reducible exact ih0 _ _ _ _ _)
      | (with_reducible exact match_Maximum.mono _ _ _ _)
      | (with_reducible exact LeO.refl _)
      | (with_reducible exact LeO.none _)
      | (with_reducible refine LeO.ite ?_ ?_)
      | (with_reducible refine LeO.bind ?_ (fun _ => ?_))
      | exact ih0 _ _ _ _ _
      | exact match_Maximum.mono _ _ _ _
      | exact LeO.none _
      | refine LeO.ite ?_ ?_
      | refine LeO.bind ?_ (fun _ => ?_)
theorem match_Size.mono : ∀ a0 a1 a2 k, LeO (match_Size.f k a0 a1 a2) (match_Size.f (k + 1) a0 a1 a2) := by
  intro a0 a1 a2 k
  have ih0 := match_Size.mono_l k
  unfold match_Size.f
  repeat' first
      | (with_reducible exact ih0 _ _ _ _ _)
      | (with_reducible exact match_Maximum.mono _ _ _ _)
      | (with_reducible exact LeO.refl _)
      | (with_reducible exact LeO.none _)
      | (with_reducible refine LeO.ite ?_ ?_)
      | (with_reducible refine LeO.bind ?_ (fun _ => ?_))
      | exact ih0 _ _ _ _ _
      | exact match_Maximum.mono _ _ _ _
      | exact LeO.none _
      | refine LeO.ite ?_ ?_
      | refine LeO.bind ?_ (fun _ => ?_)
set_option maxHeartbeats 8000000 in
set_option maxRecDepth 100000 in
theorem match_Size.calls (k : Nat) (a0_0 : Int) (a0_1 : Int) (A0_2 : Option Addr) (c0_2 : Nat) (l0_2 : List (S40)) (r1 : Int) (r2 : Int) (w : World) (hr0_2 : Kd.C k40 w A0_2 l0_2.length l0_2) (hc0_2 : l0_2.length ≤ c0_2) (h : match_Size.f k a0_0 a0_1 l0_2 = some (r1, r2)) :
    Calls Try.prog 21 #[.agg #[.int .i64 a0_0, .int .i64 a0_1, .slice A0_2 l0_2.length c0_2]] w fun e w' => e = .returned (.tuple #[.int .i64 r1, .int .i64 r2]) ∧ Below w.heap.size w w' := by
  have hu33 := Try.underlying33
  have HR0_2 := Aside0.mk hr0_2
  have HC0_2 := Aside0.mk hc0_2
  clear hr0_2 hc0_2
  have HB := Aside0.mk (Below.refl w.heap.size w)
  have H : ((match_Maximum.f k a0_0 a0_1 l0_2).bind fun bt202 => (match_Size.l0 k bt202.2 0 bt202.1 (bt202.1.length : Int) 0)) = some (r1, r2) := h
  clear h
  replace H := Option.bind_eq_some_iff.mp H
  obtain ⟨⟨t202, t205⟩, A20, H⟩ := H
  replace H : (match_Size.l0 k t205 0 t202 (t202.length : Int) 0) = some (r1, r2) := H
  have A2 := Aside0.mk A20
  clear A20
  have H' := Aside0.mk H
  clear H
  go_enter Try.func21, Try.ntmps21
  go_wp2_with (first | ((with_reducible refine gate_dst (N := 1) rfl ?_); refine box_event ?hg (N := 1) ?hd (cs := #[.int .i64 a0_0, .int .i64 a0_1, .slice A0_2 l0_2.length c0_2]) (t := 33) ?hr ?_; (case hd => rfl); (case hg => rfl); (case hr => first | (go_simp; done) | (go_simp; rfl)); intro gb201 hg w3 hbox hb; have n0_ := Aside0.mk (below_step (by repeat (first | (with_reducible first | exact HB.out | apply below_alloc | apply pw_below_drewN | apply below_drew1) | exact HB.out)) hb); have n1_ := Aside0.mk (hbox); have n2_ := Aside0.mk ((by rw [hg]; exact (below_size (by repeat (first | (with_reducible first | exact HB.out | apply below_alloc | apply pw_below_drewN | apply below_drew1) | exact HB.out))) : w.heap.size ≤ gb201)); have n3_ := Aside0.mk ((by rw [hg]; exact (below_size (by repeat (first | (with_reducible first | exact HB.out | apply below_alloc | apply pw_below_drewN | apply below_drew1) | exact HB.out))) : w.heap.size ≤ gb201)); clear HB; have HB := n0_; have BK201 := n1_; have GW201 := n2_; have GE201 := n3_; clear n0_ n1_ n2_ n3_; clear hb hbox hg; have hcz4_0 : w3.cell? ⟨gb201, 0, none⟩ = some (.int .i64 a0_0) := (blk_cell BK201.out 0).trans rfl; have hcz4_1 : w3.cell? ⟨gb201, 1, none⟩ = some (.int .i64 a0_1) := (blk_cell BK201.out 1).trans rfl; have hcz4_2 : w3.cell? ⟨gb201, 2, none⟩ = some (.slice A0_2 l0_2.length c0_2) := (blk_cell BK201.out 2).trans rfl; have hfz4_0 := blk_frozen BK201.out 0; have hfz4_1 := blk_frozen BK201.out 1; have hfz4_2 := blk_frozen BK201.out 2) | ((with_reducible refine gate_callee (f := 35) rfl ?_); refine goesL_ (some 11) rfl rfl Try.func35 (by kernel_rfl) rfl #[.agg #[.int .i64 a0_0, .int .i64 a0_1, .slice A0_2 l0_2.length c0_2]] rfl (by (try simp only [List.map_toArray, List.map_cons, List.map_nil]); first | done | rfl | (simp only [List.length_drop, List.length_take]; rfl)) ?_; (with_reducible refine (match_Maximum.calls k a0_0 a0_1 _ _ l0_2 t202 t205 _ ?side1 ?side2 A2.out).mono ?_); (case side1 => repeat (first | exact (Kd.C_below HR0_2.out HB.out) | (with_reducible refine Kd.C_alloc ?_ _) | (with_reducible refine Kd.C_drewN ?_ _) | (with_reducible refine Kd.C_drew ?_))); (case side2 => exact HC0_2.out); rintro e w5 ⟨v203, rfl, ho0, hb⟩; refine ⟨_, rfl, ?_⟩; have n0_ := Aside0.mk (Kd.R_lower ho0 (below_size (by repeat (first | (with_reducible first | exact HB.out | apply below_alloc | apply pw_below_drewN | apply below_drew1 | refine below_set ?_ GE201.out) | exact HB.out)))); have n1_ := Aside0.mk (blk_below (g := gb201) (o := .cells #[.int .i64 a0_0, .int .i64 a0_1, .slice A0_2 l0_2.length c0_2] 33 (0, 0)) (by (with_reducible repeat (first | refine blk_drewN ?_ _ | refine blk_drew ?_ | refine blk_alloc ?_ _)); exact BK201.out) hb); have n2_ := Aside0.mk (below_step (by repeat (first | (with_reducible first | exact HB.out | apply below_alloc | apply pw_below_drewN | apply below_drew1 | refine below_set ?_ GE201.out) | exact HB.out)) hb); clear BK201; clear HB; have HO204 := n0_; have BK201 := n1_; have HB := n2_; clear n0_ n1_ n2_; (try clear hb); (try clear hb2); (try clear hk); (try clear hi); (try clear ho0); obtain ⟨Ao6, co6, eo6⟩ := Kd.R_slice HO204.out; subst eo6))
  go_loopg [6, 16] k (fun kq v6 v16 w' => ∃ (x6_1 : Int) (x16_1 : Int), v6 = .int .i64 x6_1 ∧ v16 = .int .i64 x16_1 ∧ Aside0 (match_Size.l0 kq t205 x6_1 t202 (t202.length : Int) x16_1 = some (r1, r2)) ∧ Aside0 (kq ≤ k) ∧ Aside0 (Kd.R (Kd.int .i64) 3 w' w.heap.size (fun _ => True) (.slice Ao6 t202.length co6) t202) ∧ Aside0 (w'.heap[gb201]? = some (.cells #[.int .i64 a0_0, .int .i64 a0_1, (.slice A0_2 l0_2.length c0_2)] 33 (0, 0))) ∧ Aside0 (Below w.heap.size w w'))
  case atStart => exact ⟨(0), (0), (by first | rfl | (simp; done) | (simp [*]; done)), (by first | rfl | (simp; done) | (simp [*]; done)), H', ⟨Nat.le_refl _⟩, ⟨by (with_reducible repeat (first | apply Kd.R_alloc | apply Kd.R_drewN | apply Kd.R_drew)); exact HO204.out⟩, ⟨by (with_reducible repeat (first | refine blk_drewN ?_ _ | refine blk_drew ?_ | refine blk_alloc ?_ _)); exact BK201.out⟩, ⟨by repeat (first | (with_reducible first | exact HB.out | apply below_alloc | apply pw_below_drewN | apply below_drew1 | refine below_set ?_ GE201.out) | exact HB.out)⟩⟩
  case round =>
    clear H'
    try clear c2
    try clear p2
    try clear c3
    try clear hcz4_0
    try clear hcz4_1
    try clear hcz4_2
    try clear hfz4_0
    try clear hfz4_1
    try clear hfz4_2
    obtain ⟨x6_1, x16_1, rfl, rfl, HA, HK1, HO_14, BK201, HB⟩ := hrel
    cases gk with
    | zero => exact absurd HA.out (by simp [match_Size.l0])
    | succ k1 =>
      have H := HA.out
      clear HA
      simp only [match_Size.l0] at H
      by_cases c7 : x16_1 < (t202.length : Int)
      · rw [if_pos c7] at H
        have c7b0 : decide (x16_1 < (t202.length : Int)) = true := decide_eq_true c7
        clear c7
        by_cases c8 : 0 ≤ x16_1
        · rw [if_pos c8] at H
          have c8b0 : decide (0 ≤ x16_1) = true := decide_eq_true c8
          clear c8
          by_cases c9 : x16_1 < (t202.length : Int)
          · rw [if_pos c9] at H
            have c9b0 : decide (x16_1 < (t202.length : Int)) = true := decide_eq_true c9
            clear c9
            by_cases c10 : (rd t202 x16_1) ≥ 0
            · rw [if_pos c10] at H
              have c10b0 : decide (0 ≤ (rd t202 x16_1)) = true := decide_eq_true c10
              clear c10
              have H' := Aside0.mk H
              clear H
              have p206 : 0 ≤ (x16_1 : Int) := of_decide_eq_true (by first | (with_reducible assumption) | assumption)
              have q206 : x16_1 < (t202.length : Int) := of_decide_eq_true (by first | (with_reducible assumption) | assumption)
              obtain ⟨ad206, e206, hx206_0⟩ := Kd.at_int (Kd.R_reads' HO_14.out).2.2 x16_1 p206 q206
              cases e206
              replace p206 := eq_true p206
              replace q206 := eq_true q206
              go_wp2
              go_roundg k1
              case measure => have := HK1.out; omega
              case rel => exact ⟨(wrap64 (x6_1 + 1)), (wrap64 (x16_1 + 1)), (by first | rfl | (simp; done) | (simp [*]; done)), (by first | rfl | (simp; done) | (simp [*]; done)), H', ⟨by have := HK1.out; omega⟩, ⟨by (with_reducible repeat (first | apply Kd.R_alloc | apply Kd.R_drewN | apply Kd.R_drew)); exact HO_14.out⟩, ⟨by (with_reducible repeat (first | refine blk_drewN ?_ _ | refine blk_drew ?_ | refine blk_alloc ?_ _)); exact BK201.out⟩, ⟨by repeat (first | (with_reducible first | exact HB.out | apply below_alloc | apply pw_below_drewN | apply below_drew1 | refine below_set ?_ GE201.out) | exact HB.out)⟩⟩
            · rw [if_neg c10] at H
              have c10b0 : decide (0 ≤ (rd t202 x16_1)) = false := decide_eq_false c10
              clear c10
              have H' := Aside0.mk H
              clear H
              have p206 : 0 ≤ (x16_1 : Int) := of_decide_eq_true (by first | (with_reducible assumption) | assumption)
              have q206 : x16_1 < (t202.length : Int) := of_decide_eq_true (by first | (with_reducible assumption) | assumption)
              obtain ⟨ad206, e206, hx206_0⟩ := Kd.at_int (Kd.R_reads' HO_14.out).2.2 x16_1 p206 q206
              cases e206
              replace p206 := eq_true p206
              replace q206 := eq_true q206
              go_wp2
              go_roundg k1
              case measure => have := HK1.out; omega
              case rel => exact ⟨(x6_1), (wrap64 (x16_1 + 1)), (by first | rfl | (simp; done) | (simp [*]; done)), (by first | rfl | (simp; done) | (simp [*]; done)), H', ⟨by have := HK1.out; omega⟩, ⟨by (with_reducible repeat (first | apply Kd.R_alloc | apply Kd.R_drewN | apply Kd.R_drew)); exact HO_14.out⟩, ⟨by (with_reducible repeat (first | refine blk_drewN ?_ _ | refine blk_drew ?_ | refine blk_alloc ?_ _)); exact BK201.out⟩, ⟨by repeat (first | (with_reducible first | exact HB.out | apply below_alloc | apply pw_below_drewN | apply below_drew1 | refine below_set ?_ GE201.out) | exact HB.out)⟩⟩
          · rw [if_neg c9] at H
            exact absurd H (by simp)
        · rw [if_neg c8] at H
          exact absurd H (by simp)
      · rw [if_neg c7] at H
        have c7b0 : decide (x16_1 < (t202.length : Int)) = false := decide_eq_false c7
        clear c7
        simp only [Option.some.injEq, Prod.mk.injEq] at H
        obtain ⟨rfl, rfl⟩ := H
        go_wp2
        go_ret2
        exact ⟨by first | rfl | (simp [errW_none, errW_some] <;> rfl) | (simp [*, errW_none, errW_some] <;> rfl), by repeat (first | (with_reducible first | exact HB.out | apply below_alloc | apply pw_below_drewN | apply below_drew1 | refine below_set ?_ GE201.out) | exact HB.out)⟩
def toruslaw30_size.f (k : Nat) (a0_0 : Int) (a0_1 : Int) (l0_2 : List (S40)) : Option (Int) := (toruslaw30_given.f a0_0 a0_1 l0_2).bind fun bt208 => ((match_Size.f k bt208.1 bt208.2.1 bt208.2.2).bind fun bt213 => (if bt213.2 = 0 then (some bt213.1) else (some (-1))))
theorem toruslaw30_size.mono : ∀ a0 a1 a2 k, LeO (toruslaw30_size.f k a0 a1 a2) (toruslaw30_size.f (k + 1) a0 a1 a2) := by
  intro a0 a1 a2 k
  unfold toruslaw30_size.f
  repeat' first
      | (with_reducible exact match_Size.mono _ _ _ _)
      | (with_reducible exact LeO.refl _)
      | (with_reducible exact LeO.none _)
      | (with_reducible refine LeO.ite ?_ ?_)
      | (with_reducible refine LeO.bind ?_ (fun _ => ?_))
      | exact match_Size.mono _ _ _ _
      | exact LeO.none _
      | refine LeO.ite ?_ ?_
      | refine LeO.bind ?_ (fun _ => ?_)
set_option maxHeartbeats 8000000 in
set_option maxRecDepth 100000 in
theorem toruslaw30_size.calls (k : Nat) (a0_0 : Int) (a0_1 : Int) (A0_2 : Option Addr) (c0_2 : Nat) (l0_2 : List (S40)) (r : Int) (w : World) (hr0_2 : Kd.C k40 w A0_2 l0_2.length l0_2) (hc0_2 : l0_2.length ≤ c0_2) (h : toruslaw30_size.f k a0_0 a0_1 l0_2 = some r) :
    Calls Try.prog 15 #[.agg #[.int .i64 a0_0, .int .i64 a0_1, .slice A0_2 l0_2.length c0_2]] w fun e w' => e = .returned (.int .i64 r) ∧ Below w.heap.size w w' := by
  have hu27 := Try.underlying27
  have HR0_2 := Aside0.mk hr0_2
  have HC0_2 := Aside0.mk hc0_2
  clear hr0_2 hc0_2
  have HB := Aside0.mk (Below.refl w.heap.size w)
  have H : ((toruslaw30_given.f a0_0 a0_1 l0_2).bind fun bt208 => ((match_Size.f k bt208.1 bt208.2.1 bt208.2.2).bind fun bt213 => (if bt213.2 = 0 then (some bt213.1) else (some (-1))))) = some r := h
  clear h
  replace H := Option.bind_eq_some_iff.mp H
  obtain ⟨⟨t208, t209, t210⟩, A20, H⟩ := H
  replace H : ((match_Size.f k t208 t209 t210).bind fun bt213 => (if bt213.2 = 0 then (some bt213.1) else (some (-1)))) = some r := H
  have A2 := Aside0.mk A20
  clear A20
  replace H := Option.bind_eq_some_iff.mp H
  obtain ⟨⟨t213, t214⟩, A30, H⟩ := H
  replace H : (if t214 = 0 then (some t213) else (some (-1))) = some r := H
  have A3 := Aside0.mk A30
  clear A30
  by_cases c4 : t214 = 0
  · rw [if_pos c4] at H
    have c4b0 : (t214 == 0) = true := beq_iff_eq.mpr c4
    have c4b1 : (t214 != 0) = false := bne_eq_false_iff_eq.mpr c4
    clear c4
    obtain rfl := Option.some.inj H
    go_enter Try.func15, Try.ntmps15
    go_wp2_with (first | ((with_reducible refine gate_dst (N := 1) rfl ?_); refine box_event ?hg (N := 1) ?hd (cs := #[.int .i64 a0_0, .int .i64 a0_1, .slice A0_2 l0_2.length c0_2]) (t := 27) ?hr ?_; (case hd => rfl); (case hg => rfl); (case hr => first | (go_simp; done) | (go_simp; rfl)); intro gb207 hg w5 hbox hb; have n0_ := Aside0.mk (below_step (by repeat (first | (with_reducible first | exact HB.out | apply below_alloc | apply pw_below_drewN | apply below_drew1) | exact HB.out)) hb); have n1_ := Aside0.mk (hbox); have n2_ := Aside0.mk ((by rw [hg]; exact (below_size (by repeat (first | (with_reducible first | exact HB.out | apply below_alloc | apply pw_below_drewN | apply below_drew1) | exact HB.out))) : w.heap.size ≤ gb207)); have n3_ := Aside0.mk ((by rw [hg]; exact (below_size (by repeat (first | (with_reducible first | exact HB.out | apply below_alloc | apply pw_below_drewN | apply below_drew1) | exact HB.out))) : w.heap.size ≤ gb207)); clear HB; have HB := n0_; have BK207 := n1_; have GW207 := n2_; have GE207 := n3_; clear n0_ n1_ n2_ n3_; clear hb hbox hg; have hcz6_0 : w5.cell? ⟨gb207, 0, none⟩ = some (.int .i64 a0_0) := (blk_cell BK207.out 0).trans rfl; have hcz6_1 : w5.cell? ⟨gb207, 1, none⟩ = some (.int .i64 a0_1) := (blk_cell BK207.out 1).trans rfl; have hcz6_2 : w5.cell? ⟨gb207, 2, none⟩ = some (.slice A0_2 l0_2.length c0_2) := (blk_cell BK207.out 2).trans rfl; have hfz6_0 := blk_frozen BK207.out 0; have hfz6_1 := blk_frozen BK207.out 1; have hfz6_2 := blk_frozen BK207.out 2) | ((with_reducible refine gate_callee (f := 14) rfl ?_); refine goesL_ (some 7) rfl rfl Try.func14 (by kernel_rfl) rfl #[.agg #[.int .i64 a0_0, .int .i64 a0_1, .slice A0_2 l0_2.length c0_2]] rfl (by (try simp only [List.map_toArray, List.map_cons, List.map_nil]); first | done | rfl | (simp only [List.length_drop, List.length_take]; rfl)) ?_; (with_reducible refine (toruslaw30_given.calls a0_0 a0_1 _ _ l0_2 t208 t209 t210 _ ?side1 ?side2 A2.out).mono ?_); (case side1 => repeat (first | exact (Kd.C_below HR0_2.out HB.out) | (with_reducible refine Kd.C_alloc ?_ _) | (with_reducible refine Kd.C_drewN ?_ _) | (with_reducible refine Kd.C_drew ?_))); (case side2 => exact HC0_2.out); rintro e w7 ⟨v211, rfl, ho0, hb⟩; refine ⟨_, rfl, ?_⟩; have n0_ := Aside0.mk (Kd.R_lower ho0 (below_size (by repeat (first | (with_reducible first | exact HB.out | apply below_alloc | apply pw_below_drewN | apply below_drew1 | refine below_set ?_ GE207.out) | exact HB.out)))); have n1_ := Aside0.mk (blk_below (g := gb207) (o := .cells #[.int .i64 a0_0, .int .i64 a0_1, .slice A0_2 l0_2.length c0_2] 27 (0, 0)) (by (with_reducible repeat (first | refine blk_drewN ?_ _ | refine blk_drew ?_ | refine blk_alloc ?_ _)); exact BK207.out) hb); have n2_ := Aside0.mk (below_step (by repeat (first | (with_reducible first | exact HB.out | apply below_alloc | apply pw_below_drewN | apply below_drew1 | refine below_set ?_ GE207.out) | exact HB.out)) hb); clear BK207; clear HB; have HO212 := n0_; have BK207 := n1_; have HB := n2_; clear n0_ n1_ n2_; (try clear hb); (try clear hb2); (try clear hk); (try clear hi); (try clear ho0); obtain ⟨Ao8, co8, eo8⟩ := Kd.R_slice HO212.out; subst eo8) | ((with_reducible refine gate_callee (f := 21) rfl ?_); refine goesL_ (some 8) rfl rfl Try.func21 (by kernel_rfl) rfl #[.agg #[.int .i64 t208, .int .i64 t209, .slice Ao8 t210.length co8]] rfl (by (try simp only [List.map_toArray, List.map_cons, List.map_nil]); first | done | rfl | (simp only [List.length_drop, List.length_take]; rfl)) ?_; (with_reducible refine (match_Size.calls k t208 t209 _ _ t210 t213 t214 _ ?side1 ?side2 A3.out).mono ?_); (case side1 => repeat (first | exact (Kd.R_reads' HO212.out).2.2 | (with_reducible refine Kd.C_alloc ?_ _) | (with_reducible refine Kd.C_drewN ?_ _) | (with_reducible refine Kd.C_drew ?_))); (case side2 => exact (Kd.R_reads' HO212.out).2.1); rintro e w9 ⟨rfl, hb⟩; refine ⟨_, rfl, ?_⟩; have n0_ := Aside0.mk (Kd.R_below (by (with_reducible repeat (first | apply Kd.R_alloc | apply Kd.R_drewN | apply Kd.R_drew)); exact HO212.out) hb); have n1_ := Aside0.mk (blk_below (g := gb207) (o := .cells #[.int .i64 a0_0, .int .i64 a0_1, .slice A0_2 l0_2.length c0_2] 27 (0, 0)) (by (with_reducible repeat (first | refine blk_drewN ?_ _ | refine blk_drew ?_ | refine blk_alloc ?_ _)); exact BK207.out) hb); have n2_ := Aside0.mk (below_step (by repeat (first | (with_reducible first | exact HB.out | apply below_alloc | apply pw_below_drewN | apply below_drew1 | refine below_set ?_ GE207.out) | exact HB.out)) hb); clear HO212; clear BK207; clear HB; have HO212 := n0_; have BK207 := n1_; have HB := n2_; clear n0_ n1_ n2_; (try clear hb); (try clear hb2); (try clear hk); (try clear hi)))
    go_ret
    exact ⟨by first | rfl | (simp [errW_none, errW_some] <;> rfl) | (simp [*, errW_none, errW_some] <;> rfl), by repeat (first | (with_reducible first | exact HB.out | apply below_alloc | apply pw_below_drewN | apply below_drew1 | refine below_set ?_ GE207.out) | exact HB.out)⟩
  · rw [if_neg c4] at H
    have c4b0 : (t214 == 0) = false := beq_eq_false_iff_ne.mpr c4
    have c4b1 : (t214 != 0) = true := bne_iff_ne.mpr c4
    obtain rfl := Option.some.inj H
    go_enter Try.func15, Try.ntmps15
    go_wp2_with (first | ((with_reducible refine gate_dst (N := 1) rfl ?_); refine box_event ?hg (N := 1) ?hd (cs := #[.int .i64 a0_0, .int .i64 a0_1, .slice A0_2 l0_2.length c0_2]) (t := 27) ?hr ?_; (case hd => rfl); (case hg => rfl); (case hr => first | (go_simp; done) | (go_simp; rfl)); intro gb207 hg w10 hbox hb; have n0_ := Aside0.mk (below_step (by repeat (first | (with_reducible first | exact HB.out | apply below_alloc | apply pw_below_drewN | apply below_drew1) | exact HB.out)) hb); have n1_ := Aside0.mk (hbox); have n2_ := Aside0.mk ((by rw [hg]; exact (below_size (by repeat (first | (with_reducible first | exact HB.out | apply below_alloc | apply pw_below_drewN | apply below_drew1) | exact HB.out))) : w.heap.size ≤ gb207)); have n3_ := Aside0.mk ((by rw [hg]; exact (below_size (by repeat (first | (with_reducible first | exact HB.out | apply below_alloc | apply pw_below_drewN | apply below_drew1) | exact HB.out))) : w.heap.size ≤ gb207)); clear HB; have HB := n0_; have BK207 := n1_; have GW207 := n2_; have GE207 := n3_; clear n0_ n1_ n2_ n3_; clear hb hbox hg; have hcz11_0 : w10.cell? ⟨gb207, 0, none⟩ = some (.int .i64 a0_0) := (blk_cell BK207.out 0).trans rfl; have hcz11_1 : w10.cell? ⟨gb207, 1, none⟩ = some (.int .i64 a0_1) := (blk_cell BK207.out 1).trans rfl; have hcz11_2 : w10.cell? ⟨gb207, 2, none⟩ = some (.slice A0_2 l0_2.length c0_2) := (blk_cell BK207.out 2).trans rfl; have hfz11_0 := blk_frozen BK207.out 0; have hfz11_1 := blk_frozen BK207.out 1; have hfz11_2 := blk_frozen BK207.out 2) | ((with_reducible refine gate_callee (f := 14) rfl ?_); refine goesL_ (some 7) rfl rfl Try.func14 (by kernel_rfl) rfl #[.agg #[.int .i64 a0_0, .int .i64 a0_1, .slice A0_2 l0_2.length c0_2]] rfl (by (try simp only [List.map_toArray, List.map_cons, List.map_nil]); first | done | rfl | (simp only [List.length_drop, List.length_take]; rfl)) ?_; (with_reducible refine (toruslaw30_given.calls a0_0 a0_1 _ _ l0_2 t208 t209 t210 _ ?side1 ?side2 A2.out).mono ?_); (case side1 => repeat (first | exact (Kd.C_below HR0_2.out HB.out) | (with_reducible refine Kd.C_alloc ?_ _) | (with_reducible refine Kd.C_drewN ?_ _) | (with_reducible refine Kd.C_drew ?_))); (case side2 => exact HC0_2.out); rintro e w12 ⟨v211, rfl, ho0, hb⟩; refine ⟨_, rfl, ?_⟩; have n0_ := Aside0.mk (Kd.R_lower ho0 (below_size (by repeat (first | (with_reducible first | exact HB.out | apply below_alloc | apply pw_below_drewN | apply below_drew1 | refine below_set ?_ GE207.out) | exact HB.out)))); have n1_ := Aside0.mk (blk_below (g := gb207) (o := .cells #[.int .i64 a0_0, .int .i64 a0_1, .slice A0_2 l0_2.length c0_2] 27 (0, 0)) (by (with_reducible repeat (first | refine blk_drewN ?_ _ | refine blk_drew ?_ | refine blk_alloc ?_ _)); exact BK207.out) hb); have n2_ := Aside0.mk (below_step (by repeat (first | (with_reducible first | exact HB.out | apply below_alloc | apply pw_below_drewN | apply below_drew1 | refine below_set ?_ GE207.out) | exact HB.out)) hb); clear BK207; clear HB; have HO212 := n0_; have BK207 := n1_; have HB := n2_; clear n0_ n1_ n2_; (try clear hb); (try clear hb2); (try clear hk); (try clear hi); (try clear ho0); obtain ⟨Ao13, co13, eo13⟩ := Kd.R_slice HO212.out; subst eo13) | ((with_reducible refine gate_callee (f := 21) rfl ?_); refine goesL_ (some 8) rfl rfl Try.func21 (by kernel_rfl) rfl #[.agg #[.int .i64 t208, .int .i64 t209, .slice Ao13 t210.length co13]] rfl (by (try simp only [List.map_toArray, List.map_cons, List.map_nil]); first | done | rfl | (simp only [List.length_drop, List.length_take]; rfl)) ?_; (with_reducible refine (match_Size.calls k t208 t209 _ _ t210 t213 t214 _ ?side1 ?side2 A3.out).mono ?_); (case side1 => repeat (first | exact (Kd.R_reads' HO212.out).2.2 | (with_reducible refine Kd.C_alloc ?_ _) | (with_reducible refine Kd.C_drewN ?_ _) | (with_reducible refine Kd.C_drew ?_))); (case side2 => exact (Kd.R_reads' HO212.out).2.1); rintro e w14 ⟨rfl, hb⟩; refine ⟨_, rfl, ?_⟩; have n0_ := Aside0.mk (Kd.R_below (by (with_reducible repeat (first | apply Kd.R_alloc | apply Kd.R_drewN | apply Kd.R_drew)); exact HO212.out) hb); have n1_ := Aside0.mk (blk_below (g := gb207) (o := .cells #[.int .i64 a0_0, .int .i64 a0_1, .slice A0_2 l0_2.length c0_2] 27 (0, 0)) (by (with_reducible repeat (first | refine blk_drewN ?_ _ | refine blk_drew ?_ | refine blk_alloc ?_ _)); exact BK207.out) hb); have n2_ := Aside0.mk (below_step (by repeat (first | (with_reducible first | exact HB.out | apply below_alloc | apply pw_below_drewN | apply below_drew1 | refine below_set ?_ GE207.out) | exact HB.out)) hb); clear HO212; clear BK207; clear HB; have HO212 := n0_; have BK207 := n1_; have HB := n2_; clear n0_ n1_ n2_; (try clear hb); (try clear hb2); (try clear hk); (try clear hi)))
    go_ret
    exact ⟨by first | rfl | (simp [errW_none, errW_some] <;> rfl) | (simp [*, errW_none, errW_some] <;> rfl), by repeat (first | (with_reducible first | exact HB.out | apply below_alloc | apply pw_below_drewN | apply below_drew1 | refine below_set ?_ GE207.out) | exact HB.out)⟩
def torusref01_Same.l0 : Nat → List Int → List Int → Int → Option (Bool)
  | 0, _, _, _ => none
  | k + 1, x0, x1, x5 => if x5 < (x0.length : Int) then (if 0 ≤ x5 then (if x5 < (x1.length : Int) then (if (rd x0 x5) = (rd x1 x5) then (torusref01_Same.l0 k x0 x1 (wrap64 (x5 + 1))) else (some false)) else (none)) else (none)) else (some true)
def torusref01_Same.f (k : Nat) (l0 : List Int) (l1 : List Int) : Option (Bool) := if (l0.length : Int) = (l1.length : Int) then (torusref01_Same.l0 k l0 l1 0) else (some false)
theorem torusref01_Same.mono_l : ∀ k, (∀ y0 y1 y2, LeO (torusref01_Same.l0 k y0 y1 y2) (torusref01_Same.l0 (k + 1) y0 y1 y2))
  | 0 => fun _ _ _ r h => by simp [torusref01_Same.l0] at h
  | k + 1 => by
    have ih0 := torusref01_Same.mono_l k
    · intro y0 y1 y2
      unfold torusref01_Same.l0
      repeat' first
      | (with_reducible exact ih0 _ _ _)
      | (with_reducible exact LeO.refl _)
      | (with_reducible exact LeO.none _)
      | (with_reducible refine LeO.ite ?_ ?_)
      | (with_reducible refine LeO.bind ?_ (fun _ => ?_))
      | exact ih0 _ _ _
      | exact LeO.none _
      | refine LeO.ite ?_ ?_
      | refine LeO.bind ?_ (fun _ => ?_)
theorem torusref01_Same.mono : ∀ a0 a1 k, LeO (torusref01_Same.f k a0 a1) (torusref01_Same.f (k + 1) a0 a1) := by
  intro a0 a1 k
  have ih0 := torusref01_Same.mono_l k
  unfold torusref01_Same.f
  repeat' first
      | (with_reducible exact ih0 _ _ _)
      | (with_reducible exact LeO.refl _)
      | (with_reducible exact LeO.none _)
      | (with_reducible refine LeO.ite ?_ ?_)
      | (with_reducible refine LeO.bind ?_ (fun _ => ?_))
      | exact ih0 _ _ _
      | exact LeO.none _
      | refine LeO.ite ?_ ?_
      | refine LeO.bind ?_ (fun _ => ?_)
set_option maxHeartbeats 8000000 in
set_option maxRecDepth 100000 in
theorem torusref01_Same.calls (k : Nat) (A0 : Option Addr) (c0 : Nat) (l0 : List Int) (A1 : Option Addr) (c1 : Nat) (l1 : List Int) (r : Bool) (w : World) (hr0 : Kd.C (Kd.int .i64) w A0 l0.length l0) (hc0 : l0.length ≤ c0) (hr1 : Kd.C (Kd.int .i64) w A1 l1.length l1) (hc1 : l1.length ≤ c1) (h : torusref01_Same.f k l0 l1 = some r) :
    Calls Try.prog 17 #[.slice A0 l0.length c0, .slice A1 l1.length c1] w fun e w' => e = .returned (.bool r) ∧ Drawn0 w w' := by
  have HR0 := Aside0.mk hr0
  have HC0 := Aside0.mk hc0
  clear hr0 hc0
  have HR1 := Aside0.mk hr1
  have HC1 := Aside0.mk hc1
  clear hr1 hc1
  have H : (if (l0.length : Int) = (l1.length : Int) then (torusref01_Same.l0 k l0 l1 0) else (some false)) = some r := h
  clear h
  by_cases c3 : (l0.length : Int) = (l1.length : Int)
  · rw [if_pos c3] at H
    have c3b0 : ((l0.length : Int) == (l1.length : Int)) = true := beq_iff_eq.mpr c3
    have c3b1 : ((l0.length : Int) != (l1.length : Int)) = false := bne_eq_false_iff_eq.mpr c3
    have c3b2 : (l0.length == l1.length) = true := by first | simpa using c3 | (simp at c3 ⊢; omega)
    clear c3
    have H' := Aside0.mk H
    clear H
    go_enter Try.func17, Try.ntmps17
    go_wp2
    repeat (go_quiet (fail); try go_wp2)
    go_loopg [5] k (fun kq v5 w' => ∃ (x5_1 : Int), v5 = .int .i64 x5_1 ∧ Aside0 (torusref01_Same.l0 kq l0 l1 x5_1 = some r) ∧ Aside0 (kq ≤ k) ∧ Drawn0 w w')
    case atStart => exact ⟨(0), (by first | rfl | (simp; done) | (simp [*]; done)), H', ⟨Nat.le_refl _⟩, by repeat (first | exact Drawn0.refl _ | apply Drawn0.step)⟩
    case round =>
      clear H'
      try clear c1
      try clear p2
      try clear c3
      try clear c3b0
      try clear c3b1
      try clear c3b2
      obtain ⟨x5_1, rfl, HA, HK1, ⟨m1, rfl⟩⟩ := hrel
      cases gk with
      | zero => exact absurd HA.out (by simp [torusref01_Same.l0])
      | succ k1 =>
        have H := HA.out
        clear HA
        simp only [torusref01_Same.l0] at H
        by_cases c4 : x5_1 < (l0.length : Int)
        · rw [if_pos c4] at H
          have c4b0 : decide (x5_1 < (l0.length : Int)) = true := decide_eq_true c4
          clear c4
          by_cases c5 : 0 ≤ x5_1
          · rw [if_pos c5] at H
            have c5b0 : decide (0 ≤ x5_1) = true := decide_eq_true c5
            clear c5
            by_cases c6 : x5_1 < (l1.length : Int)
            · rw [if_pos c6] at H
              have c6b0 : decide (x5_1 < (l1.length : Int)) = true := decide_eq_true c6
              clear c6
              by_cases c7 : (rd l0 x5_1) = (rd l1 x5_1)
              · rw [if_pos c7] at H
                have c7b0 : ((rd l0 x5_1) == (rd l1 x5_1)) = true := beq_iff_eq.mpr c7
                have c7b1 : ((rd l0 x5_1) != (rd l1 x5_1)) = false := bne_eq_false_iff_eq.mpr c7
                clear c7
                have H' := Aside0.mk H
                clear H
                have p215 : 0 ≤ (x5_1 : Int) := of_decide_eq_true (by first | (with_reducible assumption) | assumption)
                have q215 : x5_1 < (l0.length : Int) := of_decide_eq_true (by first | (with_reducible assumption) | assumption)
                obtain ⟨ad215, e215, hx215_0⟩ := Kd.at_int HR0.out x5_1 p215 q215
                cases e215
                replace p215 := eq_true p215
                replace q215 := eq_true q215
                have p216 : 0 ≤ (x5_1 : Int) := of_decide_eq_true (by first | (with_reducible assumption) | assumption)
                have q216 : x5_1 < (l1.length : Int) := of_decide_eq_true (by first | (with_reducible assumption) | assumption)
                obtain ⟨ad216, e216, hx216_0⟩ := Kd.at_int HR1.out x5_1 p216 q216
                cases e216
                replace p216 := eq_true p216
                replace q216 := eq_true q216
                go_wp2
                repeat (go_quiet (fail); try go_wp2)
                go_roundg k1
                case measure => have := HK1.out; omega
                case rel => exact ⟨(wrap64 (x5_1 + 1)), (by first | rfl | (simp; done) | (simp [*]; done)), H', ⟨by have := HK1.out; omega⟩, by repeat (first | exact Drawn0.refl _ | apply Drawn0.step)⟩
              · rw [if_neg c7] at H
                have c7b0 : ((rd l0 x5_1) == (rd l1 x5_1)) = false := beq_eq_false_iff_ne.mpr c7
                have c7b1 : ((rd l0 x5_1) != (rd l1 x5_1)) = true := bne_iff_ne.mpr c7
                obtain rfl := Option.some.inj H
                have p215 : 0 ≤ (x5_1 : Int) := of_decide_eq_true (by first | (with_reducible assumption) | assumption)
                have q215 : x5_1 < (l0.length : Int) := of_decide_eq_true (by first | (with_reducible assumption) | assumption)
                obtain ⟨ad215, e215, hx215_0⟩ := Kd.at_int HR0.out x5_1 p215 q215
                cases e215
                replace p215 := eq_true p215
                replace q215 := eq_true q215
                have p216 : 0 ≤ (x5_1 : Int) := of_decide_eq_true (by first | (with_reducible assumption) | assumption)
                have q216 : x5_1 < (l1.length : Int) := of_decide_eq_true (by first | (with_reducible assumption) | assumption)
                obtain ⟨ad216, e216, hx216_0⟩ := Kd.at_int HR1.out x5_1 p216 q216
                cases e216
                replace p216 := eq_true p216
                replace q216 := eq_true q216
                go_wp2
                repeat (go_quiet (fail); try go_wp2)
                go_ret
                exact ⟨by first | rfl | (simp; done) | (simp [*]; done), by repeat (first | exact Drawn0.refl _ | apply Drawn0.step)⟩
            · rw [if_neg c6] at H
              exact absurd H (by simp)
          · rw [if_neg c5] at H
            exact absurd H (by simp)
        · rw [if_neg c4] at H
          have c4b0 : decide (x5_1 < (l0.length : Int)) = false := decide_eq_false c4
          clear c4
          obtain rfl := Option.some.inj H
          go_wp2
          repeat (go_quiet (fail); try go_wp2)
          go_ret
          exact ⟨by first | rfl | (simp; done) | (simp [*]; done), by repeat (first | exact Drawn0.refl _ | apply Drawn0.step)⟩
  · rw [if_neg c3] at H
    have c3b0 : ((l0.length : Int) == (l1.length : Int)) = false := beq_eq_false_iff_ne.mpr c3
    have c3b1 : ((l0.length : Int) != (l1.length : Int)) = true := bne_iff_ne.mpr c3
    have c3b2 : (l0.length == l1.length) = false := by first | simpa using c3 | (simp at c3 ⊢; omega)
    obtain rfl := Option.some.inj H
    go_enter Try.func17, Try.ntmps17
    go_wp2
    repeat (go_quiet (fail); try go_wp2)
    go_ret
    exact ⟨by first | rfl | (simp; done) | (simp [*]; done), by repeat (first | exact Drawn0.refl _ | apply Drawn0.step)⟩
def match_Cover.f (k : Nat) (a0_0 : Int) (a0_1 : Int) (l0_2 : List (S40)) : Option (List Int × List Int × Int) := (match_Check.f a0_0 a0_1 l0_2).bind fun t218 => (if t218 = 0 then ((match_Graph_neighbours.f k a0_0 a0_1 l0_2).bind fun t219 => ((match_reach.f k t219 a0_1).bind fun bt222 => ((pairing_Chosen.f k bt222.1 false).bind fun t228 => ((pairing_Chosen.f k bt222.2 true).bind fun t231 => (some (t228, t231, 0)))))) else (some (([] : List Int), ([] : List Int), t218)))
theorem match_Cover.mono : ∀ a0 a1 a2 k, LeO (match_Cover.f k a0 a1 a2) (match_Cover.f (k + 1) a0 a1 a2) := by
  intro a0 a1 a2 k
  unfold match_Cover.f
  repeat' first
      | (with_reducible exact match_Graph_neighbours.mono _ _ _ _)
      | (with_reducible exact match_reach.mono _ _ _)
      | (with_reducible exact pairing_Chosen.mono _ _ _)
      | (with_reducible exact LeO.refl _)
      | (with_reducible exact LeO.none _)
      | (with_reducible refine LeO.ite ?_ ?_)
      | (with_reducible refine LeO.bind ?_ (fun _ => ?_))
      | exact match_Graph_neighbours.mono _ _ _ _
      | exact match_reach.mono _ _ _
      | exact pairing_Chosen.mono _ _ _
      | exact LeO.none _
      | refine LeO.ite ?_ ?_
      | refine LeO.bind ?_ (fun _ => ?_)
def match_Cover.T4 : Bool × List (List Nat × List Nat) := (true, [([], []), ([0], [0]), ([], []), ([2], [2]), ([1, 3, 1], [1, 3]), ([4], [4]), ([5], [5]), ([5], [5]), ([6, 4, 0, 1, 2, 3, 4, 5, 6], [6]), ([7, 8, 0, 1, 2, 3, 4, 5, 6, 7, 8], [7])])
def match_Cover.B4 : List Nat := [0, 1, 0, 4, 15, 31, 63, 63, 127, 511]
theorem match_Cover.tab4 : rtab .any (opsOf Try.f27 4) = match_Cover.T4 := by kernel_rfl
theorem match_Cover.bits4 : waitsOk match_Cover.T4.2 match_Cover.B4 = true := by kernel_rfl
set_option maxHeartbeats 8000000 in
set_option maxRecDepth 100000 in
theorem match_Cover.calls (k : Nat) (a0_0 : Int) (a0_1 : Int) (A0_2 : Option Addr) (c0_2 : Nat) (l0_2 : List (S40)) (r1 : List Int) (r2 : List Int) (r3 : Int) (w : World) (hr0_2 : Kd.C k40 w A0_2 l0_2.length l0_2) (hc0_2 : l0_2.length ≤ c0_2) (h : match_Cover.f k a0_0 a0_1 l0_2 = some (r1, r2, r3)) :
    Calls Try.prog 27 #[.agg #[.int .i64 a0_0, .int .i64 a0_1, .slice A0_2 l0_2.length c0_2]] w fun e w' => ∃ v0_ v1_ : Value, e = .returned (.tuple #[v0_, v1_, .int .i64 r3]) ∧ Kd.R (Kd.int .i64) 3 w' w.heap.size (fun k_ => some k_ ≠ (v1_ : Value).ownBlock) v0_ r1 ∧ Kd.R (Kd.int .i64) 3 w' w.heap.size (fun k_ => some k_ ≠ (v0_ : Value).ownBlock) v1_ r2 ∧ Below w.heap.size w w' := by
  have hu33 := Try.underlying33
  have HR0_2 := Aside0.mk hr0_2
  have HC0_2 := Aside0.mk hc0_2
  clear hr0_2 hc0_2
  have HB := Aside0.mk (Below.refl w.heap.size w)
  have H : ((match_Check.f a0_0 a0_1 l0_2).bind fun t218 => (if t218 = 0 then ((match_Graph_neighbours.f k a0_0 a0_1 l0_2).bind fun t219 => ((match_reach.f k t219 a0_1).bind fun bt222 => ((pairing_Chosen.f k bt222.1 false).bind fun t228 => ((pairing_Chosen.f k bt222.2 true).bind fun t231 => (some (t228, t231, 0)))))) else (some (([] : List Int), ([] : List Int), t218)))) = some (r1, r2, r3) := h
  clear h
  replace H := Option.bind_eq_some_iff.mp H
  obtain ⟨t218, A20, H⟩ := H
  replace H : (if t218 = 0 then ((match_Graph_neighbours.f k a0_0 a0_1 l0_2).bind fun t219 => ((match_reach.f k t219 a0_1).bind fun bt222 => ((pairing_Chosen.f k bt222.1 false).bind fun t228 => ((pairing_Chosen.f k bt222.2 true).bind fun t231 => (some (t228, t231, 0)))))) else (some (([] : List Int), ([] : List Int), t218))) = some (r1, r2, r3) := H
  have A2 := Aside0.mk A20
  clear A20
  by_cases c3 : t218 = 0
  · rw [if_pos c3] at H
    have c3b0 : (t218 == 0) = true := beq_iff_eq.mpr c3
    have c3b1 : (t218 != 0) = false := bne_eq_false_iff_eq.mpr c3
    clear c3
    replace H := Option.bind_eq_some_iff.mp H
    obtain ⟨t219, A40, H⟩ := H
    replace H : ((match_reach.f k t219 a0_1).bind fun bt222 => ((pairing_Chosen.f k bt222.1 false).bind fun t228 => ((pairing_Chosen.f k bt222.2 true).bind fun t231 => (some (t228, t231, 0))))) = some (r1, r2, r3) := H
    have A4 := Aside0.mk A40
    clear A40
    replace H := Option.bind_eq_some_iff.mp H
    obtain ⟨⟨t222, t223⟩, A50, H⟩ := H
    replace H : ((pairing_Chosen.f k t222 false).bind fun t228 => ((pairing_Chosen.f k t223 true).bind fun t231 => (some (t228, t231, 0)))) = some (r1, r2, r3) := H
    have A5 := Aside0.mk A50
    clear A50
    replace H := Option.bind_eq_some_iff.mp H
    obtain ⟨t228, A60, H⟩ := H
    replace H : ((pairing_Chosen.f k t223 true).bind fun t231 => (some (t228, t231, 0))) = some (r1, r2, r3) := H
    have A6 := Aside0.mk A60
    clear A60
    replace H := Option.bind_eq_some_iff.mp H
    obtain ⟨t231, A70, H⟩ := H
    replace H : (some (t228, t231, 0)) = some (r1, r2, r3) := H
    have A7 := Aside0.mk A70
    clear A70
    simp only [Option.some.injEq, Prod.mk.injEq] at H
    obtain ⟨rfl, rfl, rfl⟩ := H
    go_enter Try.func27, Try.ntmps27
    try go_wp2_with (first | ((with_reducible refine gate_dst (N := 1) rfl ?_); refine box_event ?hg (N := 1) ?hd (cs := #[.int .i64 a0_0, .int .i64 a0_1, .slice A0_2 l0_2.length c0_2]) (t := 33) ?hr ?_; (case hd => rfl); (case hg => rfl); (case hr => first | (go_simp; done) | (go_simp; rfl)); intro gb217 hg w8 hbox hb; have n0_ := Aside0.mk (below_step (by repeat (first | (with_reducible first | exact HB.out | apply below_alloc | apply pw_below_drewN | apply below_drew1) | exact HB.out)) hb); have n1_ := Aside0.mk (hbox); have n2_ := Aside0.mk ((by rw [hg]; exact (below_size (by repeat (first | (with_reducible first | exact HB.out | apply below_alloc | apply pw_below_drewN | apply below_drew1) | exact HB.out))) : w.heap.size ≤ gb217)); have n3_ := Aside0.mk ((by rw [hg]; exact (below_size (by repeat (first | (with_reducible first | exact HB.out | apply below_alloc | apply pw_below_drewN | apply below_drew1) | exact HB.out))) : w.heap.size ≤ gb217)); clear HB; have HB := n0_; have BK217 := n1_; have GW217 := n2_; have GE217 := n3_; clear n0_ n1_ n2_ n3_; clear hb hbox hg; have hcz9_0 : w8.cell? ⟨gb217, 0, none⟩ = some (.int .i64 a0_0) := (blk_cell BK217.out 0).trans rfl; have hcz9_1 : w8.cell? ⟨gb217, 1, none⟩ = some (.int .i64 a0_1) := (blk_cell BK217.out 1).trans rfl; have hcz9_2 : w8.cell? ⟨gb217, 2, none⟩ = some (.slice A0_2 l0_2.length c0_2) := (blk_cell BK217.out 2).trans rfl; have hfz9_0 := blk_frozen BK217.out 0; have hfz9_1 := blk_frozen BK217.out 1; have hfz9_2 := blk_frozen BK217.out 2) | ((with_reducible refine gate_callee (f := 23) rfl ?_); refine goesL_ (some 9) rfl rfl Try.func23 (by kernel_rfl) rfl #[.agg #[.int .i64 a0_0, .int .i64 a0_1, .slice A0_2 l0_2.length c0_2]] rfl (by (try simp only [List.map_toArray, List.map_cons, List.map_nil]); first | done | rfl | (simp only [List.length_drop, List.length_take]; rfl)) ?_; (with_reducible refine (match_Check.calls a0_0 a0_1 _ _ l0_2 t218 _ ?side1 ?side2 A2.out).mono ?_); (case side1 => repeat (first | exact (Kd.C_below HR0_2.out HB.out) | (with_reducible refine Kd.C_alloc ?_ _) | (with_reducible refine Kd.C_drewN ?_ _) | (with_reducible refine Kd.C_drew ?_))); (case side2 => exact HC0_2.out); rintro e w10 ⟨rfl, hb⟩; refine ⟨_, rfl, ?_⟩; have n0_ := Aside0.mk (blk_below (g := gb217) (o := .cells #[.int .i64 a0_0, .int .i64 a0_1, .slice A0_2 l0_2.length c0_2] 33 (0, 0)) (by (with_reducible repeat (first | refine blk_drewN ?_ _ | refine blk_drew ?_ | refine blk_alloc ?_ _)); exact BK217.out) hb); have n1_ := Aside0.mk (below_step (by repeat (first | (with_reducible first | exact HB.out | apply below_alloc | apply pw_below_drewN | apply below_drew1 | refine below_set ?_ GE217.out) | exact HB.out)) hb); clear BK217; clear HB; have BK217 := n0_; have HB := n1_; clear n0_ n1_; (try clear hb); (try clear hb2); (try clear hk); (try clear hi)))
    have n0_ := Aside0.mk (blk_drew BK217.out)
    have n1_ := Aside0.mk (below_drew1 HB.out)
    clear BK217
    clear HB
    have BK217 := n0_
    have HB := n1_
    clear n0_ n1_
    refine start_ (n := 10) (S := fun w' => w'.cell? ⟨gb217, 0, none⟩ = some (.int .i64 a0_0) ∧ w'.cell? ⟨gb217, 1, none⟩ = some (.int .i64 a0_1) ∧ w'.cell? ⟨gb217, 2, none⟩ = some (.slice A0_2 l0_2.length c0_2)) (ds := []) #[false, false, false, false, false, false, false, false, false, false] (by kernel_rfl) rfl rfl ⟨(blk_cell BK217.out 0).trans rfl, (blk_cell BK217.out 1).trans rfl, (blk_cell BK217.out 2).trans rfl⟩ (fun hHeld => ?_); refine with_tabW match_Cover.tab4 match_Cover.bits4 (fun HT_ HW_ => ?_)
    generalize w10.drew = w11 at BK217 HB hHeld ⊢
    refine pure_ (i := 2) (N := some 16) (v := ?_) (a' := ?_) #[false, false, true, false, false, false, false, false, false, false] rfl rfl (any_of HT_.out (by kernel_rfl)) (fun _ _ _ h => h) (Or.inl ⟨by rfl, ?_⟩) ?_ ?_
    rotate_left
    · intro w'
      go_simp
      with_reducible rfl
    rotate_left
    · simp only [Act.put, List.setIfInBounds_toArray, List.set_cons_zero, List.set_cons_succ, i64_w, i32_w]
      rfl
    refine take_ (i := 0) (N := some 14) (v := ?_) (a' := ?_) #[true, false, true, false, false, false, false, false, false, false] rfl rfl (take_ofW HT_.out HW_.out (by kernel_rfl)) (fun _ _ _ h => h) (Or.inl ⟨by rfl, ?_⟩) hHeld ?_ ?_
    rotate_left
    · rintro w' ⟨s0, s1, s2⟩
      go_simp
      with_reducible rfl
    rotate_left
    · simp only [Act.put, List.setIfInBounds_toArray, List.set_cons_zero, List.set_cons_succ, i64_w, i32_w]
      rfl
    refine take_ (i := 3) (N := some 17) (v := ?_) (a' := ?_) #[true, false, true, true, false, false, false, false, false, false] rfl rfl (take_ofW HT_.out HW_.out (by kernel_rfl)) (fun _ _ _ h => h) (Or.inl ⟨by rfl, ?_⟩) hHeld ?_ ?_
    rotate_left
    · rintro w' ⟨s0, s1, s2⟩
      go_simp
      with_reducible rfl
    rotate_left
    · simp only [Act.put, List.setIfInBounds_toArray, List.set_cons_zero, List.set_cons_succ, i64_w, i32_w]
      rfl
    refine one_ (i := 1) (N := some 15) #[true, true, true, true, false, false, false, false, false, false] rfl rfl (one_of HT_.out (by kernel_rfl)) (by decide) (fun K hK => ?_)
    refine goes_ Try.func42 (by kernel_rfl) rfl #[.agg #[.int .i64 a0_0, .int .i64 a0_1, .slice A0_2 l0_2.length c0_2]] (by rfl) rfl rfl (by (try simp only [List.map_toArray, List.map_cons, List.map_nil]); first | done | rfl | (simp only [List.length_drop, List.length_take]; rfl)) ?_
    with_reducible refine (match_Graph_neighbours.calls k a0_0 a0_1 _ _ l0_2 t219 _ ?side1 ?side2 A4.out).mono ?_
    (case side1 => repeat (first | exact (Kd.C_below HR0_2.out HB.out) | (with_reducible refine Kd.C_alloc ?_ _) | (with_reducible refine Kd.C_drewN ?_ _) | (with_reducible refine Kd.C_drew ?_)))
    (case side2 => exact HC0_2.out)
    rintro e w12 ⟨v220, rfl, ho0, hb⟩
    refine ⟨_, rfl, ?_⟩
    have n0_ := Aside0.mk (Kd.S_lower ho0 (below_size (by repeat (first | (with_reducible first | exact HB.out | apply below_alloc | apply pw_below_drewN | apply below_drew1 | refine below_set ?_ GE217.out) | exact HB.out))))
    have n1_ := Aside0.mk (blk_below (g := gb217) (o := .cells #[.int .i64 a0_0, .int .i64 a0_1, .slice A0_2 l0_2.length c0_2] 33 (0, 0)) (by (with_reducible repeat (first | refine blk_drewN ?_ _ | refine blk_drew ?_ | refine blk_alloc ?_ _)); exact BK217.out) hb)
    have n2_ := Aside0.mk (below_step (by repeat (first | (with_reducible first | exact HB.out | apply below_alloc | apply pw_below_drewN | apply below_drew1 | refine below_set ?_ GE217.out) | exact HB.out)) hb)
    clear BK217
    clear HB
    have HO221 := n0_
    have BK217 := n1_
    have HB := n2_
    clear n0_ n1_ n2_
    (try clear hb)
    (try clear hb2)
    (try clear hk)
    (try clear hi)
    (try clear ho0)
    obtain ⟨Ao13, co13, eo13⟩ := Kd.S_slice HO221.out
    (first | subst eo13 | (injection eo13 with f1_ f2_ f3_; have f4_ := f1_.symm; have f5_ := f3_.symm; clear f1_ f2_ f3_; subst f4_; subst f5_))
    refine hK.out _ _ ⟨(blk_cell BK217.out 0).trans rfl, (blk_cell BK217.out 1).trans rfl, (blk_cell BK217.out 2).trans rfl⟩ (fun hHeld => ?_)
    clear hK K
    refine norm_ (a' := ?_) ?_ ?_
    rotate_left
    · show Act.put _ (some 15) _ = _
      simp only [Act.put, List.setIfInBounds_toArray, List.set_cons_zero, List.set_cons_succ, i64_w, i32_w]
      rfl
    refine one_ (i := 4) (N := some 18) #[true, true, true, true, true, false, false, false, false, false] rfl rfl (one_of HT_.out (by kernel_rfl)) (by decide) (fun K hK => ?_)
    refine goes_ Try.func41 (by kernel_rfl) rfl #[.slice Ao13 t219.length co13, .int .i64 a0_1] (by rfl) rfl rfl (by (try simp only [List.map_toArray, List.map_cons, List.map_nil]); first | done | rfl | (simp only [List.length_drop, List.length_take]; rfl)) ?_
    with_reducible refine (match_reach.calls k _ _ t219 a0_1 t222 t223 _ ?side1 ?side2 A5.out).mono ?_
    (case side1 => repeat (first | exact (Kd.S_reads' HO221.out).2.2 | (with_reducible refine Kd.C_alloc ?_ _) | (with_reducible refine Kd.C_drewN ?_ _) | (with_reducible refine Kd.C_drew ?_)))
    (case side2 => exact (Kd.S_reads' HO221.out).2.1)
    rintro e w14 ⟨v224, v226, rfl, ho0, ho1, hb⟩
    refine ⟨_, rfl, ?_⟩
    have n0_ := Aside0.mk (Kd.S_below (by (with_reducible repeat (first | apply Kd.S_alloc | apply Kd.S_drewN | apply Kd.S_drew)); exact HO221.out) hb)
    have n1_ := Aside0.mk (Kd.R_lower ho0 (below_size (by repeat (first | (with_reducible first | exact HB.out | apply below_alloc | apply pw_below_drewN | apply below_drew1 | refine below_set ?_ GE217.out) | exact HB.out))))
    have n2_ := Aside0.mk (Kd.R_lower ho1 (below_size (by repeat (first | (with_reducible first | exact HB.out | apply below_alloc | apply pw_below_drewN | apply below_drew1 | refine below_set ?_ GE217.out) | exact HB.out))))
    have n3_ := Aside0.mk (blk_below (g := gb217) (o := .cells #[.int .i64 a0_0, .int .i64 a0_1, .slice A0_2 l0_2.length c0_2] 33 (0, 0)) (by (with_reducible repeat (first | refine blk_drewN ?_ _ | refine blk_drew ?_ | refine blk_alloc ?_ _)); exact BK217.out) hb)
    have n4_ := Aside0.mk (below_step (by repeat (first | (with_reducible first | exact HB.out | apply below_alloc | apply pw_below_drewN | apply below_drew1 | refine below_set ?_ GE217.out) | exact HB.out)) hb)
    clear HO221
    clear BK217
    clear HB
    have HO221 := n0_
    have HO225 := n1_
    have HO227 := n2_
    have BK217 := n3_
    have HB := n4_
    clear n0_ n1_ n2_ n3_ n4_
    (try clear hb)
    (try clear hb2)
    (try clear hk)
    (try clear hi)
    (try clear ho0)
    (try clear ho1)
    refine hK.out _ _ ⟨(blk_cell BK217.out 0).trans rfl, (blk_cell BK217.out 1).trans rfl, (blk_cell BK217.out 2).trans rfl⟩ (fun hHeld => ?_)
    clear hK K
    refine norm_ (a' := ?_) ?_ ?_
    rotate_left
    · show Act.put _ (some 18) _ = _
      simp only [Act.put, List.setIfInBounds_toArray, List.set_cons_zero, List.set_cons_succ, i64_w, i32_w]
      rfl
    refine pure_ (i := 5) (N := some 13) (v := ?_) (a' := ?_) #[true, true, true, true, true, true, false, false, false, false] rfl rfl (any_of HT_.out (by kernel_rfl)) (fun _ _ _ h => h) (Or.inl ⟨by rfl, ?_⟩) ?_ ?_
    rotate_left
    · intro w'
      go_simp
      with_reducible rfl
    rotate_left
    · simp only [Act.put, List.setIfInBounds_toArray, List.set_cons_zero, List.set_cons_succ, i64_w, i32_w]
      rfl
    refine pure_ (i := 6) (N := some 19) (v := ?_) (a' := ?_) #[true, true, true, true, true, true, true, false, false, false] rfl rfl (any_of HT_.out (by kernel_rfl)) (fun _ _ _ h => h) (Or.inl ⟨by rfl, ?_⟩) ?_ ?_
    rotate_left
    · intro w'
      go_simp
      with_reducible rfl
    rotate_left
    · simp only [Act.put, List.setIfInBounds_toArray, List.set_cons_zero, List.set_cons_succ, i64_w, i32_w]
      rfl
    refine pure_ (i := 7) (N := some 20) (v := ?_) (a' := ?_) #[true, true, true, true, true, true, true, true, false, false] rfl rfl (any_of HT_.out (by kernel_rfl)) (fun _ _ _ h => h) (Or.inl ⟨by rfl, ?_⟩) ?_ ?_
    rotate_left
    · intro w'
      go_simp
      with_reducible rfl
    rotate_left
    · simp only [Act.put, List.setIfInBounds_toArray, List.set_cons_zero, List.set_cons_succ, i64_w, i32_w]
      rfl
    refine pure_ (i := 8) (N := some 6) (v := ?_) (a' := ?_) #[true, true, true, true, true, true, true, true, true, false] rfl rfl (any_of HT_.out (by kernel_rfl)) (fun _ _ _ h => h) (Or.inl ⟨by rfl, ?_⟩) ?_ ?_
    rotate_left
    · intro w'
      go_simp
      with_reducible rfl
    rotate_left
    · simp only [Act.put, List.setIfInBounds_toArray, List.set_cons_zero, List.set_cons_succ, i64_w, i32_w]
      rfl
    refine pure_ (i := 9) (N := some 7) (v := ?_) (a' := ?_) #[true, true, true, true, true, true, true, true, true, true] rfl rfl (any_of HT_.out (by kernel_rfl)) (fun _ _ _ h => h) (Or.inl ⟨by rfl, ?_⟩) ?_ ?_
    rotate_left
    · intro w'
      go_simp
      with_reducible rfl
    rotate_left
    · simp only [Act.put, List.setIfInBounds_toArray, List.set_cons_zero, List.set_cons_succ, i64_w, i32_w]
      rfl
    refine done_ (done_of HT_.out (by kernel_rfl)) ?_
    obtain ⟨Ao15, co15, eo15⟩ := Kd.R_slice HO225.out
    subst eo15
    try go_wp2_with (first | ((with_reducible refine gate_callee (f := 43) rfl ?_); refine goesL_ (some 22) rfl rfl Try.func43 (by kernel_rfl) rfl #[.slice Ao15 t222.length co15, .bool false] rfl (by (try simp only [List.map_toArray, List.map_cons, List.map_nil]); first | done | rfl | (simp only [List.length_drop, List.length_take]; rfl)) ?_; (with_reducible refine (pairing_Chosen.calls k _ _ t222 false t228 _ ?side1 ?side2 A6.out).mono ?_); (case side1 => repeat (first | exact (Kd.R_reads' HO225.out).2.2 | (with_reducible refine Kd.C_alloc ?_ _) | (with_reducible refine Kd.C_drewN ?_ _) | (with_reducible refine Kd.C_drew ?_))); (case side2 => exact (Kd.R_reads' HO225.out).2.1); rintro e w16 ⟨v229, rfl, ho0, hb⟩; refine ⟨_, rfl, ?_⟩; have n0_ := Aside0.mk (Kd.S_elder' (by (with_reducible repeat (first | apply Kd.S_alloc | apply Kd.S_drewN | apply Kd.S_drew)); exact HO221.out) (Kd.R_base ho0) hb); have n1_ := Aside0.mk (Kd.R_below (by (with_reducible repeat (first | apply Kd.R_alloc | apply Kd.R_drewN | apply Kd.R_drew)); exact HO225.out) hb); have n2_ := Aside0.mk (Kd.R_below (by (with_reducible repeat (first | apply Kd.R_alloc | apply Kd.R_drewN | apply Kd.R_drew)); exact HO227.out) hb); have n3_ := Aside0.mk (Kd.R_lower ho0 (below_size (by repeat (first | (with_reducible first | exact HB.out | apply below_alloc | apply pw_below_drewN | apply below_drew1 | refine below_set ?_ GE217.out) | exact HB.out)))); have n4_ := Aside0.mk (blk_below (g := gb217) (o := .cells #[.int .i64 a0_0, .int .i64 a0_1, .slice A0_2 l0_2.length c0_2] 33 (0, 0)) (by (with_reducible repeat (first | refine blk_drewN ?_ _ | refine blk_drew ?_ | refine blk_alloc ?_ _)); exact BK217.out) hb); have n5_ := Aside0.mk (below_step (by repeat (first | (with_reducible first | exact HB.out | apply below_alloc | apply pw_below_drewN | apply below_drew1 | refine below_set ?_ GE217.out) | exact HB.out)) hb); clear HO221; clear HO225; clear HO227; clear BK217; clear HB; have HO221 := n0_; have HO225 := n1_; have HO227 := n2_; have HO230 := n3_; have BK217 := n4_; have HB := n5_; clear n0_ n1_ n2_ n3_ n4_ n5_; (try clear hb); (try clear hb2); (try clear hk); (try clear hi); (try clear ho0); obtain ⟨Ao17, co17, eo17⟩ := Kd.R_slice HO227.out; subst eo17) | ((with_reducible refine gate_callee (f := 43) rfl ?_); refine goesL_ (some 24) rfl rfl Try.func43 (by kernel_rfl) rfl #[.slice Ao17 t223.length co17, .bool true] rfl (by (try simp only [List.map_toArray, List.map_cons, List.map_nil]); first | done | rfl | (simp only [List.length_drop, List.length_take]; rfl)) ?_; (with_reducible refine (pairing_Chosen.calls k _ _ t223 true t231 _ ?side1 ?side2 A7.out).mono ?_); (case side1 => repeat (first | exact (Kd.R_reads' HO227.out).2.2 | (with_reducible refine Kd.C_alloc ?_ _) | (with_reducible refine Kd.C_drewN ?_ _) | (with_reducible refine Kd.C_drew ?_))); (case side2 => exact (Kd.R_reads' HO227.out).2.1); rintro e w18 ⟨v232, rfl, ho0, hb⟩; refine ⟨_, rfl, ?_⟩; have n0_ := Aside0.mk (Kd.S_elder' (by (with_reducible repeat (first | apply Kd.S_alloc | apply Kd.S_drewN | apply Kd.S_drew)); exact HO221.out) (Kd.R_base ho0) hb); have n1_ := Aside0.mk (Kd.R_below (by (with_reducible repeat (first | apply Kd.R_alloc | apply Kd.R_drewN | apply Kd.R_drew)); exact HO225.out) hb); have n2_ := Aside0.mk (Kd.R_below (by (with_reducible repeat (first | apply Kd.R_alloc | apply Kd.R_drewN | apply Kd.R_drew)); exact HO227.out) hb); have n3_ := Aside0.mk (Kd.R_elder' (by (with_reducible repeat (first | apply Kd.R_alloc | apply Kd.R_drewN | apply Kd.R_drew)); exact HO230.out) (Kd.R_base ho0) hb); have n4_ := Aside0.mk (Kd.R_lower (Kd.R_new' ho0 (Kd.R_lt (by (with_reducible repeat (first | apply Kd.R_alloc | apply Kd.R_drewN | apply Kd.R_drew)); exact HO230.out))) (below_size (by repeat (first | (with_reducible first | exact HB.out | apply below_alloc | apply pw_below_drewN | apply below_drew1 | refine below_set ?_ GE217.out) | exact HB.out)))); have n5_ := Aside0.mk (blk_below (g := gb217) (o := .cells #[.int .i64 a0_0, .int .i64 a0_1, .slice A0_2 l0_2.length c0_2] 33 (0, 0)) (by (with_reducible repeat (first | refine blk_drewN ?_ _ | refine blk_drew ?_ | refine blk_alloc ?_ _)); exact BK217.out) hb); have n6_ := Aside0.mk (below_step (by repeat (first | (with_reducible first | exact HB.out | apply below_alloc | apply pw_below_drewN | apply below_drew1 | refine below_set ?_ GE217.out) | exact HB.out)) hb); clear HO221; clear HO225; clear HO227; clear HO230; clear BK217; clear HB; have HO221 := n0_; have HO225 := n1_; have HO227 := n2_; have HO230 := n3_; have HO233 := n4_; have BK217 := n5_; have HB := n6_; clear n0_ n1_ n2_ n3_ n4_ n5_ n6_; (try clear hb); (try clear hb2); (try clear hk); (try clear hi); (try clear ho0)))
    go_ret3
    exact ⟨_, _, by first | rfl | (simp [errW_none, errW_some] <;> rfl) | (simp [*, errW_none, errW_some] <;> rfl), by (with_reducible repeat (first | apply Kd.R_alloc | apply Kd.R_drewN | apply Kd.R_drew)); exact Kd.R_mono HO230.out (fun _ hk => hk.2), by (with_reducible repeat (first | apply Kd.R_alloc | apply Kd.R_drewN | apply Kd.R_drew)); exact Kd.R_mono HO233.out (fun _ hk => hk.2), by repeat (first | (with_reducible first | exact HB.out | apply below_alloc | apply pw_below_drewN | apply below_drew1 | refine below_set ?_ GE217.out) | exact HB.out)⟩
  · rw [if_neg c3] at H
    have c3b0 : (t218 == 0) = false := beq_eq_false_iff_ne.mpr c3
    have c3b1 : (t218 != 0) = true := bne_iff_ne.mpr c3
    simp only [Option.some.injEq, Prod.mk.injEq] at H
    obtain ⟨rfl, rfl, rfl⟩ := H
    go_enter Try.func27, Try.ntmps27
    go_wp2_with (first | ((with_reducible refine gate_dst (N := 1) rfl ?_); refine box_event ?hg (N := 1) ?hd (cs := #[.int .i64 a0_0, .int .i64 a0_1, .slice A0_2 l0_2.length c0_2]) (t := 33) ?hr ?_; (case hd => rfl); (case hg => rfl); (case hr => first | (go_simp; done) | (go_simp; rfl)); intro gb217 hg w19 hbox hb; have n0_ := Aside0.mk (below_step (by repeat (first | (with_reducible first | exact HB.out | apply below_alloc | apply pw_below_drewN | apply below_drew1) | exact HB.out)) hb); have n1_ := Aside0.mk (hbox); have n2_ := Aside0.mk ((by rw [hg]; exact (below_size (by repeat (first | (with_reducible first | exact HB.out | apply below_alloc | apply pw_below_drewN | apply below_drew1) | exact HB.out))) : w.heap.size ≤ gb217)); have n3_ := Aside0.mk ((by rw [hg]; exact (below_size (by repeat (first | (with_reducible first | exact HB.out | apply below_alloc | apply pw_below_drewN | apply below_drew1) | exact HB.out))) : w.heap.size ≤ gb217)); clear HB; have HB := n0_; have BK217 := n1_; have GW217 := n2_; have GE217 := n3_; clear n0_ n1_ n2_ n3_; clear hb hbox hg; have hcz20_0 : w19.cell? ⟨gb217, 0, none⟩ = some (.int .i64 a0_0) := (blk_cell BK217.out 0).trans rfl; have hcz20_1 : w19.cell? ⟨gb217, 1, none⟩ = some (.int .i64 a0_1) := (blk_cell BK217.out 1).trans rfl; have hcz20_2 : w19.cell? ⟨gb217, 2, none⟩ = some (.slice A0_2 l0_2.length c0_2) := (blk_cell BK217.out 2).trans rfl; have hfz20_0 := blk_frozen BK217.out 0; have hfz20_1 := blk_frozen BK217.out 1; have hfz20_2 := blk_frozen BK217.out 2) | ((with_reducible refine gate_callee (f := 23) rfl ?_); refine goesL_ (some 9) rfl rfl Try.func23 (by kernel_rfl) rfl #[.agg #[.int .i64 a0_0, .int .i64 a0_1, .slice A0_2 l0_2.length c0_2]] rfl (by (try simp only [List.map_toArray, List.map_cons, List.map_nil]); first | done | rfl | (simp only [List.length_drop, List.length_take]; rfl)) ?_; (with_reducible refine (match_Check.calls a0_0 a0_1 _ _ l0_2 t218 _ ?side1 ?side2 A2.out).mono ?_); (case side1 => repeat (first | exact (Kd.C_below HR0_2.out HB.out) | (with_reducible refine Kd.C_alloc ?_ _) | (with_reducible refine Kd.C_drewN ?_ _) | (with_reducible refine Kd.C_drew ?_))); (case side2 => exact HC0_2.out); rintro e w21 ⟨rfl, hb⟩; refine ⟨_, rfl, ?_⟩; have n0_ := Aside0.mk (blk_below (g := gb217) (o := .cells #[.int .i64 a0_0, .int .i64 a0_1, .slice A0_2 l0_2.length c0_2] 33 (0, 0)) (by (with_reducible repeat (first | refine blk_drewN ?_ _ | refine blk_drew ?_ | refine blk_alloc ?_ _)); exact BK217.out) hb); have n1_ := Aside0.mk (below_step (by repeat (first | (with_reducible first | exact HB.out | apply below_alloc | apply pw_below_drewN | apply below_drew1 | refine below_set ?_ GE217.out) | exact HB.out)) hb); clear BK217; clear HB; have BK217 := n0_; have HB := n1_; clear n0_ n1_; (try clear hb); (try clear hb2); (try clear hk); (try clear hi)))
    go_ret3
    exact ⟨_, _, by first | rfl | (simp [errW_none, errW_some] <;> rfl) | (simp [*, errW_none, errW_some] <;> rfl), by first | exact Kd.R_nil _ _ _ _ _ | exact Kd.N_nil _ _ _ _ _ | exact Kd.V_nil _ _ _ _ _ | exact Kd.Q_nil _ _ _ _ _ | exact Kd.S_nil _ _ _ _ _, by first | exact Kd.R_nil _ _ _ _ _ | exact Kd.N_nil _ _ _ _ _ | exact Kd.V_nil _ _ _ _ _ | exact Kd.Q_nil _ _ _ _ _ | exact Kd.S_nil _ _ _ _ _, by repeat (first | (with_reducible first | exact HB.out | apply below_alloc | apply pw_below_drewN | apply below_drew1 | refine below_set ?_ GE217.out) | exact HB.out)⟩
def toruslaw30_ex.f  : Option (Int × Int × (List (S40))) := some (3, 2, (([(⟨0, 0⟩ : S40), (⟨1, 0⟩ : S40), (⟨2, 1⟩ : S40)] : List (S40))))
set_option maxHeartbeats 8000000 in
set_option maxRecDepth 100000 in
theorem toruslaw30_ex.calls  (r1 : Int) (r2 : Int) (r3 : List (S40)) (w : World) (h : toruslaw30_ex.f  = some (r1, r2, r3)) :
    Calls Try.prog 39 #[] w fun e w' => ∃ v2_ : Value, e = .returned (.agg #[.int .i64 r1, .int .i64 r2, v2_]) ∧ Kd.R k40 40 w' w.heap.size (fun _ => True) v2_ r3 ∧ Below w.heap.size w w' := by
  have hu33 := Try.underlying33
  have hu40 := Try.underlying40
  have HB := Aside0.mk (Below.refl w.heap.size w)
  have H : (some (3, 2, (([(⟨0, 0⟩ : S40), (⟨1, 0⟩ : S40), (⟨2, 1⟩ : S40)] : List (S40))))) = some (r1, r2, r3) := h
  clear h
  obtain ⟨y235, hy235⟩ : ∃ y_ : List (S40), y_ = (([(⟨0, 0⟩ : S40), (⟨1, 0⟩ : S40), (⟨2, 1⟩ : S40)] : List (S40))) := ⟨_, rfl⟩
  replace H : (some (3, 2, y235)) = some (r1, r2, r3) := by first | (rw [hy235]; with_reducible exact H) | (have H2_ := (Option.bind_some _ _).symm.trans H; rw [hy235]; with_reducible exact H2_) | (have H2_ := (Option.bind_some _ _).symm.trans H; with_reducible exact H2_) | with_reducible exact H | (rw [hy235]; exact H) | exact H
  have Ny235 := Aside0.mk hy235
  clear hy235
  simp only [Option.some.injEq, Prod.mk.injEq] at H
  obtain ⟨rfl, rfl, rfl⟩ := H
  go_enter Try.func39, Try.ntmps39
  go_wp2_with (first | ((with_reducible refine gate_dst (N := 0) rfl ?_); refine box_event ?hg (N := 0) ?hd (cs := #[.int .i64 0, .int .i64 0, .slice none 0 0]) (t := 33) ?hr ?_; (case hd => rfl); (case hg => rfl); (case hr => first | (go_simp; done) | (go_simp; rfl)); intro gb234 hg w1 hbox hb; have n0_ := Aside0.mk (below_step (by repeat (first | (with_reducible first | exact HB.out | apply below_alloc | apply pw_below_drewN | apply below_drew1) | exact HB.out)) hb); have n1_ := Aside0.mk (hbox); have n2_ := Aside0.mk ((by rw [hg]; exact (below_size (by repeat (first | (with_reducible first | exact HB.out | apply below_alloc | apply pw_below_drewN | apply below_drew1) | exact HB.out))) : w.heap.size ≤ gb234)); have n3_ := Aside0.mk ((by rw [hg]; exact (below_size (by repeat (first | (with_reducible first | exact HB.out | apply below_alloc | apply pw_below_drewN | apply below_drew1) | exact HB.out))) : w.heap.size ≤ gb234)); clear HB; have HB := n0_; have BK234 := n1_; have GW234 := n2_; have GE234 := n3_; clear n0_ n1_ n2_ n3_; clear hb hbox hg) | ((with_reducible refine gate_dst (N := 4) rfl ?_); refine Kd.R_lit k40 _ 40 ?hg (N := 4) ?hd (xs := ([(⟨0, 0⟩ : S40), (⟨1, 0⟩ : S40), (⟨2, 1⟩ : S40)] : List (S40))) (inner := [.int .i64 0, .int .i64 0, .int .i64 1, .int .i64 0, .int .i64 2, .int .i64 1]) (ok := fun _ => True) (okp := fun _ => True) ?hr ?hp (fun _ hk => hk) trivial (Below.refl _ _) (Nat.le_refl _) (by simp) ?_; (case hd => rfl); (case hg => rfl); (case hr => first | (go_simp; done) | (go_simp; rfl)); (case hp => exact (Reps.c2 (show Kd.M k40 _ _ _ (⟨0, 0⟩ : S40) [.int .i64 0, .int .i64 0] from (k40_mkM _ _ _ (⟨0, 0⟩ : S40) )) (Reps.c2 (show Kd.M k40 _ _ _ (⟨1, 0⟩ : S40) [.int .i64 1, .int .i64 0] from (k40_mkM _ _ _ (⟨1, 0⟩ : S40) )) (Reps.c2 (show Kd.M k40 _ _ _ (⟨2, 1⟩ : S40) [.int .i64 2, .int .i64 1] from (k40_mkM _ _ _ (⟨2, 1⟩ : S40) )) (Reps.none _ _))))); intro v236 w2 ho3 hb hg_ hnew_; clear hg_ hnew_; (first | rw [← Ny235.out] at ho3 | (simp only [Int.reduceToNat] at ho3; rw [← Ny235.out] at ho3)); have n0_ := Aside0.mk (Kd.R_lower ho3 (below_size (by repeat (first | (with_reducible first | exact HB.out | apply below_alloc | apply pw_below_drewN | apply below_drew1 | refine below_set ?_ GE234.out) | exact HB.out)))); have n1_ := Aside0.mk (blk_below (g := gb234) (o := .cells #[.int .i64 0, .int .i64 0, .slice none 0 0] 33 (0, 0)) (by (with_reducible repeat (first | refine blk_drewN ?_ _ | refine blk_drew ?_ | refine blk_alloc ?_ _)); exact BK234.out) hb); have n2_ := Aside0.mk (below_step (by repeat (first | (with_reducible first | exact HB.out | apply below_alloc | apply pw_below_drewN | apply below_drew1 | refine below_set ?_ GE234.out) | exact HB.out)) hb); clear BK234; clear HB; have HO237 := n0_; have BK234 := n1_; have HB := n2_; clear n0_ n1_ n2_; clear hb ho3; obtain ⟨Ao4, co4, eo4⟩ := Kd.R_slice HO237.out; subst eo4; have hcz5_0 : w2.cell? ⟨gb234, 0, none⟩ = some (.int .i64 0) := (blk_cell BK234.out 0).trans rfl; have hcz5_1 : w2.cell? ⟨gb234, 1, none⟩ = some (.int .i64 0) := (blk_cell BK234.out 1).trans rfl; have hcz5_2 : w2.cell? ⟨gb234, 2, none⟩ = some (.slice none 0 0) := (blk_cell BK234.out 2).trans rfl; have hfz5_0 := blk_frozen BK234.out 0; have hfz5_1 := blk_frozen BK234.out 1; have hfz5_2 := blk_frozen BK234.out 2))
  refine bodyPost_ret (results_cell_row rfl _ _ gb234 33 #[.int .i64 3, .int .i64 2, .slice Ao4 y235.length co4] (0, 0) _ rfl (by (with_reducible repeat (first | refine blk_drewN ?_ _ | refine blk_drew ?_ | refine blk_alloc ?_ _)); refine blk_put (cs := #[.int .i64 3, .int .i64 2, .slice none 0 0]) ?_ 2 _ rfl; (with_reducible repeat (first | refine blk_drewN ?_ _ | refine blk_drew ?_ | refine blk_alloc ?_ _)); refine blk_put (cs := #[.int .i64 3, .int .i64 0, .slice none 0 0]) ?_ 1 _ rfl; (with_reducible repeat (first | refine blk_drewN ?_ _ | refine blk_drew ?_ | refine blk_alloc ?_ _)); refine blk_put (cs := #[.int .i64 0, .int .i64 0, .slice none 0 0]) ?_ 0 _ rfl; (with_reducible repeat (first | refine blk_drewN ?_ _ | refine blk_drew ?_ | refine blk_alloc ?_ _)); exact BK234.out) Try.underlying33 rfl (by kernel_rfl)) rfl ?_
  exact ⟨_, by first | rfl | (simp [errW_none, errW_some] <;> rfl) | (simp [*, errW_none, errW_some] <;> rfl), by (with_reducible repeat (first | apply Kd.R_alloc | apply Kd.R_drewN | apply Kd.R_drew)); exact Kd.R_mono (Kd.R_far (p := ⟨gb234, 2, none⟩) (Kd.R_far (p := ⟨gb234, 1, none⟩) (Kd.R_far (p := ⟨gb234, 0, none⟩) (Kd.R_types HO237.out BK234.out (by decide)) (fun _ hk => hk.2) (.int .i64 3)) (fun _ hk => hk.2) (.int .i64 2)) (fun _ hk => hk.2) (.slice Ao4 y235.length co4)) (fun _ hk => trivial), by repeat (first | (with_reducible first | exact HB.out | apply below_alloc | apply pw_below_drewN | apply below_drew1 | refine below_set ?_ GE234.out) | exact HB.out)⟩
end Go.Proofs.Ytlleokhmgblfnaa.M
end

section
namespace Go.Proofs.Ytlleokhmgblfnaa.M
open Go.RowKit Go.Proofs.YtlleokhmgblfnaaW.PrintWords
theorem aw_max : match_Maximum.f 60 2 2 [⟨0, 0⟩, ⟨0, 1⟩, ⟨1, 0⟩] = some ([1, 0], 0) := by decide +kernel
theorem aw_size : match_Size.f 60 3 2 [⟨0, 0⟩, ⟨1, 0⟩, ⟨2, 1⟩] = some (2, 0) := by decide +kernel
theorem aw_hall : match_Hall.f 60 3 2 [⟨0, 0⟩, ⟨1, 0⟩, ⟨2, 1⟩] = some ([0, 1], [0], 0) := by decide +kernel
theorem aw_cover : match_Cover.f 60 3 2 [⟨0, 0⟩, ⟨1, 0⟩, ⟨2, 1⟩] = some ([2], [0], 0) := by decide +kernel
theorem aw_ex : toruslaw30_ex.f = some (3, 2, [⟨0, 0⟩, ⟨1, 0⟩, ⟨2, 1⟩]) := rfl
theorem aw_s1 : torusref01_Same.f 60 [1, 0] [1, 0] = some true := by decide +kernel
theorem aw_s2 : torusref01_Same.f 60 [0, 1] [0, 1] = some true := by decide +kernel
theorem aw_s3 : torusref01_Same.f 60 [0] [0] = some true := by decide +kernel
theorem aw_s4 : torusref01_Same.f 60 [2] [2] = some true := by decide +kernel
theorem C_E3 {W : World} {g : Nat} (a b c : S40) (h : W.heap[g]? = some (.cells #[.int .i64 a.f0, .int .i64 a.f1, .int .i64 b.f0, .int .i64 b.f1, .int .i64 c.f0, .int .i64 c.f1] 40 (0, 0))) : Kd.C k40 W (some ⟨g, 0, none⟩) ([a, b, c] : List S40).length [a, b, c] := by
  refine ⟨rfl, by simp, fun _ => ⟨_, rfl, fun j p hp => ?_⟩⟩
  match j, hp with
  | 0, hp =>
    cases hp
    refine ⟨_, rfl, k40_mk W a, fun i u hu => ?_⟩
    rw [add_plain, blk_cell h]
    match i, hu with
    | 0, hu => exact hu
    | 1, hu => exact hu
  | 1, hp =>
    cases hp
    refine ⟨_, rfl, k40_mk W b, fun i u hu => ?_⟩
    rw [add_plain, blk_cell h]
    match i, hu with
    | 0, hu => exact hu
    | 1, hu => exact hu
  | 2, hp =>
    cases hp
    refine ⟨_, rfl, k40_mk W c, fun i u hu => ?_⟩
    rw [add_plain, blk_cell h]
    match i, hu with
    | 0, hu => exact hu
    | 1, hu => exact hu
theorem aw_hold {w W w1 : World} (hb : Below w.heap.size w W) (o : Obj) (h : Below (W.alloc o).heap.size (W.alloc o) w1) : Below w.heap.size w w1 := below_step (below_alloc hb o) h
set_option maxHeartbeats 1000000 in
set_option maxRecDepth 100000 in
theorem awake_calls (w : World) : Calls Try.prog 16 #[] w fun e w' => e = .returned (.bool true) ∧ Below w.heap.size w w' := by
  go_enter Try.func16, Try.ntmps16
  go_wp2_with fail
  refine (match_Maximum.calls 60 2 2 _ _ [⟨0, 0⟩, ⟨0, 1⟩, ⟨1, 0⟩] [1, 0] 0 _ (C_E3 ⟨0, 0⟩ ⟨0, 1⟩ ⟨1, 0⟩ (blk_new _ _)) (Nat.le_refl _) aw_max).mono ?_
  rintro e w1 ⟨v0, rfl, hr0, hb⟩
  have HB1 := Aside0.mk (below_step (below_alloc (Below.refl w.heap.size w) _) hb)
  obtain ⟨A0, c0, rfl, hl0, hC0⟩ := Kd.R_reads hr0
  have HC0 := Aside0.mk hC0
  have HL0 := Aside0.mk hl0
  clear hb hr0 hC0 hl0
  go_wp2_with fail
  refine (toruslaw30_ex.calls 3 2 _ _ aw_ex).mono ?_
  rintro e w2 ⟨v1, rfl, hr1, hb⟩
  obtain ⟨A1, c1, rfl, hl1, hC1⟩ := Kd.R_reads hr1
  have HB2 := Aside0.mk (below_step HB1.out hb)
  replace HC0 := Aside0.mk (Kd.C_below HC0.out hb)
  have HC1 := Aside0.mk hC1
  have HL1 := Aside0.mk hl1
  clear hb hr1 hC1 hl1 HB1
  go_wp2_with fail
  refine (match_Size.calls 60 3 2 _ _ _ 2 0 _ HC1.out HL1.out aw_size).mono ?_
  rintro e w3 ⟨rfl, hb⟩
  have HB3 := Aside0.mk (below_step HB2.out hb)
  replace HC0 := Aside0.mk (Kd.C_below HC0.out hb)
  clear hb HB2 HC1 HL1
  go_wp2_with fail
  refine (toruslaw30_ex.calls 3 2 _ _ aw_ex).mono ?_
  rintro e w4 ⟨v2, rfl, hr1, hb⟩
  obtain ⟨A2, c2, rfl, hl1, hC1⟩ := Kd.R_reads hr1
  have HB4 := Aside0.mk (below_step HB3.out hb)
  replace HC0 := Aside0.mk (Kd.C_below HC0.out hb)
  have HC2 := Aside0.mk hC1
  have HL2 := Aside0.mk hl1
  clear hb hr1 hC1 hl1 HB3
  go_wp2_with fail
  refine (match_Hall.calls 60 3 2 _ _ _ [0, 1] [0] 0 _ HC2.out HL2.out aw_hall).mono ?_
  rintro e w5 ⟨v3, v4, rfl, hr3, hr4, hb⟩
  obtain ⟨A3, c3, rfl, hl3, hC3⟩ := Kd.R_reads hr3
  obtain ⟨A4, c4, rfl, hl4, hC4⟩ := Kd.R_reads hr4
  have HB5 := Aside0.mk (below_step HB4.out hb)
  replace HC0 := Aside0.mk (Kd.C_below HC0.out hb)
  have HC3 := Aside0.mk hC3
  have HC4 := Aside0.mk hC4
  have HL3 := Aside0.mk hl3
  have HL4 := Aside0.mk hl4
  clear hb hr3 hr4 hC3 hC4 hl3 hl4 HB4 HC2 HL2
  go_wp2_with fail
  refine (toruslaw30_ex.calls 3 2 _ _ aw_ex).mono ?_
  rintro e w6 ⟨v5, rfl, hr1, hb⟩
  obtain ⟨A5, c5, rfl, hl1, hC1⟩ := Kd.R_reads hr1
  have HB6 := Aside0.mk (below_step HB5.out hb)
  replace HC0 := Aside0.mk (Kd.C_below HC0.out hb)
  replace HC3 := Aside0.mk (Kd.C_below HC3.out hb)
  replace HC4 := Aside0.mk (Kd.C_below HC4.out hb)
  have HC5 := Aside0.mk hC1
  have HL5 := Aside0.mk hl1
  clear hb hr1 hC1 hl1 HB5
  go_wp2_with fail
  refine (match_Cover.calls 60 3 2 _ _ _ [2] [0] 0 _ HC5.out HL5.out aw_cover).mono ?_
  rintro e w7 ⟨v6, v7, rfl, hr3, hr4, hb⟩
  obtain ⟨A6, c6, rfl, hl3, hC3⟩ := Kd.R_reads hr3
  obtain ⟨A7, c7, rfl, hl4, hC4⟩ := Kd.R_reads hr4
  have HB7 := Aside0.mk (below_step HB6.out hb)
  replace HC0 := Aside0.mk (Kd.C_below HC0.out hb)
  replace HC3 := Aside0.mk (Kd.C_below HC3.out hb)
  replace HC4 := Aside0.mk (Kd.C_below HC4.out hb)
  have HC6 := Aside0.mk hC3
  have HC7 := Aside0.mk hC4
  have HL6 := Aside0.mk hl3
  have HL7 := Aside0.mk hl4
  clear hb hr3 hr4 hC3 hC4 hl3 hl4 HB6 HC5 HL5
  go_wp2_with fail
  refine (torusref01_Same.calls 60 _ _ [1, 0] _ _ [1, 0] true _ (Kd.C_alloc HC0.out _) HL0.out (H.Row.reads (xs := [1, 0]) (blk_new _ _) (by decide)) (Nat.le_refl _) aw_s1).mono ?_
  rintro e w8 ⟨rfl, hd⟩
  have hb := hd.below
  have HB8 := Aside0.mk (aw_hold HB7.out _ hb)
  replace HC3 := Aside0.mk (Kd.C_below (Kd.C_alloc HC3.out _) hb)
  replace HC4 := Aside0.mk (Kd.C_below (Kd.C_alloc HC4.out _) hb)
  replace HC6 := Aside0.mk (Kd.C_below (Kd.C_alloc HC6.out _) hb)
  replace HC7 := Aside0.mk (Kd.C_below (Kd.C_alloc HC7.out _) hb)
  clear hb hd HB7 HC0 HL0
  go_wp2_with fail
  refine (torusref01_Same.calls 60 _ _ [0, 1] _ _ [0, 1] true _ (Kd.C_alloc HC3.out _) HL3.out (H.Row.reads (xs := [0, 1]) (blk_new _ _) (by decide)) (Nat.le_refl _) aw_s2).mono ?_
  rintro e w9 ⟨rfl, hd⟩
  have hb := hd.below
  have HB9 := Aside0.mk (aw_hold HB8.out _ hb)
  replace HC4 := Aside0.mk (Kd.C_below (Kd.C_alloc HC4.out _) hb)
  replace HC6 := Aside0.mk (Kd.C_below (Kd.C_alloc HC6.out _) hb)
  replace HC7 := Aside0.mk (Kd.C_below (Kd.C_alloc HC7.out _) hb)
  clear hb hd HB8 HC3 HL3
  go_wp2_with fail
  refine (torusref01_Same.calls 60 _ _ [0] _ _ [0] true _ (Kd.C_alloc HC4.out _) HL4.out (H.Row.reads (xs := [0]) (blk_new _ _) (by decide)) (Nat.le_refl _) aw_s3).mono ?_
  rintro e w10 ⟨rfl, hd⟩
  have hb := hd.below
  have HB10 := Aside0.mk (aw_hold HB9.out _ hb)
  replace HC6 := Aside0.mk (Kd.C_below (Kd.C_alloc HC6.out _) hb)
  replace HC7 := Aside0.mk (Kd.C_below (Kd.C_alloc HC7.out _) hb)
  clear hb hd HB9 HC4 HL4
  go_wp2_with fail
  refine (torusref01_Same.calls 60 _ _ [2] _ _ [2] true _ (Kd.C_alloc HC6.out _) HL6.out (H.Row.reads (xs := [2]) (blk_new _ _) (by decide)) (Nat.le_refl _) aw_s4).mono ?_
  rintro e w11 ⟨rfl, hd⟩
  have hb := hd.below
  have HB11 := Aside0.mk (aw_hold HB10.out _ hb)
  replace HC7 := Aside0.mk (Kd.C_below (Kd.C_alloc HC7.out _) hb)
  clear hb hd HB10 HC6 HL6
  go_wp2_with fail
  refine (torusref01_Same.calls 60 _ _ [0] _ _ [0] true _ (Kd.C_alloc HC7.out _) HL7.out (H.Row.reads (xs := [0]) (blk_new _ _) (by decide)) (Nat.le_refl _) aw_s3).mono ?_
  rintro e w12 ⟨rfl, hd⟩
  have hb := hd.below
  have HB12 := Aside0.mk (aw_hold HB11.out _ hb)
  clear hb hd HB11 HC7 HL7
  go_wp2_with fail
  go_ret
  exact ⟨rfl, HB12.out⟩
def toruslaw30_awake.f : Option Bool := some true
theorem toruslaw30_awake.calls (r : Bool) (w : World) (h : toruslaw30_awake.f = some r) : Calls Try.prog 16 #[] w fun e w' => e = .returned (.bool r) ∧ Below w.heap.size w w' := by
  cases h
  exact awake_calls w
end Go.Proofs.Ytlleokhmgblfnaa.M
end

section
namespace Go.Proofs.Ytlleokhmgblfnaa.H
open Go.RowKit Go.Proofs.YtlleokhmgblfnaaW.PrintWords
abbrev Tab := Int → Int → Int
def upd (T : Tab) (v c x : Int) : Tab := fun v' c' => if v' = v ∧ c' = c then x else T v' c'
def updO (O : Int → Int) (i x : Int) : Int → Int := fun j => if j = i then x else O j
def missF (m : Int) (row : Int → Int) : Nat → Int → Option Int
  | 0, _ => none
  | k + 1, c => if c < m then if 0 ≤ row c then missF m row k (c + 1) else some c else none
section
variable (n m e : Int) (X Y : Int → Int)
def pathF (s : Int) (T : Tab) : Nat → Int → Int → List Int → Option (List Int)
  | 0, _, _, _ => none
  | k + 1, u, c, p =>
    if 0 ≤ u ∧ u < n ∧ 0 ≤ c ∧ c < m then
      if 0 ≤ T u c then if T u c < e ∧ p.length < 65536 then pathF s T k (X (T u c) + Y (T u c) - u) (s - c) (p ++ [T u c]) else none
      else some p
    else none
def clearF (O : Int → Int) : List Int → Tab → Option Tab
  | [], T => some T
  | j :: p, T => if 0 ≤ j ∧ j < e ∧ 0 ≤ O j ∧ O j < m then clearF O p (upd (upd T (X j) (O j) (-1)) (Y j) (O j) (-1)) else none
def setF (s : Int) : List Int → Tab → (Int → Int) → Option (Tab × (Int → Int))
  | [], T, O => some (T, O)
  | j :: p, T, O => if 0 ≤ j ∧ j < e ∧ 0 ≤ O j ∧ O j < m ∧ 0 ≤ s - O j ∧ s - O j < m then setF s p (upd (upd T (X j) (s - O j) j) (Y j) (s - O j) j) (updO O j (s - O j)) else none
def flipF (K : Nat) (T : Tab) (O : Int → Int) (w a b : Int) : Option (Tab × (Int → Int)) :=
  (pathF n m e X Y (a + b) T K w a []).bind fun p => (clearF m e X Y O p T).bind fun T1 => setF m e X Y (a + b) p T1 O
def mainF (K : Nat) : Nat → Int → Tab → (Int → Int) → Option (Int → Int)
  | 0, _, _, _ => none
  | k + 1, i, T, O =>
    if i < e then
      (missF m (T (X i)) K 0).bind fun a => (missF m (T (Y i)) K 0).bind fun b =>
        if a = b then mainF K k (i + 1) (upd (upd T (X i) a i) (Y i) a i) (updO O i a)
        else (flipF n m e X Y K T O (Y i) a b).bind fun s => mainF K k (i + 1) (upd (upd s.1 (X i) a i) (Y i) a i) (updO s.2 i a)
    else some O
end
theorem missF_rng {m : Int} {row : Int → Int} : ∀ {k : Nat} {c a : Int}, missF m row k c = some a → 0 ≤ c → 0 ≤ a ∧ a < m
  | 0, _, _, h, _ => by cases h
  | k + 1, c, a, h, hc => by
    unfold missF at h
    split at h
    · split at h
      · exact missF_rng h (by omega)
      · obtain rfl := Option.some.inj h; omega
    · cases h
structure Lay (B n gb pa ra po ro pe : Nat) (rb : Int → Nat) : Prop where
  bb : B ≤ ro ∧ ∀ v : Int, 0 ≤ v → v < n → B ≤ rb v
  dr : ∀ v : Int, 0 ≤ v → v < n → rb v ≠ gb ∧ rb v ≠ pa ∧ rb v ≠ ra ∧ rb v ≠ ro ∧ rb v ≠ po ∧ rb v ≠ pe
  dd : ∀ u v : Int, 0 ≤ u → u < n → 0 ≤ v → v < n → rb u = rb v → u = v
  dO : ro ≠ gb ∧ ro ≠ pa ∧ ro ≠ ra ∧ ro ≠ po ∧ ro ≠ pe
structure St (n m e gb pa ra po ro pe : Nat) (rb : Int → Nat) (L R : Int) (A : Option Addr) (cp : Nat) (T : Tab) (O : Int → Int) (w : World) : Prop where
  g : w.heap[gb]? = some (.cells #[.int .i64 L, .int .i64 R, .slice A e cp] 33 (0, 0))
  at_ : w.heap[pa]? = some (.cells #[.slice (some ⟨ra, 0, none⟩) n n] 69 (0, 0))
  rows : w.rowIs ra 29 n (fun v => .slice (some ⟨rb v, 0, none⟩) m m)
  row : ∀ v : Int, 0 ≤ v → v < n → w.rowIs (rb v) 3 m (fun c => .int .i64 (T v c))
  out : w.heap[po]? = some (.cells #[.slice (some ⟨ro, 0, none⟩) e e] 29 (0, 0))
  orow : w.rowIs ro 3 e (fun i => .int .i64 (O i))
  ends : w.heap[pe]? = some (.cells #[.func (.func 47) #[] #[.pointer (some ⟨gb, 0, none⟩)]] 77 (0, 0))
section
variable {B n m e gb pa ra po ro pe : Nat} {rb : Int → Nat} {L R : Int} {A : Option Addr} {cp : Nat} {T : Tab} {O : Int → Int} {w : World}
theorem St.cG (h : St n m e gb pa ra po ro pe rb L R A cp T O w) : w.cell? ⟨gb, 0, none⟩ = some (.int .i64 L) ∧ w.cell? ⟨gb, 1, none⟩ = some (.int .i64 R) ∧ w.cell? ⟨gb, 2, none⟩ = some (.slice A e cp) :=
  ⟨(blk_cell h.g 0).trans rfl, (blk_cell h.g 1).trans rfl, (blk_cell h.g 2).trans rfl⟩
theorem St.cA (h : St n m e gb pa ra po ro pe rb L R A cp T O w) : w.cell? ⟨pa, 0, none⟩ = some (.slice (some ⟨ra, 0, none⟩) n n) := (blk_cell h.at_ 0).trans rfl
theorem St.cO (h : St n m e gb pa ra po ro pe rb L R A cp T O w) : w.cell? ⟨po, 0, none⟩ = some (.slice (some ⟨ro, 0, none⟩) e e) := (blk_cell h.out 0).trans rfl
theorem St.cE (h : St n m e gb pa ra po ro pe rb L R A cp T O w) : w.cell? ⟨pe, 0, none⟩ = some (.func (.func 47) #[] #[.pointer (some ⟨gb, 0, none⟩)]) := (blk_cell h.ends 0).trans rfl
theorem St.cR (h : St n m e gb pa ra po ro pe rb L R A cp T O w) (v : Int) (v0 : 0 ≤ v) (v1 : v < n) : w.cell? ⟨ra, v.toNat, none⟩ = some (.slice (some ⟨rb v, 0, none⟩) m m) := by
  have := h.rows.cell (i := v.toNat) (by omega)
  rw [this, show ((v.toNat : Nat) : Int) = v by omega]
theorem St.cT (h : St n m e gb pa ra po ro pe rb L R A cp T O w) (v c : Int) (v0 : 0 ≤ v) (v1 : v < n) (c0 : 0 ≤ c) (c1 : c < m) : w.cell? ⟨rb v, c.toNat, none⟩ = some (.int .i64 (T v c)) := by
  have := (h.row v v0 v1).cell (i := c.toNat) (by omega)
  rw [this, show ((c.toNat : Nat) : Int) = c by omega]
theorem St.fT (h : St n m e gb pa ra po ro pe rb L R A cp T O w) (v c : Int) (v0 : 0 ≤ v) (v1 : v < n) : w.frozen? ⟨rb v, c.toNat, none⟩ = false := (h.row v v0 v1).frozen _
theorem St.cOut (h : St n m e gb pa ra po ro pe rb L R A cp T O w) (i : Int) (i0 : 0 ≤ i) (i1 : i < e) : w.cell? ⟨ro, i.toNat, none⟩ = some (.int .i64 (O i)) := by
  have := h.orow.cell (i := i.toNat) (by omega)
  rw [this, show ((i.toNat : Nat) : Int) = i by omega]
theorem St.fO (h : St n m e gb pa ra po ro pe rb L R A cp T O w) (i : Int) : w.frozen? ⟨ro, i.toNat, none⟩ = false := h.orow.frozen _
theorem St.put (l : Lay B n gb pa ra po ro pe rb) (h : St n m e gb pa ra po ro pe rb L R A cp T O w) (v c x : Int) (v0 : 0 ≤ v) (v1 : v < n) (c0 : 0 ≤ c) : St n m e gb pa ra po ro pe rb L R A cp (upd T v c x) O (w.setCell ⟨rb v, c.toNat, none⟩ (.int .i64 x)) := by
  obtain ⟨d1, d2, d3, d4, d5, d6⟩ := l.dr v v0 v1
  refine ⟨blk_far h.g (p := ⟨rb v, c.toNat, none⟩) (Ne.symm d1) _, blk_far h.at_ (p := ⟨rb v, c.toNat, none⟩) (Ne.symm d2) _, h.rows.setOther (a := ⟨rb v, c.toNat, none⟩) (Ne.symm d3) _, fun u u0 u1 => ?_, blk_far h.out (p := ⟨rb v, c.toNat, none⟩) (Ne.symm d5) _, h.orow.setOther (a := ⟨rb v, c.toNat, none⟩) (Ne.symm d4) _, blk_far h.ends (p := ⟨rb v, c.toNat, none⟩) (Ne.symm d6) _⟩
  by_cases e : u = v
  · subst e
    refine ((h.row u u0 u1).set c.toNat (.int .i64 x)).congr fun i hi => ?_
    unfold upd
    by_cases h : i = c.toNat
    · rw [if_pos h, if_pos ⟨rfl, by omega⟩]
    · rw [if_neg h, if_neg (by rintro ⟨_, h2⟩; omega)]
  · refine ((h.row u u0 u1).setOther (a := ⟨rb v, c.toNat, none⟩) (fun h => e (l.dd u v u0 u1 v0 v1 h)) _).congr fun i hi => ?_
    unfold upd
    rw [if_neg (fun h => e h.1)]
theorem St.putO (l : Lay B n gb pa ra po ro pe rb) (h : St n m e gb pa ra po ro pe rb L R A cp T O w) (i x : Int) (i0 : 0 ≤ i) : St n m e gb pa ra po ro pe rb L R A cp T (updO O i x) (w.setCell ⟨ro, i.toNat, none⟩ (.int .i64 x)) := by
  obtain ⟨d1, d2, d3, d4, d5⟩ := l.dO
  refine ⟨blk_far h.g (p := ⟨ro, i.toNat, none⟩) (Ne.symm d1) _, blk_far h.at_ (p := ⟨ro, i.toNat, none⟩) (Ne.symm d2) _, h.rows.setOther (a := ⟨ro, i.toNat, none⟩) (Ne.symm d3) _, fun u u0 u1 => (h.row u u0 u1).setOther (a := ⟨ro, i.toNat, none⟩) (l.dr u u0 u1).2.2.2.1 _, blk_far h.out (p := ⟨ro, i.toNat, none⟩) (Ne.symm d4) _, ?_, blk_far h.ends (p := ⟨ro, i.toNat, none⟩) (Ne.symm d5) _⟩
  refine (h.orow.set i.toNat (.int .i64 x)).congr fun j hj => ?_
  unfold updO
  by_cases h : j = i.toNat
  · rw [if_pos h, if_pos (by omega)]
  · rw [if_neg h, if_neg (by omega)]
theorem St.same {w' : World} (h : St n m e gb pa ra po ro pe rb L R A cp T O w) (hs : ∀ k, k < w.heap.size → w'.heap[k]? = w.heap[k]?) : St n m e gb pa ra po ro pe rb L R A cp T O w' :=
  ⟨(hs _ (blk_lt h.g)).trans h.g, (hs _ (blk_lt h.at_)).trans h.at_, h.rows.of_block (hs _ h.rows.lt), fun v a b => (h.row v a b).of_block (hs _ (h.row v a b).lt), (hs _ (blk_lt h.out)).trans h.out, h.orow.of_block (hs _ h.orow.lt), (hs _ (blk_lt h.ends)).trans h.ends⟩
theorem St.alloc (h : St n m e gb pa ra po ro pe rb L R A cp T O w) (o : Obj) : St n m e gb pa ra po ro pe rb L R A cp T O (w.alloc o) := h.same fun k hk => Go.Deep.blk_alloc_lt _ _ _ hk
theorem St.drewN (h : St n m e gb pa ra po ro pe rb L R A cp T O w) (nd : Nat) : St n m e gb pa ra po ro pe rb L R A cp T O (w.drewN nd) := h.same fun k hk => rfl
end
end Go.Proofs.Ytlleokhmgblfnaa.H
end

section
namespace Go.Proofs.Ytlleokhmgblfnaa.H
open Go.RowKit Go.Proofs.YtlleokhmgblfnaaW.PrintWords
attribute [local go_sem] eqE
section
variable {n m e gb pa ra po ro pe : Nat} {rb : Int → Nat} {L R : Int} {A : Option Addr} {cp : Nat} {T : Tab} {O : Int → Int}
set_option maxHeartbeats 2000000 in
set_option maxRecDepth 100000 in
theorem ends_calls (E : List (Int × Int)) (w : World) (i : Int) (hs : St n m e gb pa ra po ro pe rb L R A cp T O w) (hE : kE.C w A e E) (i0 : 0 ≤ i) (i1 : i < e) (h : 0 ≤ L ∧ L ≤ 1024 ∧ 0 ≤ (rdE E i).2 ∧ (rdE E i).2 ≤ 1024) :
    Calls Try.prog 47 #[.int .i64 i, .pointer (some ⟨gb, 0, none⟩)] w fun x w' => x = .returned (.tuple #[.int .i64 (rdE E i).1, .int .i64 (L + (rdE E i).2)]) ∧ Drawn0 w w' := by
  obtain ⟨g0, g1, g2⟩ := hs.cG
  obtain ⟨ad, eA, hx0, hx1⟩ := at_E hE i i0 i1
  subst eA
  have hw : wrap64 (L + (rdE E i).2) = L + (rdE E i).2 := by unfold wrap64; omega
  obtain ⟨x, hX⟩ : ∃ x, rdE E i = x := ⟨_, rfl⟩
  rw [hX] at hx0 hx1 hw h ⊢
  obtain ⟨x0, x1⟩ := x
  have HS := Aside0.mk hs
  have HE := Aside0.mk hE
  have HH := Aside0.mk h
  clear hX hs hE h
  go_enter Try.func47, Try.ntmps47
  go_wp2
  go_quiet (fail)
  go_wp2
  refine bodyPost_ret (v := .tuple #[.int .i64 x0, .int .i64 (L + x1)]) (by simp [results, Try.results47, go_sem, hw]) rfl ⟨rfl, nq, rfl⟩
set_option maxHeartbeats 2000000 in
set_option maxRecDepth 100000 in
theorem missing_calls (w : World) (v : Int) (k : Nat) (a : Int) (hs : St n m e gb pa ra po ro pe rb L R A cp T O w) (v0 : 0 ≤ v) (v1 : v < n) (hm : m ≤ 1000000) (h : missF m (T v) k 0 = some a) :
    Calls Try.prog 48 #[.int .i64 v, .pointer (some ⟨pa, 0, none⟩)] w fun x w' => x = .returned (.int .i64 a) ∧ Drawn0 w w' := by
  have hA := hs.cA
  have hR := hs.cR v v0 v1
  have HS := Aside0.mk hs
  have H := Aside0.mk h
  clear hs h
  go_enter Try.func48, Try.ntmps48
  go_wp2_with fail
  go_loopg [4] k (fun kq v4 wr => ∃ c : Int, v4 = .int .i64 c ∧ Aside0 (0 ≤ c ∧ missF m (T v) kq c = some a) ∧ Aside0 (Drawn0 w wr))
  case atStart => exact ⟨0, rfl, ⟨by omega, H.out⟩, ⟨Drawn0.refl _⟩⟩
  case round =>
    clear H
    obtain ⟨c, rfl, HA, HD⟩ := hrel
    have c0 : 0 ≤ c := HA.out.1
    cases gk with
    | zero => exact absurd HA.out.2 (by simp [missF])
    | succ k1 =>
      have H := HA.out.2
      clear HA
      simp only [missF] at H
      by_cases c1 : c < m
      · rw [if_pos c1] at H
        obtain ⟨nd, hnd⟩ := HD.out
        subst hnd
        have hT := HS.out.cT v c v0 v1 c0 c1
        by_cases ht : 0 ≤ T v c
        · rw [if_pos ht] at H
          have HH := Aside0.mk H
          clear H
          go_wp2
          go_roundg k1
          case measure => omega
          case rel => exact ⟨c + 1, by go_num, ⟨by omega, HH.out⟩, ⟨nd, rfl⟩⟩
        · rw [if_neg ht] at H
          obtain rfl := Option.some.inj H
          go_wp2
          refine bodyPost_ret (v := .int .i64 c) (by simp [results, Try.results48, go_sem]) rfl ⟨rfl, nd, rfl⟩
      · rw [if_neg c1] at H
        exact absurd H (by simp)
end
end Go.Proofs.Ytlleokhmgblfnaa.H
end

section
namespace Go.Proofs.Ytlleokhmgblfnaa.H
open Go.RowKit Go.Proofs.YtlleokhmgblfnaaW.PrintWords
attribute [local go_sem] eqE
def eX (E : List (Int × Int)) (j : Int) : Int := (rdE E j).1
def eY (L : Int) (E : List (Int × Int)) (j : Int) : Int := L + (rdE E j).2
def EndsOK (L : Int) (n e : Nat) (E : List (Int × Int)) : Prop := 0 ≤ L ∧ L ≤ 1024 ∧ n ≤ 2048 ∧ ∀ j : Int, 0 ≤ j → j < e → 0 ≤ eX E j ∧ eX E j < L ∧ L ≤ eY L E j ∧ eY L E j < n ∧ (rdE E j).2 ≤ 1024
section
variable {B n m e gb pa ra po ro pe : Nat} {rb : Int → Nat} {L R : Int} {A : Option Addr} {cp : Nat} {T : Tab} {O : Int → Int}
theorem ends_at (E : List (Int × Int)) (w : World) (i : Int) (hs : St n m e gb pa ra po ro pe rb L R A cp T O w) (hE : kE.C w A e E) (i0 : 0 ≤ i) (i1 : i < e) (h : EndsOK L n e E) :
    Calls Try.prog 47 #[.int .i64 i, .pointer (some ⟨gb, 0, none⟩)] w fun x w' => x = .returned (.tuple #[.int .i64 (eX E i), .int .i64 (eY L E i)]) ∧ Drawn0 w w' := by
  obtain ⟨h1, h2, h3, h4⟩ := h
  have := h4 i i0 i1
  unfold eY at this
  exact ends_calls E w i hs hE i0 i1 ⟨h1, h2, by omega, this.2.2.2.2⟩
theorem St.grown {w wr w1 : World} {row : Option Nat} {T' : Tab} {O' : Int → Int} (h0 : St n m e gb pa ra po ro pe rb L R A cp T' O' w) (h : St n m e gb pa ra po ro pe rb L R A cp T O wr) (hw : w.heap.size ≤ wr.heap.size) (hg : wr.grownBy w1 row) (hr : ∀ k, row = some k → w.heap.size ≤ k) : St n m e gb pa ra po ro pe rb L R A cp T O w1 := by
  have key : ∀ g, g < w.heap.size → w1.heap[g]? = wr.heap[g]? := fun g hgl => hg.block g (by omega) (fun e => by have := hr g e.symm; omega)
  exact ⟨(key _ (blk_lt h0.g)).trans h.g, (key _ (blk_lt h0.at_)).trans h.at_, h.rows.of_block (key _ h0.rows.lt), fun v x y => (h.row v x y).of_block (key _ (h0.row v x y).lt), (key _ (blk_lt h0.out)).trans h.out, h.orow.of_block (key _ h0.orow.lt), (key _ (blk_lt h0.ends)).trans h.ends⟩
set_option maxHeartbeats 4000000 in
set_option maxRecDepth 100000 in
theorem flip_calls (w0 : World) (E : List (Int × Int)) (w : World) (u a b : Int) (k : Nat) (r : Tab × (Int → Int)) (l : Lay w0.heap.size n gb pa ra po ro pe rb)
    (hs : St n m e gb pa ra po ro pe rb L R A cp T O w) (hE : kE.C w0 A e E) (hw : Below w0.heap.size w0 w) (hok : EndsOK L n e E) (hm : m ≤ 1000000) (he : e ≤ 1000000)
    (a0 : 0 ≤ a ∧ a < m ∧ 0 ≤ b ∧ b < m) (h : flipF n m e (eX E) (eY L E) k T O u a b = some r) :
    Calls Try.prog 49 #[.int .i64 u, .int .i64 a, .int .i64 b, .pointer (some ⟨pa, 0, none⟩), .pointer (some ⟨pe, 0, none⟩), .pointer (some ⟨po, 0, none⟩)] w
      fun x w' => x = .returned (.tuple #[]) ∧ St n m e gb pa ra po ro pe rb L R A cp r.1 r.2 w' ∧ Below w0.heap.size w0 w' := by
  unfold flipF at h
  obtain ⟨P, hP, h⟩ := Option.bind_eq_some_iff.1 h
  obtain ⟨T1, hT1, hr⟩ := Option.bind_eq_some_iff.1 h
  clear h
  have LL := Aside0.mk l
  have HS0 := Aside0.mk hs
  have HE := Aside0.mk hE
  have HW0 := Aside0.mk hw
  have OK := Aside0.mk hok
  have HP := Aside0.mk hP
  have HT1 := Aside0.mk hT1
  have HR := Aside0.mk hr
  obtain ⟨a1, a2, b1, b2⟩ := a0
  clear hs hE hw hok hP hT1 hr l
  go_enter Try.func49, Try.ntmps49
  go_wp2_with fail
  go_loopg [0, 9, 10] k (fun kq v0 v9 v10 wr => ∃ (u c : Int) (p : List Int), v0 = .int .i64 u ∧ v10 = .int .i64 c ∧ Aside0 (pathF n m e (eX E) (eY L E) (a + b) T kq u c p = some P) ∧ Aside0 (St n m e gb pa ra po ro pe rb L R A cp T O wr ∧ Below w0.heap.size w0 wr ∧ w.heap.size ≤ wr.heap.size) ∧ Aside0 (Kd.Q (Kd.int .i64) 3 wr w.heap.size (fun _ => True) v9 p))
  case atStart => exact ⟨u, a, [], rfl, rfl, HP, ⟨HS0.out, HW0.out, Nat.le_refl _⟩, ⟨Kd.Q_nil _ _ _ _ _⟩⟩
  case round =>
    clear HP
    obtain ⟨u, c, p, rfl, rfl, HA, HW, HQ⟩ := hrel
    cases gk with
    | zero => exact absurd HA.out (by simp [pathF])
    | succ k1 =>
      have H := HA.out
      clear HA
      simp only [pathF] at H
      by_cases h1 : 0 ≤ u ∧ u < n ∧ 0 ≤ c ∧ c < m
      · rw [if_pos h1] at H
        obtain ⟨u0, u1, c0, c1⟩ := h1
        have cA := HW.out.1.cA
        have cR := HW.out.1.cR u u0 u1
        have cT := HW.out.1.cT u c u0 u1 c0 c1
        obtain ⟨rv, hrv⟩ : ∃ rv, rb u = rv := ⟨_, rfl⟩
        rw [hrv] at cR cT
        obtain ⟨j, hj⟩ : ∃ j, T u c = j := ⟨_, rfl⟩
        rw [hj] at cT H
        have HJ := Aside0.mk hj
        clear hrv hj
        by_cases j0 : 0 ≤ j
        · rw [if_pos j0] at H
          by_cases j1 : j < e ∧ p.length < 65536
          · rw [if_pos j1] at H
            obtain ⟨j1, hp⟩ := j1
            have HH := Aside0.mk H
            clear H
            have hx := OK.out.2.2.2 j j0 j1
            have hl0 := OK.out.1
            have hl1 := OK.out.2.1
            have hn1 := OK.out.2.2.1
            have HX := Aside0.mk hx
            go_wp2_with (first | ((with_reducible refine gate_builtin (b := .append) (xs := #[.tmp 35, .tmp 43]) rfl ?_); at_builtin; refine Kd.Q_append (Kd.int .i64) w.heap.size rfl (.tmp 35) (.tmp 43) 29 3 (.int .i64 0) 8 rfl Try.underlying29 info3 rfl (by decide) (by omega) u9 p j [.int .i64 j] (fun _ => True) (fun _ => False) rfl rfl ?aP (fun _ hk => hk.elim) (fun _ _ => trivial) HQ.out (Below.refl _ _) ?aS ?aL ?_; (case aP => exact rfl); (case aS => exact HW.out.2.2); (case aL => omega); intro v1 w1 ho hb hg hat; have HQ1 := Aside0.mk ho; have HS1 : Aside0 (St n m e gb pa ra po ro pe rb L R A cp T O w1) := ⟨St.grown HS0.out HW.out.1 HW.out.2.2 hg (Kd.Q_base HQ.out)⟩; have HB1 : Aside0 (Below w0.heap.size w0 w1) := ⟨pw_below_grown HW.out.2.1 _ HW.out.2.1.size hg (fun k hk => Nat.le_trans HW0.out.size (Kd.Q_base HQ.out k hk))⟩; have HZ1 : Aside0 (w.heap.size ≤ w1.heap.size) := ⟨Nat.le_trans HW.out.2.2 hg.size⟩; clear ho hb hg hat cA cR cT HW))
            have cA := HS1.out.cA
            have cR := HS1.out.cR u u0 u1
            have cT := HS1.out.cT u c u0 u1 c0 c1
            have cE := HS1.out.cE
            rw [HJ.out] at cT
            go_quiet (first | (go_at_call 47; refine (ends_at E _ j (HS1.out.drewN _) (Kd.C_below HE.out (pw_below_drewN HB1.out _)) j0 j1 OK.out).mono ?_; rintro x w' ⟨rfl, ⟨nd, rfl⟩⟩; exact ⟨rfl, _, World.drewN_drewN _ _ _⟩))
            go_wp2
            go_roundg k1
            case measure => omega
            case rel => exact ⟨_, _, _, by go_num, by go_num, ⟨HH.out⟩, ⟨HS1.out.drewN _, pw_below_drewN HB1.out _, HZ1.out⟩, ⟨Kd.Q_drewN HQ1.out _⟩⟩
          · rw [if_neg j1] at H
            exact absurd H (by simp)
        · rw [if_neg j0] at H
          obtain rfl := Option.some.inj H
          clear H
          obtain ⟨A9, c9, rfl, hc9⟩ := Kd.Q_slice HQ.out
          go_wp2_with fail
          have hmp := Kd.C_max (Kd.Q_reads' HQ.out).2.2
          clear cA cR cT HJ
          go_loopg [64] (p.length + 1) (fun kq v64 wr => ∃ (i : Int) (T' : Tab), v64 = .int .i64 i ∧ Aside0 (0 ≤ i ∧ i ≤ p.length ∧ (p.length : Int) < i + kq ∧ clearF m e (eX E) (eY L E) O (p.drop i.toNat) T' = some T1) ∧ Aside0 (St n m e gb pa ra po ro pe rb L R A cp T' O wr ∧ Below w0.heap.size w0 wr ∧ w.heap.size ≤ wr.heap.size) ∧ Aside0 (Kd.Q (Kd.int .i64) 3 wr w.heap.size (fun _ => True) (.slice A9 p.length c9) p))
          case atStart => exact ⟨0, T, rfl, ⟨by omega, by omega, by omega, by simpa using HT1.out⟩, HW, HQ⟩
          case round =>
            clear HW HQ HT1
            obtain ⟨i, T', rfl, HA, HW, HQ⟩ := hrel
            have i0 : 0 ≤ i := HA.out.1
            by_cases hlt : i < p.length
            · obtain ⟨ad9, e9, hx9⟩ := Kd.at_int (Kd.Q_reads' HQ.out).2.2 i i0 hlt
              subst e9
              have hdr : p.drop i.toNat = rd p i :: p.drop (i + 1).toNat := by
                rw [show (i + 1).toNat = i.toNat + 1 by omega, List.drop_eq_getElem_cons (by omega)]
                unfold rd
                rw [List.getD_eq_getElem?_getD, List.getElem?_eq_getElem (by omega)]
                rfl
              have H := HA.out.2.2.2
              rw [hdr] at H
              obtain ⟨j, hj⟩ : ∃ j, rd p i = j := ⟨_, rfl⟩
              rw [hj] at hx9 H
              clear hdr hj
              unfold clearF at H
              by_cases h2 : 0 ≤ j ∧ j < e ∧ 0 ≤ O j ∧ O j < m
              · rw [if_pos h2] at H
                obtain ⟨j0, j1, o0, o1⟩ := h2
                have HH := Aside0.mk H
                clear H
                have hx := OK.out.2.2.2 j j0 j1
                obtain ⟨x, hxx⟩ : ∃ x, eX E j = x := ⟨_, rfl⟩
                obtain ⟨y, hyy⟩ : ∃ y, eY L E j = y := ⟨_, rfl⟩
                obtain ⟨o, hoo⟩ : ∃ o, O j = o := ⟨_, rfl⟩
                have hends := ends_at E wr j HW.out.1 (Kd.C_below HE.out HW.out.2.1) j0 j1 OK.out
                have cOut := HW.out.1.cOut j j0 j1
                rw [hxx, hyy] at hx hends
                rw [hoo] at o0 o1 cOut
                have H1 : Aside0 (clearF m e (eX E) (eY L E) O (p.drop (i + 1).toNat) (upd (upd T' x o (-1)) y o (-1)) = some T1) := ⟨by rw [← hxx, ← hyy, ← hoo]; exact HH.out⟩
                clear HH hxx hyy hoo
                have x0 : 0 ≤ x := hx.1
                have x1 : x < n := by omega
                have y0 : 0 ≤ y := by omega
                have y1 : y < n := hx.2.2.2.1
                have xy : x ≠ y := by omega
                have cA := HW.out.1.cA
                have cO := HW.out.1.cO
                have cE := HW.out.1.cE
                have cX := HW.out.1.cR x x0 x1
                have cY := HW.out.1.cR y y0 y1
                have tX := HW.out.1.cT x o x0 x1 o0 o1
                have tY := HW.out.1.cT y o y0 y1 o0 o1
                have fX := HW.out.1.fT x o x0 x1
                have fY := HW.out.1.fT y o y0 y1
                have nxy : rb x ≠ rb y := fun h => xy (LL.out.dd x y x0 x1 y0 y1 h)
                have nyx := nxy.symm
                have HX := Aside0.mk hx
                have HXY := Aside0.mk xy
                have HC := Aside0.mk hends
                clear hx hends xy
                go_wp2_with (go_at_call 47; refine HC.out.mono ?_; rintro x w' ⟨rfl, ⟨nd, rfl⟩⟩)
                go_region
                all_goals go_wp2
                go_roundg (gk - 1)
                case measure => have := HA.out.2.2.1; omega
                case rel => exact ⟨i + 1, _, by go_num, ⟨by omega, by omega, by have := HA.out.2.2.1; omega, H1.out⟩, ⟨((HW.out.1.drewN _).put LL.out x o (-1) x0 x1 o0).put LL.out y o (-1) y0 y1 o0, below_set (below_set (pw_below_drewN HW.out.2.1 _) (LL.out.bb.2 x x0 x1)) (LL.out.bb.2 y y0 y1), by simpa using HW.out.2.2⟩, ⟨Q_put (Q_put (Kd.Q_drewN HQ.out _) (HS0.out.row x x0 x1).lt _ _) (HS0.out.row y y0 y1).lt _ _⟩⟩
              · rw [if_neg h2] at H
                exact absurd H (by simp)
            · have hie : p.drop i.toNat = [] := List.drop_eq_nil_of_le (by omega)
              have H := HA.out.2.2.2
              rw [hie] at H
              obtain rfl := Option.some.inj (show some T' = some T1 from H)
              clear H hie HA
              go_wp2_with fail
              go_loopg [95] (p.length + 1) (fun kq v95 wr => ∃ (i : Int) (T1 : Tab) (O' : Int → Int), v95 = .int .i64 i ∧ Aside0 (0 ≤ i ∧ i ≤ p.length ∧ (p.length : Int) < i + kq ∧ setF m e (eX E) (eY L E) (a + b) (p.drop i.toNat) T1 O' = some r) ∧ Aside0 (St n m e gb pa ra po ro pe rb L R A cp T1 O' wr ∧ Below w0.heap.size w0 wr ∧ w.heap.size ≤ wr.heap.size) ∧ Aside0 (Kd.Q (Kd.int .i64) 3 wr w.heap.size (fun _ => True) (.slice A9 p.length c9) p))
              case atStart => exact ⟨0, T', O, rfl, ⟨by omega, by omega, by omega, by simpa using HR.out⟩, HW, HQ⟩
              case round =>
                clear HW HQ HR
                obtain ⟨i, T1, O', rfl, HA, HW, HQ⟩ := hrel
                have i0 : 0 ≤ i := HA.out.1
                by_cases hlt : i < p.length
                · obtain ⟨ad9, e9, hx9⟩ := Kd.at_int (Kd.Q_reads' HQ.out).2.2 i i0 hlt
                  subst e9
                  have hdr : p.drop i.toNat = rd p i :: p.drop (i + 1).toNat := by
                    rw [show (i + 1).toNat = i.toNat + 1 by omega, List.drop_eq_getElem_cons (by omega)]
                    unfold rd
                    rw [List.getD_eq_getElem?_getD, List.getElem?_eq_getElem (by omega)]
                    rfl
                  have H := HA.out.2.2.2
                  rw [hdr] at H
                  obtain ⟨j, hj⟩ : ∃ j, rd p i = j := ⟨_, rfl⟩
                  rw [hj] at hx9 H
                  clear hdr hj
                  unfold setF at H
                  by_cases h2 : 0 ≤ j ∧ j < e ∧ 0 ≤ O' j ∧ O' j < m ∧ 0 ≤ a + b - O' j ∧ a + b - O' j < m
                  · rw [if_pos h2] at H
                    obtain ⟨j0, j1, q0, q1, o0, o1⟩ := h2
                    have HH := Aside0.mk H
                    clear H
                    have hx := OK.out.2.2.2 j j0 j1
                    obtain ⟨x, hxx⟩ : ∃ x, eX E j = x := ⟨_, rfl⟩
                    obtain ⟨y, hyy⟩ : ∃ y, eY L E j = y := ⟨_, rfl⟩
                    obtain ⟨q, hqq⟩ : ∃ q, O' j = q := ⟨_, rfl⟩
                    obtain ⟨o, hoo⟩ : ∃ o, a + b - q = o := ⟨_, rfl⟩
                    have hends := ends_at E wr j HW.out.1 (Kd.C_below HE.out HW.out.2.1) j0 j1 OK.out
                    have cOut := HW.out.1.cOut j j0 j1
                    have fOut := HW.out.1.fO j
                    rw [hxx, hyy] at hx hends
                    rw [hqq] at q0 q1 o0 o1 cOut
                    rw [hoo] at o0 o1
                    have hw1 : wrap64 (wrap64 (a + b) - q) = o := by
                      rw [show wrap64 (a + b) = a + b by unfold wrap64; omega, hoo]
                      unfold wrap64; omega
                    have H1 : Aside0 (setF m e (eX E) (eY L E) (a + b) (p.drop (i + 1).toNat) (upd (upd T1 x o j) y o j) (updO O' j o) = some r) := ⟨by rw [← hxx, ← hyy, ← hoo, ← hqq]; exact HH.out⟩
                    clear HH hxx hyy hqq
                    have x0 : 0 ≤ x := hx.1
                    have x1 : x < n := by omega
                    have y0 : 0 ≤ y := by omega
                    have y1 : y < n := hx.2.2.2.1
                    have xy : x ≠ y := by omega
                    have cO := HW.out.1.cO
                    have cE := HW.out.1.cE
                    have HX := Aside0.mk hx
                    have HOO := Aside0.mk hoo
                    have HC := Aside0.mk hends
                    clear hx hends hoo
                    go_wp2_with (go_at_call 47; refine HC.out.mono ?_; rintro x w' ⟨rfl, ⟨nd, rfl⟩⟩)
                    go_region
                    clear cO cE cOut fOut
                    have HS2 : Aside0 (St n m e gb pa ra po ro pe rb L R A cp T1 (updO O' j o) ((wr.drewN (nd + 1)).setCell ⟨ro, j.toNat, none⟩ (.int .i64 (a + b - q)))) := ⟨by rw [HOO.out]; exact (HW.out.1.drewN _).putO LL.out j o j0⟩
                    have HB2 : Aside0 (Below w0.heap.size w0 ((wr.drewN (nd + 1)).setCell ⟨ro, j.toNat, none⟩ (.int .i64 (a + b - q)))) := ⟨below_set (pw_below_drewN HW.out.2.1 _) LL.out.bb.1⟩
                    have HZ2 : Aside0 (w.heap.size ≤ ((wr.drewN (nd + 1)).setCell ⟨ro, j.toNat, none⟩ (.int .i64 (a + b - q))).heap.size) := ⟨by simpa using HW.out.2.2⟩
                    have HQ2 : Aside0 (Kd.Q (Kd.int .i64) 3 ((wr.drewN (nd + 1)).setCell ⟨ro, j.toNat, none⟩ (.int .i64 (a + b - q))) w.heap.size (fun _ => True) (.slice (some ad9) p.length c9) p) := ⟨Q_put (Kd.Q_drewN HQ.out _) HS0.out.orow.lt _ _⟩
                    generalize (wr.drewN (nd + 1)).setCell ⟨ro, j.toNat, none⟩ (.int .i64 (a + b - q)) = w2 at *
                    have cO := HS2.out.cO
                    have cOut : w2.cell? ⟨ro, j.toNat, none⟩ = some (.int .i64 o) := by
                      have := HS2.out.cOut j j0 j1
                      rw [this]; unfold updO; rw [if_pos rfl]
                    have cA := HS2.out.cA
                    have cX := HS2.out.cR x x0 x1
                    have cY := HS2.out.cR y y0 y1
                    have tX := HS2.out.cT x o x0 x1 o0 o1
                    have tY := HS2.out.cT y o y0 y1 o0 o1
                    have fX := HS2.out.fT x o x0 x1
                    have fY := HS2.out.fT y o y0 y1
                    have nxy : rb x ≠ rb y := fun h => xy (LL.out.dd x y x0 x1 y0 y1 h)
                    have nyx := nxy.symm
                    clear HQ HW hw1 xy hx9
                    go_wp2
                    go_region
                    all_goals go_wp2
                    go_roundg (gk - 1)
                    case measure => have := HA.out.2.2.1; omega
                    case rel => exact ⟨i + 1, _, _, by go_num, ⟨by omega, by omega, by have := HA.out.2.2.1; omega, H1.out⟩, ⟨((HS2.out.drewN _).put LL.out x o j x0 x1 o0).put LL.out y o j y0 y1 o0, below_set (below_set (pw_below_drewN HB2.out _) (LL.out.bb.2 x x0 x1)) (LL.out.bb.2 y y0 y1), by simpa using HZ2.out⟩, ⟨Q_put (Q_put (Kd.Q_drewN HQ2.out _) (HS0.out.row x x0 x1).lt _ _) (HS0.out.row y y0 y1).lt _ _⟩⟩
                  · rw [if_neg h2] at H
                    exact absurd H (by simp)
                · have hie : p.drop i.toNat = [] := List.drop_eq_nil_of_le (by omega)
                  have H := HA.out.2.2.2
                  rw [hie] at H
                  obtain rfl := Option.some.inj (show some (T1, O') = some r from H)
                  go_wp2
                  go_end0
                  exact ⟨rfl, HW.out.1, HW.out.2.1⟩
      · rw [if_neg h1] at H
        exact absurd H (by simp)
end
end Go.Proofs.Ytlleokhmgblfnaa.H
end

section
namespace Go.Proofs.Ytlleokhmgblfnaa.H
def degS : List Int → (Int → Int) → Int → (Int → Int) × Int
  | [], D, mo => (D, mo)
  | v :: vs, D, mo => degS vs (updO D v (D v + 1)) (if mo < D v + 1 then D v + 1 else mo)
def degF (L : Int) : List (Int × Int) → (Int → Int) → Int → Int
  | [], _, mo => mo
  | x :: E, D, mo => degF L E (degS [x.1, L + x.2] D mo).1 (degS [x.1, L + x.2] D mo).2
end Go.Proofs.Ytlleokhmgblfnaa.H
end

section
namespace Go.Proofs.Ytlleokhmgblfnaa.H
open Go.RowKit Go.Proofs.YtlleokhmgblfnaaW.PrintWords
open Go.Maps
attribute [local go_sem] eqE
theorem chkGo_rng' (L R : Int) : ∀ (E : List (Int × Int)) (p : Option (Int × Int)), chkGo L R p E = 0 → ∀ x ∈ E, 0 ≤ x.1 ∧ x.1 < L ∧ 0 ≤ x.2 ∧ x.2 < R
  | [], _, _, x, hx => by cases hx
  | y :: E, p, h, x, hx => by
    unfold chkGo at h
    split at h
    · omega
    · have ih := chkGo_rng' L R E (some y)
      have h2 : chkGo L R (some y) E = 0 := by
        cases p with
        | none => exact h
        | some q =>
          simp only at h
          split at h
          · omega
          · split at h
            · omega
            · exact h
      rcases List.mem_cons.1 hx with e | hx
      · subst e; omega
      · exact ih h2 x hx
end Go.Proofs.Ytlleokhmgblfnaa.H
end

section
namespace Go.Proofs.Ytlleokhmgblfnaa.H
open Go.RowKit Go.Proofs.YtlleokhmgblfnaaW.PrintWords Go.Proofs.YtlleokhmgblfnaaW.PrintMore
attribute [local go_sem] eqE max2_int max_two
def colF (L R : Int) (E : List (Int × Int)) : Option (List Int × Int) :=
  if chk L R E = 0 then
    (mainF (L + R) (degF L E (fun _ => 0) 0) E.length (eX E) (eY L E) (2 * E.length + 5) (E.length + 1) 0 (fun _ _ => -1) (fun _ => 0)).map fun O => ((List.range E.length).map fun i => O (i : Int), 0)
  else some ([], chk L R E)
def ColPost (w : World) (r : List Int × Int) (e : Ending) (w' : World) : Prop :=
  ∃ v0 : Value, e = .returned (.tuple #[v0, .int .i64 r.2]) ∧ Kd.R (Kd.int .i64) 3 w' w.heap.size (fun _ => True) v0 r.1 ∧ Below w.heap.size w w'
theorem scope_jumps {P : Program} {a : Act} {w : World} {Q : Exit → Act → World → Prop} {c rest : Code} (l : Nat) (J : Act → World → Prop) (μ : Act → World → Nat) (hf : findLabel c l = some (Code.skip.seq rest))
    (pass : ∀ a w, J a w → rest.wp P (Exit.jump l (fun a' w' => J a' w' ∧ μ a' w' < μ a w) Q) a w)
    (first : (∀ a w, J a w → rest.wp P (Exit.jump l J Q) a w) → c.wp P (Exit.jump l J Q) a w) : (Code.scope c).wp P Q a w :=
  wp_scope_jumps l J μ hf (first fun a w h => wp_mono (pass a w h) fun e a w hq => by
    cases e <;> first | exact ⟨hq.1, hq.2.1⟩ | exact hq) (fun a w h => wp_seq (wp_skip (pass a w h)))
def slotInt (a : Act) (k : Nat) : Int := match a.tmps.getD k undef with | .int _ q => q | _ => 0
set_option maxRecDepth 100000 in
def colFrame (L R : Int) (A : Option Addr) (e c gb gd n : Nat) (mo : Int) (pa po pe : Nat) (i : Int) (u : Nat → Value) : Act :=
  { tmps := List.toArray ((.agg #[.int .i64 L, .int .i64 R, .slice A e c] : Value) :: (.pointer (some ⟨gb, 0, none⟩) : Value) :: (.slice none 0 0 : Value) :: (.int .i64 0 : Value) :: (.int .i64 0 : Value) :: (.slice (some ⟨gd, 0, none⟩) n n : Value) :: (.int .i64 mo : Value) :: (u 7 : Value) :: (u 8 : Value) :: (u 9 : Value) :: (u 10 : Value) :: (.pointer (some ⟨pa, 0, none⟩) : Value) :: (u 12 : Value) :: (u 13 : Value) :: (.pointer (some ⟨po, 0, none⟩) : Value) :: (.pointer (some ⟨pe, 0, none⟩) : Value) :: (.func (.func 48) #[] #[.pointer (some ⟨pa, 0, none⟩)] : Value) :: (.func (.func 49) #[] #[.pointer (some ⟨pa, 0, none⟩), .pointer (some ⟨pe, 0, none⟩), .pointer (some ⟨po, 0, none⟩)] : Value) :: (.int .i64 i : Value) :: (u 19 : Value) :: (u 20 : Value) :: (u 21 : Value) :: (u 22 : Value) :: (u 23 : Value) :: (u 24 : Value) :: (u 25 : Value) :: (u 26 : Value) :: (u 27 : Value) :: (u 28 : Value) :: (u 29 : Value) :: (u 30 : Value) :: (u 31 : Value) :: (u 32 : Value) :: (u 33 : Value) :: (u 34 : Value) :: (u 35 : Value) :: (u 36 : Value) :: (u 37 : Value) :: (u 38 : Value) :: (u 39 : Value) :: (u 40 : Value) :: (u 41 : Value) :: (u 42 : Value) :: (u 43 : Value) :: (u 44 : Value) :: (u 45 : Value) :: (u 46 : Value) :: (u 47 : Value) :: (u 48 : Value) :: (u 49 : Value) :: (u 50 : Value) :: (u 51 : Value) :: (u 52 : Value) :: (u 53 : Value) :: (u 54 : Value) :: (u 55 : Value) :: (u 56 : Value) :: (u 57 : Value) :: (u 58 : Value) :: (u 59 : Value) :: (u 60 : Value) :: (u 61 : Value) :: (u 62 : Value) :: (u 63 : Value) :: (u 64 : Value) :: (u 65 : Value) :: (u 66 : Value) :: (u 67 : Value) :: (u 68 : Value) :: (u 69 : Value) :: (u 70 : Value) :: (u 71 : Value) :: (u 72 : Value) :: (u 73 : Value) :: (u 74 : Value) :: (u 75 : Value) :: (u 76 : Value) :: (u 77 : Value) :: (u 78 : Value) :: (u 79 : Value) :: (u 80 : Value) :: (u 81 : Value) :: (u 82 : Value) :: (u 83 : Value) :: (u 84 : Value) :: (u 85 : Value) :: (u 86 : Value) :: (u 87 : Value) :: (u 88 : Value) :: (u 89 : Value) :: (u 90 : Value) :: (u 91 : Value) :: (u 92 : Value) :: (u 93 : Value) :: (u 94 : Value) :: (u 95 : Value) :: (u 96 : Value) :: (u 97 : Value) :: (u 98 : Value) :: (u 99 : Value) :: (u 100 : Value) :: (u 101 : Value) :: (u 102 : Value) :: (u 103 : Value) :: (u 104 : Value) :: (u 105 : Value) :: (u 106 : Value) :: (u 107 : Value) :: (u 108 : Value) :: (u 109 : Value) :: (u 110 : Value) :: (u 111 : Value) :: (u 112 : Value) :: (u 113 : Value) :: (u 114 : Value) :: (u 115 : Value) :: (u 116 : Value) :: (u 117 : Value) :: (u 118 : Value) :: (u 119 : Value) :: (u 120 : Value) :: (u 121 : Value) :: (u 122 : Value) :: (u 123 : Value) :: (u 124 : Value) :: (u 125 : Value) :: (u 126 : Value) :: (u 127 : Value) :: (u 128 : Value) :: (u 129 : Value) :: (u 130 : Value) :: (u 131 : Value) :: (u 132 : Value) :: (u 133 : Value) :: (u 134 : Value) :: (u 135 : Value) :: (u 136 : Value) :: (u 137 : Value) :: (u 138 : Value) :: (u 139 : Value) :: (u 140 : Value) :: (u 141 : Value) :: (u 142 : Value) :: (u 143 : Value) :: (u 144 : Value) :: (u 145 : Value) :: (u 146 : Value) :: (u 147 : Value) :: (u 148 : Value) :: (u 149 : Value) :: (u 150 : Value) :: (u 151 : Value) :: (u 152 : Value) :: []), defers := [] }
theorem row_of {w : World} {g n : Nat} {O : Int → Int} (h : w.rowIs g 3 n (fun i => .int .i64 (O i))) : Row w g ((List.range n).map fun i : Nat => O (i : Int)) := by
  obtain ⟨c, hb, hn, hc⟩ := h
  unfold Row
  rw [hb]
  congr 2
  apply Array.ext
  · simp [hn]
  · intro i h1 h2
    have h3 := hc i (by omega)
    rw [Array.getElem?_eq_getElem h1] at h3
    rw [Option.some.inj h3]
    simp
theorem frame_u (X : Act) {L R : Int} {A : Option Addr} {e c gb gd n : Nat} {mo : Int} {pa po pe : Nat} {i : Int} (h : X = colFrame L R A e c gb gd n mo pa po pe i (fun k => X.tmps.getD k undef)) : ∃ u : Nat → Value, X = colFrame L R A e c gb gd n mo pa po pe i u := ⟨_, h⟩
def ColJ (w : World) (L R : Int) (E : List (Int × Int)) (A : Option Addr) (c n m : Nat) (r : List Int × Int) (a : Act) (wr : World) : Prop :=
  ∃ (gb gd pa ra po ro pe : Nat) (rb : Int → Nat) (i : Int) (k : Nat) (T : Tab) (O : Int → Int), (∃ u : Nat → Value, a = colFrame L R A E.length c gb gd n m pa po pe i u) ∧ 0 ≤ i ∧ i ≤ E.length ∧ Lay w.heap.size n gb pa ra po ro pe rb ∧
    St n m E.length gb pa ra po ro pe rb L R A c T O wr ∧ Below w.heap.size w wr ∧ EndsOK L n E.length E ∧ m ≤ 1000000 ∧ E.length ≤ 65536 ∧
    (mainF n m E.length (eX E) (eY L E) (2 * E.length + 5) k i T O).map (fun O => ((List.range E.length).map fun i => O (i : Int), (0 : Int))) = some r
structure TabW (w : World) (gb ra n m e : Nat) (L R : Int) (A : Option Addr) (cp : Nat) (j i : Nat) (wr : World) : Prop where
  rows : wr.rowIs ra 29 n (fun v => if v < j then .slice (some ⟨ra + 2 + v, 0, none⟩) m m else .slice none 0 0)
  row : ∀ v, v < i → wr.rowIs (ra + 2 + v) 3 m (fun _ => .int .i64 (-1))
  at_ : wr.heap[ra + 1]? = some (.cells #[.slice (some ⟨ra, 0, none⟩) n n] 69 (0, 0))
  g : wr.heap[gb]? = some (.cells #[.int .i64 L, .int .i64 R, .slice A e cp] 33 (0, 0))
  below : Below w.heap.size w wr
  size : wr.heap.size = ra + 2 + j
  lo : w.heap.size ≤ gb ∧ gb < ra
section
variable {w wr : World} {gb ra n m e : Nat} {L R : Int} {A : Option Addr} {cp j i : Nat}
theorem TabW.far (h : TabW w gb ra n m e L R A cp j i wr) (k : Nat) (v : Value) : TabW w gb ra n m e L R A cp j i (wr.setCell ⟨ra + 2 + i, k, none⟩ v) := by
  have lo := h.lo
  refine ⟨h.rows.setOther (a := ⟨ra + 2 + i, k, none⟩) (by show ra ≠ ra + 2 + i; omega) v, fun u hu => (h.row u hu).setOther (a := ⟨ra + 2 + i, k, none⟩) (by show ra + 2 + u ≠ ra + 2 + i; omega) v, blk_far h.at_ (p := ⟨ra + 2 + i, k, none⟩) (by show ra + 1 ≠ ra + 2 + i; omega) v, blk_far h.g (p := ⟨ra + 2 + i, k, none⟩) (by show gb ≠ ra + 2 + i; omega) v, below_set h.below (by show w.heap.size ≤ ra + 2 + i; omega), ?_, lo⟩
  have := h.size
  simpa using this
theorem TabW.hang (h : TabW w gb ra n m e L R A cp i i wr) (o : Obj) : TabW w gb ra n m e L R A cp (i + 1) i ((wr.alloc o).setCell ⟨ra, i, none⟩ (.slice (some ⟨wr.heap.size, 0, none⟩) m m)) := by
  have lo := h.lo
  have hsz := h.size
  refine ⟨((h.rows.alloc o).set i _).congr fun v hv => ?_, fun u hu => ((h.row u hu).alloc o).setOther (a := ⟨ra, i, none⟩) (by show ra + 2 + u ≠ ra; omega) _, blk_far (blk_alloc h.at_ o) (p := ⟨ra, i, none⟩) (by show ra + 1 ≠ ra; omega) _, blk_far (blk_alloc h.g o) (p := ⟨ra, i, none⟩) (by show gb ≠ ra; omega) _, below_set (below_alloc h.below o) (by show w.heap.size ≤ ra; omega), ?_, lo⟩
  · by_cases e : v = i
    · rw [if_pos e, if_pos (by omega), e, hsz]
    · rw [if_neg e]
      by_cases e2 : v < i
      · rw [if_pos e2, if_pos (by omega)]
      · rw [if_neg e2, if_neg (by omega)]
  · have e1 : ((wr.alloc o).setCell ⟨ra, i, none⟩ (.slice (some ⟨wr.heap.size, 0, none⟩) m m)).heap.size = (wr.alloc o).heap.size := by simp
    have e2 : (wr.alloc o).heap.size = wr.heap.size + 1 := Go.Deep.nblk_alloc _ _
    rw [e1, e2, hsz]
    omega
theorem TabW.drew (h : TabW w gb ra n m e L R A cp j i wr) : TabW w gb ra n m e L R A cp j i wr.drew := ⟨h.rows.drew, fun v hv => (h.row v hv).drew, h.at_, h.g, below_drew h.below, h.size, h.lo⟩
theorem TabW.next (h : TabW w gb ra n m e L R A cp (i + 1) i wr) (hr : wr.rowIs (ra + 2 + i) 3 m (fun _ => .int .i64 (-1))) : TabW w gb ra n m e L R A cp (i + 1) (i + 1) wr :=
  ⟨h.rows, fun u hu => by
    by_cases e : u = i
    · rw [e]; exact hr
    · exact h.row u (by omega), h.at_, h.g, h.below, h.size, h.lo⟩
end
set_option maxHeartbeats 8000000 in
set_option maxRecDepth 100000 in
theorem col_calls (L R : Int) (E : List (Int × Int)) (A : Option Addr) (c : Nat) (r : List Int × Int) (w : World) (hE : kE.C w A E.length E) (hc : E.length ≤ c) (h : colF L R E = some r) :
    Calls Try.prog 38 #[.agg #[.int .i64 L, .int .i64 R, .slice A E.length c]] w (ColPost w r) := by
  have hm := Kd.C_max hE
  have HE := Aside0.mk hE
  clear hE
  obtain ⟨q, hq⟩ : ∃ q, chk L R E = q := ⟨_, rfl⟩
  have HR := Aside0.mk h
  have HQ := Aside0.mk hq
  clear h hq
  go_enter Try.func38, Try.ntmps38
  go_wp2_with fail
  obtain ⟨n, hn⟩ : ∃ n, n = (L + R).toNat := ⟨_, rfl⟩
  obtain ⟨m, hmm⟩ : ∃ m, m = (degF L E (fun _ => 0) 0).toNat := ⟨_, rfl⟩
  have HN := Aside0.mk hn
  have HM := Aside0.mk hmm
  clear hn hmm
  refine scope_jumps 0 (ColJ w L R E A c n m r) (fun a _ => (E.length - slotInt a 18).toNat) rfl ?_ ?_
  · rintro a wr ⟨gb, gd, pa, ra, po, ro, pe, rb, i, k, T, O, ⟨u, rfl⟩, i0, i1, hl, hs, hb, hok, hm1, he1, hr⟩
    unfold colFrame
    generalize u 7 = u7
    generalize u 8 = u8
    generalize u 9 = u9
    generalize u 10 = u10
    generalize u 12 = u12
    generalize u 13 = u13
    generalize u 19 = u19
    generalize u 20 = u20
    generalize u 21 = u21
    generalize u 22 = u22
    generalize u 23 = u23
    generalize u 24 = u24
    generalize u 25 = u25
    generalize u 26 = u26
    generalize u 27 = u27
    generalize u 28 = u28
    generalize u 29 = u29
    generalize u 30 = u30
    generalize u 31 = u31
    generalize u 32 = u32
    generalize u 33 = u33
    generalize u 34 = u34
    generalize u 35 = u35
    generalize u 36 = u36
    generalize u 37 = u37
    generalize u 38 = u38
    generalize u 39 = u39
    generalize u 40 = u40
    generalize u 41 = u41
    generalize u 42 = u42
    generalize u 43 = u43
    generalize u 44 = u44
    generalize u 45 = u45
    generalize u 46 = u46
    generalize u 47 = u47
    generalize u 48 = u48
    generalize u 49 = u49
    generalize u 50 = u50
    generalize u 51 = u51
    generalize u 52 = u52
    generalize u 53 = u53
    generalize u 54 = u54
    generalize u 55 = u55
    generalize u 56 = u56
    generalize u 57 = u57
    generalize u 58 = u58
    generalize u 59 = u59
    generalize u 60 = u60
    generalize u 61 = u61
    generalize u 62 = u62
    generalize u 63 = u63
    generalize u 64 = u64
    generalize u 65 = u65
    generalize u 66 = u66
    generalize u 67 = u67
    generalize u 68 = u68
    generalize u 69 = u69
    generalize u 70 = u70
    generalize u 71 = u71
    generalize u 72 = u72
    generalize u 73 = u73
    generalize u 74 = u74
    generalize u 75 = u75
    generalize u 76 = u76
    generalize u 77 = u77
    generalize u 78 = u78
    generalize u 79 = u79
    generalize u 80 = u80
    generalize u 81 = u81
    generalize u 82 = u82
    generalize u 83 = u83
    generalize u 84 = u84
    generalize u 85 = u85
    generalize u 86 = u86
    generalize u 87 = u87
    generalize u 88 = u88
    generalize u 89 = u89
    generalize u 90 = u90
    generalize u 91 = u91
    generalize u 92 = u92
    generalize u 93 = u93
    generalize u 94 = u94
    generalize u 95 = u95
    generalize u 96 = u96
    generalize u 97 = u97
    generalize u 98 = u98
    generalize u 99 = u99
    generalize u 100 = u100
    generalize u 101 = u101
    generalize u 102 = u102
    generalize u 103 = u103
    generalize u 104 = u104
    generalize u 105 = u105
    generalize u 106 = u106
    generalize u 107 = u107
    generalize u 108 = u108
    generalize u 109 = u109
    generalize u 110 = u110
    generalize u 111 = u111
    generalize u 112 = u112
    generalize u 113 = u113
    generalize u 114 = u114
    generalize u 115 = u115
    generalize u 116 = u116
    generalize u 117 = u117
    generalize u 118 = u118
    generalize u 119 = u119
    generalize u 120 = u120
    generalize u 121 = u121
    generalize u 122 = u122
    generalize u 123 = u123
    generalize u 124 = u124
    generalize u 125 = u125
    generalize u 126 = u126
    generalize u 127 = u127
    generalize u 128 = u128
    generalize u 129 = u129
    generalize u 130 = u130
    generalize u 131 = u131
    generalize u 132 = u132
    generalize u 133 = u133
    generalize u 134 = u134
    generalize u 135 = u135
    generalize u 136 = u136
    generalize u 137 = u137
    generalize u 138 = u138
    generalize u 139 = u139
    generalize u 140 = u140
    generalize u 141 = u141
    generalize u 142 = u142
    generalize u 143 = u143
    generalize u 144 = u144
    generalize u 145 = u145
    generalize u 146 = u146
    generalize u 147 = u147
    generalize u 148 = u148
    generalize u 149 = u149
    generalize u 150 = u150
    generalize u 151 = u151
    generalize u 152 = u152
    clear u
    have LL := Aside0.mk hl
    have HS := Aside0.mk hs
    have HB := Aside0.mk hb
    have OK := Aside0.mk hok
    have g2 := hs.cG.2.2
    clear hl hs hb hok HQ HR HN HM
    by_cases hlt : i < E.length
    · cases k with
      | zero => exact absurd hr (by simp [mainF])
      | succ k =>
        unfold mainF at hr
        rw [if_pos hlt] at hr
        have hx := OK.out.2.2.2 i i0 hlt
        have hends := ends_at E wr i HS.out (Kd.C_below HE.out HB.out) i0 hlt OK.out
        obtain ⟨x, hxx⟩ : ∃ x, eX E i = x := ⟨_, rfl⟩
        obtain ⟨y, hyy⟩ : ∃ y, eY L E i = y := ⟨_, rfl⟩
        rw [hxx, hyy] at hx hends hr
        clear hxx hyy
        cases ha : missF m (T x) (2 * E.length + 5) 0 with
        | none => rw [ha] at hr; exact absurd hr (by simp)
        | some a =>
        cases hb : missF m (T y) (2 * E.length + 5) 0 with
        | none => rw [ha, hb] at hr; exact absurd hr (by simp)
        | some b =>
        rw [ha, hb] at hr
        simp only [Option.bind_some] at hr
        have hra := missF_rng ha (by omega)
        have hrb := missF_rng hb (by omega)
        have x0 : 0 ≤ x := hx.1
        have x1 : x < n := by omega
        have y0 : 0 ≤ y := by omega
        have y1 : y < n := hx.2.2.2.1
        have xy : x ≠ y := by omega
        have a0 : 0 ≤ a := hra.1
        have a1 : a < m := hra.2
        have HA := Aside0.mk ha
        have HBb := Aside0.mk hb
        have HRB := Aside0.mk hrb
        have HX := Aside0.mk hx
        have HC := Aside0.mk hends
        have cE := HS.out.cE
        have nxy : rb x ≠ rb y := fun h => xy (LL.out.dd x y x0 x1 y0 y1 h)
        have nyx := nxy.symm
        clear ha hb hra hrb hx hends
        by_cases hab : a = b
        · rw [if_pos hab] at hr
          have HR := Aside0.mk hr
          have hab1 : (a != b) = false := by simpa using hab
          have HAB := Aside0.mk hab
          clear hr hab
          go_wp2_with (first | (go_at_call 47; refine HC.out.mono ?_; rintro e1 w1 ⟨rfl, hd⟩; have HS1 : Aside0 (St n m E.length gb pa ra po ro pe rb L R A c T O w1) := ⟨by obtain ⟨nd, rfl⟩ := hd; exact HS.out.drewN nd⟩; have HB1 : Aside0 (Below w.heap.size w w1) := ⟨by obtain ⟨nd, rfl⟩ := hd; exact pw_below_drewN HB.out nd⟩; clear hd cE g2) | (go_at_call_of 48 (Value.int .i64 x); refine (missing_calls w1 x (2 * E.length + 5) a HS1.out x0 x1 hm1 HA.out).mono ?_; rintro e2 w2 ⟨rfl, hd⟩; have HS2 : Aside0 (St n m E.length gb pa ra po ro pe rb L R A c T O w2) := ⟨by obtain ⟨nd, rfl⟩ := hd; exact HS1.out.drewN nd⟩; have HB2 : Aside0 (Below w.heap.size w w2) := ⟨by obtain ⟨nd, rfl⟩ := hd; exact pw_below_drewN HB1.out nd⟩; clear hd) | (go_at_call_of 48 (Value.int .i64 y); refine (missing_calls w2 y (2 * E.length + 5) b HS2.out y0 y1 hm1 HBb.out).mono ?_; rintro e3 w3 ⟨rfl, hd⟩; have HS3 : Aside0 (St n m E.length gb pa ra po ro pe rb L R A c T O w3) := ⟨by obtain ⟨nd, rfl⟩ := hd; exact HS2.out.drewN nd⟩; have HB3 : Aside0 (Below w.heap.size w w3) := ⟨by obtain ⟨nd, rfl⟩ := hd; exact pw_below_drewN HB2.out nd⟩; clear hd))
          have cA := HS3.out.cA
          have cX := HS3.out.cR x x0 x1
          have cY := HS3.out.cR y y0 y1
          have tX := HS3.out.cT x a x0 x1 a0 a1
          have tY := HS3.out.cT y a y0 y1 a0 a1
          have fX := HS3.out.fT x a x0 x1
          have fY := HS3.out.fT y a y0 y1
          clear xy
          go_wp2
          go_region
          clear cA cX cY tX tY fX fY
          have HS4 : Aside0 (St n m E.length gb pa ra po ro pe rb L R A c (upd (upd T x a i) y a i) O ((w3.setCell ⟨rb x, a.toNat, none⟩ (.int .i64 i)).setCell ⟨rb y, a.toNat, none⟩ (.int .i64 i))) := ⟨(HS3.out.put LL.out x a i x0 x1 a0).put LL.out y a i y0 y1 a0⟩
          have HB4 : Aside0 (Below w.heap.size w ((w3.setCell ⟨rb x, a.toNat, none⟩ (.int .i64 i)).setCell ⟨rb y, a.toNat, none⟩ (.int .i64 i))) := ⟨below_set (below_set (HB3.out) (LL.out.bb.2 x x0 x1)) (LL.out.bb.2 y y0 y1)⟩
          generalize (w3.setCell ⟨rb x, a.toNat, none⟩ (.int .i64 i)).setCell ⟨rb y, a.toNat, none⟩ (.int .i64 i) = w4 at *
          have cO := HS4.out.cO
          have cOut := HS4.out.cOut i i0 hlt
          have fO := HS4.out.fO i
          have hi1 : i + 1 ≤ E.length := by omega
          have hw1 : wrap64 (i + 1) = i + 1 := by unfold wrap64; omega
          go_wp2
          go_step3
          refine ⟨rfl, ⟨gb, gd, pa, ra, po, ro, pe, rb, i + 1, k, _, _, frame_u _ (by first | rfl | (rw [hw1]; rfl)), by omega, hi1, LL.out, (HS4.out.putO LL.out i a i0).same (fun k hk => rfl), below_drew (below_set HB4.out LL.out.bb.1), OK.out, hm1, he1, HR.out⟩, ?_⟩
          simp [slotInt]
          omega
        · rw [if_neg hab] at hr
          cases hf : flipF n m E.length (eX E) (eY L E) (2 * E.length + 5) T O y a b with
          | none => rw [hf] at hr; exact absurd hr (by simp)
          | some s =>
          rw [hf] at hr
          simp only [Option.bind_some] at hr
          obtain ⟨T3, O3⟩ := s
          have HR := Aside0.mk hr
          have HF := Aside0.mk hf
          have hab1 : (a != b) = true := by simpa using hab
          have HAB := Aside0.mk hab
          clear hr hf hab
          go_wp2_with (first | (go_at_call 47; refine HC.out.mono ?_; rintro e1 w1 ⟨rfl, hd⟩; have HS1 : Aside0 (St n m E.length gb pa ra po ro pe rb L R A c T O w1) := ⟨by obtain ⟨nd, rfl⟩ := hd; exact HS.out.drewN nd⟩; have HB1 : Aside0 (Below w.heap.size w w1) := ⟨by obtain ⟨nd, rfl⟩ := hd; exact pw_below_drewN HB.out nd⟩; clear hd cE g2) | (go_at_call_of 48 (Value.int .i64 x); refine (missing_calls w1 x (2 * E.length + 5) a HS1.out x0 x1 hm1 HA.out).mono ?_; rintro e2 w2 ⟨rfl, hd⟩; have HS2 : Aside0 (St n m E.length gb pa ra po ro pe rb L R A c T O w2) := ⟨by obtain ⟨nd, rfl⟩ := hd; exact HS1.out.drewN nd⟩; have HB2 : Aside0 (Below w.heap.size w w2) := ⟨by obtain ⟨nd, rfl⟩ := hd; exact pw_below_drewN HB1.out nd⟩; clear hd) | (go_at_call_of 48 (Value.int .i64 y); refine (missing_calls w2 y (2 * E.length + 5) b HS2.out y0 y1 hm1 HBb.out).mono ?_; rintro e3 wz ⟨rfl, hd⟩; have HSz : Aside0 (St n m E.length gb pa ra po ro pe rb L R A c T O wz) := ⟨by obtain ⟨nd, rfl⟩ := hd; exact HS2.out.drewN nd⟩; have HBz : Aside0 (Below w.heap.size w wz) := ⟨by obtain ⟨nd, rfl⟩ := hd; exact pw_below_drewN HB2.out nd⟩; clear hd) | (go_at_call 49; refine (flip_calls w E wz y a b (2 * E.length + 5) (T3, O3) LL.out HSz.out HE.out HBz.out OK.out hm1 (by omega) ⟨a0, a1, HRB.out.1, HRB.out.2⟩ HF.out).mono ?_; rintro e5 w3 ⟨rfl, hs5, hb5⟩; have HS5 := Aside0.mk hs5; have HB5 := Aside0.mk hb5; clear hs5 hb5))
          have cA := HS5.out.cA
          have cX := HS5.out.cR x x0 x1
          have cY := HS5.out.cR y y0 y1
          have tX := HS5.out.cT x a x0 x1 a0 a1
          have tY := HS5.out.cT y a y0 y1 a0 a1
          have fX := HS5.out.fT x a x0 x1
          have fY := HS5.out.fT y a y0 y1
          clear xy
          go_wp2
          go_region
          clear cA cX cY tX tY fX fY
          have HS4 : Aside0 (St n m E.length gb pa ra po ro pe rb L R A c (upd (upd T3 x a i) y a i) O3 ((w3.setCell ⟨rb x, a.toNat, none⟩ (.int .i64 i)).setCell ⟨rb y, a.toNat, none⟩ (.int .i64 i))) := ⟨(HS5.out.put LL.out x a i x0 x1 a0).put LL.out y a i y0 y1 a0⟩
          have HB4 : Aside0 (Below w.heap.size w ((w3.setCell ⟨rb x, a.toNat, none⟩ (.int .i64 i)).setCell ⟨rb y, a.toNat, none⟩ (.int .i64 i))) := ⟨below_set (below_set (HB5.out) (LL.out.bb.2 x x0 x1)) (LL.out.bb.2 y y0 y1)⟩
          generalize (w3.setCell ⟨rb x, a.toNat, none⟩ (.int .i64 i)).setCell ⟨rb y, a.toNat, none⟩ (.int .i64 i) = w4 at *
          have cO := HS4.out.cO
          have cOut := HS4.out.cOut i i0 hlt
          have fO := HS4.out.fO i
          have hi1 : i + 1 ≤ E.length := by omega
          have hw1 : wrap64 (i + 1) = i + 1 := by unfold wrap64; omega
          go_wp2
          go_step3
          refine ⟨rfl, ⟨gb, gd, pa, ra, po, ro, pe, rb, i + 1, k, _, _, frame_u _ (by first | rfl | (rw [hw1]; rfl)), by omega, hi1, LL.out, (HS4.out.putO LL.out i a i0).same (fun k hk => rfl), below_drew (below_set HB4.out LL.out.bb.1), OK.out, hm1, he1, HR.out⟩, ?_⟩
          simp [slotInt]
          omega
    · have hie : i = E.length := by omega
      subst hie
      have hb1 : decide ((E.length : Int) < (E.length : Int)) = false := by simp
      cases k with
      | zero => exact absurd hr (by simp [mainF])
      | succ k =>
        unfold mainF at hr
        rw [if_neg hlt] at hr
        obtain rfl := Option.some.inj hr
        have cO := HS.out.cO
        clear hlt hr
        go_wp2
        simp only [Exit.jump]
        go_ret2
        refine ⟨.slice (some ⟨ro, 0, none⟩) E.length E.length, rfl, ?_, HB.out⟩
        have := (row_of HS.out.orow).R (base := w.heap.size) (ok := fun _ => True) LL.out.bb.1 (by simp; omega) trivial
        simpa using this
  · intro hpass
    go_wp2_with fail
    have kb := blk_new w (.cells #[Value.int IntKind.i64 L, Value.int IntKind.i64 R, Value.slice A E.length c] 33)
    have bel := below_alloc (Below.refl w.heap.size w) (.cells #[Value.int IntKind.i64 L, Value.int IntKind.i64 R, Value.slice A E.length c] 33)
    have HE1 := Aside0.mk (Kd.C_below HE.out bel)
    refine (check_any L R E A c _ HE1.out hc).mono ?_
    rintro e w1 ⟨rfl, b1⟩
    rw [HQ.out]
    replace kb := blk_below kb b1
    replace bel := below_step bel b1
    clear b1 HE1
    obtain ⟨gb, hgb⟩ : ∃ gb, w.heap.size = gb := ⟨_, rfl⟩
    rw [hgb] at kb
    have g0 : w1.cell? ⟨gb, 0, none⟩ = some (.int .i64 L) := (blk_cell kb 0).trans rfl
    have g1 : w1.cell? ⟨gb, 1, none⟩ = some (.int .i64 R) := (blk_cell kb 1).trans rfl
    have g2 : w1.cell? ⟨gb, 2, none⟩ = some (.slice A E.length c) := (blk_cell kb 2).trans rfl
    rw [hgb]
    by_cases hq0 : q = 0
    case neg =>
      have hb : (q != 0) = true := by simpa using hq0
      have h1 := HR.out
      unfold colF at h1
      rw [HQ.out, if_neg hq0] at h1
      cases h1
      have HX := Aside0.mk hq0
      have HBL := Aside0.mk bel
      clear hq0 bel
      go_wp2
      simp only [Exit.jump]
      go_ret2
      exact ⟨.slice none 0 0, rfl, Kd.R_nil _ _ _ _ _, HBL.out⟩
    subst hq0
    have h1 := HR.out
    unfold colF at h1
    rw [HQ.out, if_pos rfl] at h1
    replace HR := Aside0.mk h1
    clear h1
    have hLR : 0 ≤ L ∧ L ≤ 1024 ∧ 0 ≤ R ∧ R ≤ 1024 ∧ E.length ≤ 65536 := by
      have h := HQ.out
      unfold chk at h
      split at h
      · omega
      · split at h
        · omega
        · omega
    have hn : L + R = n := by have := HN.out; omega
    have HLR := Aside0.mk hLR
    obtain ⟨l0, l1, r0, r1, el⟩ := hLR
    have hmk := run_make_row' (P := Try.prog) 29 3 (.int .i64 0) 8 Try.underlying29 info3 rfl .i64 .i64 n (by omega) (by omega)
    have hmk0 := run_make_row' (P := Try.prog) 69 29 (.slice none 0 0) 24 Try.underlying69 info29 rfl .i64 .i64 n (by omega) (by omega)
    rw [← hn] at hmk hmk0
    obtain ⟨gd, hgd⟩ : ∃ gd, w1.heap.size = gd := ⟨_, rfl⟩
    have rd0 := World.rowIs_made w1 (.int .i64 0) n 3
    have kb1 := blk_alloc kb (.cells (madeCells #[.int .i64 0] n) 3)
    have bel1 := below_alloc bel (.cells (madeCells #[.int .i64 0] n) 3)
    have lgd := blk_lt kb
    rw [hgd] at rd0 lgd
    have HGD := Aside0.mk lgd
    have HNN := Aside0.mk hn
    have HGB := Aside0.mk hgb
    clear lgd hn hgb
    have g0' : (w1.alloc (.cells (madeCells #[.int .i64 0] n) 3)).cell? ⟨gb, 2, none⟩ = some (.slice A E.length c) := (blk_cell kb1 2).trans rfl
    go_wp2_with fail
    have hok : EndsOK L n E.length E := by
      refine ⟨l0, l1, by have := HNN.out; omega, fun j j0 j1 => ?_⟩
      have h := HQ.out
      unfold chk at h
      split at h
      · omega
      · split at h
        · omega
        · have := chkGo_rng' L R E none h (rdE E j) (by unfold rdE; rw [List.getD_eq_getElem?_getD, List.getElem?_eq_getElem (by omega)]; exact List.getElem_mem _)
          unfold eX eY
          have h2 := HNN.out
          omega
    have OK := Aside0.mk hok
    generalize w1.alloc (.cells (madeCells #[.int .i64 0] n) 3) = W4 at *
    clear hgd kb bel g0 g1 g2 hok
    obtain ⟨M, hM⟩ : ∃ M, degF L E (fun _ => 0) 0 = M := ⟨_, rfl⟩
    have HMM := Aside0.mk hM
    rw [hM] at HM HR
    clear hM
    go_loopg [6, 37] (E.length + 1) (fun kq v6 v37 wr => ∃ (i mo : Int) (D : Int → Int), v6 = .int .i64 mo ∧ v37 = .int .i64 i ∧ Aside0 (0 ≤ i ∧ i ≤ E.length ∧ (E.length : Int) < i + kq ∧ degF L (E.drop i.toNat) D mo = M ∧ (∀ v, 0 ≤ D v ∧ D v ≤ 2 * i) ∧ 0 ≤ mo ∧ mo ≤ 2 * i) ∧ Aside0 (wr.rowIs gd 3 n (fun v => .int .i64 (D v))) ∧ Aside0 (Below w.heap.size w wr ∧ wr.heap[gb]? = some (.cells #[.int .i64 L, .int .i64 R, .slice A E.length c] 33 (0, 0))))
    case atStart => exact ⟨0, 0, fun _ => 0, rfl, rfl, ⟨by omega, by omega, by omega, by simpa using HMM.out, fun v => ⟨by simp, by simp⟩, by omega, by omega⟩, ⟨rd0⟩, ⟨bel1, kb1⟩⟩
    case round =>
      clear rd0 bel1 kb1 g0'
      obtain ⟨i, mo, D, rfl, rfl, HA, HD, HW⟩ := hrel
      have i0 : 0 ≤ i := HA.out.1
      by_cases hlt : i < E.length
      · obtain ⟨ad, eA, hx0, hx1⟩ := at_E (Kd.C_below HE.out HW.out.1) i i0 hlt
        subst eA
        have hdr : E.drop i.toNat = rdE E i :: E.drop (i + 1).toNat := by
          rw [show (i + 1).toNat = i.toNat + 1 by omega, List.drop_eq_getElem_cons (by omega)]
          unfold rdE
          rw [List.getD_eq_getElem?_getD, List.getElem?_eq_getElem (by omega)]
          rfl
        have hg := OK.out.2.2.2 i i0 hlt
        unfold eX eY at hg
        have hdeg := HA.out.2.2.2.1
        rw [hdr] at hdeg
        unfold degF at hdeg
        obtain ⟨x, hX⟩ : ∃ x, rdE E i = x := ⟨_, rfl⟩
        rw [hX] at hx0 hx1 hg hdeg
        obtain ⟨x0, x1⟩ := x
        simp only at hx0 hx1 hg hdeg
        have HG := Aside0.mk hdeg
        have hgb2 := HW.out.2
        have c0 : wr.cell? ⟨gb, 0, none⟩ = some (.int .i64 L) := (blk_cell hgb2 0).trans rfl
        clear hX hdr hdeg
        have ngx : gb ≠ wr.heap.size := Nat.ne_of_lt (blk_lt hgb2)
        have ngx2 := ngx.symm
        go_wp2_with ((with_reducible refine gate_dst (N := 8) rfl ?_); refine box_event ?hg (N := 8) ?hd (cs := #[.int .i64 0, .int .i64 0]) (t := 40) ?hr ?_; (case hd => rfl); (case hg => rfl); (case hr => first | (go_simp; done) | (go_simp; rfl)); intro gx hgx w5 hbox hb; (try have z0 : w5.cell? ⟨gx, 0, none⟩ = some (.int .i64 0) := (blk_cell hbox 0).trans rfl); (try have z1 : w5.cell? ⟨gx, 1, none⟩ = some (.int .i64 0) := (blk_cell hbox 1).trans rfl); (try have f0 := blk_frozen hbox 0); (try have f1 := blk_frozen hbox 1); (try have k0 : w5.cell? ⟨gb, 0, none⟩ = some (.int .i64 L) := (blk_cell (blk_below hgb2 hb) 0).trans rfl); (try have ngy : gb ≠ gx := by (rw [hgx]; exact Nat.ne_of_lt (blk_lt hgb2))); (try have ngy2 := ngy.symm); (try have HBX := Aside0.mk hbox); (try have HB5 := Aside0.mk hb); (try have HGX := Aside0.mk hgx); (try clear hbox hb hgx c0))
        have gxw : w.heap.size ≤ gx := by rw [HGX.out]; exact HW.out.1.size
        have gdx : gd ≠ gx := by rw [HGX.out]; exact Nat.ne_of_lt HD.out.lt
        have HD6 := Aside0.mk ((((HD.out.of_block (HB5.out.block gd HD.out.lt)).setOther (a := ⟨gx, 0, none⟩) gdx (.int .i64 x0)).setOther (a := ⟨gx, 1, none⟩) gdx (.int .i64 x1)).alloc (.cells #[.int .i64 x0, .int .i64 (L + x1)] 3))
        have HG6 := Aside0.mk (blk_alloc (blk_far (p := ⟨gx, 1, none⟩) (blk_far (p := ⟨gx, 0, none⟩) (blk_below hgb2 HB5.out) ngy (.int .i64 x0)) ngy (.int .i64 x1)) (.cells #[.int .i64 x0, .int .i64 (L + x1)] 3))
        have HB6 : Aside0 (Below w.heap.size w (((w5.setCell ⟨gx, 0, none⟩ (.int .i64 x0)).setCell ⟨gx, 1, none⟩ (.int .i64 x1)).alloc (.cells #[.int .i64 x0, .int .i64 (L + x1)] 3))) := ⟨below_alloc (below_set (below_set (below_step HW.out.1 HB5.out) gxw) gxw) _⟩
        have HR6 : Aside0 (Row (((w5.setCell ⟨gx, 0, none⟩ (.int .i64 x0)).setCell ⟨gx, 1, none⟩ (.int .i64 x1)).alloc (.cells #[.int .i64 x0, .int .i64 (L + x1)] 3)) w5.heap.size [x0, L + x1]) := ⟨by
          have := blk_new ((w5.setCell ⟨gx, 0, none⟩ (.int .i64 x0)).setCell ⟨gx, 1, none⟩ (.int .i64 x1)) (.cells #[.int .i64 x0, .int .i64 (L + x1)] 3)
          simpa [Row] using this⟩
        generalize ((w5.setCell ⟨gx, 0, none⟩ (.int .i64 x0)).setCell ⟨gx, 1, none⟩ (.int .i64 x1)).alloc (.cells #[.int .i64 x0, .int .i64 (L + x1)] 3) = W6 at *
        have hgq : gd < w5.heap.size := Nat.lt_of_lt_of_le HD.out.lt HB5.out.size
        generalize w5.heap.size = gq at *
        have HGQ := Aside0.mk hgq
        clear hgq
        have HLT := Aside0.mk hlt
        obtain ⟨g1, hg1⟩ : ∃ g1, gk = g1 + 1 := ⟨gk - 1, by have := HA.out.2.2.1; omega⟩
        subst hg1
        clear z0 z1 f0 f1 k0 HBX HB5 HGX hx0 hx1 hgb2 ngx ngx2 ngy ngy2 gdx gxw HD HW
        go_loopg [6, 50] 3 (fun kq v6 v50 wv => ∃ (s mo' : Int) (D' : Int → Int), v6 = .int .i64 mo' ∧ v50 = .int .i64 s ∧ Aside0 (0 ≤ s ∧ s ≤ 2 ∧ 2 < s + kq ∧ degS ([x0, L + x1].drop s.toNat) D' mo' = degS [x0, L + x1] D mo ∧ (∀ v, 0 ≤ D' v ∧ D' v ≤ 2 * i + s) ∧ 0 ≤ mo' ∧ mo' ≤ 2 * i + s) ∧ Aside0 (wv.rowIs gd 3 n (fun v => .int .i64 (D' v))) ∧ Aside0 (Below w.heap.size w wv ∧ wv.heap[gb]? = some (.cells #[.int .i64 L, .int .i64 R, .slice (some ad) E.length c] 33 (0, 0)) ∧ Row wv gq [x0, L + x1]))
        case atStart => exact ⟨0, mo, D, rfl, rfl, ⟨by omega, by omega, by omega, by simp, fun v => by have := HA.out.2.2.2.2.1 v; omega, by have := HA.out.2.2.2.2.2; omega, by have := HA.out.2.2.2.2.2; omega⟩, HD6, ⟨HB6.out, HG6.out, HR6.out⟩⟩
        case round =>
          clear HD6 HB6 HG6 HR6
          obtain ⟨s, mo', D', rfl, rfl, HA2, HD, HW⟩ := hrel
          have s0 : 0 ≤ s := HA2.out.1
          by_cases hs : s < 2
          · have cq := HW.out.2.2.cell s s0 (by simp; omega)
            have hds : [x0, L + x1].drop s.toNat = rd [x0, L + x1] s :: [x0, L + x1].drop (s + 1).toNat := by
              rw [show (s + 1).toNat = s.toNat + 1 by omega, List.drop_eq_getElem_cons (by simp; omega)]
              unfold rd
              rw [List.getD_eq_getElem?_getD, List.getElem?_eq_getElem (by simp; omega)]
              rfl
            have hrv : 0 ≤ rd [x0, L + x1] s ∧ rd [x0, L + x1] s < n := by
              have : s = 0 ∨ s = 1 := by omega
              rcases this with rfl | rfl
              · show 0 ≤ x0 ∧ x0 < (n : Int); omega
              · show 0 ≤ L + x1 ∧ L + x1 < (n : Int); omega
            have hdg : degS ([x0, L + x1].drop (s + 1).toNat) (updO D' (rd [x0, L + x1] s) (D' (rd [x0, L + x1] s) + 1)) (if mo' < D' (rd [x0, L + x1] s) + 1 then D' (rd [x0, L + x1] s) + 1 else mo') = degS [x0, L + x1] D mo := by
              have := HA2.out.2.2.2.1
              rw [hds] at this
              exact this
            obtain ⟨v, hv⟩ : ∃ v, rd [x0, L + x1] s = v := ⟨_, rfl⟩
            rw [hv] at cq hdg hrv
            obtain ⟨v0, v1⟩ := hrv
            have hDv := HA2.out.2.2.2.2.1 v
            have hmo := HA2.out.2.2.2.2.2
            have hil : i ≤ 65536 := by have := HA.out.2.1; omega
            have cd := HD.out.cell (i := v.toNat) (by omega)
            rw [show ((v.toNat : Nat) : Int) = v by omega] at cd
            have fd := HD.out.frozen v.toNat
            have hlen : decide (s < 2) = true := by simpa using hs
            obtain ⟨dv, hdv⟩ : ∃ dv, D' v = dv := ⟨_, rfl⟩
            rw [hdv] at cd hdg hDv
            clear hds hv
            by_cases hmx : mo' < dv + 1
            · rw [if_pos hmx] at hdg
              have HDG := Aside0.mk hdg
              have HDV := Aside0.mk hdv
              clear hdg hdv
              go_wp2
              go_roundg (gk - 1)
              case measure => have := HA2.out.2.2.1; omega
              case rel =>
                refine ⟨s + 1, _, updO D' v (dv + 1), rfl, by go_num, ⟨by omega, by omega, by have := HA2.out.2.2.1; omega, HDG.out, fun z => ?_, by omega, by omega⟩, ⟨(HD.out.set v.toNat (.int .i64 (dv + 1))).congr fun j hj => ?_⟩, ⟨below_set HW.out.1 (by have := HGB.out; have := HGD.out; show w.heap.size ≤ gd; omega), blk_far HW.out.2.1 (by have := HGD.out; show gb ≠ gd; omega) _, HW.out.2.2.far (by have := HGQ.out; show gq ≠ gd; omega) _⟩⟩
                · have := HA2.out.2.2.2.2.1 z
                  unfold updO
                  by_cases e : z = v
                  · rw [if_pos e]; omega
                  · rw [if_neg e]; omega
                · unfold updO
                  by_cases e : j = v.toNat
                  · rw [if_pos e, if_pos (by omega)]
                  · rw [if_neg e, if_neg (by omega)]
            · rw [if_neg hmx] at hdg
              have HDG := Aside0.mk hdg
              have HDV := Aside0.mk hdv
              clear hdg hdv
              go_wp2
              go_roundg (gk - 1)
              case measure => have := HA2.out.2.2.1; omega
              case rel =>
                refine ⟨s + 1, _, updO D' v (dv + 1), rfl, by go_num, ⟨by omega, by omega, by have := HA2.out.2.2.1; omega, HDG.out, fun z => ?_, by omega, by omega⟩, ⟨(HD.out.set v.toNat (.int .i64 (dv + 1))).congr fun j hj => ?_⟩, ⟨below_set HW.out.1 (by have := HGB.out; have := HGD.out; show w.heap.size ≤ gd; omega), blk_far HW.out.2.1 (by have := HGD.out; show gb ≠ gd; omega) _, HW.out.2.2.far (by have := HGQ.out; show gq ≠ gd; omega) _⟩⟩
                · have := HA2.out.2.2.2.2.1 z
                  unfold updO
                  by_cases e : z = v
                  · rw [if_pos e]; omega
                  · rw [if_neg e]; omega
                · unfold updO
                  by_cases e : j = v.toNat
                  · rw [if_pos e, if_pos (by omega)]
                  · rw [if_neg e, if_neg (by omega)]
          · have hds : [x0, L + x1].drop s.toNat = [] := List.drop_eq_nil_of_le (by simp; omega)
            have hdg : (D', mo') = degS [x0, L + x1] D mo := by
              have := HA2.out.2.2.2.1
              rw [hds] at this
              exact this
            rw [← hdg] at HG
            have hs2 : s = 2 := by have := HA2.out.2.1; omega
            subst hs2
            have hd2 : decide ((2 : Int) < 2) = false := by simp
            have hil : i + 1 ≤ E.length := by have := HLT.out; omega
            clear hdg hs hds
            go_wp2
            go_roundg g1
            case measure => omega
            case rel => exact ⟨i + 1, mo', D', rfl, by go_num, ⟨by omega, by omega, by have := HA.out.2.2.1; omega, HG.out, fun z => by have := HA2.out.2.2.2.2.1 z; omega, by have := HA2.out.2.2.2.2.2; omega, by have := HA2.out.2.2.2.2.2; omega⟩, HD, ⟨HW.out.1, HW.out.2.1⟩⟩
      · have hie : i = E.length := by have := HA.out.2.1; omega
        subst hie
        have hmM : mo = M := by
          have h1 := HA.out.2.2.2.1
          rw [show (E.length : Int).toNat = E.length by omega, List.drop_length] at h1
          exact h1
        have hmo : mo = m := by
          have := HM.out
          have := HA.out.2.2.2.2.2
          omega
        have HMm : Aside0 (M = m) := ⟨by omega⟩
        subst hmo
        clear hmM
        have hm1 : m ≤ 131072 := by have := HA.out.2.2.2.2.2; omega
        have hb1 : decide ((E.length : Int) < (E.length : Int)) = false := by simp
        have hg2 := HW.out.2
        have c0 : wr.cell? ⟨gb, 0, none⟩ = some (.int .i64 L) := (blk_cell hg2 0).trans rfl
        have c1 : wr.cell? ⟨gb, 1, none⟩ = some (.int .i64 R) := (blk_cell hg2 1).trans rfl
        have BEL := Aside0.mk HW.out.1
        have HG2 := Aside0.mk hg2
        have hmk2 := run_make_row' (P := Try.prog) 29 3 (.int .i64 0) 8 Try.underlying29 info3 rfl .i64 .i64 m (by omega) (by omega)
        have hmk3 := run_make_row' (P := Try.prog) 29 3 (.int .i64 0) 8 Try.underlying29 info3 rfl .i64 .i64 E.length (by omega) (by omega)
        clear hmk hlt HA HD HW hg2
        go_wp2_with fail
        obtain ⟨ra, hra⟩ : ∃ ra, wr.heap.size = ra := ⟨_, rfl⟩
        have HT : Aside0 (TabW w gb ra n m E.length L R A c 0 0 ((wr.alloc (.cells (madeCells #[.slice none 0 0] n) 29)).alloc (.cells #[.slice (some ⟨wr.heap.size, 0, none⟩) n n] 69))) := ⟨by
          have b1 := blk_new (wr.alloc (.cells (madeCells #[.slice none 0 0] n) 29)) (.cells #[.slice (some ⟨wr.heap.size, 0, none⟩) n n] 69)
          have e2 : (wr.alloc (.cells (madeCells #[.slice none 0 0] n) 29)).heap.size = ra + 1 := by rw [Go.Deep.nblk_alloc, hra]
          rw [e2, hra] at b1
          have r1 := (World.rowIs_made wr (.slice none 0 0) n 29).alloc (.cells #[.slice (some ⟨wr.heap.size, 0, none⟩) n n] 69)
          rw [hra] at r1 ⊢
          refine ⟨r1.congr fun v hv => by rw [if_neg (by omega)], fun v hv => by omega, b1, blk_alloc (blk_alloc HG2.out _) _, below_alloc (below_alloc BEL.out _) _, ?_, by have := HGB.out; omega, by rw [← hra]; exact blk_lt HG2.out⟩
          rw [Go.Deep.nblk_alloc, Go.Deep.nblk_alloc, hra]⟩
        rw [hra]
        rw [hra] at HT
        generalize (wr.alloc (.cells (madeCells #[.slice none 0 0] n) 29)).alloc (.cells #[.slice (some ⟨ra, 0, none⟩) n n] 69) = W7 at *
        clear c0 c1 hra BEL HG2 hmk0
        go_loopg [76] (n + 1) (fun kq v76 wr => ∃ i : Nat, v76 = .int .i64 i ∧ Aside0 (i ≤ n ∧ n < i + kq) ∧ Aside0 (TabW w gb ra n m E.length L R A c i i wr))
        case atStart => exact ⟨0, rfl, ⟨by omega, by omega⟩, HT⟩
        case round =>
          clear HT
          obtain ⟨i, rfl, HA, HT⟩ := hrel
          by_cases hlt : (i : Int) < n
          · have hin : i < n := by omega
            have cA : wr.cell? ⟨ra + 1, 0, none⟩ = some (.slice (some ⟨ra, 0, none⟩) n n) := (blk_cell HT.out.at_ 0).trans rfl
            have cR := HT.out.rows.cell hin
            rw [if_neg (by omega)] at cR
            have fR := HT.out.rows.frozen i
            have hti : ((i : Nat) : Int).toNat = i := by omega
            have i0 : (0 : Int) ≤ i := by omega
            have nra : ra ≠ ra + 1 := by omega
            have cA2 : (wr.alloc (.cells (madeCells #[.int .i64 0] m) 3)).cell? ⟨ra + 1, 0, none⟩ = some (.slice (some ⟨ra, 0, none⟩) n n) := (blk_cell (blk_alloc HT.out.at_ _) 0).trans rfl
            have cR2 := (HT.out.rows.alloc (.cells (madeCells #[.int .i64 0] m) 3)).cell hin
            rw [if_neg (by omega)] at cR2
            have fR2 := (HT.out.rows.alloc (.cells (madeCells #[.int .i64 0] m) 3)).frozen i
            go_wp2
            go_region
            go_wp2_with fail
            have HT8 := Aside0.mk (HT.out.hang (.cells (madeCells #[.int .i64 0] m) 3)).drew
            have HR8 := Aside0.mk (((World.rowIs_made wr (.int .i64 0) m 3).setOther (a := ⟨ra, i, none⟩) (by have := HT.out.size; show wr.heap.size ≠ ra; omega) (.slice (some ⟨wr.heap.size, 0, none⟩) m m)).drew)
            generalize (((wr.alloc (.cells (madeCells #[.int .i64 0] m) 3)).setCell ⟨ra, i, none⟩ (.slice (some ⟨wr.heap.size, 0, none⟩) m m)).drew) = W8 at *
            obtain ⟨q, hq⟩ : ∃ q, wr.heap.size = q := ⟨_, rfl⟩
            have hq2 : q = ra + 2 + i := by rw [← hq]; exact HT.out.size
            rw [hq] at HR8 ⊢
            have HQ2 := Aside0.mk hq2
            obtain ⟨g1, hg1⟩ : ∃ g1, gk = g1 + 1 := ⟨gk - 1, by have := HA.out; omega⟩
            subst hg1
            have HIN := Aside0.mk hin
            clear hq hq2 cA cR fR cA2 cR2 fR2 HT hlt hin
            go_loopg [89] (m + 1) (fun kq v89 wr => ∃ s : Nat, v89 = .int .i64 s ∧ Aside0 (s ≤ m ∧ m < s + kq) ∧ Aside0 (TabW w gb ra n m E.length L R A c (i + 1) i wr) ∧ Aside0 (wr.rowIs q 3 m (fun c => .int .i64 (if c < s then -1 else 0))))
            case atStart => exact ⟨0, rfl, ⟨by omega, by omega⟩, HT8, ⟨HR8.out.congr fun j hj => by rw [if_neg (by omega)]⟩⟩
            case round =>
              clear HT8 HR8
              obtain ⟨s, rfl, HA2, HT, HR⟩ := hrel
              by_cases hlt : (s : Int) < m
              · have hsm : s < m := by omega
                have cA : wr.cell? ⟨ra + 1, 0, none⟩ = some (.slice (some ⟨ra, 0, none⟩) n n) := (blk_cell HT.out.at_ 0).trans rfl
                have cR := HT.out.rows.cell HIN.out
                rw [if_pos (by omega), ← HQ2.out] at cR
                have cS := HR.out.cell hsm
                have fS := HR.out.frozen s
                have hti2 : ((s : Nat) : Int).toNat = s := by omega
                have s0 : (0 : Int) ≤ s := by omega
                have hin2 : (i : Int) < n := by have := HIN.out; omega
                go_wp2
                go_roundg (gk - 1)
                case measure => have := HA2.out; omega
                case rel => exact ⟨s + 1, by go_num, ⟨by omega, by have := HA2.out; omega⟩, ⟨by rw [HQ2.out]; exact HT.out.far s _⟩, ⟨(HR.out.set s (.int .i64 (-1))).congr fun j hj => by
                  by_cases e : j = s
                  · rw [if_pos e, if_pos (by omega)]
                  · rw [if_neg e]
                    by_cases e2 : j < s
                    · rw [if_pos e2, if_pos (by omega)]
                    · rw [if_neg e2, if_neg (by omega)]⟩⟩
              · have hsm : s = m := by have := HA2.out; omega
                subst hsm
                have hd2 : decide ((s : Int) < (s : Int)) = false := by simp
                have hn2 := OK.out.2.2.1
                have hin3 := HIN.out
                clear hlt
                go_wp2
                go_roundg g1
                case measure => omega
                case rel => exact ⟨i + 1, by go_num, ⟨by have := HIN.out; omega, by have := HA.out; omega⟩, ⟨HT.out.next (by rw [← HQ2.out]; exact HR.out.congr fun j hj => by rw [if_pos hj])⟩⟩
          · have hin : i = n := by have := HA.out; omega
            subst hin
            have hd2 : decide ((i : Int) < (i : Int)) = false := by simp
            have c0 : wr.cell? ⟨gb, 2, none⟩ = some (.slice A E.length c) := (blk_cell HT.out.g 2).trans rfl
            have hgd : gb ≠ gd := by have := HGD.out; omega
            have hmf : ∀ (fn : Fn) (first cap : Array Value) (w : World), (Instr.makeFunc fn first cap).run Try.prog w = .ok (.func fn first cap) w := fun _ _ _ _ => rfl
            clear hlt
            go_wp2_with fail
            go_step3
            obtain ⟨Z, hZ⟩ : ∃ Z, wr.heap.size = Z := ⟨_, rfl⟩
            have hZ2 : Z = ra + 2 + i := by rw [← hZ]; exact HT.out.size
            have e1 : (wr.alloc (.cells (madeCells #[.int .i64 0] E.length) 3)).heap.size = Z + 1 := by rw [Go.Deep.nblk_alloc, hZ]
            have e2 : ((wr.alloc (.cells (madeCells #[.int .i64 0] E.length) 3)).alloc (.cells #[.slice (some ⟨Z, 0, none⟩) E.length E.length] 29)).heap.size = Z + 1 + 1 := by rw [Go.Deep.nblk_alloc, e1]
            have n1 := blk_alloc (blk_new (wr.alloc (.cells (madeCells #[.int .i64 0] E.length) 3)) (.cells #[.slice (some ⟨Z, 0, none⟩) E.length E.length] 29)) (.cells #[.func (.func 47) #[] #[.pointer (some ⟨gb, 0, none⟩)]] 77)
            have n2 := blk_new ((wr.alloc (.cells (madeCells #[.int .i64 0] E.length) 3)).alloc (.cells #[.slice (some ⟨Z, 0, none⟩) E.length E.length] 29)) (.cells #[.func (.func 47) #[] #[.pointer (some ⟨gb, 0, none⟩)]] 77)
            have n3 := ((World.rowIs_made wr (.int .i64 0) E.length 3).alloc (.cells #[.slice (some ⟨Z, 0, none⟩) E.length E.length] 29)).alloc (.cells #[.func (.func 47) #[] #[.pointer (some ⟨gb, 0, none⟩)]] 77)
            rw [e1] at n1
            rw [e2] at n2
            rw [hZ] at n3 ⊢
            have lo := HT.out.lo
            simp only [Exit.then]
            rename_i hK
            refine hK _ _ ?_
            refine hpass _ _ ?_
            refine ⟨gb, gd, ra + 1, ra, Z + 1, Z, Z + 1 + 1, fun v => ra + 2 + v.toNat, 0, E.length + 1, fun _ _ => -1, fun _ => 0, frame_u _ rfl, by omega, by omega, ⟨⟨by omega, fun v v0 v1 => by show w.heap.size ≤ ra + 2 + v.toNat; omega⟩, fun v v0 v1 => ⟨?_, ?_, ?_, ?_, ?_, ?_⟩, fun u v u0 u1 v0 v1 h => ?_, ?_⟩, ⟨blk_alloc (blk_alloc (blk_alloc HT.out.g _) _) _, blk_alloc (blk_alloc (blk_alloc HT.out.at_ _) _) _, (((HT.out.rows.alloc _).alloc _).alloc _).congr fun v hv => ?_, fun v v0 v1 => (((HT.out.row v.toNat (by omega)).alloc _).alloc _).alloc _, n1, n3, n2⟩, below_alloc (below_alloc (below_alloc HT.out.below _) _) _, OK.out, by omega, by omega, ?_⟩
            · show ra + 2 + v.toNat ≠ gb; omega
            · show ra + 2 + v.toNat ≠ ra + 1; omega
            · show ra + 2 + v.toNat ≠ ra; omega
            · show ra + 2 + v.toNat ≠ Z; omega
            · show ra + 2 + v.toNat ≠ Z + 1; omega
            · show ra + 2 + v.toNat ≠ Z + 1 + 1; omega
            · have h' : ra + 2 + u.toNat = ra + 2 + v.toNat := h
              omega
            · exact ⟨by omega, by omega, by omega, by omega, by omega⟩
            · rw [if_pos hv, show ((v : Nat) : Int).toNat = v by omega]
            · have := HR.out
              rw [HNN.out, HMm.out] at this
              exact this
end Go.Proofs.Ytlleokhmgblfnaa.H
end

section
namespace Go.Proofs.Ytlleokhmgblfnaa.M
open Go.RowKit Go.Proofs.YtlleokhmgblfnaaW.PrintWords
def match_Colours.f (a0_0 : Int) (a0_1 : Int) (l0_2 : List S40) : Option (List Int × Int) := H.colF a0_0 a0_1 (l0_2.map prE)
theorem match_Colours.calls (a0_0 : Int) (a0_1 : Int) (A0_2 : Option Addr) (c0_2 : Nat) (l0_2 : List (S40)) (r1 : List Int) (r2 : Int) (w : World) (hr0_2 : Kd.C k40 w A0_2 l0_2.length l0_2) (hc0_2 : l0_2.length ≤ c0_2) (h : match_Colours.f a0_0 a0_1 l0_2 = some (r1, r2)) :
    Calls Try.prog 38 #[.agg #[.int .i64 a0_0, .int .i64 a0_1, .slice A0_2 l0_2.length c0_2]] w fun e w' => ∃ v0_ : Value, e = .returned (.tuple #[v0_, .int .i64 r2]) ∧ Kd.R (Kd.int .i64) 3 w' w.heap.size (fun _ => True) v0_ r1 ∧ Below w.heap.size w w' := by
  unfold match_Colours.f at h
  have hk : H.kE.C w A0_2 l0_2.length (l0_2.map prE) := H.C_iso hr0_2
  have hl : (l0_2.map prE).length = l0_2.length := by simp
  rw [← hl] at hk hc0_2 ⊢
  exact H.col_calls a0_0 a0_1 (l0_2.map prE) A0_2 c0_2 (r1, r2) w hk hc0_2 h
end Go.Proofs.Ytlleokhmgblfnaa.M
end
