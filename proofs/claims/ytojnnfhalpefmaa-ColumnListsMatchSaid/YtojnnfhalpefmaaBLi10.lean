/- A part of the proof: texts of this seat joined (printed and by hand), without what is not used. -/
import Derived.Test.YtojnnfhalpefmaaBLi9
set_option linter.unusedVariables false
set_option linter.unusedSimpArgs false
set_option linter.unusedSectionVars false
section
namespace Go.Proofs.Ytojnnfhalpefmaa.M
open Go.RowKit Go.Proofs.YtojnnfhalpefmaaW.PrintWords Go.Proofs.YtojnnfhalpefmaaW.PrintLast Go.Proofs.YtojnnfhalpefmaaW.PrintMore
attribute [local go_sem] max2_int min2_int max_two min_two max_three min_three max_four min_four   -- for this text's walks alone
mutual
def torusref04_Basis.l0 : Nat → Int → List (List (S45)) → Int → List (List Int) → Int → Option ((List (List (S45))) × Int)
  | 0, _, _, _, _, _ => none
  | k + 1, x0, x1, x7, x8, x9 => if x9 < (x1.length : Int) then (if 0 ≤ x9 then ((torusref04_Vector.f k (rd_L2 x1 x9) x7).bind fun t587 => (if x8.length < 5864062014805 then (torusref04_Basis.l0 k x0 x1 x7 (x8 ++ [t587]) (wrap64 (x9 + 1))) else (none))) else (none)) else ((torusref04_reduced.f k x0 x8 x7).bind fun t593 => (torusref04_Basis.l1 k ([] : List (List (S45))) t593 (t593.length : Int) 0))
def torusref04_Basis.l1 : Nat → List (List (S45)) → List (List Int) → Int → Int → Option ((List (List (S45))) × Int)
  | 0, _, _, _, _ => none
  | k + 1, x10, x45, x46, x47 => if x47 < x46 then (if 0 ≤ x47 then (if x47 < (x45.length : Int) then ((torusref04_Sparse.f k (rd_L5 x45 x47)).bind fun t597 => (if x10.length < 5864062014805 then (torusref04_Basis.l1 k (x10 ++ [t597]) x45 x46 (wrap64 (x47 + 1))) else (none))) else (none)) else (none)) else (some (x10, 0))
end
def torusref04_Basis.f (k : Nat) (a0 : Int) (l1 : List (List (S45))) : Option ((List (List (S45))) × Int) := if (l1.length : Int) > 1024 then (some (([] : List (List (S45))), 3)) else ((torusref01_Prime.f k a0).bind fun t583 => (if t583 = true then ((torusref04_CheckAll.f k a0 l1).bind fun t584 => (if t584 = 0 then ((torusref04_Size.f k l1).bind fun t585 => (torusref04_Basis.l0 k a0 l1 t585 ([] : List (List Int)) 0)) else (some (([] : List (List (S45))), t584)))) else (some (([] : List (List (S45))), 8))))
theorem torusref04_Basis.mono_l : ∀ k, (∀ y0 y1 y2 y3 y4, LeO (torusref04_Basis.l0 k y0 y1 y2 y3 y4) (torusref04_Basis.l0 (k + 1) y0 y1 y2 y3 y4)) ∧ (∀ y0 y1 y2 y3, LeO (torusref04_Basis.l1 k y0 y1 y2 y3) (torusref04_Basis.l1 (k + 1) y0 y1 y2 y3))
  | 0 => ⟨fun _ _ _ _ _ r h => by simp [torusref04_Basis.l0] at h, fun _ _ _ _ r h => by simp [torusref04_Basis.l1] at h⟩
  | k + 1 => by
    obtain ⟨ih0, ih1⟩ := torusref04_Basis.mono_l k
    refine ⟨?_, ?_⟩
    · intro y0 y1 y2 y3 y4
      unfold torusref04_Basis.l0
      repeat' first
      | (with_reducible exact ih0 _ _ _ _ _)
      | (with_reducible exact ih1 _ _ _ _)
      | (with_reducible exact torusref01_Prime.mono _ _)
      | (with_reducible exact torusref04_CheckAll.mono _ _ _)
      | (with_reducible exact torusref04_Size.mono _ _)
      | (with_reducible exact torusref04_Sparse.mono _ _)
      | (with_reducible exact torusref04_Vector.mono _ _ _)
      | (with_reducible exact torusref04_reduced.mono _ _ _ _)
      | (with_reducible exact LeO.refl _)
      | (with_reducible exact LeO.none _)
      | (with_reducible refine LeO.ite ?_ ?_)
      | (with_reducible refine LeO.bind ?_ (fun _ => ?_))
      | exact ih0 _ _ _ _ _
      | exact ih1 _ _ _ _
      | exact torusref01_Prime.mono _ _
      | exact torusref04_CheckAll.mono _ _ _
      | exact torusref04_Size.mono _ _
      | exact torusref04_Sparse.mono _ _
      | exact torusref04_Vector.mono _ _ _
      | exact torusref04_reduced.mono _ _ _ _
      | exact LeO.none _
      | refine LeO.ite ?_ ?_
      | refine LeO.bind ?_ (fun _ => ?_)
    · intro y0 y1 y2 y3
      unfold torusref04_Basis.l1
      repeat' first
      | (with_reducible exact ih0 _ _ _ _ _)
      | (with_reducible exact ih1 _ _ _ _)
      | (with_reducible exact torusref01_Prime.mono _ _)
      | (with_reducible exact torusref04_CheckAll.mono _ _ _)
      | (with_reducible exact torusref04_Size.mono _ _)
      | (with_reducible exact torusref04_Sparse.mono _ _)
      | (with_reducible exact torusref04_Vector.mono _ _ _)
      | (with_reducible exact torusref04_reduced.mono _ _ _ _)
      | (with_reducible exact LeO.refl _)
      | (with_reducible exact LeO.none _)
      | (with_reducible refine LeO.ite ?_ ?_)
      | (with_reducible refine LeO.bind ?_ (fun _ => ?_))
      | exact ih0 _ _ _ _ _
      | exact ih1 _ _ _ _
      | exact torusref01_Prime.mono _ _
      | exact torusref04_CheckAll.mono _ _ _
      | exact torusref04_Size.mono _ _
      | exact torusref04_Sparse.mono _ _
      | exact torusref04_Vector.mono _ _ _
      | exact torusref04_reduced.mono _ _ _ _
      | exact LeO.none _
      | refine LeO.ite ?_ ?_
      | refine LeO.bind ?_ (fun _ => ?_)
theorem torusref04_Basis.mono : ∀ a0 a1 k, LeO (torusref04_Basis.f k a0 a1) (torusref04_Basis.f (k + 1) a0 a1) := by
  intro a0 a1 k
  obtain ⟨ih0, ih1⟩ := torusref04_Basis.mono_l k
  unfold torusref04_Basis.f
  repeat' first
      | (with_reducible exact ih0 _ _ _ _ _)
      | (with_reducible exact ih1 _ _ _ _)
      | (with_reducible exact torusref01_Prime.mono _ _)
      | (with_reducible exact torusref04_CheckAll.mono _ _ _)
      | (with_reducible exact torusref04_Size.mono _ _)
      | (with_reducible exact torusref04_Sparse.mono _ _)
      | (with_reducible exact torusref04_Vector.mono _ _ _)
      | (with_reducible exact torusref04_reduced.mono _ _ _ _)
      | (with_reducible exact LeO.refl _)
      | (with_reducible exact LeO.none _)
      | (with_reducible refine LeO.ite ?_ ?_)
      | (with_reducible refine LeO.bind ?_ (fun _ => ?_))
      | exact ih0 _ _ _ _ _
      | exact ih1 _ _ _ _
      | exact torusref01_Prime.mono _ _
      | exact torusref04_CheckAll.mono _ _ _
      | exact torusref04_Size.mono _ _
      | exact torusref04_Sparse.mono _ _
      | exact torusref04_Vector.mono _ _ _
      | exact torusref04_reduced.mono _ _ _ _
      | exact LeO.none _
      | refine LeO.ite ?_ ?_
      | refine LeO.bind ?_ (fun _ => ?_)
set_option maxHeartbeats 8000000 in
set_option maxRecDepth 100000 in
theorem torusref04_Basis.calls (k : Nat) (a0 : Int) (A1 : Option Addr) (c1 : Nat) (l1 : List (List (S45))) (r1 : List (List (S45))) (r2 : Int) (w : World) (hr1 : Kd.C (Kd.slice 45 k45) w A1 l1.length l1) (hc1 : l1.length ≤ c1) (h : torusref04_Basis.f k a0 l1 = some (r1, r2)) :
    Calls Try.prog 47 #[.int .i64 a0, .slice A1 l1.length c1] w fun e w' => ∃ v0_ : Value, e = .returned (.tuple #[v0_, .int .i64 r2]) ∧ Kd.S (Kd.slice 45 k45) 22 w' w.heap.size (fun _ => True) v0_ r1 ∧ Below w.heap.size w w' := by
  have HR1 := Aside0.mk hr1
  have HC1 := Aside0.mk hc1
  clear hr1 hc1
  have HB := Aside0.mk (Below.refl w.heap.size w)
  have H : (if (l1.length : Int) > 1024 then (some (([] : List (List (S45))), 3)) else ((torusref01_Prime.f k a0).bind fun t583 => (if t583 = true then ((torusref04_CheckAll.f k a0 l1).bind fun t584 => (if t584 = 0 then ((torusref04_Size.f k l1).bind fun t585 => (torusref04_Basis.l0 k a0 l1 t585 ([] : List (List Int)) 0)) else (some (([] : List (List (S45))), t584)))) else (some (([] : List (List (S45))), 8))))) = some (r1, r2) := h
  clear h
  by_cases c3 : (l1.length : Int) > 1024
  · rw [if_pos c3] at H
    have c3b0 : decide (1024 < (l1.length : Int)) = true := decide_eq_true c3
    have c3b1 : decide (1024 < l1.length) = true := decide_eq_true (by omega)
    clear c3
    simp only [Option.some.injEq, Prod.mk.injEq] at H
    obtain ⟨rfl, rfl⟩ := H
    go_enter Try.func47, Try.ntmps47
    go_wp2
    go_ret2
    exact ⟨_, by first | rfl | (simp [errW_none, errW_some] <;> rfl) | (simp [*, errW_none, errW_some] <;> rfl), by first | exact Kd.S_nil _ _ _ _ _ | exact Kd.N_nil _ _ _ _ _ | exact Kd.V_nil _ _ _ _ _ | exact Kd.Q_nil _ _ _ _ _ | exact Kd.R_nil _ _ _ _ _, by repeat (first | (with_reducible first | exact HB.out | apply below_alloc | apply pw_below_drewN | apply below_drew1) | exact HB.out)⟩
  · rw [if_neg c3] at H
    have c3b0 : decide (1024 < (l1.length : Int)) = false := decide_eq_false c3
    have c3b1 : decide (1024 < l1.length) = false := decide_eq_false (by omega)
    clear c3
    replace H := Option.bind_eq_some_iff.mp H
    obtain ⟨t583, A40, H⟩ := H
    replace H : (if t583 = true then ((torusref04_CheckAll.f k a0 l1).bind fun t584 => (if t584 = 0 then ((torusref04_Size.f k l1).bind fun t585 => (torusref04_Basis.l0 k a0 l1 t585 ([] : List (List Int)) 0)) else (some (([] : List (List (S45))), t584)))) else (some (([] : List (List (S45))), 8))) = some (r1, r2) := H
    have A4 := Aside0.mk A40
    clear A40
    by_cases c5 : t583 = true
    · subst c5
      have H1 : ((torusref04_CheckAll.f k a0 l1).bind fun t584 => (if t584 = 0 then ((torusref04_Size.f k l1).bind fun t585 => (torusref04_Basis.l0 k a0 l1 t585 ([] : List (List Int)) 0)) else (some (([] : List (List (S45))), t584)))) = some (r1, r2) := by rw [if_pos rfl] at H; exact H
      clear H
      have H := H1
      clear H1
      replace H := Option.bind_eq_some_iff.mp H
      obtain ⟨t584, A60, H⟩ := H
      replace H : (if t584 = 0 then ((torusref04_Size.f k l1).bind fun t585 => (torusref04_Basis.l0 k a0 l1 t585 ([] : List (List Int)) 0)) else (some (([] : List (List (S45))), t584))) = some (r1, r2) := H
      have A6 := Aside0.mk A60
      clear A60
      by_cases c7 : t584 = 0
      · rw [if_pos c7] at H
        have c7b0 : (t584 == 0) = true := beq_iff_eq.mpr c7
        have c7b1 : (t584 != 0) = false := bne_eq_false_iff_eq.mpr c7
        clear c7
        replace H := Option.bind_eq_some_iff.mp H
        obtain ⟨t585, A80, H⟩ := H
        replace H : (torusref04_Basis.l0 k a0 l1 t585 ([] : List (List Int)) 0) = some (r1, r2) := H
        have A8 := Aside0.mk A80
        clear A80
        have H' := Aside0.mk H
        clear H
        go_enter Try.func47, Try.ntmps47
        go_wp2_with (first | ((with_reducible refine gate_callee (f := 56) rfl ?_); refine goesL_ (some 17) rfl rfl Try.func56 (by kernel_rfl) rfl #[.int .i64 a0] rfl (by (try simp only [List.map_toArray, List.map_cons, List.map_nil]); first | done | rfl | (simp only [List.length_drop, List.length_take]; rfl)) ?_; (with_reducible refine (torusref01_Prime.calls k a0 true _ A4.out).mono ?_); rintro e w' ⟨rfl, ⟨nd, rfl⟩⟩; refine ⟨_, rfl, ?_⟩) | ((with_reducible refine gate_callee (f := 62) rfl ?_); refine goesL_ (some 21) rfl rfl Try.func62 (by kernel_rfl) rfl #[.int .i64 a0, .slice A1 l1.length c1] rfl (by (try simp only [List.map_toArray, List.map_cons, List.map_nil]); first | done | rfl | (simp only [List.length_drop, List.length_take]; rfl)) ?_; (with_reducible refine (torusref04_CheckAll.calls k a0 _ _ l1 t584 _ ?side1 ?side2 A6.out).mono ?_); (case side1 => repeat (first | exact HR1.out | (with_reducible refine Kd.C_alloc ?_ _) | (with_reducible refine Kd.C_drewN ?_ _) | (with_reducible refine Kd.C_drew ?_))); (case side2 => exact HC1.out); rintro e w' ⟨rfl, ⟨nd, rfl⟩⟩; refine ⟨_, rfl, ?_⟩) | ((with_reducible refine gate_callee (f := 68) rfl ?_); refine goesL_ (some 26) rfl rfl Try.func68 (by kernel_rfl) rfl #[.slice A1 l1.length c1] rfl (by (try simp only [List.map_toArray, List.map_cons, List.map_nil]); first | done | rfl | (simp only [List.length_drop, List.length_take]; rfl)) ?_; (with_reducible refine (torusref04_Size.calls k _ _ l1 t585 _ ?side1 ?side2 A8.out).mono ?_); (case side1 => repeat (first | exact HR1.out | (with_reducible refine Kd.C_alloc ?_ _) | (with_reducible refine Kd.C_drewN ?_ _) | (with_reducible refine Kd.C_drew ?_))); (case side2 => exact HC1.out); rintro e w9 ⟨rfl, hb⟩; refine ⟨_, rfl, ?_⟩; have n0_ := Aside0.mk (below_step (by repeat (first | (with_reducible first | exact HB.out | apply below_alloc | apply pw_below_drewN | apply below_drew1) | exact HB.out)) hb); clear HB; have HB := n0_; clear n0_; (try clear hb); (try clear hb2); (try clear hk); (try clear hi)))
        go_loopg [8, 9] k (fun kq v8 v9 w' => ∃ (x8_1 : List (List Int)) (x9_1 : Int), v9 = .int .i64 x9_1 ∧ Aside0 (torusref04_Basis.l0 kq a0 l1 t585 x8_1 x9_1 = some (r1, r2)) ∧ Aside0 (kq ≤ k) ∧ Aside0 (Kd.S (Kd.slice 3 (Kd.int .i64)) 47 w' w.heap.size (fun _ => True) v8 x8_1) ∧ Aside0 (Below w.heap.size w w'))
        case atStart => exact ⟨(([] : List (List Int))), (0), (by first | rfl | (simp; done) | (simp [*]; done)), H', ⟨Nat.le_refl _⟩, ⟨by first | exact Kd.S_nil _ _ _ _ _ | exact Kd.N_nil _ _ _ _ _ | exact Kd.V_nil _ _ _ _ _ | exact Kd.Q_nil _ _ _ _ _ | exact Kd.R_nil _ _ _ _ _⟩, ⟨by repeat (first | (with_reducible first | exact HB.out | apply below_alloc | apply pw_below_drewN | apply below_drew1) | exact HB.out)⟩⟩
        case round =>
          clear H'
          try clear c1
          try clear p2
          try clear c3
          try clear c3b0
          try clear c3b1
          try clear c4
          try clear c5
          try clear c6
          try clear c7
          try clear c7b0
          try clear c7b1
          obtain ⟨x8_1, x9_1, rfl, HA, HK1, HO_8, HB⟩ := hrel
          cases gk with
          | zero => exact absurd HA.out (by simp [torusref04_Basis.l0])
          | succ k1 =>
            have H := HA.out
            clear HA
            simp only [torusref04_Basis.l0] at H
            by_cases c10 : x9_1 < (l1.length : Int)
            · rw [if_pos c10] at H
              have c10b0 : decide (x9_1 < (l1.length : Int)) = true := decide_eq_true c10
              clear c10
              by_cases c11 : 0 ≤ x9_1
              · rw [if_pos c11] at H
                have c11b0 : decide (0 ≤ x9_1) = true := decide_eq_true c11
                clear c11
                replace H := Option.bind_eq_some_iff.mp H
                obtain ⟨t587, A120, H⟩ := H
                replace H : (if x8_1.length < 5864062014805 then (torusref04_Basis.l0 k1 a0 l1 t585 (x8_1 ++ [t587]) (wrap64 (x9_1 + 1))) else (none)) = some (r1, r2) := H
                have A12 := Aside0.mk A120
                clear A120
                by_cases c13 : x8_1.length < 5864062014805
                · rw [if_pos c13] at H
                  have LMc13 := Aside0.mk c13
                  clear c13
                  obtain ⟨y590, hy590⟩ : ∃ y_ : List (List Int), y_ = (x8_1 ++ [t587]) := ⟨_, rfl⟩
                  replace H : (torusref04_Basis.l0 k1 a0 l1 t585 y590 (wrap64 (x9_1 + 1))) = some (r1, r2) := by first | (rw [hy590]; with_reducible exact H) | (have H2_ := (Option.bind_some _ _).symm.trans H; rw [hy590]; with_reducible exact H2_) | (have H2_ := (Option.bind_some _ _).symm.trans H; with_reducible exact H2_) | with_reducible exact H | (rw [hy590]; exact H) | exact H
                  have Ny590 := Aside0.mk hy590
                  clear hy590
                  have H' := Aside0.mk H
                  clear H
                  have p586 : 0 ≤ (x9_1 : Int) := of_decide_eq_true (by first | (with_reducible assumption) | assumption)
                  have q586 : x9_1 < (l1.length : Int) := of_decide_eq_true (by first | (with_reducible assumption) | assumption)
                  obtain ⟨ad586, A586_0, c586_0, e586, hx586_0, hl586_0, hi586_0⟩ := at_L2 HR1.out x9_1 p586 q586
                  cases e586
                  replace hx586_0 := (HB.out.cell (World.block_lt_of_cell? w _ hx586_0)).trans hx586_0
                  have HR586_0 := Aside0.mk hi586_0
                  have HC586_0 := Aside0.mk hl586_0
                  clear hi586_0 hl586_0
                  replace p586 := eq_true p586
                  replace q586 := eq_true q586
                  go_wp2_with (first | ((with_reducible refine gate_callee (f := 64) rfl ?_); refine goesL_ (some 39) rfl rfl Try.func64 (by kernel_rfl) rfl #[.slice A586_0 (rd_L2 l1 x9_1).length c586_0, .int .i64 t585] rfl (by (try simp only [List.map_toArray, List.map_cons, List.map_nil]); first | done | rfl | (simp only [List.length_drop, List.length_take]; rfl)) ?_; (with_reducible refine (torusref04_Vector.calls k1 _ _ (rd_L2 l1 x9_1) t585 t587 _ ?side1 ?side2 A12.out).mono ?_); (case side1 => repeat (first | exact (Kd.C_below HR586_0.out HB.out) | (with_reducible refine Kd.C_alloc ?_ _) | (with_reducible refine Kd.C_drewN ?_ _) | (with_reducible refine Kd.C_drew ?_))); (case side2 => exact HC586_0.out); rintro e w14 ⟨v588, rfl, ho0, hb⟩; refine ⟨_, rfl, ?_⟩; have n0_ := Aside0.mk (Kd.S_elder' (by (with_reducible repeat (first | apply Kd.S_alloc | apply Kd.S_drewN | apply Kd.S_drew)); exact HO_8.out) (Kd.R_base ho0) hb); have n1_ := Aside0.mk (Kd.R_lower ho0 (below_size (by repeat (first | (with_reducible first | exact HB.out | apply below_alloc | apply pw_below_drewN | apply below_drew1) | exact HB.out)))); have n2_ := Aside0.mk (below_step (by repeat (first | (with_reducible first | exact HB.out | apply below_alloc | apply pw_below_drewN | apply below_drew1) | exact HB.out)) hb); clear HO_8; clear HB; have HO_8 := n0_; have HO589 := n1_; have HB := n2_; clear n0_ n1_ n2_; (try clear hb); (try clear hb2); (try clear hk); (try clear hi); (try clear ho0); obtain ⟨Ao16, co16, eo16⟩ := Kd.R_slice HO589.out; subst eo16) | ((with_reducible refine gate_builtin (b := .append) (xs := #[.tmp 33, .tmp 40]) rfl ?_); at_builtin; refine Kd.S_append (Kd.slice 3 (Kd.int .i64)) (w0 := w) w.heap.size rfl (.tmp 33) (.tmp 40) 94 47 (.slice none 0 0) 24 rfl Try.underlying94 info47 rfl (by decide) (by omega) u8 x8_1 t587 [.slice Ao16 t587.length co16] (fun _ => True) (fun k_ => some k_ = (.slice Ao16 t587.length co16 : Value).ownBlock) rfl rfl ?aP (fun k_ hk_ => ((Kd.R_mono (ok' := fun k_ => ((fun _ => True)) k_ ∧ some k_ ≠ (u8 : Value).ownBlock) (Kd.R_apart' (HO589.out) (Kd.S_typed HO_8.out) (by decide)) (fun k_ hk => ⟨trivial, hk.2⟩))).1 k_ hk_.symm) ?aF ?aO ?aB ?aS ?aL ?_; (case aP => exact Kd.M_row (Kd.R_mono (Kd.R_tight rfl (Kd.R_mono (ok' := fun k_ => ((fun _ => True)) k_ ∧ some k_ ≠ (u8 : Value).ownBlock) (Kd.R_apart' (HO589.out) (Kd.S_typed HO_8.out) (by decide)) (fun k_ hk => ⟨trivial, hk.2⟩))) (fun _ h_ => h_))); (case aB => exact (by repeat (first | (with_reducible first | exact HB.out | apply below_alloc | apply pw_below_drewN | apply below_drew1) | exact HB.out))); (case aF => exact (fun _ _ => trivial)); (case aO => exact (by (with_reducible repeat (first | apply Kd.S_alloc | apply Kd.S_drewN | apply Kd.S_drew)); exact Kd.S_mono HO_8.out (fun k_ hk => ⟨trivial, fun e_ => hk.2 e_⟩))); (case aS => exact (below_size (by repeat (first | (with_reducible first | exact HB.out | apply below_alloc | apply pw_below_drewN | apply below_drew1) | exact HB.out)))); (case aL => have := LMc13.out; omega); intro v591 w15 ho hb hg hat; rw [← Ny590.out] at ho; have n0_ := Aside0.mk (hb); have n1_ := Aside0.mk (ho); clear HB; clear HO_8; clear HO589; have HB := n0_; have HO592 := n1_; clear n0_ n1_; clear ho hb hg hat))
                  go_roundg k1
                  case measure => have := HK1.out; omega
                  case rel => exact ⟨(y590), (wrap64 (x9_1 + 1)), (by first | rfl | (simp; done) | (simp [*]; done)), H', ⟨by have := HK1.out; omega⟩, ⟨by (with_reducible repeat (first | apply Kd.S_alloc | apply Kd.S_drewN | apply Kd.S_drew)); exact HO592.out⟩, ⟨by repeat (first | (with_reducible first | exact HB.out | apply below_alloc | apply pw_below_drewN | apply below_drew1) | exact HB.out)⟩⟩
                · rw [if_neg c13] at H
                  exact absurd H (by simp)
              · rw [if_neg c11] at H
                exact absurd H (by simp)
            · rw [if_neg c10] at H
              have c10b0 : decide (x9_1 < (l1.length : Int)) = false := decide_eq_false c10
              clear c10
              replace H := Option.bind_eq_some_iff.mp H
              obtain ⟨t593, A170, H⟩ := H
              replace H : (torusref04_Basis.l1 k1 ([] : List (List (S45))) t593 (t593.length : Int) 0) = some (r1, r2) := H
              have A17 := Aside0.mk A170
              clear A170
              have H' := Aside0.mk H
              clear H
              obtain ⟨Ao18, co18, eo18⟩ := Kd.S_slice HO_8.out
              subst eo18
              have hO8 := Kd.S_reads' HO_8.out
              go_wp2_with (first | (go_at_call 74; (refine (torusref04_reduced.calls k1 a0 _ _ x8_1 t585 t593 _ ?side1 ?side2 A17.out).mono ?_); (case side1 => exact hO8.2.2); (case side2 => exact hO8.2.1); rintro e w19 ⟨v594, rfl, ho0, hb⟩; have HB9 := Aside0.mk (below_step (by repeat (first | (with_reducible first | exact HB.out | apply below_alloc | apply pw_below_drewN | apply below_drew1) | exact HB.out)) hb); obtain ⟨Ao20, co20, eo20⟩ := Kd.N_slice ho0; subst eo20; have HV9 := Aside0.mk (Kd.N_V (base' := 0) (Kd.N_bound ho0)); clear ho0 hb))
              clear HB HO_8 hO8
              have HS9 := Aside0.mk (Below.refl w19.heap.size w19)
              go_loopg [10, 47] t593.length (fun kq v10 v47 w' => ∃ (x10 : List (List S45)) (i kk : Nat), v47 = .int .i64 i ∧ i ≤ t593.length ∧ kq = t593.length - i ∧ Aside0 (torusref04_Basis.l1 kk x10 t593 (t593.length : Int) i = some (r1, r2)) ∧ Aside0 (Kd.S (Kd.slice 45 k45) 22 w' w19.heap.size (fun _ => True) v10 x10) ∧ Aside0 (Below w19.heap.size w19 w'))
              case atStart => exact ⟨[], 0, k1, rfl, Nat.zero_le _, rfl, H', ⟨Kd.S_nil _ _ _ _ _⟩, HS9⟩
              case round =>
                clear H' HS9
                obtain ⟨x10, i, kk, rfl, hi, hkq, HA, HX, HS⟩ := hrel
                obtain ⟨wQ, rfl⟩ : ∃ z, z = wr := ⟨_, rfl⟩
                cases kk with
                | zero => exact absurd HA.out (by simp [torusref04_Basis.l1])
                | succ kk =>
                  have H := HA.out
                  rw [torusref04_Basis.l1] at H
                  have HVQ := Aside0.mk (Kd.V_F (Kd.V_below HV9.out HS.out))
                  by_cases hlt : i < t593.length
                  · rw [if_pos (Int.ofNat_lt.2 hlt), if_pos (Int.natCast_nonneg i), if_pos (Int.ofNat_lt.2 hlt)] at H
                    obtain ⟨t, hT, H⟩ := Option.bind_eq_some_iff.1 H
                    by_cases hc : x10.length < 5864062014805
                    · rw [if_pos hc] at H
                      obtain ⟨ad, Ar, cr, eA, x0, hcr, hFr⟩ := Go.Proofs.Ytojnnfhalpefmaa.H.rowAt HVQ.out i hlt
                      have hmx : t593.length ≤ 9223372036854775807 := (Kd.F_now HVQ.out).2.1
                      subst eA
                      have hT' : torusref04_Sparse.f kk (t593.getD i []) = some t := hT
                      obtain ⟨a, ha⟩ : ∃ a, t593.getD i [] = a := ⟨_, rfl⟩
                      rw [ha] at hT' x0 hcr hFr
                      have hw : wrap64 ((i : Int) + 1) = ((i + 1 : Nat) : Int) := by unfold wrap64; omega
                      rw [hw] at H
                      have H' := Aside0.mk H
                      have HT := Aside0.mk hT'
                      have HCR := Aside0.mk hcr
                      have HFR := Aside0.mk hFr
                      have HLC := Aside0.mk (show (x10.length + 1) * 24 ≤ 140737488355328 by omega)
                      have HWW := Aside0.mk hw
                      have hltb : decide ((i : Int) < (t593.length : Int)) = true := decide_eq_true (by omega)
                      clear H hT hT' hcr hFr ha hc hw hmx
                      go_wp2_with (first | (go_at_call 55; (refine (torusref04_Sparse.calls kk _ _ a t _ ?side1 ?side2 HT.out).mono ?_); (case side1 => exact Kd.F_now HFR.out); (case side2 => exact HCR.out); rintro e w26 ⟨v598, rfl, ho0, hb⟩; have HX6 := Aside0.mk (Kd.S_elder' HX.out (Kd.R_base ho0) hb); have HR6 := Aside0.mk (Kd.R_lower ho0 HS.out.size); have HS6 := Aside0.mk (HS.out.trans (hb.mono HS.out.size)); clear ho0 hb; obtain ⟨Ao28, co28, eo28⟩ := Kd.R_slice HR6.out; subst eo28) | ((with_reducible refine gate_builtin (b := .append) (xs := #[.tmp 51, .tmp 54]) rfl ?_); at_builtin; refine Kd.S_append (Kd.slice 45 k45) (w0 := w19) w19.heap.size rfl (.tmp 51) (.tmp 54) 37 22 (.slice none 0 0) 24 rfl Try.underlying37 info22 rfl (by decide) (by decide) u10 x10 t [.slice Ao28 t.length co28] (fun _ => True) (fun k_ => some k_ = (.slice Ao28 t.length co28 : Value).ownBlock) rfl rfl ?aP ?aQ ?aF ?aO ?aB ?aS ?aL ?_; (case aP => exact Kd.M_row (Kd.R_mono (Kd.R_tight rfl HR6.out) (fun _ h_ => h_))); (case aQ => exact fun k hk => ⟨trivial, ((Kd.R_apart' HR6.out (Kd.S_typed HX6.out) (by decide)).1 k hk.symm).2⟩); (case aF => exact fun _ _ => trivial); (case aO => exact Kd.S_mono HX6.out (fun k hk => ⟨trivial, fun e => hk.2 e⟩)); (case aB => exact HS6.out); (case aS => exact HS6.out.size); (case aL => exact HLC.out); intro v601 w27 ho hb hg hat; have HX7 := Aside0.mk ho; have HS7 := Aside0.mk hb; clear ho hb hg hat))
                      go_roundg (t593.length - (i + 1))
                      case measure => exact Go.Proofs.Ytojnnfhalpefmaa.H.less_left hlt hkq
                      case rel => exact ⟨x10 ++ [t], i + 1, kk, (by first | exact Go.Proofs.Ytojnnfhalpefmaa.H.int_next' i | exact congrArg (Value.int .i64) HWW.out), hlt, rfl, H', HX7, HS7⟩
                    · rw [if_neg hc] at H; cases H
                  · obtain rfl : i = t593.length := Go.Proofs.Ytojnnfhalpefmaa.H.i_done hi hlt
                    rw [if_neg (Int.lt_irrefl _)] at H
                    have hltb := Go.Proofs.Ytojnnfhalpefmaa.H.ge_dec t593.length
                    cases H
                    go_wp2
                    go_ret2
                    exact ⟨_, rfl, Kd.S_lower HX.out HB9.out.size, HB9.out.trans (HS.out.mono HB9.out.size)⟩
      · rw [if_neg c7] at H
        have c7b0 : (t584 == 0) = false := beq_eq_false_iff_ne.mpr c7
        have c7b1 : (t584 != 0) = true := bne_iff_ne.mpr c7
        simp only [Option.some.injEq, Prod.mk.injEq] at H
        obtain ⟨rfl, rfl⟩ := H
        go_enter Try.func47, Try.ntmps47
        go_wp2_with (first | ((with_reducible refine gate_callee (f := 56) rfl ?_); refine goesL_ (some 17) rfl rfl Try.func56 (by kernel_rfl) rfl #[.int .i64 a0] rfl (by (try simp only [List.map_toArray, List.map_cons, List.map_nil]); first | done | rfl | (simp only [List.length_drop, List.length_take]; rfl)) ?_; (with_reducible refine (torusref01_Prime.calls k a0 true _ A4.out).mono ?_); rintro e w' ⟨rfl, ⟨nd, rfl⟩⟩; refine ⟨_, rfl, ?_⟩) | ((with_reducible refine gate_callee (f := 62) rfl ?_); refine goesL_ (some 21) rfl rfl Try.func62 (by kernel_rfl) rfl #[.int .i64 a0, .slice A1 l1.length c1] rfl (by (try simp only [List.map_toArray, List.map_cons, List.map_nil]); first | done | rfl | (simp only [List.length_drop, List.length_take]; rfl)) ?_; (with_reducible refine (torusref04_CheckAll.calls k a0 _ _ l1 t584 _ ?side1 ?side2 A6.out).mono ?_); (case side1 => repeat (first | exact HR1.out | (with_reducible refine Kd.C_alloc ?_ _) | (with_reducible refine Kd.C_drewN ?_ _) | (with_reducible refine Kd.C_drew ?_))); (case side2 => exact HC1.out); rintro e w' ⟨rfl, ⟨nd, rfl⟩⟩; refine ⟨_, rfl, ?_⟩))
        go_ret2
        exact ⟨_, by first | rfl | (simp [errW_none, errW_some] <;> rfl) | (simp [*, errW_none, errW_some] <;> rfl), by first | exact Kd.S_nil _ _ _ _ _ | exact Kd.N_nil _ _ _ _ _ | exact Kd.V_nil _ _ _ _ _ | exact Kd.Q_nil _ _ _ _ _ | exact Kd.R_nil _ _ _ _ _, by repeat (first | (with_reducible first | exact HB.out | apply below_alloc | apply pw_below_drewN | apply below_drew1) | exact HB.out)⟩
    · replace c5 := Bool.eq_false_iff.mpr c5
      subst c5
      have H1 : (some (([] : List (List (S45))), 8)) = some (r1, r2) := by rw [if_neg (show ¬ (false = true) by decide)] at H; exact H
      clear H
      have H := H1
      clear H1
      simp only [Option.some.injEq, Prod.mk.injEq] at H
      obtain ⟨rfl, rfl⟩ := H
      go_enter Try.func47, Try.ntmps47
      go_wp2_with (first | ((with_reducible refine gate_callee (f := 56) rfl ?_); refine goesL_ (some 17) rfl rfl Try.func56 (by kernel_rfl) rfl #[.int .i64 a0] rfl (by (try simp only [List.map_toArray, List.map_cons, List.map_nil]); first | done | rfl | (simp only [List.length_drop, List.length_take]; rfl)) ?_; (with_reducible refine (torusref01_Prime.calls k a0 false _ A4.out).mono ?_); rintro e w' ⟨rfl, ⟨nd, rfl⟩⟩; refine ⟨_, rfl, ?_⟩))
      go_ret2
      exact ⟨_, by first | rfl | (simp [errW_none, errW_some] <;> rfl) | (simp [*, errW_none, errW_some] <;> rfl), by first | exact Kd.S_nil _ _ _ _ _ | exact Kd.N_nil _ _ _ _ _ | exact Kd.V_nil _ _ _ _ _ | exact Kd.Q_nil _ _ _ _ _ | exact Kd.R_nil _ _ _ _ _, by repeat (first | (with_reducible first | exact HB.out | apply below_alloc | apply pw_below_drewN | apply below_drew1) | exact HB.out)⟩
end Go.Proofs.Ytojnnfhalpefmaa.M
end

section
namespace Go.Proofs.Ytojnnfhalpefmaa.H
open Go.RowKit Go.Proofs.YtojnnfhalpefmaaW.PrintWords Go.Proofs.YtojnnfhalpefmaaW.PrintLast Go.Proofs.YtojnnfhalpefmaaW.PrintMore Go.Proofs.Ytojnnfhalpefmaa.M Go.Proofs.Ytojnnfhalpefmaa.P
def unitV (m i : Nat) (u : List Int) : List Int := (List.replicate m (0 : Int)).set i 1 ++ u
def kerAll (k : Nat) (n : Nat) (m : Nat) : Nat → List (List S45) → Option (List (List Int))
  | _, [] => some []
  | i, c :: l => (torusref04_Vector.f k c n).bind fun u => if u.length = n then (kerAll k n m (i + 1) l).bind fun r => some (unitV m i u :: r) else none
def kerSel (k : Nat) (m : Nat) : List (List Int) → List (List S45) → Option (List (List S45))
  | [], out => some out
  | r :: l, out => (torusref04_Sparse.f k r).bind fun c => (torusref04_Low.f c).bind fun t => if t.1 < (m : Int) then (if out.length < 1000000 then kerSel k m l (out ++ [c]) else none) else kerSel k m l out
def kerR (k : Nat) (p : Int) (l : List (List S45)) : Option (List (List S45) × Int) :=
  (torusref04_Basis.f k p l).bind fun b => if b.2 = 0 then
    (torusref04_Size.f k l).bind fun n => if 0 ≤ n ∧ n ≤ 1024 ∧ l.length ≤ 100 then
      (kerAll k n.toNat l.length 0 l).bind fun all => (torusref04_reduced.f k p all ((l.length : Int) + n)).bind fun red => (kerSel k l.length red []).bind fun out => some (out, 0)
    else none
  else some ([], b.2)
theorem kerAll_mono (k n m : Nat) : ∀ (i : Nat) (l : List (List S45)), LeO (kerAll k n m i l) (kerAll (k + 1) n m i l)
  | _, [] => LeO.refl _
  | i, c :: l => by
    rw [kerAll, kerAll]
    exact LeO.bind (torusref04_Vector.mono _ _ _) fun u => LeO.ite (LeO.bind (kerAll_mono k n m _ l) fun r => LeO.refl _) (LeO.none _)
theorem kerSel_mono (k m : Nat) : ∀ (l : List (List Int)) (out : List (List S45)), LeO (kerSel k m l out) (kerSel (k + 1) m l out)
  | [], _ => LeO.refl _
  | r :: l, out => by
    rw [kerSel, kerSel]
    exact LeO.bind (torusref04_Sparse.mono _ _) fun c => LeO.bind (LeO.refl _) fun t => LeO.ite (LeO.ite (kerSel_mono k m l _) (LeO.none _)) (kerSel_mono k m l _)
theorem kerR_mono (p : Int) (l : List (List S45)) (k : Nat) : LeO (kerR k p l) (kerR (k + 1) p l) := by
  unfold kerR
  exact LeO.bind (torusref04_Basis.mono _ _ _) fun b => LeO.ite (LeO.bind (torusref04_Size.mono _ _) fun n => LeO.ite (LeO.bind (kerAll_mono _ _ _ _ _) fun a => LeO.bind (torusref04_reduced.mono _ _ _ _) fun r => LeO.bind (kerSel_mono _ _ _ _) fun o => LeO.refl _) (LeO.none _)) (LeO.refl _)
theorem int_nextM {i n : Nat} (h : i < n) (hn : n ≤ 9223372036854775807) : Value.int .i64 (wrap64 ((i : Int) + 1)) = Value.int .i64 ((i + 1 : Nat) : Int) := congrArg _ (by unfold wrap64; omega)
theorem room24M {a : Nat} (h : a < 1000000) : (a + 1) * 24 ≤ 140737488355328 := by omega
theorem room8 {m n : Nat} (hm : m ≤ 100) (hn : n ≤ 1024) : ((m : Int) + (n : Int)).toNat * 8 ≤ 281474976710656 := by omega
theorem sum_nn (m n : Nat) : (0 : Int) ≤ (m : Int) + (n : Int) := by omega
theorem sum_w {m n : Nat} (hm : m ≤ 100) (hn : n ≤ 1024) : wrap64 ((m : Int) + (n : Int)) = (m : Int) + (n : Int) := by unfold wrap64; omega
theorem repl_pos {i m n : Nat} (h : i < m) : 0 < (List.replicate ((m : Int) + (n : Int)).toNat (0 : Int)).length := by simp; omega
theorem unit_split {i m n : Nat} (h : i < m) : (List.replicate ((m : Int) + (n : Int)).toNat (0 : Int)).set i 1 = (List.replicate m (0 : Int)).set i 1 ++ List.replicate n 0 := by
  rw [show ((m : Int) + (n : Int)).toNat = m + n by omega, ← List.replicate_append_replicate, List.set_append_left _ _ (by simpa using h)]
theorem repl_len (m n : Nat) : (List.replicate ((m : Int) + (n : Int)).toNat (0 : Int)).length = m + n := by simp; omega
theorem info3s : (Try.prog.info? 3).map (·.size) = some 1 := by
  obtain ⟨i, h1, _, h3, _⟩ := info3x
  rw [h1, Option.map_some, h3]
theorem copy_end {W : World} {base g cap c : Nat} {ok : Nat → Prop} {x y u : List Int} {A : Option Addr} {D : Option Addr} {ty : TypeId}
    (h : Kd.R kI 3 W base ok (.slice (some ⟨g, 0, none⟩) (x ++ y).length cap) (x ++ y)) (hu : Kd.C kI W A u.length u) (hl : u.length = y.length) (hD : 0 < y.length → D = some ⟨g, x.length, none⟩) (dc : Nat) :
    ∃ w1, (Builtin.copy_ #[47, 47] ty #[.slice D y.length dc, .slice A u.length c]).run Try.prog W = .ok (goInt u.length) w1 ∧ Kd.R kI 3 w1 base ok (.slice (some ⟨g, 0, none⟩) (x ++ u).length cap) (x ++ u) ∧ W.grownBy w1 (some g) := by
  rcases Nat.eq_zero_or_pos y.length with h0 | hp
  · obtain rfl : y = [] := List.eq_nil_of_length_eq_zero h0
    obtain rfl : u = [] := List.eq_nil_of_length_eq_zero (by omega)
    exact ⟨W, run_copy_none (P := Try.prog) W 47 47 ty 3 D A 0 dc 0 c Try.underlying47 info3s rfl, h, World.grownBy.refl W _⟩
  · obtain rfl := hD hp
    have hR := Kd.reads_of_C (enc := Value.int .i64) (d := (0 : Int)) (h1 := fun _ => rfl) hu
    obtain ⟨ad, rfl, hc⟩ := hR.2.2 (by omega)
    have hown := Kd.own_of_R h
    have hes : ∀ z : List Int, (encs (Value.int .i64) z).length = z.length := fun z => encs_length z
    rcases hown.2 with ⟨hv, _⟩ | ⟨g', cap', cur, hv, hb, hh, hnc, hcm, hcs, htake⟩
    · cases hv
    · obtain ⟨rfl, rfl⟩ : g = g' ∧ cap = cap' := by simpa using hv
      rw [Nat.mul_one] at hcs htake
      have hN : (x ++ y).length = x.length + y.length := List.length_append
      have hx : cur.toList.take x.length = encs (Value.int .i64) x := by
        have := congrArg (List.take x.length) htake
        rw [List.take_take, Nat.min_eq_left (by omega)] at this
        rw [this, show encs (Value.int .i64) (x ++ y) = encs (Value.int .i64) x ++ encs (Value.int .i64) y by simp [encs], List.take_append_of_le_length (by rw [hes]; exact Nat.le_refl _), List.take_of_length_le (by rw [hes]; exact Nat.le_refl _)]
      have hr := run_copy_row (P := Try.prog) W 47 47 ty 3 g x.length y.length dc ad u.length c cur 3 (encs (Value.int .i64) u) Try.underlying47 info3s hh (by rw [hes, hl]; exact (Nat.min_self _).symm)
        (fun j q hj => by
          have hj' : j < u.length := by
            rcases Nat.lt_or_ge j u.length with h | h
            · exact h
            · rw [List.getElem?_eq_none (by rw [hes]; exact h)] at hj; cases hj
          rw [encs_get (d := 0) _ j hj'] at hj
          rw [hc j hj', ← hj]) (by rw [hes]; omega) (by intro q hq; simp only [encs, List.mem_map] at hq; obtain ⟨z, _, rfl⟩ := hq; rfl)
      rw [hes] at hr
      refine ⟨_, hr, Kd.R_of_own ?_ h.1, ⟨by simp, by simp [World.setRow], by simp [World.setRow], by simp, fun k _ hk => setRow_other W g k _ (fun e => hk (by rw [e]))⟩⟩
      have hcl : cur.toList.length = cap := by rw [Array.length_toList]; exact hcs
      have hln : (x ++ u).length = (x ++ y).length := by rw [List.length_append, List.length_append, hl]
      refine ⟨by rw [hes, Nat.mul_one], .inr ⟨g, cap, _, rfl, hb, setRow_heap W g cur _ 3 (0, 0) hh, by rw [hln]; exact hnc, hcm, ?_, ?_⟩⟩
      · simp only [List.size_toArray, List.length_append, List.length_take, List.length_drop, hes, hcl]
        omega
      · rw [Nat.mul_one, hx, List.append_assoc, show encs (Value.int .i64) (x ++ u) = encs (Value.int .i64) x ++ encs (Value.int .i64) u by simp [encs]]
        rw [← List.append_assoc, List.take_append_of_le_length (by simp only [List.length_append, hes]; omega), List.take_of_length_le (by simp only [List.length_append, hes]; omega)]
end Go.Proofs.Ytojnnfhalpefmaa.H
end

section
namespace Go.Proofs.Ytojnnfhalpefmaa.H
open Go.RowKit Go.Proofs.YtojnnfhalpefmaaW.PrintWords Go.Proofs.YtojnnfhalpefmaaW.PrintLast Go.Proofs.YtojnnfhalpefmaaW.PrintMore Go.Proofs.Ytojnnfhalpefmaa.M Go.Proofs.Ytojnnfhalpefmaa.P
set_option maxHeartbeats 8000000 in
set_option maxRecDepth 100000 in
theorem ker_calls (k : Nat) (p : Int) (A : Option Addr) (cl : Nat) (l : List (List S45)) (r1 : List (List S45)) (r2 : Int) (w : World) (hC : (Kd.slice 45 k45).C w A l.length l) (hcl : l.length ≤ cl) (h : kerR k p l = some (r1, r2)) :
    Calls Try.prog 49 #[.int .i64 p, .slice A l.length cl] w fun e w' => ∃ v, e = .returned (.tuple #[v, .int .i64 r2]) ∧ Kd.S (Kd.slice 45 k45) 22 w' w.heap.size (fun _ => True) v r1 ∧ Below w.heap.size w w' := by
  unfold kerR at h
  obtain ⟨⟨b1, b2⟩, hB, h⟩ := Option.bind_eq_some_iff.1 h
  by_cases he : b2 = 0
  · rw [if_pos he] at h
    subst he
    obtain ⟨n, hn, h⟩ := Option.bind_eq_some_iff.1 h
    by_cases hs : 0 ≤ n ∧ n ≤ 1024 ∧ l.length ≤ 100
    · rw [if_pos hs] at h
      obtain ⟨h0, h1, hl⟩ := hs
      obtain ⟨all, ha, h⟩ := Option.bind_eq_some_iff.1 h
      obtain ⟨red, hr, h⟩ := Option.bind_eq_some_iff.1 h
      obtain ⟨out, ho, h⟩ := Option.bind_eq_some_iff.1 h
      cases h
      obtain ⟨n, rfl⟩ := Int.eq_ofNat_of_zero_le h0
      rw [Int.toNat_natCast] at ha
      obtain ⟨base, hbs⟩ : ∃ b, w.heap.size = b := ⟨_, rfl⟩
      have HALL := Aside0.mk ha
      have HRED := Aside0.mk hr
      have HOUT := Aside0.mk ho
      have HLL := Aside0.mk hl
      have HN1 := Aside0.mk (show n ≤ 1024 by omega)
      clear ha hr ho h0
      go_enter Try.func49, Try.ntmps49
      go_wp2_with (first | (go_at_call 47; (refine (torusref04_Basis.calls k p A cl l b1 0 _ hC hcl hB).mono ?_); rintro e w1 ⟨v1, rfl, hS1, hb1⟩; clear hS1) | (go_at_call 68; (refine (torusref04_Size.calls k A cl l n _ (Kd.C_below hC hb1) hcl hn).mono ?_); rintro e w2 ⟨rfl, hb2⟩))
      have HBW := Aside0.mk (show Below base w w2 from by rw [← hbs]; exact hb1.trans (hb2.mono hb1.size))
      clear hb1 hb2 hB hn
      go_loopg [10, 11] l.length (fun kq v10 v11 wf => ∃ (i : Nat) (acc rest : List (List Int)), v11 = .int .i64 i ∧ i ≤ l.length ∧ kq = l.length - i ∧ Aside0 (kerAll k n l.length i (l.drop i) = some rest) ∧ Aside0 (acc ++ rest = all ∧ acc.length = i) ∧ Aside0 (Kd.N kR 47 wf base (fun _ => True) v10 acc) ∧ Aside0 (Below base w wf))
      case atStart => exact ⟨0, [], all, rfl, Nat.zero_le _, rfl, HALL, ⟨rfl, rfl⟩, ⟨Kd.N_nil _ _ _ _ _⟩, HBW⟩
      case round =>
        clear HALL HBW
        obtain ⟨i, acc, rest, rfl, hi, hkq, HA, HS, HN, HB⟩ := hrel
        obtain ⟨wQ, rfl⟩ : ∃ z, z = wr := ⟨_, rfl⟩
        have HQ := Aside0.mk (show base ≤ wQ.heap.size by have := HB.out.size; omega)
        by_cases hlt : i < l.length
        · skip
          obtain ⟨c, hc⟩ : ∃ c, rd_L2 l (i : Int) = c := ⟨_, rfl⟩
          have hdr : l.drop i = c :: l.drop (i + 1) := by
            rw [List.drop_eq_getElem_cons hlt, ← hc]
            simp [rd_L2, hlt]
          have h := HA.out
          rw [hdr, kerAll] at h
          obtain ⟨u, hu, h⟩ := Option.bind_eq_some_iff.1 h
          by_cases hul : u.length = n
          · rw [if_pos hul] at h
            obtain ⟨rest', hrs, h⟩ := Option.bind_eq_some_iff.1 h
            cases h
            have hBb : Below w.heap.size w wQ := by rw [hbs]; exact HB.out
            obtain ⟨al, Aj, cj, eL, yL, ljc, hCj⟩ := at_L2 (Kd.C_below hC hBb) (i : Int) (by omega) (by omega)
            subst eL
            rw [hc] at yL ljc hCj
            rw [Int.toNat_natCast] at yL
            have HU := Aside0.mk hu
            have HRS := Aside0.mk hrs
            have HCJ0 := Aside0.mk hCj
            have HLJ := Aside0.mk ljc
            have YL := Aside0.mk yL
            have HUN := Aside0.mk hul
            have hmn := sum_w HLL.out HN1.out
            have hltb := lt_dec hlt
            have HRM := Aside0.mk (room8 HLL.out HN1.out)
            have HNN := Aside0.mk (sum_nn l.length n)
            have HZZ := Aside0.mk (repl_pos (n := n) hlt)
            have hN1 := HN1.out
            clear hu hrs hCj ljc yL hul hdr hc
            go_upto_region 10 with (first | ((with_reducible refine gate_dst (N := 40) rfl ?_); refine Kd.R_make (Kd.int .i64) (w0 := wQ) wQ.heap.size 3 rfl (N := 40) rfl 47 _ _ rfl ((l.length : Int) + (n : Int)) rfl rfl Try.underlying47 (.int .i64 0) 8 info3 rfl (by decide) (by decide) 0 (ok := fun _ => True) (okp := fun _ => True) rfl (fun _ hk => hk) trivial HNN.out HRM.out (Below.refl _ _) (Nat.le_refl _) ?_; intro v40 w40 hR4 hb4 hg4 hat4; obtain ⟨g, cap, e4, hgb, hgl, _⟩ := Kd.R_form hR4 HZZ.out; subst e4))
            obtain ⟨z, hz⟩ : ∃ z, List.replicate ((l.length : Int) + (n : Int)).toNat (0 : Int) = z := ⟨_, rfl⟩
            rw [hz] at hR4
            obtain ⟨N, hN⟩ : ∃ N, l.length + n = N := ⟨_, rfl⟩
            rw [hN]
            have hzl : z.length = N := by rw [← hz, ← hN]; exact repl_len _ _
            have hiz : i < N := by rw [← hN]; exact Nat.lt_of_lt_of_le hlt (Nat.le_add_right _ _)
            obtain ⟨s4, f4⟩ := Kd.R_cell 0 hR4 (i : Int) (Int.natCast_nonneg i) (by rw [hzl]; exact Int.ofNat_lt.2 hiz)
            have hput := Kd.R_put hR4 (i : Int) (1 : Int)
            rw [Int.toNat_natCast] at s4 f4 hput
            obtain ⟨x, hx⟩ : ∃ x, (List.replicate l.length (0 : Int)).set i 1 = x := ⟨_, rfl⟩
            obtain ⟨y, hy⟩ : ∃ y, List.replicate n (0 : Int) = y := ⟨_, rfl⟩
            have hxl : x.length = l.length := by rw [← hx]; simp
            have hyl : y.length = n := by rw [← hy]; simp
            have hzs : z.set i 1 = x ++ y := by rw [← hz, ← hx, ← hy]; exact unit_split hlt
            have hNxy : (x ++ y).length = N := by rw [← hzs, List.length_set]; exact hzl
            rw [hzs] at hput
            have HPUT := Aside0.mk hput
            have HB40 := Aside0.mk hb4
            have HZL := Aside0.mk hzl
            have HXL := Aside0.mk hxl
            have HYL := Aside0.mk hyl
            have HNX := Aside0.mk hNxy
            have HXE := Aside0.mk hx
            have HGB := Aside0.mk hgb
            have HN0 := Aside0.mk hN
            clear hput hzs hxl hyl hNxy hx hy hz hR4 hb4 hg4 hat4 hzl hgb hN
            go_upto_region 11 with fail
            obtain ⟨w41, hw41⟩ : ∃ w41, w40.setCell ⟨g, i, none⟩ (.int .i64 1) = w41 := ⟨_, rfl⟩
            have hP := HPUT.out
            rw [hw41] at hP ⊢
            have HB41 := Aside0.mk (HB40.out.grown hP.2 HB40.out.size (fun b e => by cases e; exact HGB.out))
            have yd : w41.drew.cell? (al.add i) = some (.slice Aj c.length cj) := (show w41.cell? (al.add i) = _ from pw_cell_below HB41.out YL.out)
            have hR := hP.1
            rw [HZL.out, ← HNX.out] at hR
            have HR4 := Aside0.mk (Kd.R_drew hR)
            have HB4 := Aside0.mk (show Below wQ.heap.size wQ w41.drew from HB41.out.drew)
            have HCJ := Aside0.mk (Kd.C_below HCJ0.out HB4.out)
            obtain ⟨D, hD⟩ : ∃ D : Option Addr, (if cap = l.length then some (⟨g, 0, none⟩ : Addr) else (some (⟨g, 0, none⟩ : Addr)).map (·.add (l.length * 1))) = D := ⟨_, rfl⟩
            have HCAP := Aside0.mk (show N ≤ cap by have := (Kd.R_reads' hP.1).2.1; rw [HZL.out] at this; exact this)
            have HD := Aside0.mk (show 0 < y.length → D = some ⟨g, x.length, none⟩ by
              intro hp
              have h1 := HYL.out; have h2 := HN0.out; have h3 := HCAP.out
              rw [← hD, if_neg (by omega), HXL.out, Option.map_some, Nat.mul_one, add_plain])
            have hcutD : ∀ W, (Instr.slice 47 (.slice (some (⟨g, 0, none⟩ : Addr)) N cap) (some (.int .i64 (l.length : Int))) none none).run Try.prog W = .ok (.slice D n (cap - l.length)) W := by
              intro W
              obtain ⟨i3, e1, _, e3, _⟩ := info3x
              have h1 := HN0.out
              have := cut_from (P := Try.prog) 47 3 .i64 Try.underlying47 e1 1 e3 (some (⟨g, 0, none⟩ : Addr)) N cap (l.length : Int) (by omega) (by omega) W
              rw [Int.toNat_natCast, hD, show N - l.length = n by omega] at this
              exact this
            have HUL := Aside0.mk (show u.length = y.length from HUN.out.trans HYL.out.symm)
            clear hP hR hD hw41 s4 f4
            go_cut [] (fun wx => Aside0 (Kd.R kI 3 wx wQ.heap.size (fun _ => True) (.slice (some ⟨g, 0, none⟩) N cap) (unitV l.length i u) ∧ Below wQ.heap.size wQ wx))
            case first =>
              refine start_ (n := 10) (S := fun w' => w'.cell? (al.add i) = some (.slice Aj c.length cj)) (ds := []) #[false, false, false, false, false, false, false, false, false, false] (by kernel_rfl) rfl rfl (yd) (fun hHeld => ?_)
              refine pure_ (i := 0) (N := some 44) (v := ?_) (a' := ?_) #[true, false, false, false, false, false, false, false, false, false] rfl rfl (by kernel_rfl) (fun _ _ _ h => h) (Or.inl ⟨by rfl, ?_⟩) ?_ ?_
              rotate_left
              · intro w'
                go_simp
                with_reducible rfl
              rotate_left
              · simp only [Act.put, List.setIfInBounds_toArray, List.set_cons_zero, List.set_cons_succ, i64_w, i32_w]
                rfl
              refine pure_ (i := 1) (N := some 45) (v := ?_) (a' := ?_) #[true, true, false, false, false, false, false, false, false, false] rfl rfl (by kernel_rfl) (fun _ _ _ h => h) (Or.inl ⟨by rfl, ?_⟩) ?_ ?_
              rotate_left
              · intro w'
                go_simp
                with_reducible rfl
              rotate_left
              · simp only [Act.put, List.setIfInBounds_toArray, List.set_cons_zero, List.set_cons_succ, i64_w, i32_w]
                rfl
              refine pure_ (i := 2) (N := some 46) (v := ?_) (a' := ?_) #[true, true, true, false, false, false, false, false, false, false] rfl rfl (by kernel_rfl) (fun _ _ _ h => h) (Or.inl ⟨by rfl, ?_⟩) ?_ ?_
              rotate_left
              · intro w'
                go_simp
                with_reducible rfl
              rotate_left
              · simp only [Act.put, List.setIfInBounds_toArray, List.set_cons_zero, List.set_cons_succ, i64_w, i32_w]
                rfl
              refine pure_ (i := 3) (N := some 47) (v := ?_) (a' := ?_) #[true, true, true, true, false, false, false, false, false, false] rfl rfl (by kernel_rfl) (fun _ _ _ h => h) (Or.inl ⟨by rfl, ?_⟩) ?_ ?_
              rotate_left
              · intro w'
                go_simp
                with_reducible rfl
              rotate_left
              · simp only [Act.put, List.setIfInBounds_toArray, List.set_cons_zero, List.set_cons_succ, i64_w, i32_w]
                rfl
              refine pure_ (i := 4) (N := some 48) (v := ?_) (a' := ?_) #[true, true, true, true, true, false, false, false, false, false] rfl rfl (by kernel_rfl) (fun _ _ _ h => h) (Or.inl ⟨by rfl, ?_⟩) ?_ ?_
              rotate_left
              · intro w'
                go_simp
                with_reducible rfl
              rotate_left
              · simp only [Act.put, List.setIfInBounds_toArray, List.set_cons_zero, List.set_cons_succ, i64_w, i32_w]
                rfl
              refine pure_ (i := 5) (N := some 49) (v := ?_) (a' := ?_) #[true, true, true, true, true, true, false, false, false, false] rfl rfl (by kernel_rfl) (fun _ _ _ h => h) (Or.inl ⟨by rfl, ?_⟩) ?_ ?_
              rotate_left
              · intro w'
                go_simp
                with_reducible rfl
              rotate_left
              · simp only [Act.put, List.setIfInBounds_toArray, List.set_cons_zero, List.set_cons_succ, i64_w, i32_w]
                rfl
              refine pure_ (i := 7) (N := some 51) (v := ?_) (a' := ?_) #[true, true, true, true, true, true, false, true, false, false] rfl rfl (by kernel_rfl) (fun _ _ _ h => h) (Or.inl ⟨by rfl, ?_⟩) ?_ ?_
              rotate_left
              · intro w'
                go_simp
                with_reducible rfl
              rotate_left
              · simp only [Act.put, List.setIfInBounds_toArray, List.set_cons_zero, List.set_cons_succ, i64_w, i32_w]
                rfl
              refine take_ (i := 6) (N := some 50) (v := ?_) (a' := ?_) #[true, true, true, true, true, true, true, true, false, false] rfl rfl (by kernel_rfl) (fun _ _ _ h => h) (Or.inl ⟨by rfl, ?_⟩) hHeld ?_ ?_
              rotate_left
              · rintro w' s0
                go_simp
                with_reducible rfl
              rotate_left
              · simp only [Act.put, List.setIfInBounds_toArray, List.set_cons_zero, List.set_cons_succ, i64_w, i32_w]
                rfl
              refine one_ (i := 8) (N := some 52) #[true, true, true, true, true, true, true, true, true, false] rfl rfl (by kernel_rfl) (by decide) (fun K hK => ?_)
              refine goes_ Try.func64 (by kernel_rfl) rfl #[.slice Aj c.length cj, .int .i64 n] (by rfl) rfl rfl (by (try simp only [List.map_toArray, List.map_cons, List.map_nil]); first | done | rfl) ?_
              refine (torusref04_Vector.calls k Aj cj c n u _ HCJ.out HLJ.out HU.out).mono ?_
              rintro e w5 ⟨v52, rfl, hRu, hb5⟩
              refine ⟨_, rfl, ?_⟩
              have HRU := Aside0.mk hRu
              have HR5 := Aside0.mk (Kd.R_below HR4.out hb5)
              have HB5 := Aside0.mk (HB4.out.trans (hb5.mono HB4.out.size))
              have hs5 : w5.cell? (al.add i) = some (.slice Aj c.length cj) := pw_cell_below hb5 hHeld
              clear hRu hb5
              obtain ⟨Au, cu, eu⟩ := Kd.R_slice HRU.out
              subst eu
              refine hK.out _ _ (hs5) (fun hHeld => ?_)
              clear hK K
              refine norm_ (a' := ?_) ?_ ?_
              rotate_left
              · show Act.put _ (some 52) _ = _
                simp only [Act.put, List.setIfInBounds_toArray, List.set_cons_zero, List.set_cons_succ, i64_w, i32_w]
                rfl
              refine one_ (i := 9) (N := some 53) #[true, true, true, true, true, true, true, true, true, true] rfl rfl (by kernel_rfl) (by decide) (fun K hK => ?_)
              obtain ⟨w6, hrun, hR6, hg6⟩ := copy_end (ty := 3) (c := cu) HR5.out (Kd.R_reads' HRU.out).2.2 HUL.out HD.out (cap - l.length)
              refine event_step rfl (v := goInt u.length) (w1 := w6) ?_ ?_
              · rw [HYL.out] at hrun
                go_simp
              have HR6 := Aside0.mk hR6
              have HB6 := Aside0.mk (HB5.out.grown hg6 HB5.out.size (fun b e => by cases e; exact HGB.out))
              have hs6 : w6.cell? (al.add i) = some (.slice Aj c.length cj) :=
                (World.cell?_of_block (hg6.block _ (World.block_lt_of_cell? _ _ hs5) (fun e => by
                  have h1 := World.block_lt_of_cell? _ _ YL.out
                  have h2 := HGB.out
                  injection e with e
                  rw [e] at h1
                  exact absurd h2 (Nat.not_le.2 h1)))).trans hs5
              clear hR6 hg6 hrun
              refine hK.out _ _ (hs6) (fun hHeld => ?_)
              clear hK K
              refine norm_ (a' := ?_) ?_ ?_
              rotate_left
              · show Act.put _ (some 53) _ = _
                simp only [Act.put, List.setIfInBounds_toArray, List.set_cons_zero, List.set_cons_succ, i64_w, i32_w]
                rfl
              refine done_ (by kernel_rfl) ?_
              go_wp2_with fail
              go_meet
              have hlen : (x ++ u).length = N := by rw [List.length_append, HXL.out, HUN.out]; exact HN0.out
              have h := HR6.out
              rw [hlen, ← HXE.out] at h
              exact ⟨⟨h, HB6.out⟩⟩
            case rest =>
              obtain ⟨hR7, hB7⟩ := hcut.out
              obtain ⟨vv, hvv⟩ : ∃ vv, unitV l.length i u = vv := ⟨_, rfl⟩
              rw [hvv] at hR7
              have HVV := Aside0.mk hvv
              obtain rfl : N = vv.length := (Kd.R_reads' hR7).1
              have HR7 := Aside0.mk hR7
              have HB7 := Aside0.mk hB7
              have HN7 := Aside0.mk (Kd.N_below HN.out hB7)
              have HF7 := Aside0.mk (Kd.F_mono (Kd.R_F (Kd.R_bound hR7)) (ok' := fun j => wQ.heap.size ≤ j) (fun _ hj => hj.2.1))
              have HC7 := Aside0.mk (Kd.R_reads' hR7).2.1
              have HU1 := Aside0.mk (Kd.N_lt HN.out)
              have HL7 := Aside0.mk (room24 (a := acc.length) (b := 1) (by have h := HS.out.2; have h2 := HLL.out; omega))
              clear hR7 hB7 hvv hcut yd hcutD hN1 hmn
              go_wp2_with (first | ((with_reducible refine gate_builtin (b := .append) (xs := #[.tmp 54, .tmp 56]) rfl ?_); at_builtin; refine Kd.N_append kR (w0 := w) base rfl (.tmp 54) (.tmp 56) 94 47 (.slice none 0 0) 24 rfl Try.underlying94 info47 rfl (by decide) (by decide) u10 acc vv [.slice (some ⟨g, 0, none⟩) vv.length cap] (fun _ => True) (fun j => wQ.heap.size ≤ j) rfl rfl ?aP ?aQ ?aF ?aO ?aB ?aS ?aL ?_; (case aP => exact Kd.FK_slice_mk HC7.out HF7.out); (case aQ => exact fun j hj => ⟨trivial, fun e => absurd (HU1.out j e.symm) (Nat.not_lt.2 hj)⟩); (case aF => exact fun _ _ => trivial); (case aO => exact HN7.out); (case aB => exact HB.out.trans (HB7.out.mono HQ.out)); (case aS => exact Nat.le_trans HQ.out HB7.out.size); (case aL => exact HL7.out); intro v57 w8 ho hb hg hat; have HN8 := Aside0.mk ho; have HB8 := Aside0.mk hb; clear ho hb hg hat))
              go_roundg (l.length - (i + 1))
              case measure => exact less_left hlt hkq
              case rel => exact ⟨i + 1, acc ++ [vv], rest', (by first | exact int_next' i | exact int_next hlt HLL.out), hlt, rfl, HRS, ⟨by rw [List.append_assoc, ← HVV.out]; exact HS.out.1, by rw [List.length_append, HS.out.2]; rfl⟩, HN8, HB8⟩
          · rw [if_neg hul] at h; cases h
        · obtain rfl : i = l.length := i_done hi hlt
          have h := HA.out
          rw [List.drop_length, kerAll] at h
          cases h
          obtain ⟨hS1, hS2⟩ := HS.out
          rw [List.append_nil] at hS1
          subst hS1
          have hltb := ge_dec l.length
          have hmn := sum_w HLL.out HN1.out
          clear hS2 hlt hi hkq HS HA
          obtain ⟨A10, c10, e10⟩ := Kd.N_slice HN.out
          subst e10
          have HO8 := Aside0.mk (Kd.N_reads' HN.out)
          go_wp2_with (first | (go_at_call 74; (refine (torusref04_reduced.calls k p _ _ acc ((l.length : Int) + (n : Int)) red _ ?side1 ?side2 HRED.out).mono ?_); (case side1 => exact HO8.out.2.2); (case side2 => exact HO8.out.2.1); rintro e w19 ⟨v594, rfl, ho0, hb⟩; have HB9 := Aside0.mk (HB.out.trans (hb.mono HQ.out)); obtain ⟨Ao20, co20, eo20⟩ := Kd.N_slice ho0; subst eo20; have HV9 := Aside0.mk (Kd.N_V (base' := 0) (Kd.N_bound ho0)); clear ho0 hb))
          clear HB HN HO8 hmn hltb
          have HS9 := Aside0.mk (Below.refl w19.heap.size w19)
          go_loopg [13, 65] red.length (fun kq v13 v65 w' => ∃ (x13 : List (List S45)) (i : Nat), v65 = .int .i64 i ∧ i ≤ red.length ∧ kq = red.length - i ∧ Aside0 (kerSel k l.length (red.drop i) x13 = some r1) ∧ Aside0 (Kd.S (Kd.slice 45 k45) 22 w' w19.heap.size (fun _ => True) v13 x13) ∧ Aside0 (Below w19.heap.size w19 w'))
          case atStart => exact ⟨[], 0, rfl, Nat.zero_le _, rfl, HOUT, ⟨Kd.S_nil _ _ _ _ _⟩, HS9⟩
          case round =>
            clear HS9 HOUT
            obtain ⟨x13, i, rfl, hi, hkq, HA, HX, HS⟩ := hrel
            obtain ⟨wR, rfl⟩ : ∃ z, z = wr := ⟨_, rfl⟩
            have HVQ := Aside0.mk (Kd.V_F (Kd.V_below HV9.out HS.out))
            by_cases hlt : i < red.length
            · obtain ⟨ad, Ar, cr, eA, x0, hcr, hFr⟩ := rowAt HVQ.out i hlt
              have hmx : red.length ≤ 9223372036854775807 := (Kd.F_now HVQ.out).2.1
              subst eA
              obtain ⟨a, ha⟩ : ∃ a, red.getD i [] = a := ⟨_, rfl⟩
              have hdr : red.drop i = a :: red.drop (i + 1) := by
                rw [List.drop_eq_getElem_cons hlt, ← ha]
                simp [hlt]
              rw [ha] at x0 hcr hFr
              have h := HA.out
              rw [hdr, kerSel] at h
              obtain ⟨c, hc, h⟩ := Option.bind_eq_some_iff.1 h
              obtain ⟨⟨t1, t2⟩, ht, h⟩ := Option.bind_eq_some_iff.1 h
              have hltb := lt_dec hlt
              have hnx := int_nextM hlt hmx
              have HNX := Aside0.mk hnx
              have HT := Aside0.mk hc
              have HLO := Aside0.mk ht
              have HCR := Aside0.mk hcr
              have HFR := Aside0.mk hFr
              clear hc ht hcr hFr ha hdr hmx hnx HA
              by_cases hs : t1 < (l.length : Int)
              · have hsb : decide (t1 < (l.length : Int)) = true := decide_eq_true hs
                rw [if_pos hs] at h
                by_cases hx : x13.length < 1000000
                · rw [if_pos hx] at h
                  have H' := Aside0.mk h
                  have HLC := Aside0.mk (room24M hx)
                  clear h hx hs
                  go_wp2_with (first | (go_at_call 55; (refine (torusref04_Sparse.calls k _ _ a c _ ?side1 ?side2 HT.out).mono ?_); (case side1 => exact Kd.F_now HFR.out); (case side2 => exact HCR.out); rintro e w26 ⟨v598, rfl, ho0, hb⟩; have HX6 := Aside0.mk (Kd.S_elder' HX.out (Kd.R_base ho0) hb); have HR6 := Aside0.mk (Kd.R_lower ho0 HS.out.size); have HS6 := Aside0.mk (HS.out.trans (hb.mono HS.out.size)); clear ho0 hb; obtain ⟨Ao28, co28, eo28⟩ := Kd.R_slice HR6.out; subst eo28) | (go_at_call 23; (refine (torusref04_Low.calls _ _ c t1 t2 _ ?side1 ?side2 HLO.out).mono ?_); (case side1 => exact (Kd.R_reads' HR6.out).2.2); (case side2 => exact (Kd.R_reads' HR6.out).2.1); rintro e w27 ⟨rfl, hd⟩; have bd := hd.below; have HX7 := Aside0.mk (Kd.S_below HX6.out bd); have HR7 := Aside0.mk (Kd.R_below HR6.out bd); have HS7 := Aside0.mk (HS6.out.trans (bd.mono HS6.out.size)); clear hd bd) | ((with_reducible refine gate_builtin (b := .append) (xs := #[.tmp 79, .tmp 81]) rfl ?_); at_builtin; refine Kd.S_append (Kd.slice 45 k45) (w0 := w19) w19.heap.size rfl (.tmp 79) (.tmp 81) 37 22 (.slice none 0 0) 24 rfl Try.underlying37 info22 rfl (by decide) (by decide) u13 x13 c [.slice Ao28 c.length co28] (fun _ => True) (fun k_ => some k_ = (.slice Ao28 c.length co28 : Value).ownBlock) rfl rfl ?aP ?aQ ?aF ?aO ?aB ?aS ?aL ?_; (case aP => exact Kd.M_row (Kd.R_mono (Kd.R_tight rfl HR7.out) (fun _ h_ => h_))); (case aQ => exact fun k hk => ⟨trivial, ((Kd.R_apart' HR7.out (Kd.S_typed HX7.out) (by decide)).1 k hk.symm).2⟩); (case aF => exact fun _ _ => trivial); (case aO => exact Kd.S_mono HX7.out (fun k hk => ⟨trivial, fun e => hk.2 e⟩)); (case aB => exact HS7.out); (case aS => exact HS7.out.size); (case aL => exact HLC.out); intro v601 w28 ho hb hg hat; have HX8 := Aside0.mk ho; have HS8 := Aside0.mk hb; clear ho hb hg hat))
                  go_roundg (red.length - (i + 1))
                  case measure => exact less_left hlt hkq
                  case rel => exact ⟨x13 ++ [c], i + 1, (by first | exact int_next' i | exact HNX.out), hlt, rfl, H', HX8, HS8⟩
                · rw [if_neg hx] at h; cases h
              · have hsb : decide (t1 < (l.length : Int)) = false := decide_eq_false hs
                rw [if_neg hs] at h
                have H' := Aside0.mk h
                clear h hs
                go_wp2_with (first | (go_at_call 55; (refine (torusref04_Sparse.calls k _ _ a c _ ?side1 ?side2 HT.out).mono ?_); (case side1 => exact Kd.F_now HFR.out); (case side2 => exact HCR.out); rintro e w26 ⟨v598, rfl, ho0, hb⟩; have HX6 := Aside0.mk (Kd.S_below HX.out hb); have HR6 := Aside0.mk (Kd.R_lower ho0 HS.out.size); have HS6 := Aside0.mk (HS.out.trans (hb.mono HS.out.size)); clear ho0 hb; obtain ⟨Ao28, co28, eo28⟩ := Kd.R_slice HR6.out; subst eo28) | (go_at_call 23; (refine (torusref04_Low.calls _ _ c t1 t2 _ ?side1 ?side2 HLO.out).mono ?_); (case side1 => exact (Kd.R_reads' HR6.out).2.2); (case side2 => exact (Kd.R_reads' HR6.out).2.1); rintro e w27 ⟨rfl, hd⟩; have bd := hd.below; have HX7 := Aside0.mk (Kd.S_below HX6.out bd); have HS7 := Aside0.mk (HS6.out.trans (bd.mono HS6.out.size)); clear hd bd))
                go_roundg (red.length - (i + 1))
                case measure => exact less_left hlt hkq
                case rel => exact ⟨x13, i + 1, (by first | exact int_next' i | exact HNX.out), hlt, rfl, H', HX7, HS7⟩
            · obtain rfl : i = red.length := i_done hi hlt
              have h := HA.out
              rw [List.drop_length, kerSel] at h
              cases h
              have hltb := ge_dec red.length
              go_wp2
              go_ret2
              have hq9 : base ≤ w19.heap.size := by rw [← hbs]; exact HB9.out.size
              exact ⟨_, rfl, by rw [hbs]; exact Kd.S_lower HX.out hq9, by rw [hbs]; exact HB9.out.trans (HS.out.mono hq9)⟩
    · rw [if_neg hs] at h; cases h
  · rw [if_neg he] at h
    cases h
    have heb : (b2 != 0) = true := by simp [he]
    clear he
    go_enter Try.func49, Try.ntmps49
    go_wp2_with (first | (go_at_call 47; (refine (torusref04_Basis.calls k p A cl l b1 b2 _ hC hcl hB).mono ?_); rintro e w1 ⟨v1, rfl, hS1, hb1⟩; clear hS1))
    go_ret2
    exact ⟨_, rfl, Kd.S_nil _ _ _ _ _, hb1⟩
end Go.Proofs.Ytojnnfhalpefmaa.H
end

section
namespace Go.Proofs.Ytojnnfhalpefmaa.M
open Go.RowKit Go.Proofs.YtojnnfhalpefmaaW.PrintWords
def torusref04_Kernel.f (k : Nat) (a0 : Int) (l1 : List (List S45)) : Option (List (List S45) × Int) := H.kerR k a0 l1
theorem torusref04_Kernel.mono : ∀ a0 a1 k, LeO (torusref04_Kernel.f k a0 a1) (torusref04_Kernel.f (k + 1) a0 a1) := fun a0 a1 k => H.kerR_mono a0 a1 k
theorem torusref04_Kernel.calls (k : Nat) (a0 : Int) (A1 : Option Addr) (c1 : Nat) (l1 : List (List S45)) (r1 : List (List S45)) (r2 : Int) (w : World) (hr1 : Kd.C (Kd.slice 45 k45) w A1 l1.length l1) (hc1 : l1.length ≤ c1) (h : torusref04_Kernel.f k a0 l1 = some (r1, r2)) :
    Calls Try.prog 49 #[.int .i64 a0, .slice A1 l1.length c1] w fun e w' => ∃ v0_ : Value, e = .returned (.tuple #[v0_, .int .i64 r2]) ∧ Kd.S (Kd.slice 45 k45) 22 w' w.heap.size (fun _ => True) v0_ r1 ∧ Below w.heap.size w w' :=
  H.ker_calls k a0 A1 c1 l1 r1 r2 w hr1 hc1 h
end Go.Proofs.Ytojnnfhalpefmaa.M
end
