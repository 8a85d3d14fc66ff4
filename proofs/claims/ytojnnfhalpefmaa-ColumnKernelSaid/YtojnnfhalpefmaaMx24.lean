-- Written by a program of this session (a widened copy of the kit's printer) out of the translation.
import Derived.Test.YtojnnfhalpefmaaMx20
import Derived.Test.YtojnnfhalpefmaaEAw
import Derived.Test.YtojnnfhalpefmaaMx9
namespace Go.Proofs.Ytojnnfhalpefmaa.M
open Go.RowKit Go.Proofs.YtojnnfhalpefmaaW.PrintWords Go.Proofs.YtojnnfhalpefmaaW.PrintLast Go.Proofs.YtojnnfhalpefmaaW.PrintMore
attribute [local go_sem] max2_int min2_int max_two min_two max_three min_three max_four min_four   -- for this text's walks alone
set_option linter.unusedVariables false
set_option linter.unusedSimpArgs false

/-! ### toruslaw04_ColumnKernel: function 8 -/
mutual
def toruslaw04_ColumnKernel.j0 : Nat → Int → List (List (S45)) → List (List (S45)) → Bool → Option (Bool)
  | 0, _, _, _, _ => none
  | k + 1, x5, x6, x7, x66 => if x66 = true then (some false) else (toruslaw04_ColumnKernel.l0 k x5 x6 x7 x7 (x7.length : Int) 0)
def toruslaw04_ColumnKernel.l0 : Nat → Int → List (List (S45)) → List (List (S45)) → List (List (S45)) → Int → Int → Option (Bool)
  | 0, _, _, _, _, _, _ => none
  | k + 1, x5, x6, x7, x67, x68, x69 => if x69 < x68 then (if 0 ≤ x69 then (if x69 < (x67.length : Int) then ((column_Combine.f k x5 x6 (rd_L2 x67 x69)).bind fun bt560 => (if bt560.2 = 0 then (if (bt560.1.length : Int) > 0 then (some false) else (toruslaw04_ColumnKernel.l0 k x5 x6 x7 x67 x68 (wrap64 (x69 + 1)))) else (some false))) else (none)) else (none)) else ((column_Basis.f k x5 x7).bind fun bt564 => (if bt564.2 = 0 then ((torusref04_SameList.f k bt564.1 x7).bind fun t568 => (if t568 = true then ((toruslaw04_awake.f).bind fun t569 => (some t569)) else (some false))) else (some false)))
end
def toruslaw04_ColumnKernel.f (k : Nat) (a0 : Int) (l1 : List (List (S45))) : Option (Bool) := (torusref01_Field.f k a0).bind fun t547 => ((torusref04_FitList.f k t547 l1 10 8).bind fun t548 => ((column_Kernel.f k t547 t548).bind fun bt551 => ((column_Rank.f k t547 t548).bind fun bt555 => ((column_Rank.f k t547 bt551.1).bind fun bt557 => (if bt551.2 = 0 then (if bt555.2 = 0 then (if bt557.2 = 0 then (if (wrap64 (bt555.1 + (bt551.1.length : Int))) = (t548.length : Int) then (toruslaw04_ColumnKernel.j0 k t547 t548 bt551.1 (bt557.1 != (bt551.1.length : Int))) else (toruslaw04_ColumnKernel.j0 k t547 t548 bt551.1 true)) else (toruslaw04_ColumnKernel.j0 k t547 t548 bt551.1 true)) else (toruslaw04_ColumnKernel.j0 k t547 t548 bt551.1 true)) else (toruslaw04_ColumnKernel.j0 k t547 t548 bt551.1 true))))))
theorem toruslaw04_ColumnKernel.mono_l : ∀ k, (∀ y0 y1 y2 y3, LeO (toruslaw04_ColumnKernel.j0 k y0 y1 y2 y3) (toruslaw04_ColumnKernel.j0 (k + 1) y0 y1 y2 y3)) ∧ (∀ y0 y1 y2 y3 y4 y5, LeO (toruslaw04_ColumnKernel.l0 k y0 y1 y2 y3 y4 y5) (toruslaw04_ColumnKernel.l0 (k + 1) y0 y1 y2 y3 y4 y5))
  | 0 => ⟨fun _ _ _ _ r h => by simp [toruslaw04_ColumnKernel.j0] at h, fun _ _ _ _ _ _ r h => by simp [toruslaw04_ColumnKernel.l0] at h⟩
  | k + 1 => by
    obtain ⟨ih0, ih1⟩ := toruslaw04_ColumnKernel.mono_l k
    refine ⟨?_, ?_⟩
    · intro y0 y1 y2 y3
      unfold toruslaw04_ColumnKernel.j0
      repeat' first
      | (with_reducible exact ih0 _ _ _ _)
      | (with_reducible exact ih1 _ _ _ _ _ _)
      | (with_reducible exact column_Basis.mono _ _ _)
      | (with_reducible exact column_Combine.mono _ _ _ _)
      | (with_reducible exact column_Kernel.mono _ _ _)
      | (with_reducible exact column_Rank.mono _ _ _)
      | (with_reducible exact torusref01_Field.mono _ _)
      | (with_reducible exact torusref04_FitList.mono _ _ _ _ _)
      | (with_reducible exact torusref04_SameList.mono _ _ _)
      | (with_reducible exact LeO.refl _)
      | (with_reducible exact LeO.none _)
      | (with_reducible refine LeO.ite ?_ ?_)
      | (with_reducible refine LeO.bind ?_ (fun _ => ?_))
      | exact ih0 _ _ _ _
      | exact ih1 _ _ _ _ _ _
      | exact column_Basis.mono _ _ _
      | exact column_Combine.mono _ _ _ _
      | exact column_Kernel.mono _ _ _
      | exact column_Rank.mono _ _ _
      | exact torusref01_Field.mono _ _
      | exact torusref04_FitList.mono _ _ _ _ _
      | exact torusref04_SameList.mono _ _ _
      | exact LeO.none _
      | refine LeO.ite ?_ ?_
      | refine LeO.bind ?_ (fun _ => ?_)
    · intro y0 y1 y2 y3 y4 y5
      unfold toruslaw04_ColumnKernel.l0
      repeat' first
      | (with_reducible exact ih0 _ _ _ _)
      | (with_reducible exact ih1 _ _ _ _ _ _)
      | (with_reducible exact column_Basis.mono _ _ _)
      | (with_reducible exact column_Combine.mono _ _ _ _)
      | (with_reducible exact column_Kernel.mono _ _ _)
      | (with_reducible exact column_Rank.mono _ _ _)
      | (with_reducible exact torusref01_Field.mono _ _)
      | (with_reducible exact torusref04_FitList.mono _ _ _ _ _)
      | (with_reducible exact torusref04_SameList.mono _ _ _)
      | (with_reducible exact LeO.refl _)
      | (with_reducible exact LeO.none _)
      | (with_reducible refine LeO.ite ?_ ?_)
      | (with_reducible refine LeO.bind ?_ (fun _ => ?_))
      | exact ih0 _ _ _ _
      | exact ih1 _ _ _ _ _ _
      | exact column_Basis.mono _ _ _
      | exact column_Combine.mono _ _ _ _
      | exact column_Kernel.mono _ _ _
      | exact column_Rank.mono _ _ _
      | exact torusref01_Field.mono _ _
      | exact torusref04_FitList.mono _ _ _ _ _
      | exact torusref04_SameList.mono _ _ _
      | exact LeO.none _
      | refine LeO.ite ?_ ?_
      | refine LeO.bind ?_ (fun _ => ?_)
theorem toruslaw04_ColumnKernel.mono : ∀ a0 a1 k, LeO (toruslaw04_ColumnKernel.f k a0 a1) (toruslaw04_ColumnKernel.f (k + 1) a0 a1) := by
  intro a0 a1 k
  obtain ⟨ih0, ih1⟩ := toruslaw04_ColumnKernel.mono_l k
  unfold toruslaw04_ColumnKernel.f
  repeat' first
      | (with_reducible exact ih0 _ _ _ _)
      | (with_reducible exact ih1 _ _ _ _ _ _)
      | (with_reducible exact column_Basis.mono _ _ _)
      | (with_reducible exact column_Combine.mono _ _ _ _)
      | (with_reducible exact column_Kernel.mono _ _ _)
      | (with_reducible exact column_Rank.mono _ _ _)
      | (with_reducible exact torusref01_Field.mono _ _)
      | (with_reducible exact torusref04_FitList.mono _ _ _ _ _)
      | (with_reducible exact torusref04_SameList.mono _ _ _)
      | (with_reducible exact LeO.refl _)
      | (with_reducible exact LeO.none _)
      | (with_reducible refine LeO.ite ?_ ?_)
      | (with_reducible refine LeO.bind ?_ (fun _ => ?_))
      | exact ih0 _ _ _ _
      | exact ih1 _ _ _ _ _ _
      | exact column_Basis.mono _ _ _
      | exact column_Combine.mono _ _ _ _
      | exact column_Kernel.mono _ _ _
      | exact column_Rank.mono _ _ _
      | exact torusref01_Field.mono _ _
      | exact torusref04_FitList.mono _ _ _ _ _
      | exact torusref04_SameList.mono _ _ _
      | exact LeO.none _
      | refine LeO.ite ?_ ?_
      | refine LeO.bind ?_ (fun _ => ?_)
theorem toruslaw04_ColumnKernel.j0_dead (k : Nat) (x0 : _) (x1 : _) (x2 : _) : ¬ toruslaw04_ColumnKernel.j0 k x0 x1 x2 true = some true := by
  cases k <;> simp [toruslaw04_ColumnKernel.j0]
set_option maxHeartbeats 8000000 in
set_option maxRecDepth 100000 in
theorem toruslaw04_ColumnKernel.calls (k : Nat) (a0 : Int) (A1 : Option Addr) (c1 : Nat) (l1 : List (List (S45))) (r : Bool) (w : World) (hr1 : Kd.C (Kd.slice 45 k45) w A1 l1.length l1) (hc1 : l1.length ≤ c1) (h : toruslaw04_ColumnKernel.f k a0 l1 = some r) (hrt : r = true) :
    Calls Try.prog 8 #[.int .i64 a0, .slice A1 l1.length c1] w fun e w' => e = .returned (.bool r) ∧ Below w.heap.size w w' := by
  have HR1 := Aside0.mk hr1
  have HC1 := Aside0.mk hc1
  clear hr1 hc1
  have HB := Aside0.mk (Below.refl w.heap.size w)
  have H : ((torusref01_Field.f k a0).bind fun t547 => ((torusref04_FitList.f k t547 l1 10 8).bind fun t548 => ((column_Kernel.f k t547 t548).bind fun bt551 => ((column_Rank.f k t547 t548).bind fun bt555 => ((column_Rank.f k t547 bt551.1).bind fun bt557 => (if bt551.2 = 0 then (if bt555.2 = 0 then (if bt557.2 = 0 then (if (wrap64 (bt555.1 + (bt551.1.length : Int))) = (t548.length : Int) then (toruslaw04_ColumnKernel.j0 k t547 t548 bt551.1 (bt557.1 != (bt551.1.length : Int))) else (toruslaw04_ColumnKernel.j0 k t547 t548 bt551.1 true)) else (toruslaw04_ColumnKernel.j0 k t547 t548 bt551.1 true)) else (toruslaw04_ColumnKernel.j0 k t547 t548 bt551.1 true)) else (toruslaw04_ColumnKernel.j0 k t547 t548 bt551.1 true))))))) = some r := h
  clear h
  replace H := Option.bind_eq_some_iff.mp H
  obtain ⟨t547, A30, H⟩ := H
  replace H : ((torusref04_FitList.f k t547 l1 10 8).bind fun t548 => ((column_Kernel.f k t547 t548).bind fun bt551 => ((column_Rank.f k t547 t548).bind fun bt555 => ((column_Rank.f k t547 bt551.1).bind fun bt557 => (if bt551.2 = 0 then (if bt555.2 = 0 then (if bt557.2 = 0 then (if (wrap64 (bt555.1 + (bt551.1.length : Int))) = (t548.length : Int) then (toruslaw04_ColumnKernel.j0 k t547 t548 bt551.1 (bt557.1 != (bt551.1.length : Int))) else (toruslaw04_ColumnKernel.j0 k t547 t548 bt551.1 true)) else (toruslaw04_ColumnKernel.j0 k t547 t548 bt551.1 true)) else (toruslaw04_ColumnKernel.j0 k t547 t548 bt551.1 true)) else (toruslaw04_ColumnKernel.j0 k t547 t548 bt551.1 true)))))) = some r := H
  have A3 := Aside0.mk A30
  clear A30
  replace H := Option.bind_eq_some_iff.mp H
  obtain ⟨t548, A40, H⟩ := H
  replace H : ((column_Kernel.f k t547 t548).bind fun bt551 => ((column_Rank.f k t547 t548).bind fun bt555 => ((column_Rank.f k t547 bt551.1).bind fun bt557 => (if bt551.2 = 0 then (if bt555.2 = 0 then (if bt557.2 = 0 then (if (wrap64 (bt555.1 + (bt551.1.length : Int))) = (t548.length : Int) then (toruslaw04_ColumnKernel.j0 k t547 t548 bt551.1 (bt557.1 != (bt551.1.length : Int))) else (toruslaw04_ColumnKernel.j0 k t547 t548 bt551.1 true)) else (toruslaw04_ColumnKernel.j0 k t547 t548 bt551.1 true)) else (toruslaw04_ColumnKernel.j0 k t547 t548 bt551.1 true)) else (toruslaw04_ColumnKernel.j0 k t547 t548 bt551.1 true))))) = some r := H
  have A4 := Aside0.mk A40
  clear A40
  replace H := Option.bind_eq_some_iff.mp H
  obtain ⟨⟨t551, t552⟩, A50, H⟩ := H
  replace H : ((column_Rank.f k t547 t548).bind fun bt555 => ((column_Rank.f k t547 t551).bind fun bt557 => (if t552 = 0 then (if bt555.2 = 0 then (if bt557.2 = 0 then (if (wrap64 (bt555.1 + (t551.length : Int))) = (t548.length : Int) then (toruslaw04_ColumnKernel.j0 k t547 t548 t551 (bt557.1 != (t551.length : Int))) else (toruslaw04_ColumnKernel.j0 k t547 t548 t551 true)) else (toruslaw04_ColumnKernel.j0 k t547 t548 t551 true)) else (toruslaw04_ColumnKernel.j0 k t547 t548 t551 true)) else (toruslaw04_ColumnKernel.j0 k t547 t548 t551 true)))) = some r := H
  have A5 := Aside0.mk A50
  clear A50
  replace H := Option.bind_eq_some_iff.mp H
  obtain ⟨⟨t555, t556⟩, A60, H⟩ := H
  replace H : ((column_Rank.f k t547 t551).bind fun bt557 => (if t552 = 0 then (if t556 = 0 then (if bt557.2 = 0 then (if (wrap64 (t555 + (t551.length : Int))) = (t548.length : Int) then (toruslaw04_ColumnKernel.j0 k t547 t548 t551 (bt557.1 != (t551.length : Int))) else (toruslaw04_ColumnKernel.j0 k t547 t548 t551 true)) else (toruslaw04_ColumnKernel.j0 k t547 t548 t551 true)) else (toruslaw04_ColumnKernel.j0 k t547 t548 t551 true)) else (toruslaw04_ColumnKernel.j0 k t547 t548 t551 true))) = some r := H
  have A6 := Aside0.mk A60
  clear A60
  replace H := Option.bind_eq_some_iff.mp H
  obtain ⟨⟨t557, t558⟩, A70, H⟩ := H
  replace H : (if t552 = 0 then (if t556 = 0 then (if t558 = 0 then (if (wrap64 (t555 + (t551.length : Int))) = (t548.length : Int) then (toruslaw04_ColumnKernel.j0 k t547 t548 t551 (t557 != (t551.length : Int))) else (toruslaw04_ColumnKernel.j0 k t547 t548 t551 true)) else (toruslaw04_ColumnKernel.j0 k t547 t548 t551 true)) else (toruslaw04_ColumnKernel.j0 k t547 t548 t551 true)) else (toruslaw04_ColumnKernel.j0 k t547 t548 t551 true)) = some r := H
  have A7 := Aside0.mk A70
  clear A70
  have HC8 := Aside0.mk H
  clear H
  go_enter Try.func8, Try.ntmps8
  go_upto_region 6 with (first | ((with_reducible refine gate_callee (f := 12) rfl ?_); refine goesL_ (some 20) rfl rfl Try.func12 (by kernel_rfl) rfl #[.int .i64 a0] rfl (by (try simp only [List.map_toArray, List.map_cons, List.map_nil]); first | done | rfl | (simp only [List.length_drop, List.length_take]; rfl)) ?_; (with_reducible refine (torusref01_Field.calls k a0 t547 _ A3.out).mono ?_); rintro e w9 ⟨rfl, hb⟩; refine ⟨_, rfl, ?_⟩; have n0_ := Aside0.mk (below_step (by repeat (first | (with_reducible first | exact HB.out | apply below_alloc | apply pw_below_drewN | apply below_drew1) | exact HB.out)) hb); clear HB; have HB := n0_; clear n0_; (try clear hb); (try clear hb2); (try clear hk); (try clear hi)) | ((with_reducible refine gate_callee (f := 37) rfl ?_); refine goesL_ (some 23) rfl rfl Try.func37 (by kernel_rfl) rfl #[.int .i64 t547, .slice A1 l1.length c1, .int .i64 10, .int .i64 8] rfl (by (try simp only [List.map_toArray, List.map_cons, List.map_nil]); first | done | rfl | (simp only [List.length_drop, List.length_take]; rfl)) ?_; (with_reducible refine (torusref04_FitList.calls k t547 _ _ l1 10 8 t548 _ ?side1 ?side2 A4.out).mono ?_); (case side1 => repeat (first | exact (Kd.C_below HR1.out HB.out) | (with_reducible refine Kd.C_alloc ?_ _) | (with_reducible refine Kd.C_drewN ?_ _) | (with_reducible refine Kd.C_drew ?_))); (case side2 => exact HC1.out); rintro e w10 ⟨v549, rfl, ho0, hb⟩; refine ⟨_, rfl, ?_⟩; have n0_ := Aside0.mk (Kd.S_lower ho0 (below_size (by repeat (first | (with_reducible first | exact HB.out | apply below_alloc | apply pw_below_drewN | apply below_drew1) | exact HB.out)))); have n1_ := Aside0.mk (below_step (by repeat (first | (with_reducible first | exact HB.out | apply below_alloc | apply pw_below_drewN | apply below_drew1) | exact HB.out)) hb); clear HB; have HO550 := n0_; have HB := n1_; clear n0_ n1_; (try clear hb); (try clear hb2); (try clear hk); (try clear hi); (try clear ho0); obtain ⟨Ao11, co11, eo11⟩ := Kd.S_slice HO550.out; subst eo11) | ((with_reducible refine gate_callee (f := 48) rfl ?_); refine goesL_ (some 27) rfl rfl Try.func48 (by kernel_rfl) rfl #[.int .i64 t547, .slice Ao11 t548.length co11] rfl (by (try simp only [List.map_toArray, List.map_cons, List.map_nil]); first | done | rfl | (simp only [List.length_drop, List.length_take]; rfl)) ?_; (with_reducible refine (column_Kernel.calls k t547 _ _ t548 t551 t552 _ ?side1 ?side2 A5.out).mono ?_); (case side1 => repeat (first | exact (Kd.S_reads' HO550.out).2.2 | (with_reducible refine Kd.C_alloc ?_ _) | (with_reducible refine Kd.C_drewN ?_ _) | (with_reducible refine Kd.C_drew ?_))); (case side2 => exact (Kd.S_reads' HO550.out).2.1); rintro e w12 ⟨v553, rfl, ho0, hb⟩; refine ⟨_, rfl, ?_⟩; have n0_ := Aside0.mk (Kd.S_elder' (by (with_reducible repeat (first | apply Kd.S_alloc | apply Kd.S_drewN | apply Kd.S_drew)); exact HO550.out) (Kd.S_base ho0) hb); have n1_ := Aside0.mk (Kd.S_lower (Kd.S_new' ho0 (Kd.S_lt (by (with_reducible repeat (first | apply Kd.S_alloc | apply Kd.S_drewN | apply Kd.S_drew)); exact HO550.out))) (below_size (by repeat (first | (with_reducible first | exact HB.out | apply below_alloc | apply pw_below_drewN | apply below_drew1) | exact HB.out)))); have n2_ := Aside0.mk (below_step (by repeat (first | (with_reducible first | exact HB.out | apply below_alloc | apply pw_below_drewN | apply below_drew1) | exact HB.out)) hb); clear HO550; clear HB; have HO550 := n0_; have HO554 := n1_; have HB := n2_; clear n0_ n1_ n2_; (try clear hb); (try clear hb2); (try clear hk); (try clear hi); (try clear ho0)) | ((with_reducible refine gate_callee (f := 39) rfl ?_); refine goesL_ (some 33) rfl rfl Try.func39 (by kernel_rfl) rfl #[.int .i64 t547, .slice Ao11 t548.length co11] rfl (by (try simp only [List.map_toArray, List.map_cons, List.map_nil]); first | done | rfl | (simp only [List.length_drop, List.length_take]; rfl)) ?_; (with_reducible refine (column_Rank.calls k t547 _ _ t548 t555 t556 _ ?side1 ?side2 A6.out).mono ?_); (case side1 => repeat (first | exact (Kd.S_reads' HO550.out).2.2 | (with_reducible refine Kd.C_alloc ?_ _) | (with_reducible refine Kd.C_drewN ?_ _) | (with_reducible refine Kd.C_drew ?_))); (case side2 => exact (Kd.S_reads' HO550.out).2.1); rintro e w13 ⟨rfl, hb⟩; refine ⟨_, rfl, ?_⟩; have n0_ := Aside0.mk (Kd.S_below (by (with_reducible repeat (first | apply Kd.S_alloc | apply Kd.S_drewN | apply Kd.S_drew)); exact HO550.out) hb); have n1_ := Aside0.mk (Kd.S_below (by (with_reducible repeat (first | apply Kd.S_alloc | apply Kd.S_drewN | apply Kd.S_drew)); exact HO554.out) hb); have n2_ := Aside0.mk (below_step (by repeat (first | (with_reducible first | exact HB.out | apply below_alloc | apply pw_below_drewN | apply below_drew1) | exact HB.out)) hb); clear HO550; clear HO554; clear HB; have HO550 := n0_; have HO554 := n1_; have HB := n2_; clear n0_ n1_ n2_; (try clear hb); (try clear hb2); (try clear hk); (try clear hi); obtain ⟨Ao14, co14, eo14⟩ := Kd.S_slice HO554.out; subst eo14) | ((with_reducible refine gate_callee (f := 39) rfl ?_); refine goesL_ (some 39) rfl rfl Try.func39 (by kernel_rfl) rfl #[.int .i64 t547, .slice Ao14 t551.length co14] rfl (by (try simp only [List.map_toArray, List.map_cons, List.map_nil]); first | done | rfl | (simp only [List.length_drop, List.length_take]; rfl)) ?_; (with_reducible refine (column_Rank.calls k t547 _ _ t551 t557 t558 _ ?side1 ?side2 A7.out).mono ?_); (case side1 => repeat (first | exact (Kd.S_reads' HO554.out).2.2 | (with_reducible refine Kd.C_alloc ?_ _) | (with_reducible refine Kd.C_drewN ?_ _) | (with_reducible refine Kd.C_drew ?_))); (case side2 => exact (Kd.S_reads' HO554.out).2.1); rintro e w15 ⟨rfl, hb⟩; refine ⟨_, rfl, ?_⟩; have n0_ := Aside0.mk (Kd.S_below (by (with_reducible repeat (first | apply Kd.S_alloc | apply Kd.S_drewN | apply Kd.S_drew)); exact HO550.out) hb); have n1_ := Aside0.mk (Kd.S_below (by (with_reducible repeat (first | apply Kd.S_alloc | apply Kd.S_drewN | apply Kd.S_drew)); exact HO554.out) hb); have n2_ := Aside0.mk (below_step (by repeat (first | (with_reducible first | exact HB.out | apply below_alloc | apply pw_below_drewN | apply below_drew1) | exact HB.out)) hb); clear HO550; clear HO554; clear HB; have HO550 := n0_; have HO554 := n1_; have HB := n2_; clear n0_ n1_ n2_; (try clear hb); (try clear hb2); (try clear hk); (try clear hi)))
  (try simp only [Act.put, List.setIfInBounds_toArray, List.set_cons_zero, List.set_cons_succ])
  go_cut [66] (fun v66 wc => ∃ (kq : Nat) (x66_7 : Bool), v66 = .bool x66_7 ∧ Aside0 (toruslaw04_ColumnKernel.j0 kq t547 t548 t551 x66_7 = some r) ∧ Aside0 (kq ≤ k) ∧ Aside0 (Kd.S (Kd.slice 45 k45) 22 wc w.heap.size (fun k_ => some k_ ≠ ((.slice Ao14 t551.length co14) : Value).ownBlock) (.slice Ao11 t548.length co11) t548) ∧ Aside0 (Kd.S (Kd.slice 45 k45) 22 wc w.heap.size (fun k_ => some k_ ≠ ((.slice Ao11 t548.length co11) : Value).ownBlock) (.slice Ao14 t551.length co14) t551) ∧ Aside0 (Below w.heap.size w wc))
  case first =>
    have H := HC8.out
    clear HC8
    by_cases c16 : t552 = 0
    · rw [if_pos c16] at H
      have c16b0 : (t552 == 0) = true := beq_iff_eq.mpr c16
      have c16b1 : (t552 != 0) = false := bne_eq_false_iff_eq.mpr c16
      clear c16
      (first | rw [c16b0] | (simp only [i64_w, i32_w]; rw [c16b0]) | skip)
      by_cases c17 : t556 = 0
      · rw [if_pos c17] at H
        have c17b0 : (t556 == 0) = true := beq_iff_eq.mpr c17
        have c17b1 : (t556 != 0) = false := bne_eq_false_iff_eq.mpr c17
        clear c17
        by_cases c18 : t558 = 0
        · rw [if_pos c18] at H
          have c18b0 : (t558 == 0) = true := beq_iff_eq.mpr c18
          have c18b1 : (t558 != 0) = false := bne_eq_false_iff_eq.mpr c18
          clear c18
          by_cases c19 : (wrap64 (t555 + (t551.length : Int))) = (t548.length : Int)
          · rw [if_pos c19] at H
            have c19b0 : ((wrap64 (t555 + (t551.length : Int))) == (t548.length : Int)) = true := beq_iff_eq.mpr c19
            have c19b1 : ((wrap64 (t555 + (t551.length : Int))) != (t548.length : Int)) = false := bne_eq_false_iff_eq.mpr c19
            clear c19
            have H' := Aside0.mk H
            clear H
            go_wp2
            go_meet
            case rel => exact ⟨_, ((t557 != (t551.length : Int))), (by first | rfl | (simp; done) | (simp [*]; done)), H', ⟨by first | omega | exact Nat.le_refl _⟩, ⟨by (with_reducible repeat (first | apply Kd.S_alloc | apply Kd.S_drewN | apply Kd.S_drew)); exact Kd.S_mono HO550.out (fun _ hk => hk.2)⟩, ⟨by (with_reducible repeat (first | apply Kd.S_alloc | apply Kd.S_drewN | apply Kd.S_drew)); exact Kd.S_mono HO554.out (fun _ hk => hk.2)⟩, ⟨by repeat (first | (with_reducible first | exact HB.out | apply below_alloc | apply pw_below_drewN | apply below_drew1) | exact HB.out)⟩⟩
          · rw [if_neg c19] at H
            exact absurd H (by rw [hrt]; exact toruslaw04_ColumnKernel.j0_dead _ _ _ _)
        · rw [if_neg c18] at H
          exact absurd H (by rw [hrt]; exact toruslaw04_ColumnKernel.j0_dead _ _ _ _)
      · rw [if_neg c17] at H
        exact absurd H (by rw [hrt]; exact toruslaw04_ColumnKernel.j0_dead _ _ _ _)
    · rw [if_neg c16] at H
      exact absurd H (by rw [hrt]; exact toruslaw04_ColumnKernel.j0_dead _ _ _ _)
  case rest =>
    clear HC8
    try clear c1
    try clear p2
    try clear c3
    try clear c4
    try clear p6
    try clear c8
    try clear c12
    try clear c16
    try clear c16b0
    try clear c16b1
    try clear c17
    try clear c17b0
    try clear c17b1
    try clear c18
    try clear c18b0
    try clear c18b1
    try clear c19
    try clear c19b0
    try clear c19b1
    obtain ⟨kq, x66_7, rfl, HA, HJ7, HO_6, HO_7, HB⟩ := hcut
    cases kq with
    | zero => exact absurd HA.out (by simp [toruslaw04_ColumnKernel.j0])
    | succ kj7 =>
      have H := HA.out
      clear HA
      simp only [toruslaw04_ColumnKernel.j0] at H
      by_cases c20 : x66_7 = true
      · subst c20
        have H1 : (some false) = some r := by rw [if_pos rfl] at H; exact H
        clear H
        have H := H1
        clear H1
        exact absurd (Option.some.inj H) (by rw [hrt]; exact Bool.false_ne_true)
      · replace c20 := Bool.eq_false_iff.mpr c20
        subst c20
        have H1 : (toruslaw04_ColumnKernel.l0 kj7 t547 t548 t551 t551 (t551.length : Int) 0) = some r := by rw [if_neg (show ¬ (false = true) by decide)] at H; exact H
        clear H
        have H := H1
        clear H1
        have H' := Aside0.mk H
        clear H
        go_wp2
        go_loopg [69] kj7 (fun kq v69 w' => ∃ (x69_2 : Int), v69 = .int .i64 x69_2 ∧ Aside0 (toruslaw04_ColumnKernel.l0 kq t547 t548 t551 t551 (t551.length : Int) x69_2 = some r) ∧ Aside0 (kq ≤ kj7) ∧ Aside0 (Kd.S (Kd.slice 45 k45) 22 w' w.heap.size (fun k_ => some k_ ≠ ((.slice Ao14 t551.length co14) : Value).ownBlock ∧ some k_ ≠ ((.slice Ao14 t551.length co14) : Value).ownBlock) (.slice Ao11 t548.length co11) t548) ∧ Aside0 (Kd.S (Kd.slice 45 k45) 22 w' w.heap.size (fun k_ => some k_ ≠ ((.slice Ao11 t548.length co11) : Value).ownBlock) (.slice Ao14 t551.length co14) t551) ∧ Aside0 (Kd.S (Kd.slice 45 k45) 22 w' w.heap.size (fun k_ => some k_ ≠ ((.slice Ao11 t548.length co11) : Value).ownBlock) (.slice Ao14 t551.length co14) t551) ∧ Aside0 (Below w.heap.size w w'))
        case atStart => exact ⟨(0), (by first | rfl | (simp; done) | (simp [*]; done)), H', ⟨Nat.le_refl _⟩, ⟨by (with_reducible repeat (first | apply Kd.S_alloc | apply Kd.S_drewN | apply Kd.S_drew)); exact Kd.S_mono HO_6.out (fun _ hk => ⟨hk, hk⟩)⟩, ⟨by (with_reducible repeat (first | apply Kd.S_alloc | apply Kd.S_drewN | apply Kd.S_drew)); exact HO_7.out⟩, ⟨by (with_reducible repeat (first | apply Kd.S_alloc | apply Kd.S_drewN | apply Kd.S_drew)); exact HO_7.out⟩, ⟨by repeat (first | (with_reducible first | exact HB.out | apply below_alloc | apply pw_below_drewN | apply below_drew1) | exact HB.out)⟩⟩
        case round =>
          clear H'
          try clear c1
          try clear c2
          try clear p2
          try clear c3
          try clear c4
          try clear p6
          try clear c8
          try clear c12
          try clear c16
          try clear c16b0
          try clear c16b1
          try clear c17
          try clear c17b0
          try clear c17b1
          try clear c18
          try clear c18b0
          try clear c18b1
          try clear c19
          try clear c19b0
          try clear c19b1
          try clear c20
          try clear p2
          try clear p6
          obtain ⟨x69_2, rfl, HA, HK2, HO_6, HO_7, HO_67, HB⟩ := hrel
          cases gk with
          | zero => exact absurd HA.out (by simp [toruslaw04_ColumnKernel.l0])
          | succ k2 =>
            have H := HA.out
            clear HA
            simp only [toruslaw04_ColumnKernel.l0] at H
            by_cases c21 : x69_2 < (t551.length : Int)
            · rw [if_pos c21] at H
              have c21b0 : decide (x69_2 < (t551.length : Int)) = true := decide_eq_true c21
              clear c21
              by_cases c22 : 0 ≤ x69_2
              · rw [if_pos c22] at H
                have c22b0 : decide (0 ≤ x69_2) = true := decide_eq_true c22
                clear c22
                by_cases c23 : x69_2 < (t551.length : Int)
                · rw [if_pos c23] at H
                  have c23b0 : decide (x69_2 < (t551.length : Int)) = true := decide_eq_true c23
                  clear c23
                  replace H := Option.bind_eq_some_iff.mp H
                  obtain ⟨⟨t560, t561⟩, A240, H⟩ := H
                  replace H : (if t561 = 0 then (if (t560.length : Int) > 0 then (some false) else (toruslaw04_ColumnKernel.l0 k2 t547 t548 t551 t551 (t551.length : Int) (wrap64 (x69_2 + 1)))) else (some false)) = some r := H
                  have A24 := Aside0.mk A240
                  clear A240
                  by_cases c25 : t561 = 0
                  · rw [if_pos c25] at H
                    have c25b0 : (t561 == 0) = true := beq_iff_eq.mpr c25
                    have c25b1 : (t561 != 0) = false := bne_eq_false_iff_eq.mpr c25
                    clear c25
                    by_cases c26 : (t560.length : Int) > 0
                    · rw [if_pos c26] at H
                      exact absurd (Option.some.inj H) (by rw [hrt]; exact Bool.false_ne_true)
                    · rw [if_neg c26] at H
                      have c26b0 : decide (0 < (t560.length : Int)) = false := decide_eq_false c26
                      have c26b1 : decide (0 < t560.length) = false := decide_eq_false (by omega)
                      clear c26
                      have H' := Aside0.mk H
                      clear H
                      have p559 : 0 ≤ (x69_2 : Int) := of_decide_eq_true (by first | (with_reducible assumption) | assumption)
                      have q559 : x69_2 < (t551.length : Int) := of_decide_eq_true (by first | (with_reducible assumption) | assumption)
                      obtain ⟨ad559, A559_0, c559_0, e559, hx559_0, hl559_0, hi559_0⟩ := at_L2 (Kd.S_reads' HO_67.out).2.2 x69_2 p559 q559
                      cases e559
                      obtain ⟨ce559, hce559, hMe559, hcc559⟩ := Kd.S_get HO_67.out [] x69_2 p559 (by first | exact q559 | exact of_decide_eq_true (by first | (with_reducible assumption) | assumption) | (have e_ := (Kd.S_reads' HO_67.out).1; omega))
                      obtain ⟨ve559_0, rfl, ge559_0⟩ := hMe559
                      have hv559_0 := hcc559 0 _ rfl
                      rw [Nat.add_zero, show ((Kd.slice 45 k45)).sz = 1 from rfl, Nat.mul_one] at hv559_0
                      replace hv559_0 := Option.some.inj (hv559_0.symm.trans hx559_0)
                      rw [hv559_0] at ge559_0
                      have HL559_0 := Aside0.mk (show Kd.R k45 45 _ _ _ _ (rd_L2 t551 x69_2) from ge559_0)
                      clear hv559_0 ge559_0
                      clear hcc559 hce559
                      have HR559_0 := Aside0.mk hi559_0
                      have HC559_0 := Aside0.mk hl559_0
                      clear hi559_0 hl559_0
                      replace p559 := eq_true p559
                      replace q559 := eq_true q559
                      go_wp2_with (first | ((with_reducible refine gate_callee (f := 43) rfl ?_); refine goesL_ (some 77) rfl rfl Try.func43 (by kernel_rfl) rfl #[.int .i64 t547, .slice Ao11 t548.length co11, .slice A559_0 (rd_L2 t551 x69_2).length c559_0] rfl (by (try simp only [List.map_toArray, List.map_cons, List.map_nil]); first | done | rfl | (simp only [List.length_drop, List.length_take]; rfl)) ?_; (with_reducible refine (column_Combine.calls k2 t547 _ _ t548 _ _ (rd_L2 t551 x69_2) t560 t561 _ ?side1 ?side2 ?side3 ?side4 A24.out).mono ?_); (case side1 => repeat (first | exact (Kd.S_reads' HO_6.out).2.2 | (with_reducible refine Kd.C_alloc ?_ _) | (with_reducible refine Kd.C_drewN ?_ _) | (with_reducible refine Kd.C_drew ?_))); (case side2 => exact (Kd.S_reads' HO_6.out).2.1); (case side3 => repeat (first | exact (by repeat (first | (with_reducible exact HR559_0.out) | (with_reducible refine Kd.C_alloc ?_ _) | (with_reducible refine Kd.C_drewN ?_ _) | (with_reducible refine Kd.C_drew ?_) | exact HR559_0.out)) | (with_reducible refine Kd.C_alloc ?_ _) | (with_reducible refine Kd.C_drewN ?_ _) | (with_reducible refine Kd.C_drew ?_))); (case side4 => exact HC559_0.out); rintro e w29 ⟨v562, rfl, ho0, hb⟩; refine ⟨_, rfl, ?_⟩; have n0_ := Aside0.mk (Kd.S_elder' (by (with_reducible repeat (first | apply Kd.S_alloc | apply Kd.S_drewN | apply Kd.S_drew)); exact HO_6.out) (Kd.R_base ho0) hb); have n1_ := Aside0.mk (Kd.S_elder' (by (with_reducible repeat (first | apply Kd.S_alloc | apply Kd.S_drewN | apply Kd.S_drew)); exact HO_7.out) (Kd.R_base ho0) hb); have n2_ := Aside0.mk (Kd.S_elder' (by (with_reducible repeat (first | apply Kd.S_alloc | apply Kd.S_drewN | apply Kd.S_drew)); exact HO_67.out) (Kd.R_base ho0) hb); have n3_ := Aside0.mk (Kd.R_elder' (by (with_reducible repeat (first | apply Kd.R_alloc | apply Kd.R_drewN | apply Kd.R_drew)); exact HL559_0.out) (Kd.R_base ho0) hb); have n4_ := Aside0.mk (Kd.R_lower (Kd.R_new' ho0 (Kd.R_lt (by (with_reducible repeat (first | apply Kd.R_alloc | apply Kd.R_drewN | apply Kd.R_drew)); exact HL559_0.out))) (below_size (by repeat (first | (with_reducible first | exact HB.out | apply below_alloc | apply pw_below_drewN | apply below_drew1) | exact HB.out)))); have n5_ := Aside0.mk (Kd.C_below (by repeat (first | (with_reducible exact HR559_0.out) | (with_reducible refine Kd.C_alloc ?_ _) | (with_reducible refine Kd.C_drewN ?_ _) | (with_reducible refine Kd.C_drew ?_) | exact HR559_0.out)) hb); have n6_ := Aside0.mk (below_step (by repeat (first | (with_reducible first | exact HB.out | apply below_alloc | apply pw_below_drewN | apply below_drew1) | exact HB.out)) hb); clear HO_6; clear HO_7; clear HO_67; clear HL559_0; clear HR559_0; clear HB; have HO_6 := n0_; have HO_7 := n1_; have HO_67 := n2_; have HL559_0 := n3_; have HO563 := n4_; have HR559_0 := n5_; have HB := n6_; clear n0_ n1_ n2_ n3_ n4_ n5_ n6_; (try clear hb); (try clear hb2); (try clear hk); (try clear hi); (try clear ho0); obtain ⟨Ao30, co30, eo30⟩ := Kd.R_slice HO563.out; subst eo30))
                      go_roundg k2
                      case measure => have := HJ7.out; have := HK2.out; omega
                      case rel => exact ⟨(wrap64 (x69_2 + 1)), (by first | rfl | (simp; done) | (simp [*]; done)), H', ⟨by have := HJ7.out; have := HK2.out; omega⟩, ⟨by (with_reducible repeat (first | apply Kd.S_alloc | apply Kd.S_drewN | apply Kd.S_drew)); exact Kd.S_mono HO_6.out (fun _ hk => ⟨hk.1.1, hk.1.2⟩)⟩, ⟨by (with_reducible repeat (first | apply Kd.S_alloc | apply Kd.S_drewN | apply Kd.S_drew)); exact Kd.S_mono HO_7.out (fun _ hk => hk.1)⟩, ⟨by (with_reducible repeat (first | apply Kd.S_alloc | apply Kd.S_drewN | apply Kd.S_drew)); exact Kd.S_mono HO_67.out (fun _ hk => hk.1)⟩, ⟨by repeat (first | (with_reducible first | exact HB.out | apply below_alloc | apply pw_below_drewN | apply below_drew1) | exact HB.out)⟩⟩
                  · rw [if_neg c25] at H
                    exact absurd (Option.some.inj H) (by rw [hrt]; exact Bool.false_ne_true)
                · rw [if_neg c23] at H
                  exact absurd H (by simp)
              · rw [if_neg c22] at H
                exact absurd H (by simp)
            · rw [if_neg c21] at H
              have c21b0 : decide (x69_2 < (t551.length : Int)) = false := decide_eq_false c21
              clear c21
              replace H := Option.bind_eq_some_iff.mp H
              obtain ⟨⟨t564, t565⟩, A320, H⟩ := H
              replace H : (if t565 = 0 then ((torusref04_SameList.f k2 t564 t551).bind fun t568 => (if t568 = true then ((toruslaw04_awake.f).bind fun t569 => (some t569)) else (some false))) else (some false)) = some r := H
              have A32 := Aside0.mk A320
              clear A320
              by_cases c33 : t565 = 0
              · rw [if_pos c33] at H
                have c33b0 : (t565 == 0) = true := beq_iff_eq.mpr c33
                have c33b1 : (t565 != 0) = false := bne_eq_false_iff_eq.mpr c33
                clear c33
                replace H := Option.bind_eq_some_iff.mp H
                obtain ⟨t568, A340, H⟩ := H
                replace H : (if t568 = true then ((toruslaw04_awake.f).bind fun t569 => (some t569)) else (some false)) = some r := H
                have A34 := Aside0.mk A340
                clear A340
                by_cases c35 : t568 = true
                · subst c35
                  have H1 : ((toruslaw04_awake.f).bind fun t569 => (some t569)) = some r := by rw [if_pos rfl] at H; exact H
                  clear H
                  have H := H1
                  clear H1
                  replace H := Option.bind_eq_some_iff.mp H
                  obtain ⟨t569, A360, H⟩ := H
                  replace H : (some t569) = some r := H
                  have A36 := Aside0.mk A360
                  clear A360
                  obtain rfl := Option.some.inj H
                  go_wp2_with (first | ((with_reducible refine gate_callee (f := 38) rfl ?_); refine goesL_ (some 91) rfl rfl Try.func38 (by kernel_rfl) rfl #[.int .i64 t547, .slice Ao14 t551.length co14] rfl (by (try simp only [List.map_toArray, List.map_cons, List.map_nil]); first | done | rfl | (simp only [List.length_drop, List.length_take]; rfl)) ?_; (with_reducible refine (column_Basis.calls k2 t547 _ _ t551 t564 t565 _ ?side1 ?side2 A32.out).mono ?_); (case side1 => repeat (first | exact (Kd.S_reads' HO_7.out).2.2 | (with_reducible refine Kd.C_alloc ?_ _) | (with_reducible refine Kd.C_drewN ?_ _) | (with_reducible refine Kd.C_drew ?_))); (case side2 => exact (Kd.S_reads' HO_7.out).2.1); rintro e w37 ⟨v566, rfl, ho0, hb⟩; refine ⟨_, rfl, ?_⟩; have n0_ := Aside0.mk (Kd.S_elder' (by (with_reducible repeat (first | apply Kd.S_alloc | apply Kd.S_drewN | apply Kd.S_drew)); exact HO_6.out) (Kd.S_base ho0) hb); have n1_ := Aside0.mk (Kd.S_elder' (by (with_reducible repeat (first | apply Kd.S_alloc | apply Kd.S_drewN | apply Kd.S_drew)); exact HO_7.out) (Kd.S_base ho0) hb); have n2_ := Aside0.mk (Kd.S_elder' (by (with_reducible repeat (first | apply Kd.S_alloc | apply Kd.S_drewN | apply Kd.S_drew)); exact HO_67.out) (Kd.S_base ho0) hb); have n3_ := Aside0.mk (Kd.S_lower (Kd.S_new' (Kd.S_new' (Kd.S_new' ho0 (Kd.S_lt (by (with_reducible repeat (first | apply Kd.S_alloc | apply Kd.S_drewN | apply Kd.S_drew)); exact HO_6.out))) (Kd.S_lt (by (with_reducible repeat (first | apply Kd.S_alloc | apply Kd.S_drewN | apply Kd.S_drew)); exact HO_7.out))) (Kd.S_lt (by (with_reducible repeat (first | apply Kd.S_alloc | apply Kd.S_drewN | apply Kd.S_drew)); exact HO_67.out))) (below_size (by repeat (first | (with_reducible first | exact HB.out | apply below_alloc | apply pw_below_drewN | apply below_drew1) | exact HB.out)))); have n4_ := Aside0.mk (below_step (by repeat (first | (with_reducible first | exact HB.out | apply below_alloc | apply pw_below_drewN | apply below_drew1) | exact HB.out)) hb); clear HO_6; clear HO_7; clear HO_67; clear HB; have HO_6 := n0_; have HO_7 := n1_; have HO_67 := n2_; have HO567 := n3_; have HB := n4_; clear n0_ n1_ n2_ n3_ n4_; (try clear hb); (try clear hb2); (try clear hk); (try clear hi); (try clear ho0); obtain ⟨Ao38, co38, eo38⟩ := Kd.S_slice HO567.out; subst eo38) | (go_at_call 42; (with_reducible refine (torusref04_SameList.calls k2 _ _ t564 _ _ t551 true _ ?side1 ?side2 ?side3 ?side4 A34.out).mono ?_); (case side1 => repeat (first | exact (Kd.S_reads' HO567.out).2.2 | (with_reducible refine Kd.C_alloc ?_ _) | (with_reducible refine Kd.C_drewN ?_ _) | (with_reducible refine Kd.C_drew ?_))); (case side2 => exact (Kd.S_reads' HO567.out).2.1); (case side3 => repeat (first | exact (Kd.S_reads' HO_7.out).2.2 | (with_reducible refine Kd.C_alloc ?_ _) | (with_reducible refine Kd.C_drewN ?_ _) | (with_reducible refine Kd.C_drew ?_))); (case side4 => exact (Kd.S_reads' HO_7.out).2.1); rintro e w' ⟨rfl, ⟨nd, rfl⟩⟩) | (go_at_call 19; (with_reducible refine (toruslaw04_awake.calls  t569 _ A36.out).mono ?_); rintro e w39 ⟨rfl, hb⟩; have n0_ := Aside0.mk (Kd.S_below (by (with_reducible repeat (first | apply Kd.S_alloc | apply Kd.S_drewN | apply Kd.S_drew)); exact HO_6.out) hb); have n1_ := Aside0.mk (Kd.S_below (by (with_reducible repeat (first | apply Kd.S_alloc | apply Kd.S_drewN | apply Kd.S_drew)); exact HO_7.out) hb); have n2_ := Aside0.mk (Kd.S_below (by (with_reducible repeat (first | apply Kd.S_alloc | apply Kd.S_drewN | apply Kd.S_drew)); exact HO_67.out) hb); have n3_ := Aside0.mk (Kd.S_below (by (with_reducible repeat (first | apply Kd.S_alloc | apply Kd.S_drewN | apply Kd.S_drew)); exact HO567.out) hb); have n4_ := Aside0.mk (below_step (by repeat (first | (with_reducible first | exact HB.out | apply below_alloc | apply pw_below_drewN | apply below_drew1) | exact HB.out)) hb); clear HO_6; clear HO_7; clear HO_67; clear HO567; clear HB; have HO_6 := n0_; have HO_7 := n1_; have HO_67 := n2_; have HO567 := n3_; have HB := n4_; clear n0_ n1_ n2_ n3_ n4_; (try clear hb); (try clear hb2); (try clear hk); (try clear hi)))
                  go_ret
                  exact ⟨by first | rfl | (simp [errW_none, errW_some] <;> rfl) | (simp [*, errW_none, errW_some] <;> rfl), by repeat (first | (with_reducible first | exact HB.out | apply below_alloc | apply pw_below_drewN | apply below_drew1) | exact HB.out)⟩
                · replace c35 := Bool.eq_false_iff.mpr c35
                  subst c35
                  have H1 : (some false) = some r := by rw [if_neg (show ¬ (false = true) by decide)] at H; exact H
                  clear H
                  have H := H1
                  clear H1
                  exact absurd (Option.some.inj H) (by rw [hrt]; exact Bool.false_ne_true)
              · rw [if_neg c33] at H
                exact absurd (Option.some.inj H) (by rw [hrt]; exact Bool.false_ne_true)
-- NOT PRINTED: function 9 (toruslaw04_ColumnRest)
end Go.Proofs.Ytojnnfhalpefmaa.M
