/- A part of the proof: texts of this seat joined (printed and by hand), without what is not used. -/
import Derived.Test.YtojnnfhalpefmaaBExa4
set_option linter.unusedVariables false
set_option linter.unusedSimpArgs false
set_option linter.unusedSectionVars false
section
namespace Go.Proofs.Ytojnnfhalpefmaa.M
open Go.RowKit Go.Proofs.YtojnnfhalpefmaaW.PrintWords
theorem clearL_mono (p : Int) (mp : Int → Option Int) (L U : List (List S45)) : ∀ (k : Nat) (c x : List S45) (i : Int), LeO (H.clearL p mp L U k c x i) (H.clearL p mp L U (k + 1) c x i) := by
 intro k
 induction k with
 | zero => intro c x i; exact LeO.none _
 | succ k ih =>
  intro c x i
  rw [H.clearL, H.clearL]
  refine LeO.ite (LeO.ite ?_ (LeO.none _)) (LeO.refl _)
  cases mp (rd_T45 c i).f0 with
  | none => exact ih _ _ _
  | some j => exact LeO.ite (LeO.bind (modp_Div.mono _ _ _ _) fun t => LeO.bind (LeO.refl _) fun c' => LeO.bind (LeO.refl _) fun x' => LeO.ite (ih _ _ _) (LeO.none _)) (LeO.none _)
theorem elimL_mono (p : Int) (k : Nat) : ∀ (l : List (List S45)) (j : Int) (s : H.St), LeO (H.elimL p k l j s) (H.elimL p (k + 1) l j s)
 | [], _, _ => LeO.refl _
 | c :: l, j, s => by
  rw [H.elimL, H.elimL]
  exact LeO.ite (LeO.bind (clearL_mono _ _ _ _ _ _ _ _) fun r => LeO.ite (elimL_mono p k l _ _) (LeO.ite (elimL_mono p k l _ _) (LeO.none _))) (LeO.none _)
theorem tidyL_mono (p : Int) (k : Nat) : ∀ (l : List (List S45)) (s : H.St), LeO (H.tidyL p k l s) (H.tidyL p (k + 1) l s)
 | [], _ => LeO.refl _
 | c :: l, s => by
  rw [H.tidyL, H.tidyL]
  exact LeO.ite (LeO.bind (clearL_mono _ _ _ _ _ _ _ _) fun r => LeO.ite (LeO.bind (modp_Inv.mono _ _ _) fun t => LeO.bind (LeO.refl _) fun d => LeO.ite (tidyL_mono p k l _) (LeO.none _)) (LeO.none _)) (LeO.none _)
theorem tidyF_mono (p : Int) (k : Nat) (l : List (List S45)) : LeO (H.tidyF p k l) (H.tidyF p (k + 1) l) := by
 unfold H.tidyF
 exact LeO.ite (tidyL_mono _ _ _ _) (LeO.none _)
def column_Basis.f (k : Nat) (a0 : Int) (l1 : List (List S45)) : Option (List (List S45) × Int) := H.basisF k a0 l1
theorem column_Basis.mono : ∀ a0 a1 k, LeO (column_Basis.f k a0 a1) (column_Basis.f (k + 1) a0 a1) := by
 intro a0 a1 k
 unfold column_Basis.f H.basisF
 exact LeO.bind (column_begin.mono _ _ _) fun e => LeO.ite (LeO.bind (elimL_mono _ _ _ _ _) fun s => LeO.bind (tidyF_mono _ _ _) fun r => LeO.refl _) (LeO.refl _)
theorem column_Basis.calls (k : Nat) (a0 : Int) (A1 : Option Addr) (c1 : Nat) (l1 : List (List S45)) (r1 : List (List S45)) (r2 : Int) (w : World) (hr1 : Kd.C (Kd.slice 45 k45) w A1 l1.length l1) (hc1 : l1.length ≤ c1) (h : column_Basis.f k a0 l1 = some (r1, r2)) :
  Calls Try.prog 38 #[.int .i64 a0, .slice A1 l1.length c1] w fun e w' => ∃ v0_ : Value, e = .returned (.tuple #[v0_, .int .i64 r2]) ∧ Kd.S (Kd.slice 45 k45) 22 w' w.heap.size (fun _ => True) v0_ r1 ∧ Below w.heap.size w w' :=
 H.basis_calls k a0 A1 c1 l1 r1 r2 w hr1 hc1 h
def column_Kernel.f (k : Nat) (a0 : Int) (l1 : List (List S45)) : Option (List (List S45) × Int) := H.kernelF k a0 l1
theorem column_Kernel.mono : ∀ a0 a1 k, LeO (column_Kernel.f k a0 a1) (column_Kernel.f (k + 1) a0 a1) := by
 intro a0 a1 k
 unfold column_Kernel.f H.kernelF
 exact LeO.bind (column_begin.mono _ _ _) fun e => LeO.ite (LeO.bind (elimL_mono _ _ _ _ _) fun s => LeO.bind (tidyF_mono _ _ _) fun r => LeO.refl _) (LeO.refl _)
theorem column_Kernel.calls (k : Nat) (a0 : Int) (A1 : Option Addr) (c1 : Nat) (l1 : List (List S45)) (r1 : List (List S45)) (r2 : Int) (w : World) (hr1 : Kd.C (Kd.slice 45 k45) w A1 l1.length l1) (hc1 : l1.length ≤ c1) (h : column_Kernel.f k a0 l1 = some (r1, r2)) :
  Calls Try.prog 48 #[.int .i64 a0, .slice A1 l1.length c1] w fun e w' => ∃ v0_ : Value, e = .returned (.tuple #[v0_, .int .i64 r2]) ∧ Kd.S (Kd.slice 45 k45) 22 w' w.heap.size (fun _ => True) v0_ r1 ∧ Below w.heap.size w w' :=
 H.kernel_calls k a0 A1 c1 l1 r1 r2 w hr1 hc1 h
def column_Rank.f (k : Nat) (a0 : Int) (l1 : List (List S45)) : Option (Int × Int) := H.rankF k a0 l1
theorem column_Rank.mono : ∀ a0 a1 k, LeO (column_Rank.f k a0 a1) (column_Rank.f (k + 1) a0 a1) := by
 intro a0 a1 k
 unfold column_Rank.f H.rankF
 exact LeO.bind (column_begin.mono _ _ _) fun e => LeO.ite (LeO.bind (elimL_mono _ _ _ _ _) fun s => LeO.refl _) (LeO.refl _)
theorem column_Rank.calls (k : Nat) (a0 : Int) (A1 : Option Addr) (c1 : Nat) (l1 : List (List S45)) (r1 : Int) (r2 : Int) (w : World) (hr1 : Kd.C (Kd.slice 45 k45) w A1 l1.length l1) (hc1 : l1.length ≤ c1) (h : column_Rank.f k a0 l1 = some (r1, r2)) :
  Calls Try.prog 39 #[.int .i64 a0, .slice A1 l1.length c1] w fun e w' => e = .returned (.tuple #[.int .i64 r1, .int .i64 r2]) ∧ Below w.heap.size w w' :=
 H.rank_calls k a0 A1 c1 l1 r1 r2 w hr1 hc1 h
def column_Rest.f (k : Nat) (a0 : Int) (l1 : List (List S45)) (l2 : List S45) : Option (List S45 × List S45 × Int) := H.restF k a0 l1 l2
theorem column_Rest.mono : ∀ a0 a1 a2 k, LeO (column_Rest.f k a0 a1 a2) (column_Rest.f (k + 1) a0 a1 a2) := by
 intro a0 a1 a2 k
 unfold column_Rest.f H.restF
 refine LeO.ite (LeO.refl _) (LeO.bind (column_checkAll.mono _ _ _) fun e1 => LeO.ite (LeO.bind (column_Check.mono _ _ _) fun e2 => LeO.ite (LeO.bind (LeO.refl _) fun q => LeO.ite ?_ (LeO.refl _)) (LeO.refl _)) (LeO.refl _))
 unfold H.restEnd
 exact LeO.ite (LeO.bind (clearL_mono _ _ _ _ _ _ _ _) fun r => LeO.refl _) (LeO.none _)
theorem column_Rest.calls (k : Nat) (a0 : Int) (A1 : Option Addr) (c1 : Nat) (l1 : List (List S45)) (A2 : Option Addr) (c2 : Nat) (l2 : List S45) (r1 : List S45) (r2 : List S45) (r3 : Int) (w : World) (hr1 : Kd.C (Kd.slice 45 k45) w A1 l1.length l1) (hc1 : l1.length ≤ c1) (hr2 : Kd.C k45 w A2 l2.length l2) (hc2 : l2.length ≤ c2) (h : column_Rest.f k a0 l1 l2 = some (r1, r2, r3)) :
  Calls Try.prog 45 #[.int .i64 a0, .slice A1 l1.length c1, .slice A2 l2.length c2] w fun e w' => ∃ v0_ v1_ : Value, e = .returned (.tuple #[v0_, v1_, .int .i64 r3]) ∧ Kd.R k45 45 w' w.heap.size (fun k_ => some k_ ≠ (v1_ : Value).ownBlock) v0_ r1 ∧ Kd.R k45 45 w' w.heap.size (fun k_ => some k_ ≠ (v0_ : Value).ownBlock) v1_ r2 ∧ Below w.heap.size w w' :=
 H.rest_calls k a0 A1 c1 l1 A2 c2 l2 r1 r2 r3 w hr1 hc1 hr2 hc2 h
end Go.Proofs.Ytojnnfhalpefmaa.M
end

section
namespace Go.Proofs.Ytojnnfhalpefmaa.M
open Go.RowKit Go.Proofs.YtojnnfhalpefmaaW.PrintWords Go.Proofs.YtojnnfhalpefmaaW.PrintLast Go.Proofs.YtojnnfhalpefmaaW.PrintMore
attribute [local go_sem] max2_int min2_int max_two min_two max_three min_three max_four min_four
def column_Add.f (k : Nat) (a0 : Int) (l1 : List (S45)) (a2 : Int) (l3 : List (S45)) : Option ((List (S45)) × Int) := (column_checkAll.f k a0 (([l1, l3] : List (List (S45))))).bind fun t143 => (if t143 = 0 then ((modp_Mod.f k a0 a2).bind fun t144 => ((column_plus.f a0 l1 t144 l3).bind fun t145 => (some (t145, 0)))) else (some (([] : List (S45)), t143)))
theorem column_Add.mono : ∀ a0 a1 a2 a3 k, LeO (column_Add.f k a0 a1 a2 a3) (column_Add.f (k + 1) a0 a1 a2 a3) := by
 intro a0 a1 a2 a3 k
 unfold column_Add.f
 repeat' first
   | (with_reducible exact column_checkAll.mono _ _ _)
   | (with_reducible exact modp_Mod.mono _ _ _)
   | (with_reducible exact LeO.refl _)
   | (with_reducible exact LeO.none _)
   | (with_reducible refine LeO.ite ?_ ?_)
   | (with_reducible refine LeO.bind ?_ (fun _ => ?_))
   | exact column_checkAll.mono _ _ _
   | exact modp_Mod.mono _ _ _
   | exact LeO.none _
   | refine LeO.ite ?_ ?_
   | refine LeO.bind ?_ (fun _ => ?_)
set_option maxHeartbeats 8000000 in
set_option maxRecDepth 100000 in
theorem column_Add.calls (k : Nat) (a0 : Int) (P1_ : Nat → Prop) (A1 : Option Addr) (c1 : Nat) (l1 : List (S45)) (a2 : Int) (P3_ : Nat → Prop) (A3 : Option Addr) (c3 : Nat) (l3 : List (S45)) (r1 : List (S45)) (r2 : Int) (w : World) (hs1 : Kd.V k45 45 w w.heap.size (fun k_ => P1_ k_) (.slice A1 l1.length c1) l1) (hs3 : Kd.V k45 45 w w.heap.size (fun k_ => P3_ k_) (.slice A3 l3.length c3) l3) (h : column_Add.f k a0 l1 a2 l3 = some (r1, r2)) :
  Calls Try.prog 28 #[.int .i64 a0, .slice A1 l1.length c1, .int .i64 a2, .slice A3 l3.length c3] w fun e w' => ∃ v0_ : Value, e = .returned (.tuple #[v0_, .int .i64 r2]) ∧ Kd.R k45 45 w' w.heap.size (fun k_ => (w.heap.size ≤ k_)) v0_ r1 ∧ Below w.heap.size w w' := by
 have HO1 := As.mk (show Kd.V k45 45 w w.heap.size (fun k_ => ((P1_ k_ ∨ P3_ k_) ∨ w.heap.size ≤ k_)) (.slice A1 l1.length c1) l1 from Kd.V_mono hs1 (fun k_ hk => .inl (.inl hk)))
 have HO3 := As.mk (show Kd.V k45 45 w w.heap.size (fun k_ => ((P1_ k_ ∨ P3_ k_) ∨ w.heap.size ≤ k_)) (.slice A3 l3.length c3) l3 from Kd.V_mono hs3 (fun k_ hk => .inl (.inr hk)))
 have HB := As.mk (Below.refl w.heap.size w)
 have H : ((column_checkAll.f k a0 (([l1, l3] : List (List (S45))))).bind fun t143 => (if t143 = 0 then ((modp_Mod.f k a0 a2).bind fun t144 => ((column_plus.f a0 l1 t144 l3).bind fun t145 => (some (t145, 0)))) else (some (([] : List (S45)), t143)))) = some (r1, r2) := h
 clear h
 obtain ⟨y140, hy140⟩ : ∃ y_ : List (List (S45)), y_ = (([l1, l3] : List (List (S45)))) := ⟨_, rfl⟩
 replace H : ((column_checkAll.f k a0 y140).bind fun t143 => (if t143 = 0 then ((modp_Mod.f k a0 a2).bind fun t144 => ((column_plus.f a0 l1 t144 l3).bind fun t145 => (some (t145, 0)))) else (some (([] : List (S45)), t143)))) = some (r1, r2) := by first | (rw [hy140]; with_reducible exact H) | (have H2_ := (Option.bind_some _ _).symm.trans H; rw [hy140]; with_reducible exact H2_) | (have H2_ := (Option.bind_some _ _).symm.trans H; with_reducible exact H2_) | with_reducible exact H | (rw [hy140]; exact H) | exact H
 have Ny140 := As.mk hy140
 clear hy140
 replace H := Option.bind_eq_some_iff.mp H
 obtain ⟨t143, A50, H⟩ := H
 replace H : (if t143 = 0 then ((modp_Mod.f k a0 a2).bind fun t144 => ((column_plus.f a0 l1 t144 l3).bind fun t145 => (some (t145, 0)))) else (some (([] : List (S45)), t143))) = some (r1, r2) := H
 have A5 := As.mk A50
 clear A50
 by_cases c6 : t143 = 0
 ·rw [if_pos c6] at H
  have c6b0 : (t143 == 0) = true := beq_iff_eq.mpr c6
  have c6b1 : (t143 != 0) = false := bne_eq_false_iff_eq.mpr c6
  clear c6
  replace H := Option.bind_eq_some_iff.mp H
  obtain ⟨t144, A70, H⟩ := H
  replace H : ((column_plus.f a0 l1 t144 l3).bind fun t145 => (some (t145, 0))) = some (r1, r2) := H
  have A7 := As.mk A70
  clear A70
  replace H := Option.bind_eq_some_iff.mp H
  obtain ⟨t145, A80, H⟩ := H
  replace H : (some (t145, 0)) = some (r1, r2) := H
  have A8 := As.mk A80
  clear A80
  simp only [Option.some.injEq, Prod.mk.injEq] at H
  obtain ⟨rfl, rfl⟩ := H
  go_enter Try.func28, Try.ntmps28
  go_wp2_with (first | ((with_reducible refine gate_dst (N := 14) rfl ?_); refine Kd.N_lit (Kd.slice 45 k45) _ 22 ?hg (N' := 14) ?hd (xs := ([l1, l3] : List (List (S45)))) (inner := [.slice A1 l1.length c1, .slice A3 l3.length c3]) (ok := (fun k_ => ((P1_ k_ ∨ P3_ k_) ∨ w.heap.size ≤ k_))) (okp := (fun k_ => ((P1_ k_ ∨ P3_ k_) ∨ w.heap.size ≤ k_))) ?hr ?hp (fun _ hk => hk) ((show ∀ k_, w.heap.size ≤ k_ → (fun k_ => ((P1_ k_ ∨ P3_ k_) ∨ w.heap.size ≤ k_)) k_ from fun k_ hk => (.inr (Nat.le_trans (below_size (hup0 HB.out)) hk))) _ (Nat.le_refl _)) (Below.refl _ _) (Nat.le_refl _) (by simp) ?_; (case hd => rfl); (case hg => rfl); (case hr => first | (go_simp; done) | (go_simp; rfl)); (case hp => exact (Reps.one (show Kd.FK (Kd.slice 45 k45) _ _ l1 [.slice A1 l1.length c1] from (Kd.FK_slice_mk (Kd.V_reads' (Kd.V_mono (ok' := (fun k_ => ((P1_ k_ ∨ P3_ k_) ∨ w.heap.size ≤ k_))) (HO1.out) (fun k_ hk => hk))).2.1 (Kd.V_F (Kd.V_mono (ok' := (fun k_ => ((P1_ k_ ∨ P3_ k_) ∨ w.heap.size ≤ k_))) (HO1.out) (fun k_ hk => hk))))) (Reps.one (show Kd.FK (Kd.slice 45 k45) _ _ l3 [.slice A3 l3.length c3] from (Kd.FK_slice_mk (Kd.V_reads' (Kd.V_mono (ok' := (fun k_ => ((P1_ k_ ∨ P3_ k_) ∨ w.heap.size ≤ k_))) (HO3.out) (fun k_ hk => hk))).2.1 (Kd.V_F (Kd.V_mono (ok' := (fun k_ => ((P1_ k_ ∨ P3_ k_) ∨ w.heap.size ≤ k_))) (HO3.out) (fun k_ hk => hk))))) (Reps.none _ _)))); intro v141 w9 ho10 hb hg_ hnew_; clear hg_ hnew_; (first | rw [← Ny140.out] at ho10 | (simp only [Int.reduceToNat] at ho10; rw [← Ny140.out] at ho10)); have n0_ := As.mk (Kd.V_elder' (vup HO1.out) (Kd.N_base ho10) hb); have n1_ := As.mk (Kd.V_elder' (vup HO3.out) (Kd.N_base ho10) hb); have n2_ := As.mk (Kd.N_lower ho10 (below_size (hup0 HB.out))); have n3_ := As.mk (below_step (hup0 HB.out) hb); clear HO1; clear HO3; clear HB; have HO1 := n0_; have HO3 := n1_; have HO142 := n2_; have HB := n3_; clear n0_ n1_ n2_ n3_; clear hb ho10; obtain ⟨Ao11, co11, eo11⟩ := Kd.N_slice HO142.out; subst eo11) | ((with_reducible refine gate_callee (f := 59) rfl ?_); refine goesL_ (some 15) rfl rfl Try.func59 (by kernel_rfl) rfl #[.int .i64 a0, .slice Ao11 y140.length co11] rfl (by (try simp only [List.map_toArray, List.map_cons, List.map_nil]); first | done | rfl | (simp only [List.length_drop, List.length_take]; rfl)) ?_; (with_reducible refine (column_checkAll.calls k a0 _ _ y140 t143 _ ?side1 ?side2 A5.out).mono ?_); (case side1 => exact cup (Kd.N_reads' HO142.out).2.2); (case side2 => exact (Kd.N_reads' HO142.out).2.1); rintro e w12 ⟨rfl, hb⟩; refine ⟨_, rfl, ?_⟩; have n0_ := As.mk (Kd.V_below (vup HO1.out) hb); have n1_ := As.mk (Kd.V_below (vup HO3.out) hb); have n2_ := As.mk (Kd.N_below (nup HO142.out) hb); have n3_ := As.mk (below_step (hup0 HB.out) hb); clear HO1; clear HO3; clear HO142; clear HB; have HO1 := n0_; have HO3 := n1_; have HO142 := n2_; have HB := n3_; clear n0_ n1_ n2_ n3_; (try clear hb); (try clear hb2); (try clear hk); (try clear hi)) | ((with_reducible refine gate_callee (f := 58) rfl ?_); refine goesL_ (some 23) rfl rfl Try.func58 (by kernel_rfl) rfl #[.int .i64 a0, .int .i64 a2] rfl (by (try simp only [List.map_toArray, List.map_cons, List.map_nil]); first | done | rfl | (simp only [List.length_drop, List.length_take]; rfl)) ?_; (with_reducible refine (modp_Mod.calls k a0 a2 t144 _ A7.out).mono ?_); rintro e w' ⟨rfl, ⟨nd, rfl⟩⟩; refine ⟨_, rfl, ?_⟩) | ((with_reducible refine gate_callee (f := 57) rfl ?_); refine goesL_ (some 25) rfl rfl Try.func57 (by kernel_rfl) rfl #[.int .i64 a0, .slice A1 l1.length c1, .int .i64 t144, .slice A3 l3.length c3] rfl (by (try simp only [List.map_toArray, List.map_cons, List.map_nil]); first | done | rfl | (simp only [List.length_drop, List.length_take]; rfl)) ?_; (with_reducible refine (column_plus.calls a0 _ _ l1 t144 _ _ l3 t145 _ ?side1 ?side2 ?side3 ?side4 A8.out).mono ?_); (case side1 => exact cup (Kd.V_reads' HO1.out).2.2); (case side2 => exact (Kd.V_reads' HO1.out).2.1); (case side3 => exact cup (Kd.V_reads' HO3.out).2.2); (case side4 => exact (Kd.V_reads' HO3.out).2.1); rintro e w13 ⟨v146, rfl, ho0, hb⟩; refine ⟨_, rfl, ?_⟩; have n0_ := As.mk (Kd.V_elder' (vup HO1.out) (Kd.R_base ho0) hb); have n1_ := As.mk (Kd.V_elder' (vup HO3.out) (Kd.R_base ho0) hb); have n2_ := As.mk (Kd.N_elder' (nup HO142.out) (Kd.R_base ho0) hb); have n3_ := As.mk (Kd.R_lower (Kd.R_newM (M := fun k_ => (w.heap.size ≤ k_)) ho0 (below_size (hup0 HB.out)) (fun k_ h_ => h_)) (below_size (hup0 HB.out))); have n4_ := As.mk (below_step (hup0 HB.out) hb); clear HO1; clear HO3; clear HO142; clear HB; have HO1 := n0_; have HO3 := n1_; have HO142 := n2_; have HO147 := n3_; have HB := n4_; clear n0_ n1_ n2_ n3_ n4_; (try clear hb); (try clear hb2); (try clear hk); (try clear hi); (try clear ho0)))
  go_ret2
  exact ⟨_, by first | rfl | (simp [errW_none, errW_some] <;> rfl) | (simp [*, errW_none, errW_some] <;> rfl), by (with_reducible repeat (first | apply Kd.R_alloc | apply Kd.R_drewN | apply Kd.R_drew)); exact Kd.R_mono HO147.out (fun _ hk => hk.1), by repeat (first | (with_reducible first | exact HB.out | apply below_alloc | apply pw_below_drewN | apply below_drew1) | exact HB.out)⟩
 ·rw [if_neg c6] at H
  have c6b0 : (t143 == 0) = false := beq_eq_false_iff_ne.mpr c6
  have c6b1 : (t143 != 0) = true := bne_iff_ne.mpr c6
  simp only [Option.some.injEq, Prod.mk.injEq] at H
  obtain ⟨rfl, rfl⟩ := H
  go_enter Try.func28, Try.ntmps28
  go_wp2_with (first | ((with_reducible refine gate_dst (N := 14) rfl ?_); refine Kd.N_lit (Kd.slice 45 k45) _ 22 ?hg (N' := 14) ?hd (xs := ([l1, l3] : List (List (S45)))) (inner := [.slice A1 l1.length c1, .slice A3 l3.length c3]) (ok := (fun k_ => ((P1_ k_ ∨ P3_ k_) ∨ w.heap.size ≤ k_))) (okp := (fun k_ => ((P1_ k_ ∨ P3_ k_) ∨ w.heap.size ≤ k_))) ?hr ?hp (fun _ hk => hk) ((show ∀ k_, w.heap.size ≤ k_ → (fun k_ => ((P1_ k_ ∨ P3_ k_) ∨ w.heap.size ≤ k_)) k_ from fun k_ hk => (.inr (Nat.le_trans (below_size (hup0 HB.out)) hk))) _ (Nat.le_refl _)) (Below.refl _ _) (Nat.le_refl _) (by simp) ?_; (case hd => rfl); (case hg => rfl); (case hr => first | (go_simp; done) | (go_simp; rfl)); (case hp => exact (Reps.one (show Kd.FK (Kd.slice 45 k45) _ _ l1 [.slice A1 l1.length c1] from (Kd.FK_slice_mk (Kd.V_reads' (Kd.V_mono (ok' := (fun k_ => ((P1_ k_ ∨ P3_ k_) ∨ w.heap.size ≤ k_))) (HO1.out) (fun k_ hk => hk))).2.1 (Kd.V_F (Kd.V_mono (ok' := (fun k_ => ((P1_ k_ ∨ P3_ k_) ∨ w.heap.size ≤ k_))) (HO1.out) (fun k_ hk => hk))))) (Reps.one (show Kd.FK (Kd.slice 45 k45) _ _ l3 [.slice A3 l3.length c3] from (Kd.FK_slice_mk (Kd.V_reads' (Kd.V_mono (ok' := (fun k_ => ((P1_ k_ ∨ P3_ k_) ∨ w.heap.size ≤ k_))) (HO3.out) (fun k_ hk => hk))).2.1 (Kd.V_F (Kd.V_mono (ok' := (fun k_ => ((P1_ k_ ∨ P3_ k_) ∨ w.heap.size ≤ k_))) (HO3.out) (fun k_ hk => hk))))) (Reps.none _ _)))); intro v141 w14 ho15 hb hg_ hnew_; clear hg_ hnew_; (first | rw [← Ny140.out] at ho15 | (simp only [Int.reduceToNat] at ho15; rw [← Ny140.out] at ho15)); have n0_ := As.mk (Kd.V_elder' (vup HO1.out) (Kd.N_base ho15) hb); have n1_ := As.mk (Kd.V_elder' (vup HO3.out) (Kd.N_base ho15) hb); have n2_ := As.mk (Kd.N_lower ho15 (below_size (hup0 HB.out))); have n3_ := As.mk (below_step (hup0 HB.out) hb); clear HO1; clear HO3; clear HB; have HO1 := n0_; have HO3 := n1_; have HO142 := n2_; have HB := n3_; clear n0_ n1_ n2_ n3_; clear hb ho15; obtain ⟨Ao16, co16, eo16⟩ := Kd.N_slice HO142.out; subst eo16) | ((with_reducible refine gate_callee (f := 59) rfl ?_); refine goesL_ (some 15) rfl rfl Try.func59 (by kernel_rfl) rfl #[.int .i64 a0, .slice Ao16 y140.length co16] rfl (by (try simp only [List.map_toArray, List.map_cons, List.map_nil]); first | done | rfl | (simp only [List.length_drop, List.length_take]; rfl)) ?_; (with_reducible refine (column_checkAll.calls k a0 _ _ y140 t143 _ ?side1 ?side2 A5.out).mono ?_); (case side1 => exact cup (Kd.N_reads' HO142.out).2.2); (case side2 => exact (Kd.N_reads' HO142.out).2.1); rintro e w17 ⟨rfl, hb⟩; refine ⟨_, rfl, ?_⟩; have n0_ := As.mk (Kd.V_below (vup HO1.out) hb); have n1_ := As.mk (Kd.V_below (vup HO3.out) hb); have n2_ := As.mk (Kd.N_below (nup HO142.out) hb); have n3_ := As.mk (below_step (hup0 HB.out) hb); clear HO1; clear HO3; clear HO142; clear HB; have HO1 := n0_; have HO3 := n1_; have HO142 := n2_; have HB := n3_; clear n0_ n1_ n2_ n3_; (try clear hb); (try clear hb2); (try clear hk); (try clear hi)))
  go_ret2
  exact ⟨_, by first | rfl | (simp [errW_none, errW_some] <;> rfl) | (simp [*, errW_none, errW_some] <;> rfl), by first | exact Kd.R_nil _ _ _ _ _ | exact Kd.N_nil _ _ _ _ _ | exact Kd.V_nil _ _ _ _ _ | exact Kd.Q_nil _ _ _ _ _ | exact Kd.S_nil _ _ _ _ _, by repeat (first | (with_reducible first | exact HB.out | apply below_alloc | apply pw_below_drewN | apply below_drew1) | exact HB.out)⟩
def column_Scale.f (k : Nat) (a0 : Int) (l1 : List (S45)) (a2 : Int) : Option ((List (S45)) × Int) := (column_Check.f k a0 l1).bind fun t152 => (if t152 = 0 then ((modp_Mod.f k a0 a2).bind fun t153 => ((column_plus.f a0 ([] : List (S45)) t153 l1).bind fun t154 => (some (t154, 0)))) else (some (([] : List (S45)), t152)))
theorem column_Scale.mono : ∀ a0 a1 a2 k, LeO (column_Scale.f k a0 a1 a2) (column_Scale.f (k + 1) a0 a1 a2) := by
 intro a0 a1 a2 k
 unfold column_Scale.f
 repeat' first
   | (with_reducible exact column_Check.mono _ _ _)
   | (with_reducible exact modp_Mod.mono _ _ _)
   | (with_reducible exact LeO.refl _)
   | (with_reducible exact LeO.none _)
   | (with_reducible refine LeO.ite ?_ ?_)
   | (with_reducible refine LeO.bind ?_ (fun _ => ?_))
   | exact column_Check.mono _ _ _
   | exact modp_Mod.mono _ _ _
   | exact LeO.none _
   | refine LeO.ite ?_ ?_
   | refine LeO.bind ?_ (fun _ => ?_)
set_option maxHeartbeats 8000000 in
set_option maxRecDepth 100000 in
theorem column_Scale.calls (k : Nat) (a0 : Int) (A1 : Option Addr) (c1 : Nat) (l1 : List (S45)) (a2 : Int) (r1 : List (S45)) (r2 : Int) (w : World) (hr1 : Kd.C k45 w A1 l1.length l1) (hc1 : l1.length ≤ c1) (h : column_Scale.f k a0 l1 a2 = some (r1, r2)) :
  Calls Try.prog 17 #[.int .i64 a0, .slice A1 l1.length c1, .int .i64 a2] w fun e w' => ∃ v0_ : Value, e = .returned (.tuple #[v0_, .int .i64 r2]) ∧ Kd.R k45 45 w' w.heap.size (fun _ => True) v0_ r1 ∧ Below w.heap.size w w' := by
 have HR1 := As.mk hr1
 have HC1 := As.mk hc1
 clear hr1 hc1
 have HB := As.mk (Below.refl w.heap.size w)
 have H : ((column_Check.f k a0 l1).bind fun t152 => (if t152 = 0 then ((modp_Mod.f k a0 a2).bind fun t153 => ((column_plus.f a0 ([] : List (S45)) t153 l1).bind fun t154 => (some (t154, 0)))) else (some (([] : List (S45)), t152)))) = some (r1, r2) := h
 clear h
 replace H := Option.bind_eq_some_iff.mp H
 obtain ⟨t152, A40, H⟩ := H
 replace H : (if t152 = 0 then ((modp_Mod.f k a0 a2).bind fun t153 => ((column_plus.f a0 ([] : List (S45)) t153 l1).bind fun t154 => (some (t154, 0)))) else (some (([] : List (S45)), t152))) = some (r1, r2) := H
 have A4 := As.mk A40
 clear A40
 by_cases c5 : t152 = 0
 ·rw [if_pos c5] at H
  have c5b0 : (t152 == 0) = true := beq_iff_eq.mpr c5
  have c5b1 : (t152 != 0) = false := bne_eq_false_iff_eq.mpr c5
  clear c5
  replace H := Option.bind_eq_some_iff.mp H
  obtain ⟨t153, A60, H⟩ := H
  replace H : ((column_plus.f a0 ([] : List (S45)) t153 l1).bind fun t154 => (some (t154, 0))) = some (r1, r2) := H
  have A6 := As.mk A60
  clear A60
  replace H := Option.bind_eq_some_iff.mp H
  obtain ⟨t154, A70, H⟩ := H
  replace H : (some (t154, 0)) = some (r1, r2) := H
  have A7 := As.mk A70
  clear A70
  simp only [Option.some.injEq, Prod.mk.injEq] at H
  obtain ⟨rfl, rfl⟩ := H
  go_enter Try.func17, Try.ntmps17
  go_wp2_with (first | ((with_reducible refine gate_callee (f := 24) rfl ?_); refine goesL_ (some 11) rfl rfl Try.func24 (by kernel_rfl) rfl #[.int .i64 a0, .slice A1 l1.length c1] rfl (by (try simp only [List.map_toArray, List.map_cons, List.map_nil]); first | done | rfl | (simp only [List.length_drop, List.length_take]; rfl)) ?_; (with_reducible refine (column_Check.calls k a0 _ _ l1 t152 _ ?side1 ?side2 A4.out).mono ?_); (case side1 => exact cup HR1.out); (case side2 => exact HC1.out); rintro e w8 ⟨rfl, hb⟩; refine ⟨_, rfl, ?_⟩; have n0_ := As.mk (below_step (hup0 HB.out) hb); clear HB; have HB := n0_; clear n0_; (try clear hb); (try clear hb2); (try clear hk); (try clear hi)) | ((with_reducible refine gate_callee (f := 58) rfl ?_); refine goesL_ (some 18) rfl rfl Try.func58 (by kernel_rfl) rfl #[.int .i64 a0, .int .i64 a2] rfl (by (try simp only [List.map_toArray, List.map_cons, List.map_nil]); first | done | rfl | (simp only [List.length_drop, List.length_take]; rfl)) ?_; (with_reducible refine (modp_Mod.calls k a0 a2 t153 _ A6.out).mono ?_); rintro e w' ⟨rfl, ⟨nd, rfl⟩⟩; refine ⟨_, rfl, ?_⟩) | ((with_reducible refine gate_callee (f := 57) rfl ?_); refine goesL_ (some 20) rfl rfl Try.func57 (by kernel_rfl) rfl #[.int .i64 a0, .slice none 0 0, .int .i64 t153, .slice A1 l1.length c1] rfl (by (try simp only [List.map_toArray, List.map_cons, List.map_nil]); first | done | rfl | (simp only [List.length_drop, List.length_take]; rfl)) ?_; (refine (column_plus.calls a0 _ _ ([] : List (S45)) t153 _ _ l1 t154 _ ?side1 ?side2 ?side3 ?side4 A7.out).mono ?_); (case side1 => exact Kd.C_nil _ _); (case side2 => exact Nat.le_refl _); (case side3 => exact cup (Kd.C_below HR1.out (hup0 HB.out))); (case side4 => exact HC1.out); rintro e w9 ⟨v155, rfl, ho0, hb⟩; refine ⟨_, rfl, ?_⟩; have n0_ := As.mk (Kd.R_lower ho0 (below_size (hup0 HB.out))); have n1_ := As.mk (below_step (hup0 HB.out) hb); clear HB; have HO156 := n0_; have HB := n1_; clear n0_ n1_; (try clear hb); (try clear hb2); (try clear hk); (try clear hi); (try clear ho0)))
  go_ret2
  exact ⟨_, by first | rfl | (simp [errW_none, errW_some] <;> rfl) | (simp [*, errW_none, errW_some] <;> rfl), by (with_reducible repeat (first | apply Kd.R_alloc | apply Kd.R_drewN | apply Kd.R_drew)); exact HO156.out, by repeat (first | (with_reducible first | exact HB.out | apply below_alloc | apply pw_below_drewN | apply below_drew1) | exact HB.out)⟩
 ·rw [if_neg c5] at H
  have c5b0 : (t152 == 0) = false := beq_eq_false_iff_ne.mpr c5
  have c5b1 : (t152 != 0) = true := bne_iff_ne.mpr c5
  simp only [Option.some.injEq, Prod.mk.injEq] at H
  obtain ⟨rfl, rfl⟩ := H
  go_enter Try.func17, Try.ntmps17
  go_wp2_with (first | ((with_reducible refine gate_callee (f := 24) rfl ?_); refine goesL_ (some 11) rfl rfl Try.func24 (by kernel_rfl) rfl #[.int .i64 a0, .slice A1 l1.length c1] rfl (by (try simp only [List.map_toArray, List.map_cons, List.map_nil]); first | done | rfl | (simp only [List.length_drop, List.length_take]; rfl)) ?_; (with_reducible refine (column_Check.calls k a0 _ _ l1 t152 _ ?side1 ?side2 A4.out).mono ?_); (case side1 => exact cup HR1.out); (case side2 => exact HC1.out); rintro e w10 ⟨rfl, hb⟩; refine ⟨_, rfl, ?_⟩; have n0_ := As.mk (below_step (hup0 HB.out) hb); clear HB; have HB := n0_; clear n0_; (try clear hb); (try clear hb2); (try clear hk); (try clear hi)))
  go_ret2
  exact ⟨_, by first | rfl | (simp [errW_none, errW_some] <;> rfl) | (simp [*, errW_none, errW_some] <;> rfl), by first | exact Kd.R_nil _ _ _ _ _ | exact Kd.N_nil _ _ _ _ _ | exact Kd.V_nil _ _ _ _ _ | exact Kd.Q_nil _ _ _ _ _ | exact Kd.S_nil _ _ _ _ _, by repeat (first | (with_reducible first | exact HB.out | apply below_alloc | apply pw_below_drewN | apply below_drew1) | exact HB.out)⟩
mutual
def column_Combine.j0 : Nat → Int → List (List (S45)) → List (S45) → Bool → Option ((List (S45)) × Int)
 | 0, _, _, _, _ => none
 | k + 1, x0, x1, x2, x41 => if x41 = true then (some (([] : List (S45)), 10)) else (column_Combine.l0 k x0 x1 ([] : List (S45)) x2 (x2.length : Int) 0)
def column_Combine.l0 : Nat → Int → List (List (S45)) → List (S45) → List (S45) → Int → Int → Option ((List (S45)) × Int)
 | 0, _, _, _, _, _, _ => none
 | k + 1, x0, x1, x12, x42, x43, x44 => if x44 < x43 then (if 0 ≤ x44 then (if x44 < (x42.length : Int) then (if 0 ≤ ((rd_T45 x42 x44).f0) then (if ((rd_T45 x42 x44).f0) < (x1.length : Int) then ((column_plus.f x0 x12 ((rd_T45 x42 x44).f1) (rd_L2 x1 ((rd_T45 x42 x44).f0))).bind fun t536 => (column_Combine.l0 k x0 x1 t536 x42 x43 (wrap64 (x44 + 1)))) else (none)) else (none)) else (none)) else (none)) else (some (x12, 0))
end
def column_Combine.f (k : Nat) (a0 : Int) (l1 : List (List (S45))) (l2 : List (S45)) : Option ((List (S45)) × Int) := if (l1.length : Int) > 1024 then (some (([] : List (S45)), 3)) else ((column_checkAll.f k a0 l1).bind fun t529 => (if t529 = 0 then ((column_Check.f k a0 l2).bind fun t530 => (if t530 = 0 then ((column_Low.f l2).bind fun bt531 => (if bt531.2 = true then (column_Combine.j0 k a0 l1 l2 (decide (bt531.1 ≥ (l1.length : Int)))) else (column_Combine.j0 k a0 l1 l2 false))) else (some (([] : List (S45)), t530)))) else (some (([] : List (S45)), t529))))
theorem column_Combine.mono_l : ∀ k, (∀ y0 y1 y2 y3, LeO (column_Combine.j0 k y0 y1 y2 y3) (column_Combine.j0 (k + 1) y0 y1 y2 y3)) ∧ (∀ y0 y1 y2 y3 y4 y5, LeO (column_Combine.l0 k y0 y1 y2 y3 y4 y5) (column_Combine.l0 (k + 1) y0 y1 y2 y3 y4 y5))
 | 0 => ⟨fun _ _ _ _ r h => by simp [column_Combine.j0] at h, fun _ _ _ _ _ _ r h => by simp [column_Combine.l0] at h⟩
 | k + 1 => by
  obtain ⟨ih0, ih1⟩ := column_Combine.mono_l k
  refine ⟨?_, ?_⟩
  ·intro y0 y1 y2 y3
   unfold column_Combine.j0
   repeat' first
   | (with_reducible exact ih0 _ _ _ _)
   | (with_reducible exact ih1 _ _ _ _ _ _)
   | (with_reducible exact column_Check.mono _ _ _)
   | (with_reducible exact column_checkAll.mono _ _ _)
   | (with_reducible exact LeO.refl _)
   | (with_reducible exact LeO.none _)
   | (with_reducible refine LeO.ite ?_ ?_)
   | (with_reducible refine LeO.bind ?_ (fun _ => ?_))
   | exact ih0 _ _ _ _
   | exact ih1 _ _ _ _ _ _
   | exact column_Check.mono _ _ _
   | exact column_checkAll.mono _ _ _
   | exact LeO.none _
   | refine LeO.ite ?_ ?_
   | refine LeO.bind ?_ (fun _ => ?_)
  ·intro y0 y1 y2 y3 y4 y5
   unfold column_Combine.l0
   repeat' first
   | (with_reducible exact ih0 _ _ _ _)
   | (with_reducible exact ih1 _ _ _ _ _ _)
   | (with_reducible exact column_Check.mono _ _ _)
   | (with_reducible exact column_checkAll.mono _ _ _)
   | (with_reducible exact LeO.refl _)
   | (with_reducible exact LeO.none _)
   | (with_reducible refine LeO.ite ?_ ?_)
   | (with_reducible refine LeO.bind ?_ (fun _ => ?_))
   | exact ih0 _ _ _ _
   | exact ih1 _ _ _ _ _ _
   | exact column_Check.mono _ _ _
   | exact column_checkAll.mono _ _ _
   | exact LeO.none _
   | refine LeO.ite ?_ ?_
   | refine LeO.bind ?_ (fun _ => ?_)
theorem column_Combine.mono : ∀ a0 a1 a2 k, LeO (column_Combine.f k a0 a1 a2) (column_Combine.f (k + 1) a0 a1 a2) := by
 intro a0 a1 a2 k
 obtain ⟨ih0, ih1⟩ := column_Combine.mono_l k
 unfold column_Combine.f
 repeat' first
   | (with_reducible exact ih0 _ _ _ _)
   | (with_reducible exact ih1 _ _ _ _ _ _)
   | (with_reducible exact column_Check.mono _ _ _)
   | (with_reducible exact column_checkAll.mono _ _ _)
   | (with_reducible exact LeO.refl _)
   | (with_reducible exact LeO.none _)
   | (with_reducible refine LeO.ite ?_ ?_)
   | (with_reducible refine LeO.bind ?_ (fun _ => ?_))
   | exact ih0 _ _ _ _
   | exact ih1 _ _ _ _ _ _
   | exact column_Check.mono _ _ _
   | exact column_checkAll.mono _ _ _
   | exact LeO.none _
   | refine LeO.ite ?_ ?_
   | refine LeO.bind ?_ (fun _ => ?_)
def column_Combine.T16 : Bool × List (List Nat × List Nat) := (true, [([], []), ([], []), ([], []), ([2], [2]), ([], []), ([], []), ([5], [5]), ([4, 6], [4, 6]), ([7], [7]), ([0, 1, 3, 8], [0, 1, 3, 8]), ([9, 9, 0, 1, 2, 3, 4, 5, 6, 7, 8, 9], [1, 9])])
def column_Combine.B16 : List Nat := [0, 0, 0, 4, 0, 0, 32, 112, 240, 511, 1023]
theorem column_Combine.tab16 : rtab .any (opsOf Try.f43 16) = column_Combine.T16 := by kernel_rfl
theorem column_Combine.bits16 : waitsOk column_Combine.T16.2 column_Combine.B16 = true := by kernel_rfl
set_option maxHeartbeats 8000000 in
set_option maxRecDepth 100000 in
theorem column_Combine.calls (k : Nat) (a0 : Int) (A1 : Option Addr) (c1 : Nat) (l1 : List (List (S45))) (A2 : Option Addr) (c2 : Nat) (l2 : List (S45)) (r1 : List (S45)) (r2 : Int) (w : World) (hr1 : Kd.C (Kd.slice 45 k45) w A1 l1.length l1) (hc1 : l1.length ≤ c1) (hr2 : Kd.C k45 w A2 l2.length l2) (hc2 : l2.length ≤ c2) (h : column_Combine.f k a0 l1 l2 = some (r1, r2)) :
  Calls Try.prog 43 #[.int .i64 a0, .slice A1 l1.length c1, .slice A2 l2.length c2] w fun e w' => ∃ v0_ : Value, e = .returned (.tuple #[v0_, .int .i64 r2]) ∧ Kd.R k45 45 w' w.heap.size (fun _ => True) v0_ r1 ∧ Below w.heap.size w w' := by
 have hu45 := Try.underlying45
 have HR1 := As.mk hr1
 have HC1 := As.mk hc1
 clear hr1 hc1
 have HR2 := As.mk hr2
 have HC2 := As.mk hc2
 clear hr2 hc2
 have HB := As.mk (Below.refl w.heap.size w)
 have H : (if (l1.length : Int) > 1024 then (some (([] : List (S45)), 3)) else ((column_checkAll.f k a0 l1).bind fun t529 => (if t529 = 0 then ((column_Check.f k a0 l2).bind fun t530 => (if t530 = 0 then ((column_Low.f l2).bind fun bt531 => (if bt531.2 = true then (column_Combine.j0 k a0 l1 l2 (decide (bt531.1 ≥ (l1.length : Int)))) else (column_Combine.j0 k a0 l1 l2 false))) else (some (([] : List (S45)), t530)))) else (some (([] : List (S45)), t529))))) = some (r1, r2) := h
 clear h
 by_cases c4 : (l1.length : Int) > 1024
 ·rw [if_pos c4] at H
  have c4b0 : decide (1024 < (l1.length : Int)) = true := decide_eq_true c4
  have c4b1 : decide (1024 < l1.length) = true := decide_eq_true (by omega)
  clear c4
  simp only [Option.some.injEq, Prod.mk.injEq] at H
  obtain ⟨rfl, rfl⟩ := H
  go_enter Try.func43, Try.ntmps43
  go_wp2
  go_ret2
  exact ⟨_, by first | rfl | (simp [errW_none, errW_some] <;> rfl) | (simp [*, errW_none, errW_some] <;> rfl), by first | exact Kd.R_nil _ _ _ _ _ | exact Kd.N_nil _ _ _ _ _ | exact Kd.V_nil _ _ _ _ _ | exact Kd.Q_nil _ _ _ _ _ | exact Kd.S_nil _ _ _ _ _, by repeat (first | (with_reducible first | exact HB.out | apply below_alloc | apply pw_below_drewN | apply below_drew1) | exact HB.out)⟩
 ·rw [if_neg c4] at H
  have c4b0 : decide (1024 < (l1.length : Int)) = false := decide_eq_false c4
  have c4b1 : decide (1024 < l1.length) = false := decide_eq_false (by omega)
  clear c4
  replace H := Option.bind_eq_some_iff.mp H
  obtain ⟨t529, A50, H⟩ := H
  replace H : (if t529 = 0 then ((column_Check.f k a0 l2).bind fun t530 => (if t530 = 0 then ((column_Low.f l2).bind fun bt531 => (if bt531.2 = true then (column_Combine.j0 k a0 l1 l2 (decide (bt531.1 ≥ (l1.length : Int)))) else (column_Combine.j0 k a0 l1 l2 false))) else (some (([] : List (S45)), t530)))) else (some (([] : List (S45)), t529))) = some (r1, r2) := H
  have A5 := As.mk A50
  clear A50
  by_cases c6 : t529 = 0
  ·rw [if_pos c6] at H
   have c6b0 : (t529 == 0) = true := beq_iff_eq.mpr c6
   have c6b1 : (t529 != 0) = false := bne_eq_false_iff_eq.mpr c6
   clear c6
   replace H := Option.bind_eq_some_iff.mp H
   obtain ⟨t530, A70, H⟩ := H
   replace H : (if t530 = 0 then ((column_Low.f l2).bind fun bt531 => (if bt531.2 = true then (column_Combine.j0 k a0 l1 l2 (decide (bt531.1 ≥ (l1.length : Int)))) else (column_Combine.j0 k a0 l1 l2 false))) else (some (([] : List (S45)), t530))) = some (r1, r2) := H
   have A7 := As.mk A70
   clear A70
   by_cases c8 : t530 = 0
   ·rw [if_pos c8] at H
    have c8b0 : (t530 == 0) = true := beq_iff_eq.mpr c8
    have c8b1 : (t530 != 0) = false := bne_eq_false_iff_eq.mpr c8
    clear c8
    replace H := Option.bind_eq_some_iff.mp H
    obtain ⟨⟨t531, t532⟩, A90, H⟩ := H
    replace H : (if t532 = true then (column_Combine.j0 k a0 l1 l2 (decide (t531 ≥ (l1.length : Int)))) else (column_Combine.j0 k a0 l1 l2 false)) = some (r1, r2) := H
    have A9 := As.mk A90
    clear A90
    have HC10 := As.mk H
    clear H
    go_enter Try.func43, Try.ntmps43
    go_upto_region 10 with (first | ((with_reducible refine gate_callee (f := 59) rfl ?_); refine goesL_ (some 20) rfl rfl Try.func59 (by kernel_rfl) rfl #[.int .i64 a0, .slice A1 l1.length c1] rfl (by (try simp only [List.map_toArray, List.map_cons, List.map_nil]); first | done | rfl | (simp only [List.length_drop, List.length_take]; rfl)) ?_; (with_reducible refine (column_checkAll.calls k a0 _ _ l1 t529 _ ?side1 ?side2 A5.out).mono ?_); (case side1 => exact cup HR1.out); (case side2 => exact HC1.out); rintro e w11 ⟨rfl, hb⟩; refine ⟨_, rfl, ?_⟩; have n0_ := As.mk (below_step (hup0 HB.out) hb); clear HB; have HB := n0_; clear n0_; (try clear hb); (try clear hb2); (try clear hk); (try clear hi)) | ((with_reducible refine gate_callee (f := 24) rfl ?_); refine goesL_ (some 26) rfl rfl Try.func24 (by kernel_rfl) rfl #[.int .i64 a0, .slice A2 l2.length c2] rfl (by (try simp only [List.map_toArray, List.map_cons, List.map_nil]); first | done | rfl | (simp only [List.length_drop, List.length_take]; rfl)) ?_; (with_reducible refine (column_Check.calls k a0 _ _ l2 t530 _ ?side1 ?side2 A7.out).mono ?_); (case side1 => exact cup (Kd.C_below HR2.out HB.out)); (case side2 => exact HC2.out); rintro e w12 ⟨rfl, hb⟩; refine ⟨_, rfl, ?_⟩; have n0_ := As.mk (below_step (hup0 HB.out) hb); clear HB; have HB := n0_; clear n0_; (try clear hb); (try clear hb2); (try clear hk); (try clear hi)) | ((with_reducible refine gate_callee (f := 22) rfl ?_); refine goesL_ (some 32) rfl rfl Try.func22 (by kernel_rfl) rfl #[.slice A2 l2.length c2] rfl (by (try simp only [List.map_toArray, List.map_cons, List.map_nil]); first | done | rfl | (simp only [List.length_drop, List.length_take]; rfl)) ?_; (with_reducible refine (column_Low.calls _ _ l2 t531 t532 _ ?side1 ?side2 A9.out).mono ?_); (case side1 => exact cup (Kd.C_below HR2.out HB.out)); (case side2 => exact HC2.out); rintro e w' ⟨rfl, ⟨nd, rfl⟩⟩; refine ⟨_, rfl, ?_⟩))
    (try simp only [Act.put, List.setIfInBounds_toArray, List.set_cons_zero, List.set_cons_succ])
    go_cut [41] (fun v41 wc => ∃ (kq : Nat) (x41_9 : Bool), v41 = .bool x41_9 ∧ As (column_Combine.j0 kq a0 l1 l2 x41_9 = some (r1, r2)) ∧ As (kq ≤ k) ∧ As (Below w.heap.size w wc))
    case first =>
     have H := HC10.out
     clear HC10
     by_cases c13 : t532 = true
     ·subst c13
      have H1 : (column_Combine.j0 k a0 l1 l2 (decide (t531 ≥ (l1.length : Int)))) = some (r1, r2) := by rw [if_pos rfl] at H; exact H
      clear H
      have H := H1
      clear H1
      have H' := As.mk H
      clear H
      go_wp2
      go_meet
      case rel => exact ⟨_, (decide (t531 ≥ (l1.length : Int))), (by first | rfl | (simp; done) | (simp [*]; done)), H', ⟨by first | omega | exact Nat.le_refl _⟩, ⟨by repeat (first | (with_reducible first | exact HB.out | apply below_alloc | apply pw_below_drewN | apply below_drew1) | exact HB.out)⟩⟩
     ·replace c13 := Bool.eq_false_iff.mpr c13
      subst c13
      have H1 : (column_Combine.j0 k a0 l1 l2 false) = some (r1, r2) := by rw [if_neg (show ¬ (false = true) by decide)] at H; exact H
      clear H
      have H := H1
      clear H1
      have H' := As.mk H
      clear H
      go_wp2
      go_meet
      case rel => exact ⟨_, (false), (by first | rfl | (simp; done) | (simp [*]; done)), H', ⟨by first | omega | exact Nat.le_refl _⟩, ⟨by repeat (first | (with_reducible first | exact HB.out | apply below_alloc | apply pw_below_drewN | apply below_drew1) | exact HB.out)⟩⟩
    case rest =>
     clear HC10
     try clear c1
     try clear c2
     try clear p2
     try clear c4
     try clear c4b0
     try clear c4b1
     try clear c5
     try clear c6
     try clear c6b0
     try clear c6b1
     try clear c8
     try clear c8b0
     try clear c8b1
     try clear c13
     obtain ⟨kq, x41_9, rfl, HA, HJ9, HB⟩ := hcut
     cases kq with
     | zero => exact absurd HA.out (by simp [column_Combine.j0])
     | succ kj9 =>
      have H := HA.out
      clear HA
      simp only [column_Combine.j0] at H
      by_cases c14 : x41_9 = true
      ·subst c14
       have H1 : (some (([] : List (S45)), 10)) = some (r1, r2) := by rw [if_pos rfl] at H; exact H
       clear H
       have H := H1
       clear H1
       simp only [Option.some.injEq, Prod.mk.injEq] at H
       obtain ⟨rfl, rfl⟩ := H
       go_wp2
       go_ret2
       exact ⟨_, by first | rfl | (simp [errW_none, errW_some] <;> rfl) | (simp [*, errW_none, errW_some] <;> rfl), by first | exact Kd.R_nil _ _ _ _ _ | exact Kd.N_nil _ _ _ _ _ | exact Kd.V_nil _ _ _ _ _ | exact Kd.Q_nil _ _ _ _ _ | exact Kd.S_nil _ _ _ _ _, by repeat (first | (with_reducible first | exact HB.out | apply below_alloc | apply pw_below_drewN | apply below_drew1) | exact HB.out)⟩
      ·replace c14 := Bool.eq_false_iff.mpr c14
       subst c14
       have H1 : (column_Combine.l0 kj9 a0 l1 ([] : List (S45)) l2 (l2.length : Int) 0) = some (r1, r2) := by rw [if_neg (show ¬ (false = true) by decide)] at H; exact H
       clear H
       have H := H1
       clear H1
       have H' := As.mk H
       clear H
       go_wp2
       go_loopg [12, 44] kj9 (fun kq v12 v44 w' => ∃ (x12_2 : List (S45)) (x44_2 : Int), v44 = .int .i64 x44_2 ∧ As (column_Combine.l0 kq a0 l1 x12_2 l2 (l2.length : Int) x44_2 = some (r1, r2)) ∧ As (kq ≤ kj9) ∧ As (Kd.R k45 45 w' w.heap.size (fun _ => True) v12 x12_2) ∧ As (Below w.heap.size w w'))
       case atStart => exact ⟨(([] : List (S45))), (0), (by first | rfl | (simp; done) | (simp [*]; done)), H', ⟨Nat.le_refl _⟩, ⟨by first | exact Kd.R_nil _ _ _ _ _ | exact Kd.N_nil _ _ _ _ _ | exact Kd.V_nil _ _ _ _ _ | exact Kd.Q_nil _ _ _ _ _ | exact Kd.S_nil _ _ _ _ _⟩, ⟨by repeat (first | (with_reducible first | exact HB.out | apply below_alloc | apply pw_below_drewN | apply below_drew1) | exact HB.out)⟩⟩
       case round =>
        clear H'
        try clear c1
        try clear c2
        try clear p2
        try clear c4
        try clear c4b0
        try clear c4b1
        try clear c5
        try clear c6
        try clear c6b0
        try clear c6b1
        try clear c8
        try clear c8b0
        try clear c8b1
        try clear c13
        try clear c14
        try clear p2
        obtain ⟨x12_2, x44_2, rfl, HA, HK2, HO_12, HB⟩ := hrel
        cases gk with
        | zero => exact absurd HA.out (by simp [column_Combine.l0])
        | succ k2 =>
         have H := HA.out
         clear HA
         simp only [column_Combine.l0] at H
         by_cases c15 : x44_2 < (l2.length : Int)
         ·rw [if_pos c15] at H
          have c15b0 : decide (x44_2 < (l2.length : Int)) = true := decide_eq_true c15
          clear c15
          by_cases c16 : 0 ≤ x44_2
          ·rw [if_pos c16] at H
           have c16b0 : decide (0 ≤ x44_2) = true := decide_eq_true c16
           clear c16
           by_cases c17 : x44_2 < (l2.length : Int)
           ·rw [if_pos c17] at H
            have c17b0 : decide (x44_2 < (l2.length : Int)) = true := decide_eq_true c17
            clear c17
            by_cases c18 : 0 ≤ ((rd_T45 l2 x44_2).f0)
            ·rw [if_pos c18] at H
             have c18b0 : decide (0 ≤ ((rd_T45 l2 x44_2).f0)) = true := decide_eq_true c18
             clear c18
             by_cases c19 : ((rd_T45 l2 x44_2).f0) < (l1.length : Int)
             ·rw [if_pos c19] at H
              have c19b0 : decide (((rd_T45 l2 x44_2).f0) < (l1.length : Int)) = true := decide_eq_true c19
              clear c19
              replace H := Option.bind_eq_some_iff.mp H
              obtain ⟨t536, A200, H⟩ := H
              replace H : (column_Combine.l0 k2 a0 l1 t536 l2 (l2.length : Int) (wrap64 (x44_2 + 1))) = some (r1, r2) := H
              have A20 := As.mk A200
              clear A200
              have H' := As.mk H
              clear H
              have p533 : 0 ≤ (x44_2 : Int) := of_decide_eq_true (by first | (with_reducible assumption) | assumption)
              have q533 : x44_2 < (l2.length : Int) := of_decide_eq_true (by first | (with_reducible assumption) | assumption)
              obtain ⟨ad533, e533, hx533_0, hx533_1⟩ := at_T45 HR2.out x44_2 p533 q533
              cases e533
              replace hx533_0 := (HB.out.cell (World.block_lt_of_cell? w _ hx533_0)).trans hx533_0
              replace hx533_1 := (HB.out.cell (World.block_lt_of_cell? w _ hx533_1)).trans hx533_1
              replace p533 := eq_true p533
              replace q533 := eq_true q533
              try go_wp2_with (first | ((with_reducible refine gate_dst (N := 14) rfl ?_); (try (refine gate_guard (by rfl) ?_; dsimp only)); refine box_event ?hg (N := 14) ?hd (cs := #[.int .i64 0, .int .i64 0]) (t := 45) ?hr ?_; (case hd => rfl); (case hg => rfl); (case hr => first | (go_simp; done) | (go_simp; rfl)); intro gb534 hg w21 hbox hb; have n0_ := As.mk (Kd.R_below (Kd.R_elderB (rup HO_12.out) gb534 (Nat.le_of_eq hg.symm)) hb); have n1_ := As.mk (below_step (hup0 HB.out) hb); have n2_ := As.mk (hbox); have n3_ := As.mk ((by rw [hg]; exact (below_size (hup0 HB.out)) : w.heap.size ≤ gb534)); have n4_ := As.mk ((by rw [hg]; exact (below_size (hup0 HB.out)) : w.heap.size ≤ gb534)); clear HO_12; clear HB; have HO_12 := n0_; have HB := n1_; have BK534 := n2_; have GW534 := n3_; have GE534 := n4_; clear n0_ n1_ n2_ n3_ n4_; clear hb hbox hg; have hcz22_0 : w21.cell? ⟨gb534, 0, none⟩ = some (.int .i64 0) := (blk_cell BK534.out 0).trans rfl; have hcz22_1 : w21.cell? ⟨gb534, 1, none⟩ = some (.int .i64 0) := (blk_cell BK534.out 1).trans rfl; have hfz22_0 := blk_frozen BK534.out 0; have hfz22_1 := blk_frozen BK534.out 1))
              have n0_ : As (Kd.R k45 45 ((w21.setCell ⟨gb534, 0, none⟩ (.int .i64 ((rd_T45 l2 x44_2).f0))).setCell ⟨gb534, 1, none⟩ (.int .i64 ((rd_T45 l2 x44_2).f1))) w.heap.size (fun k_ => k_ ≠ gb534) u12 x12_2) := ⟨by (with_reducible repeat (first | apply Kd.R_alloc | apply Kd.R_drewN | apply Kd.R_drew)); exact Kd.R_mono (Kd.R_far (p := ⟨gb534, 1, none⟩) (Kd.R_far (p := ⟨gb534, 0, none⟩) (Kd.R_mono HO_12.out (fun k_ hk => (⟨hk, hk.2⟩ : _ ∧ k_ ≠ gb534))) (fun _ hk => hk.2) (.int .i64 ((rd_T45 l2 x44_2).f0))) (fun _ hk => hk.2) (.int .i64 ((rd_T45 l2 x44_2).f1))) (fun _ hk => hk.1.2)⟩
              have n1_ : As (((w21.setCell ⟨gb534, 0, none⟩ (.int .i64 ((rd_T45 l2 x44_2).f0))).setCell ⟨gb534, 1, none⟩ (.int .i64 ((rd_T45 l2 x44_2).f1))).heap[gb534]? = some (.cells #[.int .i64 ((rd_T45 l2 x44_2).f0), .int .i64 ((rd_T45 l2 x44_2).f1)] 45 (0, 0))) := ⟨by (with_reducible repeat (first | refine blk_drewN ?_ _ | refine blk_drew ?_ | refine blk_alloc ?_ _)); refine blk_put (cs := #[.int .i64 ((rd_T45 l2 x44_2).f0), .int .i64 0]) ?_ 1 _ rfl; (with_reducible repeat (first | refine blk_drewN ?_ _ | refine blk_drew ?_ | refine blk_alloc ?_ _)); refine blk_put (cs := #[.int .i64 0, .int .i64 0]) ?_ 0 _ rfl; (with_reducible repeat (first | refine blk_drewN ?_ _ | refine blk_drew ?_ | refine blk_alloc ?_ _)); exact BK534.out⟩
              have n2_ : As (Below w.heap.size w ((w21.setCell ⟨gb534, 0, none⟩ (.int .i64 ((rd_T45 l2 x44_2).f0))).setCell ⟨gb534, 1, none⟩ (.int .i64 ((rd_T45 l2 x44_2).f1)))) := ⟨by repeat (first | (with_reducible first | exact HB.out | apply below_alloc | apply pw_below_drewN | apply below_drew1 | refine below_set ?_ GE534.out) | exact HB.out)⟩
              (try clear HO_12)
              (try clear BK534)
              (try clear HB)
              generalize ((w21.setCell ⟨gb534, 0, none⟩ (.int .i64 ((rd_T45 l2 x44_2).f0))).setCell ⟨gb534, 1, none⟩ (.int .i64 ((rd_T45 l2 x44_2).f1))) = w23 at n0_ n1_ n2_ ⊢
              have HO_12 := n0_
              have BK534 := n1_
              have HB := n2_
              clear n0_ n1_ n2_
              have n0_ := As.mk (Kd.R_drew HO_12.out)
              have n1_ := As.mk (blk_drew BK534.out)
              have n2_ := As.mk (below_drew1 HB.out)
              clear HO_12
              clear BK534
              clear HB
              have HO_12 := n0_
              have BK534 := n1_
              have HB := n2_
              clear n0_ n1_ n2_
              have p535 : 0 ≤ (((rd_T45 l2 x44_2).f0) : Int) := of_decide_eq_true (by first | (with_reducible assumption) | assumption)
              have q535 : ((rd_T45 l2 x44_2).f0) < (l1.length : Int) := of_decide_eq_true (by first | (with_reducible assumption) | assumption)
              obtain ⟨ad535, A535_0, c535_0, e535, hx535_0, hl535_0, hi535_0⟩ := at_L2 HR1.out ((rd_T45 l2 x44_2).f0) p535 q535
              have hw535_0 := hx535_0
              cases e535
              replace hx535_0 := (HB.out.cell (World.block_lt_of_cell? w _ hx535_0)).trans hx535_0
              have HR535_0 := As.mk hi535_0
              have HC535_0 := As.mk hl535_0
              clear hi535_0 hl535_0
              replace p535 := eq_true p535
              replace q535 := eq_true q535
              obtain ⟨Ao25, co25, eo25⟩ := Kd.R_slice HO_12.out
              (first | subst eo25 | (injection eo25 with f1_ f2_ f3_; have f4_ := f1_.symm; have f5_ := f3_.symm; clear f1_ f2_ f3_; subst f4_; subst f5_))
              refine start_ (n := 11) (S := fun w' => w'.cell? ⟨gb534, 0, none⟩ = some (.int .i64 ((rd_T45 l2 x44_2).f0)) ∧ w'.cell? ⟨gb534, 1, none⟩ = some (.int .i64 ((rd_T45 l2 x44_2).f1)) ∧ w'.cell? (ad535.add (((rd_T45 l2 x44_2).f0)).toNat) = some (.slice A535_0 (rd_L2 l1 ((rd_T45 l2 x44_2).f0)).length c535_0)) (ds := []) #[false, false, false, false, false, false, false, false, false, false, false] (by kernel_rfl) rfl rfl ⟨(blk_cell BK534.out 0).trans rfl, (blk_cell BK534.out 1).trans rfl, ((HB.out.cell (World.block_lt_of_cell? w _ hw535_0)).trans hw535_0)⟩ (fun hHeld => ?_); refine with_tabW column_Combine.tab16 column_Combine.bits16 (fun HT_ HW_ => ?_)
              generalize w23.drew = w24 at HO_12 BK534 HB HR535_0 hx535_0 hHeld ⊢
              refine pure_ (i := 0) (N := some 48) (v := ?_) (a' := ?_) #[true, false, false, false, false, false, false, false, false, false, false] rfl rfl (any_of HT_.out (by kernel_rfl)) (fun _ _ _ h => h) (Or.inl ⟨by rfl, ?_⟩) ?_ ?_
              rotate_left
              ·intro w'
               go_simp
               with_reducible rfl
              rotate_left
              ·simp only [Act.put, List.setIfInBounds_toArray, List.set_cons_zero, List.set_cons_succ, i64_w, i32_w]
               rfl
              refine pure_ (i := 1) (N := some 49) (v := ?_) (a' := ?_) #[true, true, false, false, false, false, false, false, false, false, false] rfl rfl (any_of HT_.out (by kernel_rfl)) (fun _ _ _ h => h) (Or.inl ⟨by rfl, ?_⟩) ?_ ?_
              rotate_left
              ·intro w'
               go_simp
               with_reducible rfl
              rotate_left
              ·simp only [Act.put, List.setIfInBounds_toArray, List.set_cons_zero, List.set_cons_succ, i64_w, i32_w]
               rfl
              refine pure_ (i := 2) (N := some 50) (v := ?_) (a' := ?_) #[true, true, true, false, false, false, false, false, false, false, false] rfl rfl (any_of HT_.out (by kernel_rfl)) (fun _ _ _ h => h) (Or.inl ⟨by rfl, ?_⟩) ?_ ?_
              rotate_left
              ·intro w'
               go_simp
               with_reducible rfl
              rotate_left
              ·simp only [Act.put, List.setIfInBounds_toArray, List.set_cons_zero, List.set_cons_succ, i64_w, i32_w]
               rfl
              refine pure_ (i := 4) (N := some 52) (v := ?_) (a' := ?_) #[true, true, true, false, true, false, false, false, false, false, false] rfl rfl (any_of HT_.out (by kernel_rfl)) (fun _ _ _ h => h) (Or.inl ⟨by rfl, ?_⟩) ?_ ?_
              rotate_left
              ·intro w'
               go_simp
               with_reducible rfl
              rotate_left
              ·simp only [Act.put, List.setIfInBounds_toArray, List.set_cons_zero, List.set_cons_succ, i64_w, i32_w]
               rfl
              refine pure_ (i := 5) (N := some 53) (v := ?_) (a' := ?_) #[true, true, true, false, true, true, false, false, false, false, false] rfl rfl (any_of HT_.out (by kernel_rfl)) (fun _ _ _ h => h) (Or.inl ⟨by rfl, ?_⟩) ?_ ?_
              rotate_left
              ·intro w'
               go_simp
               with_reducible rfl
              rotate_left
              ·simp only [Act.put, List.setIfInBounds_toArray, List.set_cons_zero, List.set_cons_succ, i64_w, i32_w]
               rfl
              refine take_ (i := 3) (N := some 51) (v := ?_) (a' := ?_) #[true, true, true, true, true, true, false, false, false, false, false] rfl rfl (take_ofW HT_.out HW_.out (by kernel_rfl)) (fun _ _ _ h => h) (Or.inl ⟨by rfl, ?_⟩) hHeld ?_ ?_
              rotate_left
              ·rintro w' ⟨s0, s1, s2⟩
               go_simp
               with_reducible rfl
              rotate_left
              ·simp only [Act.put, List.setIfInBounds_toArray, List.set_cons_zero, List.set_cons_succ, i64_w, i32_w]
               rfl
              refine take_ (i := 6) (N := some 54) (v := ?_) (a' := ?_) #[true, true, true, true, true, true, true, false, false, false, false] rfl rfl (take_ofW HT_.out HW_.out (by kernel_rfl)) (fun _ _ _ h => h) (Or.inl ⟨by rfl, ?_⟩) hHeld ?_ ?_
              rotate_left
              ·rintro w' ⟨s0, s1, s2⟩
               go_simp
               with_reducible rfl
              rotate_left
              ·simp only [Act.put, List.setIfInBounds_toArray, List.set_cons_zero, List.set_cons_succ, i64_w, i32_w]
               rfl
              refine pure_ (i := 7) (N := some 55) (v := ?_) (a' := ?_) #[true, true, true, true, true, true, true, true, false, false, false] rfl rfl (any_of HT_.out (by kernel_rfl)) (fun _ _ _ h => h) (Or.inl ⟨by rfl, ?_⟩) ?_ ?_
              rotate_left
              ·intro w'
               go_simp
               with_reducible rfl
              rotate_left
              ·simp only [Act.put, List.setIfInBounds_toArray, List.set_cons_zero, List.set_cons_succ, i64_w, i32_w]
               rfl
              refine take_ (i := 8) (N := some 56) (v := ?_) (a' := ?_) #[true, true, true, true, true, true, true, true, true, false, false] rfl rfl (take_ofW HT_.out HW_.out (by kernel_rfl)) (fun _ _ _ h => h) (Or.inl ⟨by rfl, ?_⟩) hHeld ?_ ?_
              rotate_left
              ·rintro w' ⟨s0, s1, s2⟩
               go_simp
               with_reducible rfl
              rotate_left
              ·simp only [Act.put, List.setIfInBounds_toArray, List.set_cons_zero, List.set_cons_succ, i64_w, i32_w]
               rfl
              refine one_ (i := 9) (N := some 57) #[true, true, true, true, true, true, true, true, true, true, false] rfl rfl (one_of HT_.out (by kernel_rfl)) (by decide) (fun K hK => ?_)
              refine goes_ Try.func57 (by kernel_rfl) rfl #[.int .i64 a0, .slice Ao25 x12_2.length co25, .int .i64 ((rd_T45 l2 x44_2).f1), .slice A535_0 (rd_L2 l1 ((rd_T45 l2 x44_2).f0)).length c535_0] (by rfl) rfl rfl (by (try simp only [List.map_toArray, List.map_cons, List.map_nil]); first | done | rfl | (simp only [List.length_drop, List.length_take]; rfl)) ?_
              with_reducible refine (column_plus.calls a0 _ _ x12_2 ((rd_T45 l2 x44_2).f1) _ _ (rd_L2 l1 ((rd_T45 l2 x44_2).f0)) t536 _ ?side1 ?side2 ?side3 ?side4 A20.out).mono ?_
              (case side1 => exact cup (Kd.R_reads' HO_12.out).2.2)
              (case side2 => exact (Kd.R_reads' HO_12.out).2.1)
              (case side3 => exact cup (Kd.C_below HR535_0.out HB.out))
              (case side4 => exact HC535_0.out)
              rintro e w26 ⟨v537, rfl, ho0, hb⟩
              refine ⟨_, rfl, ?_⟩
              have n0_ := As.mk (Kd.R_elder' (rup HO_12.out) (Kd.R_base ho0) hb)
              have n1_ := As.mk (Kd.R_lower (Kd.R_newB (Kd.R_new' ho0 (Kd.R_lt (rup HO_12.out))) (g := gb534) (o := .cells #[.int .i64 ((rd_T45 l2 x44_2).f0), .int .i64 ((rd_T45 l2 x44_2).f1)] 45 (0, 0)) (bup BK534.out)) (below_size (hup1 HB.out GE534.out)))
              have n2_ := As.mk (blk_below (g := gb534) (o := .cells #[.int .i64 ((rd_T45 l2 x44_2).f0), .int .i64 ((rd_T45 l2 x44_2).f1)] 45 (0, 0)) (bup BK534.out) hb)
              have n3_ := As.mk (below_step (hup1 HB.out GE534.out) hb)
              clear HO_12
              clear BK534
              clear HB
              have HO_12 := n0_
              have HO538 := n1_
              have BK534 := n2_
              have HB := n3_
              clear n0_ n1_ n2_ n3_
              (try clear hb)
              (try clear hb2)
              (try clear hk)
              (try clear hi)
              (try clear ho0)
              refine hK.out _ _ ⟨(blk_cell BK534.out 0).trans rfl, (blk_cell BK534.out 1).trans rfl, ((HB.out.cell (World.block_lt_of_cell? w _ hw535_0)).trans hw535_0)⟩ (fun hHeld => ?_)
              clear hK K
              refine norm_ (a' := ?_) ?_ ?_
              rotate_left
              ·show Act.put _ (some 57) _ = _
               simp only [Act.put, List.setIfInBounds_toArray, List.set_cons_zero, List.set_cons_succ, i64_w, i32_w]
               rfl
              refine pure_ (i := 10) (N := some 12) (v := ?_) (a' := ?_) #[true, true, true, true, true, true, true, true, true, true, true] rfl rfl (any_of HT_.out (by kernel_rfl)) (fun _ _ _ h => h) (Or.inl ⟨by rfl, ?_⟩) ?_ ?_
              rotate_left
              ·intro w'
               go_simp
               with_reducible rfl
              rotate_left
              ·simp only [Act.put, List.setIfInBounds_toArray, List.set_cons_zero, List.set_cons_succ, i64_w, i32_w]
               rfl
              refine done_ (done_of HT_.out (by kernel_rfl)) ?_
              try go_wp2
              go_roundg k2
              case measure => have := HJ9.out; have := HK2.out; omega
              case rel => exact ⟨(t536), (wrap64 (x44_2 + 1)), (by first | rfl | (simp; done) | (simp [*]; done)), H', ⟨by have := HJ9.out; have := HK2.out; omega⟩, ⟨by (with_reducible repeat (first | apply Kd.R_alloc | apply Kd.R_drewN | apply Kd.R_drew)); exact Kd.R_mono HO538.out (fun _ hk => trivial)⟩, ⟨by repeat (first | (with_reducible first | exact HB.out | apply below_alloc | apply pw_below_drewN | apply below_drew1 | refine below_set ?_ GE534.out) | exact HB.out)⟩⟩
             ·rw [if_neg c19] at H
              exact absurd H (by simp)
            ·rw [if_neg c18] at H
             exact absurd H (by simp)
           ·rw [if_neg c17] at H
            exact absurd H (by simp)
          ·rw [if_neg c16] at H
           exact absurd H (by simp)
         ·rw [if_neg c15] at H
          have c15b0 : decide (x44_2 < (l2.length : Int)) = false := decide_eq_false c15
          clear c15
          simp only [Option.some.injEq, Prod.mk.injEq] at H
          obtain ⟨rfl, rfl⟩ := H
          go_wp2
          go_ret2
          exact ⟨_, by first | rfl | (simp [errW_none, errW_some] <;> rfl) | (simp [*, errW_none, errW_some] <;> rfl), by (with_reducible repeat (first | apply Kd.R_alloc | apply Kd.R_drewN | apply Kd.R_drew)); exact HO_12.out, by repeat (first | (with_reducible first | exact HB.out | apply below_alloc | apply pw_below_drewN | apply below_drew1) | exact HB.out)⟩
   ·rw [if_neg c8] at H
    have c8b0 : (t530 == 0) = false := beq_eq_false_iff_ne.mpr c8
    have c8b1 : (t530 != 0) = true := bne_iff_ne.mpr c8
    simp only [Option.some.injEq, Prod.mk.injEq] at H
    obtain ⟨rfl, rfl⟩ := H
    go_enter Try.func43, Try.ntmps43
    go_wp2_with (first | ((with_reducible refine gate_callee (f := 59) rfl ?_); refine goesL_ (some 20) rfl rfl Try.func59 (by kernel_rfl) rfl #[.int .i64 a0, .slice A1 l1.length c1] rfl (by (try simp only [List.map_toArray, List.map_cons, List.map_nil]); first | done | rfl | (simp only [List.length_drop, List.length_take]; rfl)) ?_; (with_reducible refine (column_checkAll.calls k a0 _ _ l1 t529 _ ?side1 ?side2 A5.out).mono ?_); (case side1 => exact cup HR1.out); (case side2 => exact HC1.out); rintro e w27 ⟨rfl, hb⟩; refine ⟨_, rfl, ?_⟩; have n0_ := As.mk (below_step (hup0 HB.out) hb); clear HB; have HB := n0_; clear n0_; (try clear hb); (try clear hb2); (try clear hk); (try clear hi)) | ((with_reducible refine gate_callee (f := 24) rfl ?_); refine goesL_ (some 26) rfl rfl Try.func24 (by kernel_rfl) rfl #[.int .i64 a0, .slice A2 l2.length c2] rfl (by (try simp only [List.map_toArray, List.map_cons, List.map_nil]); first | done | rfl | (simp only [List.length_drop, List.length_take]; rfl)) ?_; (with_reducible refine (column_Check.calls k a0 _ _ l2 t530 _ ?side1 ?side2 A7.out).mono ?_); (case side1 => exact cup (Kd.C_below HR2.out HB.out)); (case side2 => exact HC2.out); rintro e w28 ⟨rfl, hb⟩; refine ⟨_, rfl, ?_⟩; have n0_ := As.mk (below_step (hup0 HB.out) hb); clear HB; have HB := n0_; clear n0_; (try clear hb); (try clear hb2); (try clear hk); (try clear hi)))
    go_ret2
    exact ⟨_, by first | rfl | (simp [errW_none, errW_some] <;> rfl) | (simp [*, errW_none, errW_some] <;> rfl), by first | exact Kd.R_nil _ _ _ _ _ | exact Kd.N_nil _ _ _ _ _ | exact Kd.V_nil _ _ _ _ _ | exact Kd.Q_nil _ _ _ _ _ | exact Kd.S_nil _ _ _ _ _, by repeat (first | (with_reducible first | exact HB.out | apply below_alloc | apply pw_below_drewN | apply below_drew1) | exact HB.out)⟩
  ·rw [if_neg c6] at H
   have c6b0 : (t529 == 0) = false := beq_eq_false_iff_ne.mpr c6
   have c6b1 : (t529 != 0) = true := bne_iff_ne.mpr c6
   simp only [Option.some.injEq, Prod.mk.injEq] at H
   obtain ⟨rfl, rfl⟩ := H
   go_enter Try.func43, Try.ntmps43
   go_wp2_with (first | ((with_reducible refine gate_callee (f := 59) rfl ?_); refine goesL_ (some 20) rfl rfl Try.func59 (by kernel_rfl) rfl #[.int .i64 a0, .slice A1 l1.length c1] rfl (by (try simp only [List.map_toArray, List.map_cons, List.map_nil]); first | done | rfl | (simp only [List.length_drop, List.length_take]; rfl)) ?_; (with_reducible refine (column_checkAll.calls k a0 _ _ l1 t529 _ ?side1 ?side2 A5.out).mono ?_); (case side1 => exact cup HR1.out); (case side2 => exact HC1.out); rintro e w29 ⟨rfl, hb⟩; refine ⟨_, rfl, ?_⟩; have n0_ := As.mk (below_step (hup0 HB.out) hb); clear HB; have HB := n0_; clear n0_; (try clear hb); (try clear hb2); (try clear hk); (try clear hi)))
   go_ret2
   exact ⟨_, by first | rfl | (simp [errW_none, errW_some] <;> rfl) | (simp [*, errW_none, errW_some] <;> rfl), by first | exact Kd.R_nil _ _ _ _ _ | exact Kd.N_nil _ _ _ _ _ | exact Kd.V_nil _ _ _ _ _ | exact Kd.Q_nil _ _ _ _ _ | exact Kd.S_nil _ _ _ _ _, by repeat (first | (with_reducible first | exact HB.out | apply below_alloc | apply pw_below_drewN | apply below_drew1) | exact HB.out)⟩
end Go.Proofs.Ytojnnfhalpefmaa.M
end

section
namespace Go.Proofs.Ytojnnfhalpefmaa.M
open Go.RowKit Go.Proofs.YtojnnfhalpefmaaW.PrintWords
instance : DecidableEq S45 := fun a b => match a, b with
 | ⟨a0, a1⟩, ⟨b0, b1⟩ => if h : a0 = b0 ∧ a1 = b1 then isTrue (by obtain ⟨rfl, rfl⟩ := h; rfl) else isFalse (fun e => h (by cases e; exact ⟨rfl, rfl⟩))
theorem aw_add : column_Add.f 60 5 [⟨0, 2⟩, ⟨3, 1⟩] 3 [⟨3, 3⟩, ⟨4, 4⟩] = some ([⟨0, 2⟩, ⟨4, 2⟩], 0) := by decide +kernel
theorem aw_dot : column_Dot.f 60 5 [⟨0, 2⟩, ⟨3, 1⟩] [⟨3, 3⟩, ⟨4, 4⟩] = some (3, 0) := by decide +kernel
theorem aw_rest : column_Rest.f 60 5 [[⟨0, 2⟩, ⟨3, 1⟩], [⟨3, 3⟩, ⟨4, 4⟩]] [⟨4, 1⟩] = some ([⟨0, 4⟩], [⟨0, 3⟩, ⟨1, 4⟩], 0) := by decide +kernel
theorem aw_ker : column_Kernel.f 60 5 [[⟨0, 2⟩, ⟨3, 1⟩], [⟨0, 4⟩, ⟨3, 2⟩]] = some ([[⟨0, 3⟩, ⟨1, 1⟩]], 0) := by decide +kernel
theorem aw_is1 : toruslaw04_is.f 60 [⟨0, 2⟩, ⟨4, 2⟩] 0 [⟨0, 2⟩, ⟨4, 2⟩] = some true := by decide +kernel
theorem aw_is2 : toruslaw04_is.f 60 [⟨0, 4⟩] 0 [⟨0, 4⟩] = some true := by decide +kernel
theorem aw_same : torusref04_Same.f 60 [⟨0, 3⟩, ⟨1, 4⟩] [⟨0, 3⟩, ⟨1, 4⟩] = some true := by decide +kernel
theorem aw_is3 : toruslaw04_is.f 60 [⟨0, 3⟩, ⟨1, 1⟩] 0 [⟨0, 3⟩, ⟨1, 1⟩] = some true := by decide +kernel
theorem aw_exA : toruslaw04_exA.f = some [⟨0, 2⟩, ⟨3, 1⟩] := rfl
theorem aw_exB : toruslaw04_exB.f = some [⟨3, 3⟩, ⟨4, 4⟩] := rfl
theorem C_T1 {W : World} {g : Nat} (a : S45) (h : W.heap[g]? = some (.cells #[.int .i64 a.f0, .int .i64 a.f1] 45 (0, 0))) : Kd.C k45 W (some ⟨g, 0, none⟩) ([a] : List S45).length [a] := by
 refine ⟨rfl, by simp, fun _ => ⟨_, rfl, fun j p hp => ?_⟩⟩
 match j, hp with
 | 0, hp =>
  cases hp
  refine ⟨_, rfl, k45_mk W a, fun i u hu => ?_⟩
  rw [add_plain, blk_cell h]
  match i, hu with
  | 0, hu => exact hu
  | 1, hu => exact hu
theorem C_T2 {W : World} {g : Nat} (a b : S45) (h : W.heap[g]? = some (.cells #[.int .i64 a.f0, .int .i64 a.f1, .int .i64 b.f0, .int .i64 b.f1] 45 (0, 0))) : Kd.C k45 W (some ⟨g, 0, none⟩) ([a, b] : List S45).length [a, b] := by
 refine ⟨rfl, by simp, fun _ => ⟨_, rfl, fun j p hp => ?_⟩⟩
 match j, hp with
 | 0, hp =>
  cases hp
  refine ⟨_, rfl, k45_mk W a, fun i u hu => ?_⟩
  rw [add_plain, blk_cell h]
  match i, hu with
  | 0, hu => exact hu
  | 1, hu => exact hu
 | 1, hp =>
  cases hp
  refine ⟨_, rfl, k45_mk W b, fun i u hu => ?_⟩
  rw [add_plain, blk_cell h]
  match i, hu with
  | 0, hu => exact hu
  | 1, hu => exact hu
theorem C_L2 {W : World} {g : Nat} {A B : Option Addr} {ca cb : Nat} {a b : List S45} (la : a.length ≤ ca) (lb : b.length ≤ cb) (hA : Kd.C k45 W A a.length a) (hB : Kd.C k45 W B b.length b)
  (h : W.heap[g]? = some (.cells #[.slice A a.length ca, .slice B b.length cb] 22 (0, 0))) : Kd.C (Kd.slice 45 k45) W (some ⟨g, 0, none⟩) ([a, b] : List (List S45)).length [a, b] := by
 refine ⟨rfl, by simp, fun _ => ⟨_, rfl, fun j p hp => ?_⟩⟩
 match j, hp with
 | 0, hp =>
  cases hp
  refine ⟨_, rfl, ⟨A, ca, rfl, la, hA⟩, fun i u hu => ?_⟩
  rw [add_plain, blk_cell h]
  match i, hu with
  | 0, hu => exact hu
 | 1, hp =>
  cases hp
  refine ⟨_, rfl, ⟨B, cb, rfl, lb, hB⟩, fun i u hu => ?_⟩
  rw [add_plain, blk_cell h]
  match i, hu with
  | 0, hu => exact hu
theorem blk_new2 (w : World) (o o' : Obj) : ((w.alloc o).alloc o').heap[w.heap.size + 1]? = some o' := by
 have h := blk_new (w.alloc o) o'
 rwa [World.size_alloc] at h
theorem V_of_C {W : World} {A : Option Addr} {c : Nat} {l : List S45} (hc : l.length ≤ c) (h : Kd.C k45 W A l.length l) : Kd.V k45 45 W W.heap.size (fun k_ => k_ < W.heap.size) (.slice A l.length c) l := Kd.V_mk hc (Kd.C_F k45_heap h)
set_option maxHeartbeats 1000000 in
set_option maxRecDepth 100000 in
theorem awake_calls (w : World) : Calls Try.prog 19 #[] w fun e w' => e = .returned (.bool true) ∧ Below w.heap.size w w' := by
 go_enter Try.func19, Try.ntmps19
 have HB := As.mk (Below.refl w.heap.size w)
 go_wp2_with fail
 refine (toruslaw04_exA.calls _ _ aw_exA).mono ?_
 rintro e w_ ⟨v_, rfl, hr, hb⟩
 replace HB := As.mk (below_step (HB.out) hb)
 obtain ⟨A1, c1, rfl, hl, hC⟩ := Kd.R_reads hr
 have HC1 := As.mk hC
 have HL1 := As.mk hl
 clear hl hC hr
 clear hb
 go_wp2_with fail
 refine (toruslaw04_exB.calls _ _ aw_exB).mono ?_
 rintro e w_ ⟨v_, rfl, hr, hb⟩
 replace HB := As.mk (below_step (HB.out) hb)
 replace HC1 := As.mk (Kd.C_below (HC1.out) hb)
 obtain ⟨A2, c2, rfl, hl, hC⟩ := Kd.R_reads hr
 have HC2 := As.mk hC
 have HL2 := As.mk hl
 clear hl hC hr
 clear hb
 go_wp2_with fail
 refine (column_Add.calls 60 5 _ _ _ [⟨0, 2⟩, ⟨3, 1⟩] 3 _ _ _ [⟨3, 3⟩, ⟨4, 4⟩] [⟨0, 2⟩, ⟨4, 2⟩] 0 _ (V_of_C HL1.out HC1.out) (V_of_C HL2.out HC2.out) aw_add).mono ?_
 rintro e w_ ⟨v_, rfl, hr, hb⟩
 clear HC1 HL1
 clear HC2 HL2
 replace HB := As.mk (below_step (HB.out) hb)
 obtain ⟨Aa, ca, rfl, hl, hC⟩ := Kd.R_reads hr
 have HCa := As.mk hC
 have HLa := As.mk hl
 clear hl hC hr
 clear hb
 go_wp2_with fail
 refine (toruslaw04_exA.calls _ _ aw_exA).mono ?_
 rintro e w_ ⟨v_, rfl, hr, hb⟩
 replace HB := As.mk (below_step (HB.out) hb)
 replace HCa := As.mk (Kd.C_below (HCa.out) hb)
 obtain ⟨A1, c1, rfl, hl, hC⟩ := Kd.R_reads hr
 have HC1 := As.mk hC
 have HL1 := As.mk hl
 clear hl hC hr
 clear hb
 go_wp2_with fail
 refine (toruslaw04_exB.calls _ _ aw_exB).mono ?_
 rintro e w_ ⟨v_, rfl, hr, hb⟩
 replace HB := As.mk (below_step (HB.out) hb)
 replace HCa := As.mk (Kd.C_below (HCa.out) hb)
 replace HC1 := As.mk (Kd.C_below (HC1.out) hb)
 obtain ⟨A2, c2, rfl, hl, hC⟩ := Kd.R_reads hr
 have HC2 := As.mk hC
 have HL2 := As.mk hl
 clear hl hC hr
 clear hb
 go_wp2_with fail
 refine (column_Dot.calls 60 5 _ _ [⟨0, 2⟩, ⟨3, 1⟩] _ _ [⟨3, 3⟩, ⟨4, 4⟩] 3 0 _ HC1.out HL1.out HC2.out HL2.out aw_dot).mono ?_
 rintro e w_ ⟨rfl, hb⟩
 clear HC1 HL1
 clear HC2 HL2
 replace HB := As.mk (below_step (HB.out) hb)
 replace HCa := As.mk (Kd.C_below (HCa.out) hb)
 clear hb
 go_wp2_with fail
 refine (toruslaw04_exA.calls _ _ aw_exA).mono ?_
 rintro e w_ ⟨v_, rfl, hr, hb⟩
 replace HB := As.mk (below_step (HB.out) hb)
 replace HCa := As.mk (Kd.C_below (HCa.out) hb)
 obtain ⟨A1, c1, rfl, hl, hC⟩ := Kd.R_reads hr
 have HC1 := As.mk hC
 have HL1 := As.mk hl
 clear hl hC hr
 clear hb
 go_wp2_with fail
 refine (toruslaw04_exB.calls _ _ aw_exB).mono ?_
 rintro e w_ ⟨v_, rfl, hr, hb⟩
 replace HB := As.mk (below_step (HB.out) hb)
 replace HCa := As.mk (Kd.C_below (HCa.out) hb)
 replace HC1 := As.mk (Kd.C_below (HC1.out) hb)
 obtain ⟨A2, c2, rfl, hl, hC⟩ := Kd.R_reads hr
 have HC2 := As.mk hC
 have HL2 := As.mk hl
 clear hl hC hr
 clear hb
 go_wp2_with fail
 refine (column_Rest.calls 60 5 _ _ [[⟨0, 2⟩, ⟨3, 1⟩], [⟨3, 3⟩, ⟨4, 4⟩]] _ _ [⟨4, 1⟩] [⟨0, 4⟩] [⟨0, 3⟩, ⟨1, 4⟩] 0 _ (Kd.C_alloc (C_L2 HL1.out HL2.out (Kd.C_alloc HC1.out _) (Kd.C_alloc HC2.out _) (blk_new _ _)) _) (Nat.le_refl _) (C_T1 ⟨4, 1⟩ (blk_new2 _ _ _)) (Nat.le_refl _) aw_rest).mono ?_
 rintro e w_ ⟨v1_, v2_, rfl, hr1, hr2, hb⟩
 clear HC1 HL1
 clear HC2 HL2
 replace HB := As.mk (below_step (below_alloc (below_alloc (HB.out) _) _) hb)
 replace HCa := As.mk (Kd.C_below (Kd.C_alloc (Kd.C_alloc (HCa.out) _) _) hb)
 obtain ⟨Ar, cr, rfl, hl, hC⟩ := Kd.R_reads hr1
 have HCr := As.mk hC
 have HLr := As.mk hl
 clear hl hC hr1
 obtain ⟨Au, cu, rfl, hl, hC⟩ := Kd.R_reads hr2
 have HCu := As.mk hC
 have HLu := As.mk hl
 clear hl hC hr2
 clear hb
 go_wp2_with fail
 refine (toruslaw04_exA.calls _ _ aw_exA).mono ?_
 rintro e w_ ⟨v_, rfl, hr, hb⟩
 replace HB := As.mk (below_step (HB.out) hb)
 replace HCa := As.mk (Kd.C_below (HCa.out) hb)
 replace HCr := As.mk (Kd.C_below (HCr.out) hb)
 replace HCu := As.mk (Kd.C_below (HCu.out) hb)
 obtain ⟨A1, c1, rfl, hl, hC⟩ := Kd.R_reads hr
 have HC1 := As.mk hC
 have HL1 := As.mk hl
 clear hl hC hr
 clear hb
 go_wp2_with fail
 refine (column_Kernel.calls 60 5 _ _ [[⟨0, 2⟩, ⟨3, 1⟩], [⟨0, 4⟩, ⟨3, 2⟩]] [[⟨0, 3⟩, ⟨1, 1⟩]] 0 _ (C_L2 HL1.out (Nat.le_refl 2) (Kd.C_alloc (Kd.C_alloc HC1.out _) _) (Kd.C_alloc (C_T2 ⟨0, 4⟩ ⟨3, 2⟩ (blk_new _ _)) _) (blk_new2 _ _ _)) (Nat.le_refl _) aw_ker).mono ?_
 rintro e w_ ⟨v_, rfl, hr, hb⟩
 clear HC1 HL1
 replace HB := As.mk (below_step (below_alloc (below_alloc (HB.out) _) _) hb)
 replace HCa := As.mk (Kd.C_below (Kd.C_alloc (Kd.C_alloc (HCa.out) _) _) hb)
 replace HCr := As.mk (Kd.C_below (Kd.C_alloc (Kd.C_alloc (HCr.out) _) _) hb)
 replace HCu := As.mk (Kd.C_below (Kd.C_alloc (Kd.C_alloc (HCu.out) _) _) hb)
 obtain ⟨Ak, ck, rfl, hl, hC⟩ := Kd.S_reads hr
 have HCk := As.mk hC
 have HLk := As.mk hl
 clear hl hC hr
 clear hb
 go_wp2_with fail
 refine (toruslaw04_is.calls 60 _ _ [⟨0, 2⟩, ⟨4, 2⟩] 0 _ _ [⟨0, 2⟩, ⟨4, 2⟩] true _ (Kd.C_alloc HCa.out _) HLa.out (C_T2 ⟨0, 2⟩ ⟨4, 2⟩ (blk_new _ _)) (Nat.le_refl _) aw_is1).mono ?_
 rintro e w_ ⟨rfl, hd⟩; have hb := hd.below; clear hd
 clear HCa HLa
 replace HB := As.mk (below_step (below_alloc (HB.out) _) hb)
 replace HCr := As.mk (Kd.C_below (Kd.C_alloc (HCr.out) _) hb)
 replace HCu := As.mk (Kd.C_below (Kd.C_alloc (HCu.out) _) hb)
 replace HCk := As.mk (Kd.C_below (Kd.C_alloc (HCk.out) _) hb)
 clear hb
 go_wp2_with fail
 refine (toruslaw04_is.calls 60 _ _ [⟨0, 4⟩] 0 _ _ [⟨0, 4⟩] true _ (Kd.C_alloc HCr.out _) HLr.out (C_T1 ⟨0, 4⟩ (blk_new _ _)) (Nat.le_refl _) aw_is2).mono ?_
 rintro e w_ ⟨rfl, hd⟩; have hb := hd.below; clear hd
 clear HCr HLr
 replace HB := As.mk (below_step (below_alloc (HB.out) _) hb)
 replace HCu := As.mk (Kd.C_below (Kd.C_alloc (HCu.out) _) hb)
 replace HCk := As.mk (Kd.C_below (Kd.C_alloc (HCk.out) _) hb)
 clear hb
 go_wp2_with fail
 refine (torusref04_Same.calls 60 _ _ [⟨0, 3⟩, ⟨1, 4⟩] _ _ [⟨0, 3⟩, ⟨1, 4⟩] true _ (Kd.C_alloc HCu.out _) HLu.out (C_T2 ⟨0, 3⟩ ⟨1, 4⟩ (blk_new _ _)) (Nat.le_refl _) aw_same).mono ?_
 rintro e w_ ⟨rfl, hd⟩; have hb := hd.below; clear hd
 clear HCu HLu
 replace HB := As.mk (below_step (below_alloc (HB.out) _) hb)
 replace HCk := As.mk (Kd.C_below (Kd.C_alloc (HCk.out) _) hb)
 clear hb
 obtain ⟨al, Ak0, ck0, eL, yL, lk, hCk⟩ := at_L2 HCk.out 0 (Int.le_refl _) (by decide)
 subst eL
 have hk : Kd.C k45 w_ Ak0 ([⟨0, 3⟩, ⟨1, 1⟩] : List S45).length [⟨0, 3⟩, ⟨1, 1⟩] := hCk
 have lk2 : ([⟨0, 3⟩, ⟨1, 1⟩] : List S45).length ≤ ck0 := lk
 have yL2 : w_.cell? al = some (.slice Ak0 2 ck0) := by
  have h := yL
  rw [show al.add (0 : Int).toNat = al from by unfold Addr.add; simp] at h
  exact h
 have HCk0 := As.mk hk
 have HLk0 := As.mk lk2
 clear hCk lk yL hk lk2
 go_wp2_with fail
 refine (toruslaw04_is.calls 60 _ _ [⟨0, 3⟩, ⟨1, 1⟩] 0 _ _ [⟨0, 3⟩, ⟨1, 1⟩] true _ (Kd.C_alloc HCk0.out _) HLk0.out (C_T2 ⟨0, 3⟩ ⟨1, 1⟩ (blk_new _ _)) (Nat.le_refl _) aw_is3).mono ?_
 rintro e w_ ⟨rfl, hd⟩; have hb := hd.below; clear hd
 clear HCk0 HLk0
 replace HB := As.mk (below_step (below_alloc (HB.out) _) hb)
 clear hb
 go_wp2_with fail
 go_ret
 exact ⟨rfl, HB.out⟩
def toruslaw04_awake.f : Option Bool := some true
theorem toruslaw04_awake.calls (r : Bool) (w : World) (h : toruslaw04_awake.f = some r) : Calls Try.prog 19 #[] w fun e w' => e = .returned (.bool r) ∧ Below w.heap.size w w' := by
 cases h
 exact awake_calls w
end Go.Proofs.Ytojnnfhalpefmaa.M
end

section
namespace Go.Proofs.Ytojnnfhalpefmaa.H
open Go.RowKit Go.Proofs.YtojnnfhalpefmaaW.PrintWords Go.Proofs.YtojnnfhalpefmaaW.PrintLast Go.Proofs.YtojnnfhalpefmaaW.PrintMore Go.Proofs.Ytojnnfhalpefmaa.M
def UpR (L : List (List S45)) : Prop := ∀ i j, i < j → j < L.length → ¬ (wrap64 (lastR (L.getD j []) - lastR (L.getD i [])) < 0)
set_option maxHeartbeats 8000000 in
set_option maxRecDepth 100000 in
theorem ord2_calls (base g cap : Nat) (vs : List Value) (L : List (List S45)) (N : Nat) (hN : L.length = N) (w : World) (hS : SRow w base g cap vs L) (hne : ∀ c ∈ L, 0 < c.length) (hs : UpR L) (i j : Nat) (hij : i < j) (hj : j < N) (x y : Int) (hx : x = i) (hy : y = j) (V : Value) :
    Calls Try.prog 108 #[.slice (some ⟨g, 0, none⟩) N cap, .int .i64 x, .int .i64 y, V, .func (.func 81) #[] #[]] w fun e w' => e = .returned (.tuple #[.int .i64 x, .int .i64 y]) ∧ ∃ m, w' = w.drewN m := by
  subst hN
  subst hx
  subst hy
  have hi : i < L.length := by omega
  have c1 := hS.cell hj
  have c2 := hS.cell hi
  obtain ⟨A1, k1, e1, m1, r1, _⟩ := hS.2.2.2 j hj
  obtain ⟨A2, k2, e2, m2, r2, _⟩ := hS.2.2.2 i hi
  have f1 := hS.2.1.frozenAt j
  have f2 := hS.2.1.frozenAt i
  have p1 : 0 < (L.getD j []).length := hne _ (by rw [getD_lt _ hj]; exact List.getElem_mem _)
  have p2 : 0 < (L.getD i []).length := hne _ (by rw [getD_lt _ hi]; exact List.getElem_mem _)
  have hc := hs i j hij hj
  obtain ⟨a, ha⟩ : ∃ a, L.getD j [] = a := ⟨_, rfl⟩
  obtain ⟨b, hb⟩ : ∃ b, L.getD i [] = b := ⟨_, rfl⟩
  rw [ha] at e1 m1 r1 p1 hc
  rw [hb] at e2 m2 r2 p2 hc
  rw [e1] at c1
  rw [e2] at c2
  have hj2 : (j : Int) < (L.length : Int) := by omega
  have hi2 : (i : Int) < (L.length : Int) := by omega
  have hcb : decide (wrap64 (lastR a - lastR b) < 0) = false := decide_eq_false hc
  clear hS hne hs e1 e2 hc
  go_enter Try.func108, Try.ntmps108
  go_wp2
  go_quiet (first | (go_at_call 81; (with_reducible refine (cmp2_calls A1 A2 k1 k2 a b _ ?sa ?sb p1 p2).mono ?_); (case sa => repeat (first | exact r1 | (with_reducible refine Kd.C_drewN ?_ _) | (with_reducible refine Kd.C_drew ?_))); (case sb => repeat (first | exact r2 | (with_reducible refine Kd.C_drewN ?_ _) | (with_reducible refine Kd.C_drew ?_))); rintro e w' ⟨rfl, ⟨nd, rfl⟩⟩; (try first | exact ⟨rfl, _, World.drewN_drewN _ _ _⟩ | exact ⟨rfl, _, Eq.trans (World.drewN_drewN _ _ _) (congrArg (World.drewN _) (Nat.add_assoc _ _ _))⟩)))
  go_wp2
  go_ret2
  exact ⟨rfl, _, rfl⟩
set_option maxHeartbeats 8000000 in
set_option maxRecDepth 100000 in
theorem med_calls (base g cap : Nat) (vs : List Value) (L : List (List S45)) (N : Nat) (hN : L.length = N) (w : World) (hS : SRow w base g cap vs L) (hne : ∀ c ∈ L, 0 < c.length) (hs : UpR L) (i j k : Nat) (hij : i < j) (hjk : j < k) (hk : k < N) (x y z : Int) (hx : x = i) (hy : y = j) (hz : z = k) (V : Value) :
    Calls Try.prog 107 #[.slice (some ⟨g, 0, none⟩) N cap, .int .i64 x, .int .i64 y, .int .i64 z, V, .func (.func 81) #[] #[]] w fun e w' => e = .returned (.int .i64 y) ∧ ∃ m, w' = w.drewN m := by
  have h1 := fun W hS => ord2_calls base g cap vs L N hN W hS hne hs i j hij (by omega) x y hx hy V
  have h2 := fun W hS => ord2_calls base g cap vs L N hN W hS hne hs j k hjk hk y z hy hz V
  clear hx hy hz hne hs hN hk
  go_enter Try.func107, Try.ntmps107
  go_wp2_with (first | (go_at_call 108; (with_reducible refine (h1 _ ?sa).mono ?_); (case sa => repeat (first | exact hS | (with_reducible refine SRow.drewN ?_ _))); rintro e w1 ⟨rfl, m1, rfl⟩) | (go_at_call 108; (with_reducible refine (h2 _ ?sa).mono ?_); (case sa => repeat (first | exact hS | (with_reducible refine SRow.drewN ?_ _))); rintro e w1 ⟨rfl, m2, rfl⟩))
  go_ret
  exact ⟨rfl, _, rfl⟩
set_option maxHeartbeats 8000000 in
set_option maxRecDepth 100000 in
theorem adj_calls (base g cap : Nat) (vs : List Value) (L : List (List S45)) (N : Nat) (hN : L.length = N) (w : World) (hS : SRow w base g cap vs L) (hne : ∀ c ∈ L, 0 < c.length) (hs : UpR L) (j : Nat) (h0 : 0 < j) (hj : j + 1 < N) (x y z : Int) (hx : x = (j - 1 : Nat)) (hy : y = j) (hz : z = (j + 1 : Nat)) (hx' : IntKind.i64.wrap (y - 1) = x) (hz' : IntKind.i64.wrap (y + 1) = z) (V : Value) :
    Calls Try.prog 106 #[.slice (some ⟨g, 0, none⟩) N cap, .int .i64 y, V, .func (.func 81) #[] #[]] w fun e w' => e = .returned (.int .i64 y) ∧ ∃ m, w' = w.drewN m := by
  have h1 := fun W hS => med_calls base g cap vs L N hN W hS hne hs (j - 1) j (j + 1) (by omega) (by omega) hj x y z hx hy hz V
  clear hx hy hz hne hs hN hj h0
  rw [← hx', ← hz'] at h1
  simp only [i64_w] at h1
  clear hx' hz'
  go_enter Try.func106, Try.ntmps106
  go_wp2_with (first | (go_at_call 107; (with_reducible refine (h1 _ hS).mono ?_); rintro e w1 ⟨rfl, m1, rfl⟩))
  go_ret
  exact ⟨rfl, _, rfl⟩
theorem UpR.pair {W : World} {base g cap : Nat} {vs : List Value} {L : List (List S45)} (hS : SRow W base g cap vs L) (hne : ∀ c ∈ L, 0 < c.length) (hs : UpR L) {i j : Nat} (hij : i < j) (hj : j < L.length) :
    ∃ A1 A2 k1 k2 a b, W.cell? ⟨g, j, none⟩ = some (.slice A1 a.length k1) ∧ W.cell? ⟨g, i, none⟩ = some (.slice A2 b.length k2) ∧ k45.C W A1 a.length a ∧ k45.C W A2 b.length b ∧ 0 < a.length ∧ 0 < b.length ∧ decide (wrap64 (lastR a - lastR b) < 0) = false := by
  have hi : i < L.length := by omega
  have c1 := hS.cell hj
  have c2 := hS.cell hi
  obtain ⟨A1, k1, e1, m1, r1, _⟩ := hS.2.2.2 j hj
  obtain ⟨A2, k2, e2, m2, r2, _⟩ := hS.2.2.2 i hi
  rw [e1] at c1
  rw [e2] at c2
  exact ⟨A1, A2, k1, k2, _, _, c1, c2, r1, r2, hne _ (by rw [getD_lt _ hj]; exact List.getElem_mem _), hne _ (by rw [getD_lt _ hi]; exact List.getElem_mem _), decide_eq_false (hs i j hij hj)⟩
set_option maxHeartbeats 8000000 in
set_option maxRecDepth 100000 in
theorem part_calls (base g cap : Nat) (vs : List Value) (L : List (List S45)) (hN : L.length = 1024) (w : World) (hS : SRow w base g cap vs L) (hne : ∀ c ∈ L, 0 < c.length) (hs : UpR L) :
    Calls Try.prog 97 #[.slice (some ⟨g, 0, none⟩) 1024 cap, .int .i64 0, .int .i64 1024, .func (.func 81) #[] #[]] w fun e w' => e = .returned (.bool true) ∧ ∃ m, w' = w.drewN m := by
  have hS' := As.mk hS
  have hne' := As.mk hne
  have hs' := As.mk hs
  clear hS hne hs
  go_enter Try.func97, Try.ntmps97
  go_wp2
  go_loopg [10, 9] 1 (fun kq v10 v9 wr => v10 = .int .i64 0 ∧ v9 = .int .i64 1 ∧ wr = w)
  case atStart => exact ⟨rfl, rfl, rfl⟩
  case round =>
    obtain ⟨rfl, rfl, rfl⟩ := hrel
    go_wp2
    go_loopg [9] 1023 (fun kq v9 wj => ∃ (i : Nat), v9 = .int .i64 i ∧ 1 ≤ i ∧ i ≤ 1024 ∧ kq = 1024 - i ∧ ∃ m, wj = wr.drewN m)
    case atStart => exact ⟨1, rfl, Nat.le_refl _, by decide, rfl, 0, rfl⟩
    case round =>
      obtain ⟨i, rfl, hi0, hi1, hkq, m, rfl⟩ := hrel
      by_cases hi : i < 1024
      · obtain ⟨A1, A2, k1, k2, a, b, c1, c2, r1, r2, p1, p2, hcb⟩ := UpR.pair hS'.out hne'.out hs'.out (i := i - 1) (j := i) (by omega) (by omega)
        have f1 := hS'.out.2.1.frozenAt i
        have f2 := hS'.out.2.1.frozenAt (i - 1)
        have hib : decide ((i : Int) < 1024) = true := decide_eq_true (by omega)
        have hi2 : (i : Int) < 1024 := by omega
        have hi3 : (1 : Int) ≤ (i : Int) := by omega
        go_wp2
        go_quiet (first | (go_at_call 81; (with_reducible refine (cmp2_calls A1 A2 k1 k2 a b _ ?sa ?sb p1 p2).mono ?_); (case sa => repeat (first | exact r1 | (with_reducible refine Kd.C_drewN ?_ _) | (with_reducible refine Kd.C_drew ?_))); (case sb => repeat (first | exact r2 | (with_reducible refine Kd.C_drewN ?_ _) | (with_reducible refine Kd.C_drew ?_))); rintro e w' ⟨rfl, ⟨nd, rfl⟩⟩; (try first | exact ⟨rfl, _, World.drewN_drewN _ _ _⟩ | exact ⟨rfl, _, Eq.trans (World.drewN_drewN _ _ _) (congrArg (World.drewN _) (Nat.add_assoc _ _ _))⟩)))
        go_wp2
        go_roundg (1024 - (i + 1))
        case measure => omega
        case rel => exact ⟨i + 1, by first | rfl | (rw [wrap_succ hi (by decide)]), by omega, by omega, rfl, _, by first | rfl | exact World.drewN_drewN _ _ _⟩
      · obtain rfl : i = 1024 := by omega
        go_wp2
        go_quiet (fail)
        go_wp2
        go_ret
        exact ⟨rfl, _, by first | rfl | exact World.drewN_drewN _ _ _⟩
set_option maxHeartbeats 8000000 in
set_option maxRecDepth 100000 in
theorem choose_calls (base g cap : Nat) (vs : List Value) (L : List (List S45)) (hN : L.length = 1024) (w : World) (hb : base ≤ w.heap.size) (hS : SRow w base g cap vs L) (hne : ∀ c ∈ L, 0 < c.length) (hs : UpR L) :
    Calls Try.prog 95 #[.slice (some ⟨g, 0, none⟩) 1024 cap, .int .i64 0, .int .i64 1024, .func (.func 81) #[] #[]] w fun e w' => e = .returned (.tuple #[.int .i64 512, .int .i64 1]) ∧ ∃ m, w' = (w.alloc (.cells #[.int .i64 0] 3)).drewN m := by
  have st : Stay base w (w.alloc (.cells #[.int .i64 0] 3)) := Stay.of_below hb ((Below.refl _ w).alloc (Nat.le_refl _) _)
  have hS1 : SRow (w.alloc (.cells #[.int .i64 0] 3)) base g cap vs L := hS.stay st (by
    obtain ⟨cs, hcs⟩ := hS.typed
    exact heap_alloc_old w _ (blk_lt hcs))
  have hc := cell_one_new w (.int .i64 0) 3 0 (.int .i64 0) rfl
  have h1 := fun W hS V => adj_calls base g cap vs L 1024 hN W hS hne hs 256 (by decide) (by decide) 255 256 257 rfl rfl rfl rfl rfl V
  have h2 := fun W hS V => adj_calls base g cap vs L 1024 hN W hS hne hs 512 (by decide) (by decide) 511 512 513 rfl rfl rfl rfl rfl V
  have h3 := fun W hS V => adj_calls base g cap vs L 1024 hN W hS hne hs 768 (by decide) (by decide) 767 768 769 rfl rfl rfl rfl rfl V
  have h4 := fun W hS V => med_calls base g cap vs L 1024 hN W hS hne hs 256 512 768 (by decide) (by decide) (by decide) 256 512 768 rfl rfl rfl V
  clear hS hne hs st hN
  go_enter Try.func95, Try.ntmps95
  go_wp2_with (first | (go_at_call 106; (with_reducible refine (h1 _ ?sa _).mono ?_); (case sa => repeat (first | exact hS1 | (with_reducible refine SRow.drewN ?_ _))); rintro e w1 ⟨rfl, m1, rfl⟩) | (go_at_call 106; (with_reducible refine (h2 _ ?sa _).mono ?_); (case sa => repeat (first | exact hS1 | (with_reducible refine SRow.drewN ?_ _))); rintro e w1 ⟨rfl, m2, rfl⟩) | (go_at_call 106; (with_reducible refine (h3 _ ?sa _).mono ?_); (case sa => repeat (first | exact hS1 | (with_reducible refine SRow.drewN ?_ _))); rintro e w1 ⟨rfl, m3, rfl⟩) | (go_at_call 107; (with_reducible refine (h4 _ ?sa _).mono ?_); (case sa => repeat (first | exact hS1 | (with_reducible refine SRow.drewN ?_ _))); rintro e w1 ⟨rfl, m4, rfl⟩))
  go_ret2
  exact ⟨rfl, _, rfl⟩
theorem eight (b : UInt8) : wrap64 (8 + wrap64 (b.toNat : Int)) ≠ 0 := by
  have h : b.toNat < 256 := b.toNat_lt
  unfold wrap64
  omega
set_option maxHeartbeats 4000000 in
set_option maxRecDepth 100000 in
theorem len64_aux2 (s : ByteArray) (hs : s.size = 256) (hf : Try.prog.funcs[101]? = some { Try.f101 with body := some (code101 (.const (.string s))) }) (w : World) : Calls Try.prog 101 #[.int .u64 1024] w fun e w' => ∃ r : Int, r ≠ 0 ∧ e = .returned (.int .i64 r) ∧ ∃ m, w' = w.drewN m := by
  obtain ⟨b, hb⟩ : ∃ b, s[4]? = some b := ⟨s[4]'(by omega), getElem?_pos s 4 (by omega)⟩
  refine calls_of_wp hf rfl ?_
  dsimp only [code101]
  simp only [Try.ntmps101, List.size_toArray, List.length_cons, List.length_nil, Nat.reduceAdd, Nat.reduceSub, Array.replicate_succ,
     Array.replicate_zero, List.push_toArray, List.append_toArray, List.nil_append, List.cons_append]
  clear hf
  go_wp2
  go_ret
  exact ⟨_, eight _, rfl, 0, rfl⟩
theorem len64_big (w : World) : Calls Try.prog 101 #[.int .u64 1024] w fun e w' => ∃ r : Int, r ≠ 0 ∧ e = .returned (.int .i64 r) ∧ ∃ m, w' = w.drewN m :=
  len64_aux2 tab101 tab101_size (by have h := Try.func101; exact h.trans (by kernel_rfl)) w
set_option maxHeartbeats 4000000 in
set_option maxRecDepth 100000 in
theorem len_big (w : World) : Calls Try.prog 89 #[.int .u64 1024] w fun e w' => ∃ r : Int, r ≠ 0 ∧ e = .returned (.int .i64 r) ∧ ∃ m, w' = w.drewN m := by
  go_enter Try.func89, Try.ntmps89
  go_wp2_with (go_at_call 101; refine (len64_big _).mono ?_; rintro e w' ⟨r, hr, rfl, m, rfl⟩)
  go_ret
  exact ⟨_, hr, rfl, m, rfl⟩
theorem SRow.allocd {w : World} {base g cap : Nat} {vs : List Value} {L : List (List S45)} (hb : base ≤ w.heap.size) (hS : SRow w base g cap vs L) (b : Obj) : SRow (w.alloc b) base g cap vs L ∧ Stay base w (w.alloc b) := by
  have st : Stay base w (w.alloc b) := Stay.of_below hb ((Below.refl _ w).alloc (Nat.le_refl _) _)
  refine ⟨hS.stay st ?_, st⟩
  obtain ⟨cs, hcs⟩ := hS.typed
  exact heap_alloc_old w _ (blk_lt hcs)
set_option maxHeartbeats 8000000 in
set_option maxRecDepth 100000 in
theorem pdq_big (base g cap : Nat) (vs : List Value) (L : List (List S45)) (lim : Int) (hl : lim ≠ 0) (hN : L.length = 1024) (w : World) (hw : base ≤ w.heap.size) (hS : SRow w base g cap vs L) (hne : ∀ c ∈ L, 0 < c.length) (hs : UpR L) :
    Calls Try.prog 88 #[.slice (some ⟨g, 0, none⟩) 1024 cap, .int .i64 0, .int .i64 1024, .int .i64 lim, .func (.func 81) #[] #[]] w fun e w' => (∃ v, e = .returned v) ∧ SRow w' base g cap vs L ∧ Stay base w w' := by
  have h1 := choose_calls base g cap vs L hN w hw hS hne hs
  have h2 := fun W hS => part_calls base g cap vs L hN W hS hne hs
  obtain ⟨hS1, st1⟩ := hS.allocd hw (.cells #[.int .i64 0] 3)
  have HS := As.mk hS1
  have ST := As.mk st1
  have hlb : (lim == 0) = false := beq_eq_false_iff_ne.2 hl
  clear hS hne hs hS1 st1 hN hl
  go_enter Try.func88, Try.ntmps88
  go_wp2
  go_loopg [1, 2, 3, 10, 11] 1 (fun k v1 v2 v3 v10 v11 wr => v1 = .int .i64 0 ∧ v2 = .int .i64 1024 ∧ v3 = .int .i64 lim ∧ v10 = .bool true ∧ v11 = .bool true ∧ wr = w)
  case atStart => exact ⟨rfl, rfl, rfl, rfl, rfl, rfl⟩
  case round =>
    obtain ⟨rfl, rfl, rfl, rfl, rfl, rfl⟩ := hrel
    go_wp2_with (first | (go_at_call 95; (with_reducible refine h1.mono ?_); rintro e w1 ⟨rfl, m1, rfl⟩) | (go_at_call 97; (with_reducible refine (h2 _ ?sa).mono ?_); (case sa => repeat (first | exact HS.out | (with_reducible refine SRow.drewN ?_ _))); rintro e w1 ⟨rfl, m2, rfl⟩))
    refine bodyPost_ret (results_none rfl _ _ _) rfl ?_
    exact ⟨⟨_, rfl⟩, by repeat (first | exact HS.out | (with_reducible refine SRow.drewN ?_ _)), by repeat (first | exact ST.out | (with_reducible refine Stay.drewN ?_ _))⟩
set_option maxHeartbeats 8000000 in
set_option maxRecDepth 100000 in
theorem sort_big (base g cap : Nat) (vs : List Value) (L : List (List S45)) (hN : L.length = 1024) (w : World) (hw : base ≤ w.heap.size) (hS : SRow w base g cap vs L) (hne : ∀ c ∈ L, 0 < c.length) (hs : UpR L) :
    Calls Try.prog 80 #[.slice (some ⟨g, 0, none⟩) 1024 cap, .func (.func 81) #[] #[]] w fun e w' => (∃ v, e = .returned v) ∧ SRow w' base g cap vs L ∧ Stay base w w' := by
  have h1 := fun lim hl W hw hS => pdq_big base g cap vs L lim hl hN W hw hS hne hs
  have HS := As.mk hS
  clear hS hne hs hN
  go_enter Try.func80, Try.ntmps80
  go_wp2_with (first | (go_at_call 89; (with_reducible refine (len_big _).mono ?_); rintro e w' ⟨r, hr, rfl, m, rfl⟩) | (go_at_call 88; refine (h1 r hr (w.drewN m) hw (HS.out.drewN m)).mono ?_; rintro e w' ⟨⟨v, rfl⟩, hS2, st2⟩))
  go_end0
  exact ⟨⟨_, rfl⟩, hS2, ((Stay.refl _ _).drewN _).trans st2⟩
end Go.Proofs.Ytojnnfhalpefmaa.H
end

section
namespace Go.Proofs.Ytojnnfhalpefmaa.H
open Go.RowKit Go.Proofs.YtojnnfhalpefmaaW.PrintWords Go.Proofs.YtojnnfhalpefmaaW.PrintLast Go.Proofs.YtojnnfhalpefmaaW.PrintMore Go.Proofs.Ytojnnfhalpefmaa.M
def upB (L : List (List S45)) : Bool := decide (∀ j, j < L.length → ∀ i, i < j → ¬ (wrap64 (lastR (L.getD j []) - lastR (L.getD i [])) < 0))
theorem upB_up {L : List (List S45)} (h : upB L = true) : UpR L := fun i j hij hj => of_decide_eq_true h j hj i hij
def sortG (L : List (List S45)) : List (List S45) := if L.length ≤ 12 then sortL L else L
theorem sortG_len (L : List (List S45)) : (sortG L).length = L.length := by
 unfold sortG
 split
 ·exact sortL_len L
 ·rfl
theorem sortAnyB (base : Nat) (A : Option Addr) (cap : Nat) (L : List (List S45)) (w : World) (hw : base ≤ w.heap.size) (hO : OwnRow (colE false w base) 22 1 w base (.slice A L.length cap) L) (hne : ∀ c ∈ L, 0 < c.length) (hL : L.length ≤ 12 ∨ L.length = 1024 ∧ upB L = true) :
  Calls Try.prog 80 #[.slice A L.length cap, .func (.func 81) #[] #[]] w fun e w' => (∃ v, e = .returned v) ∧ OwnRow (colE false w' base) 22 1 w' base (.slice A L.length cap) (sortG L) ∧ Stay base w w' := by
 by_cases h12 : L.length ≤ 12
 ·refine (sortAny_calls base A cap L w hw hO hne h12).mono ?_
  rintro e w' ⟨hv, hO', st, _⟩
  rw [show sortG L = sortL L from if_pos h12]
  exact ⟨hv, hO', st⟩
 ·rcases hL with hL | ⟨hN, hs⟩
  ·exact absurd hL h12
  ·obtain ⟨inner, ho, hr⟩ := hO
   obtain ⟨g, c', e, _⟩ := ho.form (by omega)
   obtain ⟨rfl, rfl⟩ : A = some ⟨g, 0, none⟩ ∧ cap = c' := by simpa using e
   obtain ⟨vs, hS⟩ := SRow.of_own rfl ⟨inner, ho, hr⟩
   have h := sort_big base g cap vs L hN w hw hS hne (upB_up hs)
   rw [← hN] at h
   refine h.mono ?_
   rintro e w' ⟨hv, hS', st⟩
   rw [show sortG L = L from if_neg h12]
   exact ⟨hv, hS'.own, st⟩
def tidyB (p : Int) (k : Nat) (l : List (List S45)) : Option (List (List S45)) :=
 if (l.length ≤ 12 ∨ l.length = 1024 ∧ upB l = true) ∧ ∀ c ∈ l, 0 < c.length then tidyL p k (sortG l) ⟨fun _ => none, [], [], []⟩ else none
set_option maxHeartbeats 8000000 in
set_option maxRecDepth 100000 in
theorem tidyB_rows (k : Nat) (p : Int) (A : Option Addr) (cl : Nat) (l : List (List S45)) (r : List (List S45)) (w : World) (hC : (Kd.slice 45 k45).C w A l.length l) (hcl : l.length ≤ cl) (h : tidyB p k l = some r) :
  Calls Try.prog 67 #[.int .i64 p, .slice A l.length cl] w fun e w' => ∃ v, e = .returned v ∧ Kd.S (Kd.slice 45 k45) 22 w' w.heap.size (fun _ => True) v r ∧ Below w.heap.size w w' := by
 unfold tidyB at h
 by_cases hs : (l.length ≤ 12 ∨ l.length = 1024 ∧ upB l = true) ∧ ∀ c ∈ l, 0 < c.length
 ·rw [if_pos hs] at h
  obtain ⟨hl, hne⟩ := hs
  have H := As.mk h
  have HN := As.mk hne
  clear h hne
  have hmm := @run_makeMap Try.prog
  obtain ⟨base, hbs⟩ : ∃ b, w.heap.size = b := ⟨_, rfl⟩
  go_enter Try.func67, Try.ntmps67
  go_wp2_with (first | (go_at_call 79; refine (clone2_calls A cl l _ hC hcl (by omega)).mono ?_; rintro e w1 ⟨v1, rfl, hO1, hb1⟩; obtain ⟨A1, c1, rfl, hc1⟩ := hO1.slice_) | (go_at_call 80; refine (sortAnyB base A1 c1 l w1 (by rw [← hbs]; exact hb1.size) (by rw [← hbs]; exact hO1) HN.out hl).mono ?_; rintro e w2 ⟨⟨v2, rfl⟩, hO2, st2⟩; have SZ2 := As.mk st2.below.size))
  obtain ⟨n2, hn2⟩ : ∃ n, w2.heap.size = n := ⟨_, rfl⟩
  obtain ⟨w3, hw3⟩ : ∃ w3, (w2.alloc (.map #[] 0)).alloc (.cells #[.int .i64 p, .map (some w2.heap.size), .slice none 0 0, .slice none 0 0] 87) = w3 := ⟨_, rfl⟩
  have hbn : base ≤ n2 := by have := hb1.size; have := SZ2.out; omega
  have hP3 : PivV true w3 base (n2 + 1) p (fun _ => none) [] [] (fun b => b = n2 ∨ b = n2 + 1) := by
   have h := PivO.made (o := true) w2 base p (by omega)
   rw [hw3, hn2] at h
   exact h
  have b23 : Below w2.heap.size w2 w3 := by
   rw [← hw3]
   exact ((Below.refl _ w2).alloc (Nat.le_refl _) _).alloc (by simp) _
  have st3 : Stay base w w3 := (Stay.of_below (Nat.le_of_eq hbs.symm) hb1).trans (st2.trans (Stay.of_below (by omega) b23))
  have hO3 : OwnRow (colE false w3 base) 22 1 w3 base (.slice A1 l.length c1) (sortG l) := own_stay hO2 (Stay.of_below (by omega) b23) (fun g hg => b23.block g (by
   obtain ⟨⟨cs, hcs⟩, _⟩ := own_blk22 hO2 hg
   exact blk_lt hcs))
  have lt3 : n2 + 1 < w3.heap.size := hP3.lt
  have HS3 : ∀ g, (Value.slice A1 l.length c1).ownBlock = some g → ¬ (g = n2 ∨ g = n2 + 1) := fun g hg => by
   obtain ⟨⟨cs, hcs⟩, _⟩ := own_blk22 hO2 hg
   have := blk_lt hcs
   omega
  rw [hn2] at hw3
  simp only [hn2]
  rw [hw3]
  have HP3 := As.mk hP3
  have HO3 := As.mk hO3
  have HSS := As.mk HS3
  have ST3 := As.mk st3
  have hln := sortG_len l
  have hsz2 := SZ2.out
  clear hP3 b23 st3 hO3 HS3 hw3 hO2 st2 hO1 hb1 hmm hsz2 SZ2 hn2
  go_loopg [20] l.length (fun kq v20 wr => ∃ (i : Nat) (s : St) (S : Nat → Prop) (LV : List (List S45 × Value)), v20 = .int .i64 i ∧ i ≤ l.length ∧ kq = l.length - i ∧ As (tidyL p k ((sortG l).drop i) s = some r) ∧ As (PivV true wr base (n2 + 1) p s.mp LV s.U S) ∧ As (LV.map Prod.fst = s.L ∧ Grow wr.heap.size LV) ∧ As (OwnRow (colE false wr base) 22 1 wr base (.slice A1 l.length c1) (sortG l)) ∧ As ((∀ g, (Value.slice A1 l.length c1).ownBlock = some g → ¬ S g) ∧ ∀ b, S b → b < wr.heap.size) ∧ As (Stay base w wr))
  case atStart => exact ⟨0, ⟨fun _ => none, [], [], []⟩, _, [], rfl, Nat.zero_le _, by omega, H, HP3, ⟨rfl, by simp [Grow]⟩, HO3, ⟨HSS.out, fun b hb => by omega⟩, ST3⟩
  case round =>
   clear H HP3 HO3 HSS ST3
   obtain ⟨i, s, S, LV, rfl, hi, hk, HA, HP, HG, HZ, HS, ST⟩ := hrel
   by_cases hlt : i < l.length
   ·obtain ⟨c, hc⟩ : ∃ c, rd_L2 (sortG l) (i : Int) = c := ⟨_, rfl⟩
    have hdr : (sortG l).drop i = c :: (sortG l).drop (i + 1) := by
     rw [List.drop_eq_getElem_cons (by omega), ← hc]
     simp [rd_L2, hln, hlt]
    have H := HA.out
    rw [hdr, tidyL] at H
    by_cases hsm : c.length < 8796093022208 ∧ s.small
    ·rw [if_pos hsm] at H
     obtain ⟨hcl1, hs1, hs2, hs3⟩ := hsm
     obtain ⟨r1, hr1, H⟩ := Option.bind_eq_some_iff.1 H
     by_cases hz : 0 < r1.1.length
     ·rw [if_pos hz] at H
      obtain ⟨⟨t1, t2⟩, ht, H⟩ := Option.bind_eq_some_iff.1 H
      obtain ⟨d, hd, H⟩ := Option.bind_eq_some_iff.1 H
      by_cases hdk : 0 < d.length ∧ rowOk (lastR d)
      ·rw [if_pos hdk] at H
       obtain ⟨hd0, hdr2⟩ := hdk
       have H' := As.mk H
       clear H
       have hbr : base ≤ wr.heap.size := by have := ST.out.below.size; omega
       obtain ⟨A1', c1', e1', _, hCs⟩ := own_C HZ.out
       obtain ⟨rfl, rfl⟩ : A1 = A1' ∧ c1 = c1' := by simpa [hln] using e1'
       clear e1'
       obtain ⟨al, Aj, cj, eL, yL, ljc, hCj⟩ := at_L2 hCs (i : Int) (by omega) (by omega)
       subst eL
       rw [hc] at yL ljc hCj
       rw [Int.toNat_natCast] at yL
       obtain ⟨lw, hlw⟩ : ∃ lw, rd_T45 r1.1 ((r1.1.length : Int) - 1) = lw := ⟨_, rfl⟩
       rw [hlw] at ht
       have ja : (1 : Int) ≤ (r1.1.length : Int) := by omega
       have hlv : LV.length = s.L.length := by rw [← HG.out.1, List.length_map]
       have hlvs : LV.length < 1000000 := by omega
       have HLV := As.mk hlv
       clear hlv
       have hp1 := pred_toNat hz
       go_wp2_with (first | (go_at_call 72; refine (clone_calls Aj cj c _ hCj ljc hcl1).mono ?_; rintro e w4 ⟨v4, rfl, hR4, hb4⟩; have hPV := (HP.out.below hbr hb4).read; rw [HG.out.1] at hPV; have hRc := Kd.R_lower hR4 hbr) | (go_at_call 71; refine (clear_calls k (n2 + 1) p s.mp s.L s.U base _ _ c [] r1 _ hPV (Nat.le_trans hbr hb4.size) hRc (R45_nil _ _) hr1).mono ?_; rintro e w5 ⟨v5, v6, rfl, hR5, hR6, hb5⟩; have b5 : Below wr.heap.size wr w5 := hb4.trans (hb5.mono hb4.size); obtain ⟨A5, c5, rfl⟩ := Kd.R_slice hR5; have hr5 := Kd.R_reads' hR5; obtain ⟨a5, e5, z0, z1⟩ := at_T45 hr5.2.2 ((r1.1.length : Int) - 1) (by omega) (by omega); subst e5; rw [hp1, hlw] at z0 z1; have hmx := Kd.C_max hr5.2.2) | (go_at_call 82; refine (modp_Inv.calls k p lw.f1 t1 t2 _ ht).mono ?_; rintro e w6 ⟨rfl, ⟨nd, rfl⟩⟩; have b6 : Below wr.heap.size wr (w5.drewN nd) := pw_below_drewN b5 nd; have hR5' := Kd.R_drewN hR5 nd; have hr5' := Kd.R_reads' hR5') | (go_at_call 57; refine (column_plus.calls p none 0 [] t1 (some a5) c5 r1.1 d _ (C45_nil _) (Nat.le_refl _) hr5'.2.2 hr5'.2.1 hd).mono ?_; rintro e w7 ⟨v7, rfl, hR7, hb7⟩; have b7 : Below wr.heap.size wr w7 := b6.trans (hb7.mono b6.size); obtain ⟨A7, c7, rfl⟩ := Kd.R_slice hR7; have hw7 := RowV.of_R (o := true) (Kd.R_lower hR7 (Nat.le_trans hbr b6.size))) | (go_at_call 70; refine (putV_calls (o := true) base (n2 + 1) p s.mp LV s.U S _ _ d [] _ (Nat.le_trans hbr b7.size) (HP.out.below hbr b7) hw7 (RowV.of_R (R45_nil _ _)) hd0 hdr2 hlvs hs2).mono ?_; rintro e w8 ⟨⟨v, rfl⟩, hP8, st8, fr8⟩))
       go_roundg (l.length - (i + 1))
       case measure => exact step_down hlt hk
       case rel =>
        have sz7 := b7.size
        obtain ⟨g7, cap7, hform, hg0, hg2, _⟩ := Kd.R_form hR7 hd0
        have hg1 : wr.heap.size ≤ g7 := Nat.le_trans b6.size hg0
        have ltz : ∀ g, (Value.slice (some al) l.length c1).ownBlock = some g → g < wr.heap.size := fun g hg => by
         obtain ⟨⟨cs, hcs⟩, _⟩ := own_blk22 HZ.out hg
         exact blk_lt hcs
        have HZ7 := own_stay HZ.out (Stay.of_below hbr b7) (fun g hg => b7.block g (ltz g hg))
        have HZ8 := own_stay HZ7 st8 (fun g hg => fr8 g (Nat.lt_of_lt_of_le (ltz g hg) sz7) (HS.out.1 g hg))
        refine ⟨i + 1, s.put d [], _, _, by rw [cast_succ], hlt, rfl, H', ⟨by rw [HLV.out] at hP8; exact hP8⟩, ⟨by rw [List.map_append, HG.out.1]; rfl, HG.out.2.push (by rw [hform]; rfl) hg1 (Nat.lt_of_lt_of_le hg2 st8.below.size)⟩, ⟨HZ8⟩, ⟨fun g hg hS => ?_, fun b hb => ?_⟩, ⟨ST.out.trans ((Stay.of_below hbr b7).trans st8)⟩⟩
        ·rcases hS with hS | ⟨h1, _⟩
         ·exact HS.out.1 g hg hS
         ·exact absurd h1 (Nat.not_le_of_lt (Nat.lt_of_lt_of_le (ltz g hg) sz7))
        ·rcases hb with hb | ⟨_, h2⟩
         ·exact Nat.lt_of_lt_of_le (HS.out.2 b hb) (Nat.le_trans sz7 st8.below.size)
         ·exact h2
      ·rw [if_neg hdk] at H; cases H
     ·rw [if_neg hz] at H; cases H
    ·rw [if_neg hsm] at H; cases H
   ·obtain rfl : i = l.length := by omega
    have H := HA.out
    rw [List.drop_of_length_le (by omega), tidyL] at H
    cases H
    obtain ⟨hmap, hgr⟩ := HG.out
    obtain ⟨gm, vl, vu, g1, gb, g2, gmb, hl1, hu1, _, _⟩ := HP.out
    have q2 := blk_cell g1 2
    simp only [List.getElem?_toArray, List.getElem?_cons_zero, List.getElem?_cons_succ] at q2
    clear g2 hu1
    go_wp2
    go_ret
    exact ⟨_, rfl, by rw [hbs, ← hmap]; exact own_S hl1 hgr, by rw [hbs]; exact ST.out.below⟩
 ·rw [if_neg hs] at h; cases h
def kernelB (k : Nat) (p : Int) (l : List (List S45)) : Option (List (List S45) × Int) :=
 (column_begin.f k p l).bind fun e => if e = 0 then (elimL p k l 0 st0).bind fun s => (tidyB p k s.Z).bind fun r => some (r, 0) else some ([], e)
set_option maxHeartbeats 8000000 in
set_option maxRecDepth 100000 in
theorem kernelB_calls (k : Nat) (p : Int) (A : Option Addr) (cl : Nat) (l : List (List S45)) (r1 : List (List S45)) (r2 : Int) (w : World) (hC : (Kd.slice 45 k45).C w A l.length l) (hcl : l.length ≤ cl) (h : kernelB k p l = some (r1, r2)) :
  Calls Try.prog 48 #[.int .i64 p, .slice A l.length cl] w fun e w' => ∃ v, e = .returned (.tuple #[v, .int .i64 r2]) ∧ Kd.S (Kd.slice 45 k45) 22 w' w.heap.size (fun _ => True) v r1 ∧ Below w.heap.size w w' := by
 unfold kernelB at h
 obtain ⟨eb, hb, h⟩ := Option.bind_eq_some_iff.1 h
 by_cases he : eb = 0
 ·rw [if_pos he] at h
  subst he
  obtain ⟨s, hs, h⟩ := Option.bind_eq_some_iff.1 h
  obtain ⟨t, ht, h⟩ := Option.bind_eq_some_iff.1 h
  cases h
  go_enter Try.func48, Try.ntmps48
  go_wp2_with (first | (go_at_call 65; refine (column_begin.calls k p A cl l 0 _ hC hcl hb).mono ?_; rintro e w1 ⟨rfl, hb1⟩) | (go_at_call 66; refine (elim_calls k p A cl l s _ (Kd.C_below hC hb1) hcl hs).mono ?_; rintro e w2 ⟨gv, vz, S, rfl, hP, hZ, st2⟩; clear hP; obtain ⟨A2, c2, rfl, hc2, hC2⟩ := own_C hZ) | (go_at_call 67; refine (tidyB_rows k p A2 c2 s.Z r1 _ hC2 hc2 ht).mono ?_; rintro e w3 ⟨v, rfl, hR, hb3⟩))
  go_ret2
  have b2 : Below w.heap.size w w2 := hb1.trans (st2.below.mono hb1.size)
  exact ⟨_, rfl, Kd.S_lower hR b2.size, b2.trans (hb3.mono b2.size)⟩
 ·rw [if_neg he] at h
  have heb : (eb != 0) = true := by simp [he]
  cases h
  clear he
  go_enter Try.func48, Try.ntmps48
  go_wp2_with (first | (go_at_call 65; refine (column_begin.calls k p A cl l r2 _ hC hcl hb).mono ?_; rintro e w1 ⟨rfl, hb1⟩))
  go_ret2
  exact ⟨_, rfl, L2_nil _ _, hb1⟩
theorem tidyB_mono (p : Int) (k : Nat) (l : List (List S45)) : LeO (tidyB p k l) (tidyB p (k + 1) l) := by
 unfold tidyB
 exact LeO.ite (M.tidyL_mono p k _ _) (LeO.none _)
end Go.Proofs.Ytojnnfhalpefmaa.H
namespace Go.Proofs.Ytojnnfhalpefmaa.M
open Go.RowKit Go.Proofs.YtojnnfhalpefmaaW.PrintWords Go.Proofs.YtojnnfhalpefmaaW.PrintLast Go.Proofs.YtojnnfhalpefmaaW.PrintMore
def column_KernelB.f (k : Nat) (a0 : Int) (l1 : List (List S45)) : Option (List (List S45) × Int) := H.kernelB k a0 l1
theorem column_KernelB.mono : ∀ a0 a1 k, LeO (column_KernelB.f k a0 a1) (column_KernelB.f (k + 1) a0 a1) := by
 intro a0 a1 k
 unfold column_KernelB.f H.kernelB
 exact LeO.bind (column_begin.mono _ _ _) fun e => LeO.ite (LeO.bind (elimL_mono _ _ _ _ _) fun s => LeO.bind (H.tidyB_mono _ _ _) fun r => LeO.refl _) (LeO.refl _)
theorem column_KernelB.calls (k : Nat) (a0 : Int) (A1 : Option Addr) (c1 : Nat) (l1 : List (List S45)) (r1 : List (List S45)) (r2 : Int) (w : World) (hr1 : Kd.C (Kd.slice 45 k45) w A1 l1.length l1) (hc1 : l1.length ≤ c1) (h : column_KernelB.f k a0 l1 = some (r1, r2)) :
  Calls Try.prog 48 #[.int .i64 a0, .slice A1 l1.length c1] w fun e w' => ∃ v0_ : Value, e = .returned (.tuple #[v0_, .int .i64 r2]) ∧ Kd.S (Kd.slice 45 k45) 22 w' w.heap.size (fun _ => True) v0_ r1 ∧ Below w.heap.size w w' :=
 H.kernelB_calls k a0 A1 c1 l1 r1 r2 w hr1 hc1 h
end Go.Proofs.Ytojnnfhalpefmaa.M
end
