/- A part of the proof: texts of this seat joined (printed and by hand), without what is not used. -/
import Derived.Test.YtlleokhmgblfnaaBEx7
set_option linter.unusedVariables false
set_option linter.unusedSimpArgs false
set_option linter.unusedSectionVars false
section
namespace Go.Proofs.Ytlleokhmgblfnaa.M
open Go.RowKit Go.Proofs.YtlleokhmgblfnaaW.PrintWords Go.Proofs.YtlleokhmgblfnaaW.PrintLast Go.Proofs.YtlleokhmgblfnaaW.PrintMore
attribute [local go_sem] max2_int min2_int max_two min_two max_three min_three max_four min_four
def match_Size.l0 : Nat → Int → Int → List Int → Int → Int → Option (Int × Int)
 | 0, _, _, _, _, _ => none
 | k + 1, x5, x6, x14, x15, x16 => if x16 < x15 then (if 0 ≤ x16 then (if x16 < (x14.length : Int) then (if (rd x14 x16) ≥ 0 then (match_Size.l0 k x5 (wrap64 (x6 + 1)) x14 x15 (wrap64 (x16 + 1))) else (match_Size.l0 k x5 x6 x14 x15 (wrap64 (x16 + 1)))) else (none)) else (none)) else (some (x6, x5))
def match_Size.f (k : Nat) (a0_0 : Int) (a0_1 : Int) (l0_2 : List (S40)) : Option (Int × Int) := (match_Maximum.f k a0_0 a0_1 l0_2).bind fun bt202 => (match_Size.l0 k bt202.2 0 bt202.1 (bt202.1.length : Int) 0)
theorem match_Size.mono_l : ∀ k, (∀ y0 y1 y2 y3 y4, LeO (match_Size.l0 k y0 y1 y2 y3 y4) (match_Size.l0 (k + 1) y0 y1 y2 y3 y4))
 | 0 => fun _ _ _ _ _ r h => by simp [match_Size.l0] at h
 | k + 1 => by
  have ih0 := match_Size.mono_l k
  ·intro y0 y1 y2 y3 y4
   unfold match_Size.l0
   repeat' first
   | (with_reducible exact ih0 _ _ _ _ _)
   | (with_reducible exact match_Maximum.mono _ _ _ _)
   | (with_reducible exact LeO.refl _)
   | (with_reducible exact LeO.none _)
   | (with_reducible refine LeO.ite ?_ ?_)
   | (with_reducible refine LeO.bind ?_ (fun _ => ?_))
   | exact ih0 _ _ _ _ _
   | exact match_Maximum.mono _ _ _ _
   | exact LeO.none _
   | refine LeO.ite ?_ ?_
   | refine LeO.bind ?_ (fun _ => ?_)
theorem match_Size.mono : ∀ a0 a1 a2 k, LeO (match_Size.f k a0 a1 a2) (match_Size.f (k + 1) a0 a1 a2) := by
 intro a0 a1 a2 k
 have ih0 := match_Size.mono_l k
 unfold match_Size.f
 repeat' first
   | (with_reducible exact ih0 _ _ _ _ _)
   | (with_reducible exact match_Maximum.mono _ _ _ _)
   | (with_reducible exact LeO.refl _)
   | (with_reducible exact LeO.none _)
   | (with_reducible refine LeO.ite ?_ ?_)
   | (with_reducible refine LeO.bind ?_ (fun _ => ?_))
   | exact ih0 _ _ _ _ _
   | exact match_Maximum.mono _ _ _ _
   | exact LeO.none _
   | refine LeO.ite ?_ ?_
   | refine LeO.bind ?_ (fun _ => ?_)
set_option maxHeartbeats 8000000 in
set_option maxRecDepth 100000 in
theorem match_Size.calls (k : Nat) (a0_0 : Int) (a0_1 : Int) (A0_2 : Option Addr) (c0_2 : Nat) (l0_2 : List (S40)) (r1 : Int) (r2 : Int) (w : World) (hr0_2 : Kd.C k40 w A0_2 l0_2.length l0_2) (hc0_2 : l0_2.length ≤ c0_2) (h : match_Size.f k a0_0 a0_1 l0_2 = some (r1, r2)) :
  Calls Try.prog 21 #[.agg #[.int .i64 a0_0, .int .i64 a0_1, .slice A0_2 l0_2.length c0_2]] w fun e w' => e = .returned (.tuple #[.int .i64 r1, .int .i64 r2]) ∧ Below w.heap.size w w' := by
 have hu33 := Try.underlying33
 have HR0_2 := As.mk hr0_2
 have HC0_2 := As.mk hc0_2
 clear hr0_2 hc0_2
 have HB := As.mk (Below.refl w.heap.size w)
 have H : ((match_Maximum.f k a0_0 a0_1 l0_2).bind fun bt202 => (match_Size.l0 k bt202.2 0 bt202.1 (bt202.1.length : Int) 0)) = some (r1, r2) := h
 clear h
 replace H := Option.bind_eq_some_iff.mp H
 obtain ⟨⟨t202, t205⟩, A20, H⟩ := H
 replace H : (match_Size.l0 k t205 0 t202 (t202.length : Int) 0) = some (r1, r2) := H
 have A2 := As.mk A20
 clear A20
 have H' := As.mk H
 clear H
 go_enter Try.func21, Try.ntmps21
 go_wp2_with (first | ((with_reducible refine gate_dst (N := 1) rfl ?_); refine box_event ?hg (N := 1) ?hd (cs := #[.int .i64 a0_0, .int .i64 a0_1, .slice A0_2 l0_2.length c0_2]) (t := 33) ?hr ?_; (case hd => rfl); (case hg => rfl); (case hr => first | (go_simp; done) | (go_simp; rfl)); intro gb201 hg w3 hbox hb; have n0_ := As.mk (below_step (hup0 HB.out) hb); have n1_ := As.mk (hbox); have n2_ := As.mk ((by rw [hg]; exact (below_size (hup0 HB.out)) : w.heap.size ≤ gb201)); have n3_ := As.mk ((by rw [hg]; exact (below_size (hup0 HB.out)) : w.heap.size ≤ gb201)); clear HB; have HB := n0_; have BK201 := n1_; have GW201 := n2_; have GE201 := n3_; clear n0_ n1_ n2_ n3_; clear hb hbox hg; have hcz4_0 : w3.cell? ⟨gb201, 0, none⟩ = some (.int .i64 a0_0) := (blk_cell BK201.out 0).trans rfl; have hcz4_1 : w3.cell? ⟨gb201, 1, none⟩ = some (.int .i64 a0_1) := (blk_cell BK201.out 1).trans rfl; have hcz4_2 : w3.cell? ⟨gb201, 2, none⟩ = some (.slice A0_2 l0_2.length c0_2) := (blk_cell BK201.out 2).trans rfl; have hfz4_0 := blk_frozen BK201.out 0; have hfz4_1 := blk_frozen BK201.out 1; have hfz4_2 := blk_frozen BK201.out 2) | ((with_reducible refine gate_callee (f := 35) rfl ?_); refine goesL_ (some 11) rfl rfl Try.func35 (by kernel_rfl) rfl #[.agg #[.int .i64 a0_0, .int .i64 a0_1, .slice A0_2 l0_2.length c0_2]] rfl (by (try simp only [List.map_toArray, List.map_cons, List.map_nil]); first | done | rfl | (simp only [List.length_drop, List.length_take]; rfl)) ?_; (with_reducible refine (match_Maximum.calls k a0_0 a0_1 _ _ l0_2 t202 t205 _ ?side1 ?side2 A2.out).mono ?_); (case side1 => repeat (first | exact (Kd.C_below HR0_2.out HB.out) | (with_reducible refine Kd.C_alloc ?_ _) | (with_reducible refine Kd.C_drewN ?_ _) | (with_reducible refine Kd.C_drew ?_))); (case side2 => exact HC0_2.out); rintro e w5 ⟨v203, rfl, ho0, hb⟩; refine ⟨_, rfl, ?_⟩; have n0_ := As.mk (Kd.R_lower ho0 (below_size (hup1 HB.out GE201.out))); have n1_ := As.mk (blk_below (g := gb201) (o := .cells #[.int .i64 a0_0, .int .i64 a0_1, .slice A0_2 l0_2.length c0_2] 33 (0, 0)) (bup BK201.out) hb); have n2_ := As.mk (below_step (hup1 HB.out GE201.out) hb); clear BK201; clear HB; have HO204 := n0_; have BK201 := n1_; have HB := n2_; clear n0_ n1_ n2_; (try clear hb); (try clear hb2); (try clear hk); (try clear hi); (try clear ho0); obtain ⟨Ao6, co6, eo6⟩ := Kd.R_slice HO204.out; subst eo6))
 go_loopg [6, 16] k (fun kq v6 v16 w' => ∃ (x6_1 : Int) (x16_1 : Int), v6 = .int .i64 x6_1 ∧ v16 = .int .i64 x16_1 ∧ As (match_Size.l0 kq t205 x6_1 t202 (t202.length : Int) x16_1 = some (r1, r2)) ∧ As (kq ≤ k) ∧ As (Kd.R (Kd.int .i64) 3 w' w.heap.size (fun _ => True) (.slice Ao6 t202.length co6) t202) ∧ As (w'.heap[gb201]? = some (.cells #[.int .i64 a0_0, .int .i64 a0_1, (.slice A0_2 l0_2.length c0_2)] 33 (0, 0))) ∧ As (Below w.heap.size w w'))
 case atStart => exact ⟨(0), (0), (by first | rfl | (simp; done) | (simp [*]; done)), (by first | rfl | (simp; done) | (simp [*]; done)), H', ⟨Nat.le_refl _⟩, ⟨by (with_reducible repeat (first | apply Kd.R_alloc | apply Kd.R_drewN | apply Kd.R_drew)); exact HO204.out⟩, ⟨by (with_reducible repeat (first | refine blk_drewN ?_ _ | refine blk_drew ?_ | refine blk_alloc ?_ _)); exact BK201.out⟩, ⟨by repeat (first | (with_reducible first | exact HB.out | apply below_alloc | apply pw_below_drewN | apply below_drew1 | refine below_set ?_ GE201.out) | exact HB.out)⟩⟩
 case round =>
  clear H'
  try clear c2
  try clear p2
  try clear c3
  try clear hcz4_0
  try clear hcz4_1
  try clear hcz4_2
  try clear hfz4_0
  try clear hfz4_1
  try clear hfz4_2
  obtain ⟨x6_1, x16_1, rfl, rfl, HA, HK1, HO_14, BK201, HB⟩ := hrel
  cases gk with
  | zero => exact absurd HA.out (by simp [match_Size.l0])
  | succ k1 =>
   have H := HA.out
   clear HA
   simp only [match_Size.l0] at H
   by_cases c7 : x16_1 < (t202.length : Int)
   ·rw [if_pos c7] at H
    have c7b0 : decide (x16_1 < (t202.length : Int)) = true := decide_eq_true c7
    clear c7
    by_cases c8 : 0 ≤ x16_1
    ·rw [if_pos c8] at H
     have c8b0 : decide (0 ≤ x16_1) = true := decide_eq_true c8
     clear c8
     by_cases c9 : x16_1 < (t202.length : Int)
     ·rw [if_pos c9] at H
      have c9b0 : decide (x16_1 < (t202.length : Int)) = true := decide_eq_true c9
      clear c9
      by_cases c10 : (rd t202 x16_1) ≥ 0
      ·rw [if_pos c10] at H
       have c10b0 : decide (0 ≤ (rd t202 x16_1)) = true := decide_eq_true c10
       clear c10
       have H' := As.mk H
       clear H
       have p206 : 0 ≤ (x16_1 : Int) := of_decide_eq_true (by first | (with_reducible assumption) | assumption)
       have q206 : x16_1 < (t202.length : Int) := of_decide_eq_true (by first | (with_reducible assumption) | assumption)
       obtain ⟨ad206, e206, hx206_0⟩ := Kd.at_int (Kd.R_reads' HO_14.out).2.2 x16_1 p206 q206
       cases e206
       replace p206 := eq_true p206
       replace q206 := eq_true q206
       go_wp2
       go_roundg k1
       case measure => have := HK1.out; omega
       case rel => exact ⟨(wrap64 (x6_1 + 1)), (wrap64 (x16_1 + 1)), (by first | rfl | (simp; done) | (simp [*]; done)), (by first | rfl | (simp; done) | (simp [*]; done)), H', ⟨by have := HK1.out; omega⟩, ⟨by (with_reducible repeat (first | apply Kd.R_alloc | apply Kd.R_drewN | apply Kd.R_drew)); exact HO_14.out⟩, ⟨by (with_reducible repeat (first | refine blk_drewN ?_ _ | refine blk_drew ?_ | refine blk_alloc ?_ _)); exact BK201.out⟩, ⟨by repeat (first | (with_reducible first | exact HB.out | apply below_alloc | apply pw_below_drewN | apply below_drew1 | refine below_set ?_ GE201.out) | exact HB.out)⟩⟩
      ·rw [if_neg c10] at H
       have c10b0 : decide (0 ≤ (rd t202 x16_1)) = false := decide_eq_false c10
       clear c10
       have H' := As.mk H
       clear H
       have p206 : 0 ≤ (x16_1 : Int) := of_decide_eq_true (by first | (with_reducible assumption) | assumption)
       have q206 : x16_1 < (t202.length : Int) := of_decide_eq_true (by first | (with_reducible assumption) | assumption)
       obtain ⟨ad206, e206, hx206_0⟩ := Kd.at_int (Kd.R_reads' HO_14.out).2.2 x16_1 p206 q206
       cases e206
       replace p206 := eq_true p206
       replace q206 := eq_true q206
       go_wp2
       go_roundg k1
       case measure => have := HK1.out; omega
       case rel => exact ⟨(x6_1), (wrap64 (x16_1 + 1)), (by first | rfl | (simp; done) | (simp [*]; done)), (by first | rfl | (simp; done) | (simp [*]; done)), H', ⟨by have := HK1.out; omega⟩, ⟨by (with_reducible repeat (first | apply Kd.R_alloc | apply Kd.R_drewN | apply Kd.R_drew)); exact HO_14.out⟩, ⟨by (with_reducible repeat (first | refine blk_drewN ?_ _ | refine blk_drew ?_ | refine blk_alloc ?_ _)); exact BK201.out⟩, ⟨by repeat (first | (with_reducible first | exact HB.out | apply below_alloc | apply pw_below_drewN | apply below_drew1 | refine below_set ?_ GE201.out) | exact HB.out)⟩⟩
     ·rw [if_neg c9] at H
      exact absurd H (by simp)
    ·rw [if_neg c8] at H
     exact absurd H (by simp)
   ·rw [if_neg c7] at H
    have c7b0 : decide (x16_1 < (t202.length : Int)) = false := decide_eq_false c7
    clear c7
    simp only [Option.some.injEq, Prod.mk.injEq] at H
    obtain ⟨rfl, rfl⟩ := H
    go_wp2
    go_ret2
    exact ⟨by first | rfl | (simp [errW_none, errW_some] <;> rfl) | (simp [*, errW_none, errW_some] <;> rfl), by repeat (first | (with_reducible first | exact HB.out | apply below_alloc | apply pw_below_drewN | apply below_drew1 | refine below_set ?_ GE201.out) | exact HB.out)⟩
def toruslaw30_size.f (k : Nat) (a0_0 : Int) (a0_1 : Int) (l0_2 : List (S40)) : Option (Int) := (toruslaw30_given.f a0_0 a0_1 l0_2).bind fun bt208 => ((match_Size.f k bt208.1 bt208.2.1 bt208.2.2).bind fun bt213 => (if bt213.2 = 0 then (some bt213.1) else (some (-1))))
theorem toruslaw30_size.mono : ∀ a0 a1 a2 k, LeO (toruslaw30_size.f k a0 a1 a2) (toruslaw30_size.f (k + 1) a0 a1 a2) := by
 intro a0 a1 a2 k
 unfold toruslaw30_size.f
 repeat' first
   | (with_reducible exact match_Size.mono _ _ _ _)
   | (with_reducible exact LeO.refl _)
   | (with_reducible exact LeO.none _)
   | (with_reducible refine LeO.ite ?_ ?_)
   | (with_reducible refine LeO.bind ?_ (fun _ => ?_))
   | exact match_Size.mono _ _ _ _
   | exact LeO.none _
   | refine LeO.ite ?_ ?_
   | refine LeO.bind ?_ (fun _ => ?_)
set_option maxHeartbeats 8000000 in
set_option maxRecDepth 100000 in
theorem toruslaw30_size.calls (k : Nat) (a0_0 : Int) (a0_1 : Int) (A0_2 : Option Addr) (c0_2 : Nat) (l0_2 : List (S40)) (r : Int) (w : World) (hr0_2 : Kd.C k40 w A0_2 l0_2.length l0_2) (hc0_2 : l0_2.length ≤ c0_2) (h : toruslaw30_size.f k a0_0 a0_1 l0_2 = some r) :
  Calls Try.prog 15 #[.agg #[.int .i64 a0_0, .int .i64 a0_1, .slice A0_2 l0_2.length c0_2]] w fun e w' => e = .returned (.int .i64 r) ∧ Below w.heap.size w w' := by
 have hu27 := Try.underlying27
 have HR0_2 := As.mk hr0_2
 have HC0_2 := As.mk hc0_2
 clear hr0_2 hc0_2
 have HB := As.mk (Below.refl w.heap.size w)
 have H : ((toruslaw30_given.f a0_0 a0_1 l0_2).bind fun bt208 => ((match_Size.f k bt208.1 bt208.2.1 bt208.2.2).bind fun bt213 => (if bt213.2 = 0 then (some bt213.1) else (some (-1))))) = some r := h
 clear h
 replace H := Option.bind_eq_some_iff.mp H
 obtain ⟨⟨t208, t209, t210⟩, A20, H⟩ := H
 replace H : ((match_Size.f k t208 t209 t210).bind fun bt213 => (if bt213.2 = 0 then (some bt213.1) else (some (-1)))) = some r := H
 have A2 := As.mk A20
 clear A20
 replace H := Option.bind_eq_some_iff.mp H
 obtain ⟨⟨t213, t214⟩, A30, H⟩ := H
 replace H : (if t214 = 0 then (some t213) else (some (-1))) = some r := H
 have A3 := As.mk A30
 clear A30
 by_cases c4 : t214 = 0
 ·rw [if_pos c4] at H
  have c4b0 : (t214 == 0) = true := beq_iff_eq.mpr c4
  have c4b1 : (t214 != 0) = false := bne_eq_false_iff_eq.mpr c4
  clear c4
  obtain rfl := Option.some.inj H
  go_enter Try.func15, Try.ntmps15
  go_wp2_with (first | ((with_reducible refine gate_dst (N := 1) rfl ?_); refine box_event ?hg (N := 1) ?hd (cs := #[.int .i64 a0_0, .int .i64 a0_1, .slice A0_2 l0_2.length c0_2]) (t := 27) ?hr ?_; (case hd => rfl); (case hg => rfl); (case hr => first | (go_simp; done) | (go_simp; rfl)); intro gb207 hg w5 hbox hb; have n0_ := As.mk (below_step (hup0 HB.out) hb); have n1_ := As.mk (hbox); have n2_ := As.mk ((by rw [hg]; exact (below_size (hup0 HB.out)) : w.heap.size ≤ gb207)); have n3_ := As.mk ((by rw [hg]; exact (below_size (hup0 HB.out)) : w.heap.size ≤ gb207)); clear HB; have HB := n0_; have BK207 := n1_; have GW207 := n2_; have GE207 := n3_; clear n0_ n1_ n2_ n3_; clear hb hbox hg; have hcz6_0 : w5.cell? ⟨gb207, 0, none⟩ = some (.int .i64 a0_0) := (blk_cell BK207.out 0).trans rfl; have hcz6_1 : w5.cell? ⟨gb207, 1, none⟩ = some (.int .i64 a0_1) := (blk_cell BK207.out 1).trans rfl; have hcz6_2 : w5.cell? ⟨gb207, 2, none⟩ = some (.slice A0_2 l0_2.length c0_2) := (blk_cell BK207.out 2).trans rfl; have hfz6_0 := blk_frozen BK207.out 0; have hfz6_1 := blk_frozen BK207.out 1; have hfz6_2 := blk_frozen BK207.out 2) | ((with_reducible refine gate_callee (f := 14) rfl ?_); refine goesL_ (some 7) rfl rfl Try.func14 (by kernel_rfl) rfl #[.agg #[.int .i64 a0_0, .int .i64 a0_1, .slice A0_2 l0_2.length c0_2]] rfl (by (try simp only [List.map_toArray, List.map_cons, List.map_nil]); first | done | rfl | (simp only [List.length_drop, List.length_take]; rfl)) ?_; (with_reducible refine (toruslaw30_given.calls a0_0 a0_1 _ _ l0_2 t208 t209 t210 _ ?side1 ?side2 A2.out).mono ?_); (case side1 => repeat (first | exact (Kd.C_below HR0_2.out HB.out) | (with_reducible refine Kd.C_alloc ?_ _) | (with_reducible refine Kd.C_drewN ?_ _) | (with_reducible refine Kd.C_drew ?_))); (case side2 => exact HC0_2.out); rintro e w7 ⟨v211, rfl, ho0, hb⟩; refine ⟨_, rfl, ?_⟩; have n0_ := As.mk (Kd.R_lower ho0 (below_size (hup1 HB.out GE207.out))); have n1_ := As.mk (blk_below (g := gb207) (o := .cells #[.int .i64 a0_0, .int .i64 a0_1, .slice A0_2 l0_2.length c0_2] 27 (0, 0)) (bup BK207.out) hb); have n2_ := As.mk (below_step (hup1 HB.out GE207.out) hb); clear BK207; clear HB; have HO212 := n0_; have BK207 := n1_; have HB := n2_; clear n0_ n1_ n2_; (try clear hb); (try clear hb2); (try clear hk); (try clear hi); (try clear ho0); obtain ⟨Ao8, co8, eo8⟩ := Kd.R_slice HO212.out; subst eo8) | ((with_reducible refine gate_callee (f := 21) rfl ?_); refine goesL_ (some 8) rfl rfl Try.func21 (by kernel_rfl) rfl #[.agg #[.int .i64 t208, .int .i64 t209, .slice Ao8 t210.length co8]] rfl (by (try simp only [List.map_toArray, List.map_cons, List.map_nil]); first | done | rfl | (simp only [List.length_drop, List.length_take]; rfl)) ?_; (with_reducible refine (match_Size.calls k t208 t209 _ _ t210 t213 t214 _ ?side1 ?side2 A3.out).mono ?_); (case side1 => repeat (first | exact (Kd.R_reads' HO212.out).2.2 | (with_reducible refine Kd.C_alloc ?_ _) | (with_reducible refine Kd.C_drewN ?_ _) | (with_reducible refine Kd.C_drew ?_))); (case side2 => exact (Kd.R_reads' HO212.out).2.1); rintro e w9 ⟨rfl, hb⟩; refine ⟨_, rfl, ?_⟩; have n0_ := As.mk (Kd.R_below (rup HO212.out) hb); have n1_ := As.mk (blk_below (g := gb207) (o := .cells #[.int .i64 a0_0, .int .i64 a0_1, .slice A0_2 l0_2.length c0_2] 27 (0, 0)) (bup BK207.out) hb); have n2_ := As.mk (below_step (hup1 HB.out GE207.out) hb); clear HO212; clear BK207; clear HB; have HO212 := n0_; have BK207 := n1_; have HB := n2_; clear n0_ n1_ n2_; (try clear hb); (try clear hb2); (try clear hk); (try clear hi)))
  go_ret
  exact ⟨by first | rfl | (simp [errW_none, errW_some] <;> rfl) | (simp [*, errW_none, errW_some] <;> rfl), by repeat (first | (with_reducible first | exact HB.out | apply below_alloc | apply pw_below_drewN | apply below_drew1 | refine below_set ?_ GE207.out) | exact HB.out)⟩
 ·rw [if_neg c4] at H
  have c4b0 : (t214 == 0) = false := beq_eq_false_iff_ne.mpr c4
  have c4b1 : (t214 != 0) = true := bne_iff_ne.mpr c4
  obtain rfl := Option.some.inj H
  go_enter Try.func15, Try.ntmps15
  go_wp2_with (first | ((with_reducible refine gate_dst (N := 1) rfl ?_); refine box_event ?hg (N := 1) ?hd (cs := #[.int .i64 a0_0, .int .i64 a0_1, .slice A0_2 l0_2.length c0_2]) (t := 27) ?hr ?_; (case hd => rfl); (case hg => rfl); (case hr => first | (go_simp; done) | (go_simp; rfl)); intro gb207 hg w10 hbox hb; have n0_ := As.mk (below_step (hup0 HB.out) hb); have n1_ := As.mk (hbox); have n2_ := As.mk ((by rw [hg]; exact (below_size (hup0 HB.out)) : w.heap.size ≤ gb207)); have n3_ := As.mk ((by rw [hg]; exact (below_size (hup0 HB.out)) : w.heap.size ≤ gb207)); clear HB; have HB := n0_; have BK207 := n1_; have GW207 := n2_; have GE207 := n3_; clear n0_ n1_ n2_ n3_; clear hb hbox hg; have hcz11_0 : w10.cell? ⟨gb207, 0, none⟩ = some (.int .i64 a0_0) := (blk_cell BK207.out 0).trans rfl; have hcz11_1 : w10.cell? ⟨gb207, 1, none⟩ = some (.int .i64 a0_1) := (blk_cell BK207.out 1).trans rfl; have hcz11_2 : w10.cell? ⟨gb207, 2, none⟩ = some (.slice A0_2 l0_2.length c0_2) := (blk_cell BK207.out 2).trans rfl; have hfz11_0 := blk_frozen BK207.out 0; have hfz11_1 := blk_frozen BK207.out 1; have hfz11_2 := blk_frozen BK207.out 2) | ((with_reducible refine gate_callee (f := 14) rfl ?_); refine goesL_ (some 7) rfl rfl Try.func14 (by kernel_rfl) rfl #[.agg #[.int .i64 a0_0, .int .i64 a0_1, .slice A0_2 l0_2.length c0_2]] rfl (by (try simp only [List.map_toArray, List.map_cons, List.map_nil]); first | done | rfl | (simp only [List.length_drop, List.length_take]; rfl)) ?_; (with_reducible refine (toruslaw30_given.calls a0_0 a0_1 _ _ l0_2 t208 t209 t210 _ ?side1 ?side2 A2.out).mono ?_); (case side1 => repeat (first | exact (Kd.C_below HR0_2.out HB.out) | (with_reducible refine Kd.C_alloc ?_ _) | (with_reducible refine Kd.C_drewN ?_ _) | (with_reducible refine Kd.C_drew ?_))); (case side2 => exact HC0_2.out); rintro e w12 ⟨v211, rfl, ho0, hb⟩; refine ⟨_, rfl, ?_⟩; have n0_ := As.mk (Kd.R_lower ho0 (below_size (hup1 HB.out GE207.out))); have n1_ := As.mk (blk_below (g := gb207) (o := .cells #[.int .i64 a0_0, .int .i64 a0_1, .slice A0_2 l0_2.length c0_2] 27 (0, 0)) (bup BK207.out) hb); have n2_ := As.mk (below_step (hup1 HB.out GE207.out) hb); clear BK207; clear HB; have HO212 := n0_; have BK207 := n1_; have HB := n2_; clear n0_ n1_ n2_; (try clear hb); (try clear hb2); (try clear hk); (try clear hi); (try clear ho0); obtain ⟨Ao13, co13, eo13⟩ := Kd.R_slice HO212.out; subst eo13) | ((with_reducible refine gate_callee (f := 21) rfl ?_); refine goesL_ (some 8) rfl rfl Try.func21 (by kernel_rfl) rfl #[.agg #[.int .i64 t208, .int .i64 t209, .slice Ao13 t210.length co13]] rfl (by (try simp only [List.map_toArray, List.map_cons, List.map_nil]); first | done | rfl | (simp only [List.length_drop, List.length_take]; rfl)) ?_; (with_reducible refine (match_Size.calls k t208 t209 _ _ t210 t213 t214 _ ?side1 ?side2 A3.out).mono ?_); (case side1 => repeat (first | exact (Kd.R_reads' HO212.out).2.2 | (with_reducible refine Kd.C_alloc ?_ _) | (with_reducible refine Kd.C_drewN ?_ _) | (with_reducible refine Kd.C_drew ?_))); (case side2 => exact (Kd.R_reads' HO212.out).2.1); rintro e w14 ⟨rfl, hb⟩; refine ⟨_, rfl, ?_⟩; have n0_ := As.mk (Kd.R_below (rup HO212.out) hb); have n1_ := As.mk (blk_below (g := gb207) (o := .cells #[.int .i64 a0_0, .int .i64 a0_1, .slice A0_2 l0_2.length c0_2] 27 (0, 0)) (bup BK207.out) hb); have n2_ := As.mk (below_step (hup1 HB.out GE207.out) hb); clear HO212; clear BK207; clear HB; have HO212 := n0_; have BK207 := n1_; have HB := n2_; clear n0_ n1_ n2_; (try clear hb); (try clear hb2); (try clear hk); (try clear hi)))
  go_ret
  exact ⟨by first | rfl | (simp [errW_none, errW_some] <;> rfl) | (simp [*, errW_none, errW_some] <;> rfl), by repeat (first | (with_reducible first | exact HB.out | apply below_alloc | apply pw_below_drewN | apply below_drew1 | refine below_set ?_ GE207.out) | exact HB.out)⟩
def torusref01_Same.l0 : Nat → List Int → List Int → Int → Option (Bool)
 | 0, _, _, _ => none
 | k + 1, x0, x1, x5 => if x5 < (x0.length : Int) then (if 0 ≤ x5 then (if x5 < (x1.length : Int) then (if (rd x0 x5) = (rd x1 x5) then (torusref01_Same.l0 k x0 x1 (wrap64 (x5 + 1))) else (some false)) else (none)) else (none)) else (some true)
def torusref01_Same.f (k : Nat) (l0 : List Int) (l1 : List Int) : Option (Bool) := if (l0.length : Int) = (l1.length : Int) then (torusref01_Same.l0 k l0 l1 0) else (some false)
theorem torusref01_Same.mono_l : ∀ k, (∀ y0 y1 y2, LeO (torusref01_Same.l0 k y0 y1 y2) (torusref01_Same.l0 (k + 1) y0 y1 y2))
 | 0 => fun _ _ _ r h => by simp [torusref01_Same.l0] at h
 | k + 1 => by
  have ih0 := torusref01_Same.mono_l k
  ·intro y0 y1 y2
   unfold torusref01_Same.l0
   repeat' first
   | (with_reducible exact ih0 _ _ _)
   | (with_reducible exact LeO.refl _)
   | (with_reducible exact LeO.none _)
   | (with_reducible refine LeO.ite ?_ ?_)
   | (with_reducible refine LeO.bind ?_ (fun _ => ?_))
   | exact ih0 _ _ _
   | exact LeO.none _
   | refine LeO.ite ?_ ?_
   | refine LeO.bind ?_ (fun _ => ?_)
theorem torusref01_Same.mono : ∀ a0 a1 k, LeO (torusref01_Same.f k a0 a1) (torusref01_Same.f (k + 1) a0 a1) := by
 intro a0 a1 k
 have ih0 := torusref01_Same.mono_l k
 unfold torusref01_Same.f
 repeat' first
   | (with_reducible exact ih0 _ _ _)
   | (with_reducible exact LeO.refl _)
   | (with_reducible exact LeO.none _)
   | (with_reducible refine LeO.ite ?_ ?_)
   | (with_reducible refine LeO.bind ?_ (fun _ => ?_))
   | exact ih0 _ _ _
   | exact LeO.none _
   | refine LeO.ite ?_ ?_
   | refine LeO.bind ?_ (fun _ => ?_)
set_option maxHeartbeats 8000000 in
set_option maxRecDepth 100000 in
theorem torusref01_Same.calls (k : Nat) (A0 : Option Addr) (c0 : Nat) (l0 : List Int) (A1 : Option Addr) (c1 : Nat) (l1 : List Int) (r : Bool) (w : World) (hr0 : Kd.C (Kd.int .i64) w A0 l0.length l0) (hc0 : l0.length ≤ c0) (hr1 : Kd.C (Kd.int .i64) w A1 l1.length l1) (hc1 : l1.length ≤ c1) (h : torusref01_Same.f k l0 l1 = some r) :
  Calls Try.prog 17 #[.slice A0 l0.length c0, .slice A1 l1.length c1] w fun e w' => e = .returned (.bool r) ∧ Drawn0 w w' := by
 have HR0 := As.mk hr0
 have HC0 := As.mk hc0
 clear hr0 hc0
 have HR1 := As.mk hr1
 have HC1 := As.mk hc1
 clear hr1 hc1
 have H : (if (l0.length : Int) = (l1.length : Int) then (torusref01_Same.l0 k l0 l1 0) else (some false)) = some r := h
 clear h
 by_cases c3 : (l0.length : Int) = (l1.length : Int)
 ·rw [if_pos c3] at H
  have c3b0 : ((l0.length : Int) == (l1.length : Int)) = true := beq_iff_eq.mpr c3
  have c3b1 : ((l0.length : Int) != (l1.length : Int)) = false := bne_eq_false_iff_eq.mpr c3
  have c3b2 : (l0.length == l1.length) = true := by first | simpa using c3 | (simp at c3 ⊢; omega)
  clear c3
  have H' := As.mk H
  clear H
  go_enter Try.func17, Try.ntmps17
  go_wp2
  repeat (go_quiet (fail); try go_wp2)
  go_loopg [5] k (fun kq v5 w' => ∃ (x5_1 : Int), v5 = .int .i64 x5_1 ∧ As (torusref01_Same.l0 kq l0 l1 x5_1 = some r) ∧ As (kq ≤ k) ∧ Drawn0 w w')
  case atStart => exact ⟨(0), (by first | rfl | (simp; done) | (simp [*]; done)), H', ⟨Nat.le_refl _⟩, by repeat (first | exact Drawn0.refl _ | apply Drawn0.step)⟩
  case round =>
   clear H'
   try clear c1
   try clear p2
   try clear c3
   try clear c3b0
   try clear c3b1
   try clear c3b2
   obtain ⟨x5_1, rfl, HA, HK1, ⟨m1, rfl⟩⟩ := hrel
   cases gk with
   | zero => exact absurd HA.out (by simp [torusref01_Same.l0])
   | succ k1 =>
    have H := HA.out
    clear HA
    simp only [torusref01_Same.l0] at H
    by_cases c4 : x5_1 < (l0.length : Int)
    ·rw [if_pos c4] at H
     have c4b0 : decide (x5_1 < (l0.length : Int)) = true := decide_eq_true c4
     clear c4
     by_cases c5 : 0 ≤ x5_1
     ·rw [if_pos c5] at H
      have c5b0 : decide (0 ≤ x5_1) = true := decide_eq_true c5
      clear c5
      by_cases c6 : x5_1 < (l1.length : Int)
      ·rw [if_pos c6] at H
       have c6b0 : decide (x5_1 < (l1.length : Int)) = true := decide_eq_true c6
       clear c6
       by_cases c7 : (rd l0 x5_1) = (rd l1 x5_1)
       ·rw [if_pos c7] at H
        have c7b0 : ((rd l0 x5_1) == (rd l1 x5_1)) = true := beq_iff_eq.mpr c7
        have c7b1 : ((rd l0 x5_1) != (rd l1 x5_1)) = false := bne_eq_false_iff_eq.mpr c7
        clear c7
        have H' := As.mk H
        clear H
        have p215 : 0 ≤ (x5_1 : Int) := of_decide_eq_true (by first | (with_reducible assumption) | assumption)
        have q215 : x5_1 < (l0.length : Int) := of_decide_eq_true (by first | (with_reducible assumption) | assumption)
        obtain ⟨ad215, e215, hx215_0⟩ := Kd.at_int HR0.out x5_1 p215 q215
        cases e215
        replace p215 := eq_true p215
        replace q215 := eq_true q215
        have p216 : 0 ≤ (x5_1 : Int) := of_decide_eq_true (by first | (with_reducible assumption) | assumption)
        have q216 : x5_1 < (l1.length : Int) := of_decide_eq_true (by first | (with_reducible assumption) | assumption)
        obtain ⟨ad216, e216, hx216_0⟩ := Kd.at_int HR1.out x5_1 p216 q216
        cases e216
        replace p216 := eq_true p216
        replace q216 := eq_true q216
        go_wp2
        repeat (go_quiet (fail); try go_wp2)
        go_roundg k1
        case measure => have := HK1.out; omega
        case rel => exact ⟨(wrap64 (x5_1 + 1)), (by first | rfl | (simp; done) | (simp [*]; done)), H', ⟨by have := HK1.out; omega⟩, by repeat (first | exact Drawn0.refl _ | apply Drawn0.step)⟩
       ·rw [if_neg c7] at H
        have c7b0 : ((rd l0 x5_1) == (rd l1 x5_1)) = false := beq_eq_false_iff_ne.mpr c7
        have c7b1 : ((rd l0 x5_1) != (rd l1 x5_1)) = true := bne_iff_ne.mpr c7
        obtain rfl := Option.some.inj H
        have p215 : 0 ≤ (x5_1 : Int) := of_decide_eq_true (by first | (with_reducible assumption) | assumption)
        have q215 : x5_1 < (l0.length : Int) := of_decide_eq_true (by first | (with_reducible assumption) | assumption)
        obtain ⟨ad215, e215, hx215_0⟩ := Kd.at_int HR0.out x5_1 p215 q215
        cases e215
        replace p215 := eq_true p215
        replace q215 := eq_true q215
        have p216 : 0 ≤ (x5_1 : Int) := of_decide_eq_true (by first | (with_reducible assumption) | assumption)
        have q216 : x5_1 < (l1.length : Int) := of_decide_eq_true (by first | (with_reducible assumption) | assumption)
        obtain ⟨ad216, e216, hx216_0⟩ := Kd.at_int HR1.out x5_1 p216 q216
        cases e216
        replace p216 := eq_true p216
        replace q216 := eq_true q216
        go_wp2
        repeat (go_quiet (fail); try go_wp2)
        go_ret
        exact ⟨by first | rfl | (simp; done) | (simp [*]; done), by repeat (first | exact Drawn0.refl _ | apply Drawn0.step)⟩
      ·rw [if_neg c6] at H
       exact absurd H (by simp)
     ·rw [if_neg c5] at H
      exact absurd H (by simp)
    ·rw [if_neg c4] at H
     have c4b0 : decide (x5_1 < (l0.length : Int)) = false := decide_eq_false c4
     clear c4
     obtain rfl := Option.some.inj H
     go_wp2
     repeat (go_quiet (fail); try go_wp2)
     go_ret
     exact ⟨by first | rfl | (simp; done) | (simp [*]; done), by repeat (first | exact Drawn0.refl _ | apply Drawn0.step)⟩
 ·rw [if_neg c3] at H
  have c3b0 : ((l0.length : Int) == (l1.length : Int)) = false := beq_eq_false_iff_ne.mpr c3
  have c3b1 : ((l0.length : Int) != (l1.length : Int)) = true := bne_iff_ne.mpr c3
  have c3b2 : (l0.length == l1.length) = false := by first | simpa using c3 | (simp at c3 ⊢; omega)
  obtain rfl := Option.some.inj H
  go_enter Try.func17, Try.ntmps17
  go_wp2
  repeat (go_quiet (fail); try go_wp2)
  go_ret
  exact ⟨by first | rfl | (simp; done) | (simp [*]; done), by repeat (first | exact Drawn0.refl _ | apply Drawn0.step)⟩
def match_Cover.f (k : Nat) (a0_0 : Int) (a0_1 : Int) (l0_2 : List (S40)) : Option (List Int × List Int × Int) := (match_Check.f a0_0 a0_1 l0_2).bind fun t218 => (if t218 = 0 then ((match_Graph_neighbours.f k a0_0 a0_1 l0_2).bind fun t219 => ((match_reach.f k t219 a0_1).bind fun bt222 => ((pairing_Chosen.f k bt222.1 false).bind fun t228 => ((pairing_Chosen.f k bt222.2 true).bind fun t231 => (some (t228, t231, 0)))))) else (some (([] : List Int), ([] : List Int), t218)))
theorem match_Cover.mono : ∀ a0 a1 a2 k, LeO (match_Cover.f k a0 a1 a2) (match_Cover.f (k + 1) a0 a1 a2) := by
 intro a0 a1 a2 k
 unfold match_Cover.f
 repeat' first
   | (with_reducible exact match_Graph_neighbours.mono _ _ _ _)
   | (with_reducible exact match_reach.mono _ _ _)
   | (with_reducible exact pairing_Chosen.mono _ _ _)
   | (with_reducible exact LeO.refl _)
   | (with_reducible exact LeO.none _)
   | (with_reducible refine LeO.ite ?_ ?_)
   | (with_reducible refine LeO.bind ?_ (fun _ => ?_))
   | exact match_Graph_neighbours.mono _ _ _ _
   | exact match_reach.mono _ _ _
   | exact pairing_Chosen.mono _ _ _
   | exact LeO.none _
   | refine LeO.ite ?_ ?_
   | refine LeO.bind ?_ (fun _ => ?_)
def match_Cover.T4 : Bool × List (List Nat × List Nat) := (true, [([], []), ([0], [0]), ([], []), ([2], [2]), ([1, 3, 1], [1, 3]), ([4], [4]), ([5], [5]), ([5], [5]), ([6, 4, 0, 1, 2, 3, 4, 5, 6], [6]), ([7, 8, 0, 1, 2, 3, 4, 5, 6, 7, 8], [7])])
def match_Cover.B4 : List Nat := [0, 1, 0, 4, 15, 31, 63, 63, 127, 511]
theorem match_Cover.tab4 : rtab .any (opsOf Try.f27 4) = match_Cover.T4 := by kernel_rfl
theorem match_Cover.bits4 : waitsOk match_Cover.T4.2 match_Cover.B4 = true := by kernel_rfl
set_option maxHeartbeats 8000000 in
set_option maxRecDepth 100000 in
theorem match_Cover.calls (k : Nat) (a0_0 : Int) (a0_1 : Int) (A0_2 : Option Addr) (c0_2 : Nat) (l0_2 : List (S40)) (r1 : List Int) (r2 : List Int) (r3 : Int) (w : World) (hr0_2 : Kd.C k40 w A0_2 l0_2.length l0_2) (hc0_2 : l0_2.length ≤ c0_2) (h : match_Cover.f k a0_0 a0_1 l0_2 = some (r1, r2, r3)) :
  Calls Try.prog 27 #[.agg #[.int .i64 a0_0, .int .i64 a0_1, .slice A0_2 l0_2.length c0_2]] w fun e w' => ∃ v0_ v1_ : Value, e = .returned (.tuple #[v0_, v1_, .int .i64 r3]) ∧ Kd.R (Kd.int .i64) 3 w' w.heap.size (fun k_ => some k_ ≠ (v1_ : Value).ownBlock) v0_ r1 ∧ Kd.R (Kd.int .i64) 3 w' w.heap.size (fun k_ => some k_ ≠ (v0_ : Value).ownBlock) v1_ r2 ∧ Below w.heap.size w w' := by
 have hu33 := Try.underlying33
 have HR0_2 := As.mk hr0_2
 have HC0_2 := As.mk hc0_2
 clear hr0_2 hc0_2
 have HB := As.mk (Below.refl w.heap.size w)
 have H : ((match_Check.f a0_0 a0_1 l0_2).bind fun t218 => (if t218 = 0 then ((match_Graph_neighbours.f k a0_0 a0_1 l0_2).bind fun t219 => ((match_reach.f k t219 a0_1).bind fun bt222 => ((pairing_Chosen.f k bt222.1 false).bind fun t228 => ((pairing_Chosen.f k bt222.2 true).bind fun t231 => (some (t228, t231, 0)))))) else (some (([] : List Int), ([] : List Int), t218)))) = some (r1, r2, r3) := h
 clear h
 replace H := Option.bind_eq_some_iff.mp H
 obtain ⟨t218, A20, H⟩ := H
 replace H : (if t218 = 0 then ((match_Graph_neighbours.f k a0_0 a0_1 l0_2).bind fun t219 => ((match_reach.f k t219 a0_1).bind fun bt222 => ((pairing_Chosen.f k bt222.1 false).bind fun t228 => ((pairing_Chosen.f k bt222.2 true).bind fun t231 => (some (t228, t231, 0)))))) else (some (([] : List Int), ([] : List Int), t218))) = some (r1, r2, r3) := H
 have A2 := As.mk A20
 clear A20
 by_cases c3 : t218 = 0
 ·rw [if_pos c3] at H
  have c3b0 : (t218 == 0) = true := beq_iff_eq.mpr c3
  have c3b1 : (t218 != 0) = false := bne_eq_false_iff_eq.mpr c3
  clear c3
  replace H := Option.bind_eq_some_iff.mp H
  obtain ⟨t219, A40, H⟩ := H
  replace H : ((match_reach.f k t219 a0_1).bind fun bt222 => ((pairing_Chosen.f k bt222.1 false).bind fun t228 => ((pairing_Chosen.f k bt222.2 true).bind fun t231 => (some (t228, t231, 0))))) = some (r1, r2, r3) := H
  have A4 := As.mk A40
  clear A40
  replace H := Option.bind_eq_some_iff.mp H
  obtain ⟨⟨t222, t223⟩, A50, H⟩ := H
  replace H : ((pairing_Chosen.f k t222 false).bind fun t228 => ((pairing_Chosen.f k t223 true).bind fun t231 => (some (t228, t231, 0)))) = some (r1, r2, r3) := H
  have A5 := As.mk A50
  clear A50
  replace H := Option.bind_eq_some_iff.mp H
  obtain ⟨t228, A60, H⟩ := H
  replace H : ((pairing_Chosen.f k t223 true).bind fun t231 => (some (t228, t231, 0))) = some (r1, r2, r3) := H
  have A6 := As.mk A60
  clear A60
  replace H := Option.bind_eq_some_iff.mp H
  obtain ⟨t231, A70, H⟩ := H
  replace H : (some (t228, t231, 0)) = some (r1, r2, r3) := H
  have A7 := As.mk A70
  clear A70
  simp only [Option.some.injEq, Prod.mk.injEq] at H
  obtain ⟨rfl, rfl, rfl⟩ := H
  go_enter Try.func27, Try.ntmps27
  try go_wp2_with (first | ((with_reducible refine gate_dst (N := 1) rfl ?_); refine box_event ?hg (N := 1) ?hd (cs := #[.int .i64 a0_0, .int .i64 a0_1, .slice A0_2 l0_2.length c0_2]) (t := 33) ?hr ?_; (case hd => rfl); (case hg => rfl); (case hr => first | (go_simp; done) | (go_simp; rfl)); intro gb217 hg w8 hbox hb; have n0_ := As.mk (below_step (hup0 HB.out) hb); have n1_ := As.mk (hbox); have n2_ := As.mk ((by rw [hg]; exact (below_size (hup0 HB.out)) : w.heap.size ≤ gb217)); have n3_ := As.mk ((by rw [hg]; exact (below_size (hup0 HB.out)) : w.heap.size ≤ gb217)); clear HB; have HB := n0_; have BK217 := n1_; have GW217 := n2_; have GE217 := n3_; clear n0_ n1_ n2_ n3_; clear hb hbox hg; have hcz9_0 : w8.cell? ⟨gb217, 0, none⟩ = some (.int .i64 a0_0) := (blk_cell BK217.out 0).trans rfl; have hcz9_1 : w8.cell? ⟨gb217, 1, none⟩ = some (.int .i64 a0_1) := (blk_cell BK217.out 1).trans rfl; have hcz9_2 : w8.cell? ⟨gb217, 2, none⟩ = some (.slice A0_2 l0_2.length c0_2) := (blk_cell BK217.out 2).trans rfl; have hfz9_0 := blk_frozen BK217.out 0; have hfz9_1 := blk_frozen BK217.out 1; have hfz9_2 := blk_frozen BK217.out 2) | ((with_reducible refine gate_callee (f := 23) rfl ?_); refine goesL_ (some 9) rfl rfl Try.func23 (by kernel_rfl) rfl #[.agg #[.int .i64 a0_0, .int .i64 a0_1, .slice A0_2 l0_2.length c0_2]] rfl (by (try simp only [List.map_toArray, List.map_cons, List.map_nil]); first | done | rfl | (simp only [List.length_drop, List.length_take]; rfl)) ?_; (with_reducible refine (match_Check.calls a0_0 a0_1 _ _ l0_2 t218 _ ?side1 ?side2 A2.out).mono ?_); (case side1 => repeat (first | exact (Kd.C_below HR0_2.out HB.out) | (with_reducible refine Kd.C_alloc ?_ _) | (with_reducible refine Kd.C_drewN ?_ _) | (with_reducible refine Kd.C_drew ?_))); (case side2 => exact HC0_2.out); rintro e w10 ⟨rfl, hb⟩; refine ⟨_, rfl, ?_⟩; have n0_ := As.mk (blk_below (g := gb217) (o := .cells #[.int .i64 a0_0, .int .i64 a0_1, .slice A0_2 l0_2.length c0_2] 33 (0, 0)) (bup BK217.out) hb); have n1_ := As.mk (below_step (hup1 HB.out GE217.out) hb); clear BK217; clear HB; have BK217 := n0_; have HB := n1_; clear n0_ n1_; (try clear hb); (try clear hb2); (try clear hk); (try clear hi)))
  have n0_ := As.mk (blk_drew BK217.out)
  have n1_ := As.mk (below_drew1 HB.out)
  clear BK217
  clear HB
  have BK217 := n0_
  have HB := n1_
  clear n0_ n1_
  refine start_ (n := 10) (S := fun w' => w'.cell? ⟨gb217, 0, none⟩ = some (.int .i64 a0_0) ∧ w'.cell? ⟨gb217, 1, none⟩ = some (.int .i64 a0_1) ∧ w'.cell? ⟨gb217, 2, none⟩ = some (.slice A0_2 l0_2.length c0_2)) (ds := []) #[false, false, false, false, false, false, false, false, false, false] (by kernel_rfl) rfl rfl ⟨(blk_cell BK217.out 0).trans rfl, (blk_cell BK217.out 1).trans rfl, (blk_cell BK217.out 2).trans rfl⟩ (fun hHeld => ?_); refine with_tabW match_Cover.tab4 match_Cover.bits4 (fun HT_ HW_ => ?_)
  generalize w10.drew = w11 at BK217 HB hHeld ⊢
  refine pure_ (i := 2) (N := some 16) (v := ?_) (a' := ?_) #[false, false, true, false, false, false, false, false, false, false] rfl rfl (any_of HT_.out (by kernel_rfl)) (fun _ _ _ h => h) (Or.inl ⟨by rfl, ?_⟩) ?_ ?_
  rotate_left
  ·intro w'
   go_simp
   with_reducible rfl
  rotate_left
  ·simp only [Act.put, List.setIfInBounds_toArray, List.set_cons_zero, List.set_cons_succ, i64_w, i32_w]
   rfl
  refine take_ (i := 0) (N := some 14) (v := ?_) (a' := ?_) #[true, false, true, false, false, false, false, false, false, false] rfl rfl (take_ofW HT_.out HW_.out (by kernel_rfl)) (fun _ _ _ h => h) (Or.inl ⟨by rfl, ?_⟩) hHeld ?_ ?_
  rotate_left
  ·rintro w' ⟨s0, s1, s2⟩
   go_simp
   with_reducible rfl
  rotate_left
  ·simp only [Act.put, List.setIfInBounds_toArray, List.set_cons_zero, List.set_cons_succ, i64_w, i32_w]
   rfl
  refine take_ (i := 3) (N := some 17) (v := ?_) (a' := ?_) #[true, false, true, true, false, false, false, false, false, false] rfl rfl (take_ofW HT_.out HW_.out (by kernel_rfl)) (fun _ _ _ h => h) (Or.inl ⟨by rfl, ?_⟩) hHeld ?_ ?_
  rotate_left
  ·rintro w' ⟨s0, s1, s2⟩
   go_simp
   with_reducible rfl
  rotate_left
  ·simp only [Act.put, List.setIfInBounds_toArray, List.set_cons_zero, List.set_cons_succ, i64_w, i32_w]
   rfl
  refine one_ (i := 1) (N := some 15) #[true, true, true, true, false, false, false, false, false, false] rfl rfl (one_of HT_.out (by kernel_rfl)) (by decide) (fun K hK => ?_)
  refine goes_ Try.func42 (by kernel_rfl) rfl #[.agg #[.int .i64 a0_0, .int .i64 a0_1, .slice A0_2 l0_2.length c0_2]] (by rfl) rfl rfl (by (try simp only [List.map_toArray, List.map_cons, List.map_nil]); first | done | rfl | (simp only [List.length_drop, List.length_take]; rfl)) ?_
  with_reducible refine (match_Graph_neighbours.calls k a0_0 a0_1 _ _ l0_2 t219 _ ?side1 ?side2 A4.out).mono ?_
  (case side1 => repeat (first | exact (Kd.C_below HR0_2.out HB.out) | (with_reducible refine Kd.C_alloc ?_ _) | (with_reducible refine Kd.C_drewN ?_ _) | (with_reducible refine Kd.C_drew ?_)))
  (case side2 => exact HC0_2.out)
  rintro e w12 ⟨v220, rfl, ho0, hb⟩
  refine ⟨_, rfl, ?_⟩
  have n0_ := As.mk (Kd.S_lower ho0 (below_size (hup1 HB.out GE217.out)))
  have n1_ := As.mk (blk_below (g := gb217) (o := .cells #[.int .i64 a0_0, .int .i64 a0_1, .slice A0_2 l0_2.length c0_2] 33 (0, 0)) (bup BK217.out) hb)
  have n2_ := As.mk (below_step (hup1 HB.out GE217.out) hb)
  clear BK217
  clear HB
  have HO221 := n0_
  have BK217 := n1_
  have HB := n2_
  clear n0_ n1_ n2_
  (try clear hb)
  (try clear hb2)
  (try clear hk)
  (try clear hi)
  (try clear ho0)
  obtain ⟨Ao13, co13, eo13⟩ := Kd.S_slice HO221.out
  (first | subst eo13 | (injection eo13 with f1_ f2_ f3_; have f4_ := f1_.symm; have f5_ := f3_.symm; clear f1_ f2_ f3_; subst f4_; subst f5_))
  refine hK.out _ _ ⟨(blk_cell BK217.out 0).trans rfl, (blk_cell BK217.out 1).trans rfl, (blk_cell BK217.out 2).trans rfl⟩ (fun hHeld => ?_)
  clear hK K
  refine norm_ (a' := ?_) ?_ ?_
  rotate_left
  ·show Act.put _ (some 15) _ = _
   simp only [Act.put, List.setIfInBounds_toArray, List.set_cons_zero, List.set_cons_succ, i64_w, i32_w]
   rfl
  refine one_ (i := 4) (N := some 18) #[true, true, true, true, true, false, false, false, false, false] rfl rfl (one_of HT_.out (by kernel_rfl)) (by decide) (fun K hK => ?_)
  refine goes_ Try.func41 (by kernel_rfl) rfl #[.slice Ao13 t219.length co13, .int .i64 a0_1] (by rfl) rfl rfl (by (try simp only [List.map_toArray, List.map_cons, List.map_nil]); first | done | rfl | (simp only [List.length_drop, List.length_take]; rfl)) ?_
  with_reducible refine (match_reach.calls k _ _ t219 a0_1 t222 t223 _ ?side1 ?side2 A5.out).mono ?_
  (case side1 => repeat (first | exact (Kd.S_reads' HO221.out).2.2 | (with_reducible refine Kd.C_alloc ?_ _) | (with_reducible refine Kd.C_drewN ?_ _) | (with_reducible refine Kd.C_drew ?_)))
  (case side2 => exact (Kd.S_reads' HO221.out).2.1)
  rintro e w14 ⟨v224, v226, rfl, ho0, ho1, hb⟩
  refine ⟨_, rfl, ?_⟩
  have n0_ := As.mk (Kd.S_below (sup HO221.out) hb)
  have n1_ := As.mk (Kd.R_lower ho0 (below_size (hup1 HB.out GE217.out)))
  have n2_ := As.mk (Kd.R_lower ho1 (below_size (hup1 HB.out GE217.out)))
  have n3_ := As.mk (blk_below (g := gb217) (o := .cells #[.int .i64 a0_0, .int .i64 a0_1, .slice A0_2 l0_2.length c0_2] 33 (0, 0)) (bup BK217.out) hb)
  have n4_ := As.mk (below_step (hup1 HB.out GE217.out) hb)
  clear HO221
  clear BK217
  clear HB
  have HO221 := n0_
  have HO225 := n1_
  have HO227 := n2_
  have BK217 := n3_
  have HB := n4_
  clear n0_ n1_ n2_ n3_ n4_
  (try clear hb)
  (try clear hb2)
  (try clear hk)
  (try clear hi)
  (try clear ho0)
  (try clear ho1)
  refine hK.out _ _ ⟨(blk_cell BK217.out 0).trans rfl, (blk_cell BK217.out 1).trans rfl, (blk_cell BK217.out 2).trans rfl⟩ (fun hHeld => ?_)
  clear hK K
  refine norm_ (a' := ?_) ?_ ?_
  rotate_left
  ·show Act.put _ (some 18) _ = _
   simp only [Act.put, List.setIfInBounds_toArray, List.set_cons_zero, List.set_cons_succ, i64_w, i32_w]
   rfl
  refine pure_ (i := 5) (N := some 13) (v := ?_) (a' := ?_) #[true, true, true, true, true, true, false, false, false, false] rfl rfl (any_of HT_.out (by kernel_rfl)) (fun _ _ _ h => h) (Or.inl ⟨by rfl, ?_⟩) ?_ ?_
  rotate_left
  ·intro w'
   go_simp
   with_reducible rfl
  rotate_left
  ·simp only [Act.put, List.setIfInBounds_toArray, List.set_cons_zero, List.set_cons_succ, i64_w, i32_w]
   rfl
  refine pure_ (i := 6) (N := some 19) (v := ?_) (a' := ?_) #[true, true, true, true, true, true, true, false, false, false] rfl rfl (any_of HT_.out (by kernel_rfl)) (fun _ _ _ h => h) (Or.inl ⟨by rfl, ?_⟩) ?_ ?_
  rotate_left
  ·intro w'
   go_simp
   with_reducible rfl
  rotate_left
  ·simp only [Act.put, List.setIfInBounds_toArray, List.set_cons_zero, List.set_cons_succ, i64_w, i32_w]
   rfl
  refine pure_ (i := 7) (N := some 20) (v := ?_) (a' := ?_) #[true, true, true, true, true, true, true, true, false, false] rfl rfl (any_of HT_.out (by kernel_rfl)) (fun _ _ _ h => h) (Or.inl ⟨by rfl, ?_⟩) ?_ ?_
  rotate_left
  ·intro w'
   go_simp
   with_reducible rfl
  rotate_left
  ·simp only [Act.put, List.setIfInBounds_toArray, List.set_cons_zero, List.set_cons_succ, i64_w, i32_w]
   rfl
  refine pure_ (i := 8) (N := some 6) (v := ?_) (a' := ?_) #[true, true, true, true, true, true, true, true, true, false] rfl rfl (any_of HT_.out (by kernel_rfl)) (fun _ _ _ h => h) (Or.inl ⟨by rfl, ?_⟩) ?_ ?_
  rotate_left
  ·intro w'
   go_simp
   with_reducible rfl
  rotate_left
  ·simp only [Act.put, List.setIfInBounds_toArray, List.set_cons_zero, List.set_cons_succ, i64_w, i32_w]
   rfl
  refine pure_ (i := 9) (N := some 7) (v := ?_) (a' := ?_) #[true, true, true, true, true, true, true, true, true, true] rfl rfl (any_of HT_.out (by kernel_rfl)) (fun _ _ _ h => h) (Or.inl ⟨by rfl, ?_⟩) ?_ ?_
  rotate_left
  ·intro w'
   go_simp
   with_reducible rfl
  rotate_left
  ·simp only [Act.put, List.setIfInBounds_toArray, List.set_cons_zero, List.set_cons_succ, i64_w, i32_w]
   rfl
  refine done_ (done_of HT_.out (by kernel_rfl)) ?_
  obtain ⟨Ao15, co15, eo15⟩ := Kd.R_slice HO225.out
  subst eo15
  try go_wp2_with (first | ((with_reducible refine gate_callee (f := 43) rfl ?_); refine goesL_ (some 22) rfl rfl Try.func43 (by kernel_rfl) rfl #[.slice Ao15 t222.length co15, .bool false] rfl (by (try simp only [List.map_toArray, List.map_cons, List.map_nil]); first | done | rfl | (simp only [List.length_drop, List.length_take]; rfl)) ?_; (with_reducible refine (pairing_Chosen.calls k _ _ t222 false t228 _ ?side1 ?side2 A6.out).mono ?_); (case side1 => repeat (first | exact (Kd.R_reads' HO225.out).2.2 | (with_reducible refine Kd.C_alloc ?_ _) | (with_reducible refine Kd.C_drewN ?_ _) | (with_reducible refine Kd.C_drew ?_))); (case side2 => exact (Kd.R_reads' HO225.out).2.1); rintro e w16 ⟨v229, rfl, ho0, hb⟩; refine ⟨_, rfl, ?_⟩; have n0_ := As.mk (Kd.S_elder' (sup HO221.out) (Kd.R_base ho0) hb); have n1_ := As.mk (Kd.R_below (rup HO225.out) hb); have n2_ := As.mk (Kd.R_below (rup HO227.out) hb); have n3_ := As.mk (Kd.R_lower ho0 (below_size (hup1 HB.out GE217.out))); have n4_ := As.mk (blk_below (g := gb217) (o := .cells #[.int .i64 a0_0, .int .i64 a0_1, .slice A0_2 l0_2.length c0_2] 33 (0, 0)) (bup BK217.out) hb); have n5_ := As.mk (below_step (hup1 HB.out GE217.out) hb); clear HO221; clear HO225; clear HO227; clear BK217; clear HB; have HO221 := n0_; have HO225 := n1_; have HO227 := n2_; have HO230 := n3_; have BK217 := n4_; have HB := n5_; clear n0_ n1_ n2_ n3_ n4_ n5_; (try clear hb); (try clear hb2); (try clear hk); (try clear hi); (try clear ho0); obtain ⟨Ao17, co17, eo17⟩ := Kd.R_slice HO227.out; subst eo17) | ((with_reducible refine gate_callee (f := 43) rfl ?_); refine goesL_ (some 24) rfl rfl Try.func43 (by kernel_rfl) rfl #[.slice Ao17 t223.length co17, .bool true] rfl (by (try simp only [List.map_toArray, List.map_cons, List.map_nil]); first | done | rfl | (simp only [List.length_drop, List.length_take]; rfl)) ?_; (with_reducible refine (pairing_Chosen.calls k _ _ t223 true t231 _ ?side1 ?side2 A7.out).mono ?_); (case side1 => repeat (first | exact (Kd.R_reads' HO227.out).2.2 | (with_reducible refine Kd.C_alloc ?_ _) | (with_reducible refine Kd.C_drewN ?_ _) | (with_reducible refine Kd.C_drew ?_))); (case side2 => exact (Kd.R_reads' HO227.out).2.1); rintro e w18 ⟨v232, rfl, ho0, hb⟩; refine ⟨_, rfl, ?_⟩; have n0_ := As.mk (Kd.S_elder' (sup HO221.out) (Kd.R_base ho0) hb); have n1_ := As.mk (Kd.R_below (rup HO225.out) hb); have n2_ := As.mk (Kd.R_below (rup HO227.out) hb); have n3_ := As.mk (Kd.R_elder' (rup HO230.out) (Kd.R_base ho0) hb); have n4_ := As.mk (Kd.R_lower (Kd.R_new' ho0 (Kd.R_lt (rup HO230.out))) (below_size (hup1 HB.out GE217.out))); have n5_ := As.mk (blk_below (g := gb217) (o := .cells #[.int .i64 a0_0, .int .i64 a0_1, .slice A0_2 l0_2.length c0_2] 33 (0, 0)) (bup BK217.out) hb); have n6_ := As.mk (below_step (hup1 HB.out GE217.out) hb); clear HO221; clear HO225; clear HO227; clear HO230; clear BK217; clear HB; have HO221 := n0_; have HO225 := n1_; have HO227 := n2_; have HO230 := n3_; have HO233 := n4_; have BK217 := n5_; have HB := n6_; clear n0_ n1_ n2_ n3_ n4_ n5_ n6_; (try clear hb); (try clear hb2); (try clear hk); (try clear hi); (try clear ho0)))
  go_ret3
  exact ⟨_, _, by first | rfl | (simp [errW_none, errW_some] <;> rfl) | (simp [*, errW_none, errW_some] <;> rfl), by (with_reducible repeat (first | apply Kd.R_alloc | apply Kd.R_drewN | apply Kd.R_drew)); exact Kd.R_mono HO230.out (fun _ hk => hk.2), by (with_reducible repeat (first | apply Kd.R_alloc | apply Kd.R_drewN | apply Kd.R_drew)); exact Kd.R_mono HO233.out (fun _ hk => hk.2), by repeat (first | (with_reducible first | exact HB.out | apply below_alloc | apply pw_below_drewN | apply below_drew1 | refine below_set ?_ GE217.out) | exact HB.out)⟩
 ·rw [if_neg c3] at H
  have c3b0 : (t218 == 0) = false := beq_eq_false_iff_ne.mpr c3
  have c3b1 : (t218 != 0) = true := bne_iff_ne.mpr c3
  simp only [Option.some.injEq, Prod.mk.injEq] at H
  obtain ⟨rfl, rfl, rfl⟩ := H
  go_enter Try.func27, Try.ntmps27
  go_wp2_with (first | ((with_reducible refine gate_dst (N := 1) rfl ?_); refine box_event ?hg (N := 1) ?hd (cs := #[.int .i64 a0_0, .int .i64 a0_1, .slice A0_2 l0_2.length c0_2]) (t := 33) ?hr ?_; (case hd => rfl); (case hg => rfl); (case hr => first | (go_simp; done) | (go_simp; rfl)); intro gb217 hg w19 hbox hb; have n0_ := As.mk (below_step (hup0 HB.out) hb); have n1_ := As.mk (hbox); have n2_ := As.mk ((by rw [hg]; exact (below_size (hup0 HB.out)) : w.heap.size ≤ gb217)); have n3_ := As.mk ((by rw [hg]; exact (below_size (hup0 HB.out)) : w.heap.size ≤ gb217)); clear HB; have HB := n0_; have BK217 := n1_; have GW217 := n2_; have GE217 := n3_; clear n0_ n1_ n2_ n3_; clear hb hbox hg; have hcz20_0 : w19.cell? ⟨gb217, 0, none⟩ = some (.int .i64 a0_0) := (blk_cell BK217.out 0).trans rfl; have hcz20_1 : w19.cell? ⟨gb217, 1, none⟩ = some (.int .i64 a0_1) := (blk_cell BK217.out 1).trans rfl; have hcz20_2 : w19.cell? ⟨gb217, 2, none⟩ = some (.slice A0_2 l0_2.length c0_2) := (blk_cell BK217.out 2).trans rfl; have hfz20_0 := blk_frozen BK217.out 0; have hfz20_1 := blk_frozen BK217.out 1; have hfz20_2 := blk_frozen BK217.out 2) | ((with_reducible refine gate_callee (f := 23) rfl ?_); refine goesL_ (some 9) rfl rfl Try.func23 (by kernel_rfl) rfl #[.agg #[.int .i64 a0_0, .int .i64 a0_1, .slice A0_2 l0_2.length c0_2]] rfl (by (try simp only [List.map_toArray, List.map_cons, List.map_nil]); first | done | rfl | (simp only [List.length_drop, List.length_take]; rfl)) ?_; (with_reducible refine (match_Check.calls a0_0 a0_1 _ _ l0_2 t218 _ ?side1 ?side2 A2.out).mono ?_); (case side1 => repeat (first | exact (Kd.C_below HR0_2.out HB.out) | (with_reducible refine Kd.C_alloc ?_ _) | (with_reducible refine Kd.C_drewN ?_ _) | (with_reducible refine Kd.C_drew ?_))); (case side2 => exact HC0_2.out); rintro e w21 ⟨rfl, hb⟩; refine ⟨_, rfl, ?_⟩; have n0_ := As.mk (blk_below (g := gb217) (o := .cells #[.int .i64 a0_0, .int .i64 a0_1, .slice A0_2 l0_2.length c0_2] 33 (0, 0)) (bup BK217.out) hb); have n1_ := As.mk (below_step (hup1 HB.out GE217.out) hb); clear BK217; clear HB; have BK217 := n0_; have HB := n1_; clear n0_ n1_; (try clear hb); (try clear hb2); (try clear hk); (try clear hi)))
  go_ret3
  exact ⟨_, _, by first | rfl | (simp [errW_none, errW_some] <;> rfl) | (simp [*, errW_none, errW_some] <;> rfl), by first | exact Kd.R_nil _ _ _ _ _ | exact Kd.N_nil _ _ _ _ _ | exact Kd.V_nil _ _ _ _ _ | exact Kd.Q_nil _ _ _ _ _ | exact Kd.S_nil _ _ _ _ _, by first | exact Kd.R_nil _ _ _ _ _ | exact Kd.N_nil _ _ _ _ _ | exact Kd.V_nil _ _ _ _ _ | exact Kd.Q_nil _ _ _ _ _ | exact Kd.S_nil _ _ _ _ _, by repeat (first | (with_reducible first | exact HB.out | apply below_alloc | apply pw_below_drewN | apply below_drew1 | refine below_set ?_ GE217.out) | exact HB.out)⟩
def toruslaw30_ex.f  : Option (Int × Int × (List (S40))) := some (3, 2, (([(⟨0, 0⟩ : S40), (⟨1, 0⟩ : S40), (⟨2, 1⟩ : S40)] : List (S40))))
set_option maxHeartbeats 8000000 in
set_option maxRecDepth 100000 in
theorem toruslaw30_ex.calls  (r1 : Int) (r2 : Int) (r3 : List (S40)) (w : World) (h : toruslaw30_ex.f  = some (r1, r2, r3)) :
  Calls Try.prog 39 #[] w fun e w' => ∃ v2_ : Value, e = .returned (.agg #[.int .i64 r1, .int .i64 r2, v2_]) ∧ Kd.R k40 40 w' w.heap.size (fun _ => True) v2_ r3 ∧ Below w.heap.size w w' := by
 have hu33 := Try.underlying33
 have hu40 := Try.underlying40
 have HB := As.mk (Below.refl w.heap.size w)
 have H : (some (3, 2, (([(⟨0, 0⟩ : S40), (⟨1, 0⟩ : S40), (⟨2, 1⟩ : S40)] : List (S40))))) = some (r1, r2, r3) := h
 clear h
 obtain ⟨y235, hy235⟩ : ∃ y_ : List (S40), y_ = (([(⟨0, 0⟩ : S40), (⟨1, 0⟩ : S40), (⟨2, 1⟩ : S40)] : List (S40))) := ⟨_, rfl⟩
 replace H : (some (3, 2, y235)) = some (r1, r2, r3) := by first | (rw [hy235]; with_reducible exact H) | (have H2_ := (Option.bind_some _ _).symm.trans H; rw [hy235]; with_reducible exact H2_) | (have H2_ := (Option.bind_some _ _).symm.trans H; with_reducible exact H2_) | with_reducible exact H | (rw [hy235]; exact H) | exact H
 have Ny235 := As.mk hy235
 clear hy235
 simp only [Option.some.injEq, Prod.mk.injEq] at H
 obtain ⟨rfl, rfl, rfl⟩ := H
 go_enter Try.func39, Try.ntmps39
 go_wp2_with (first | ((with_reducible refine gate_dst (N := 0) rfl ?_); refine box_event ?hg (N := 0) ?hd (cs := #[.int .i64 0, .int .i64 0, .slice none 0 0]) (t := 33) ?hr ?_; (case hd => rfl); (case hg => rfl); (case hr => first | (go_simp; done) | (go_simp; rfl)); intro gb234 hg w1 hbox hb; have n0_ := As.mk (below_step (hup0 HB.out) hb); have n1_ := As.mk (hbox); have n2_ := As.mk ((by rw [hg]; exact (below_size (hup0 HB.out)) : w.heap.size ≤ gb234)); have n3_ := As.mk ((by rw [hg]; exact (below_size (hup0 HB.out)) : w.heap.size ≤ gb234)); clear HB; have HB := n0_; have BK234 := n1_; have GW234 := n2_; have GE234 := n3_; clear n0_ n1_ n2_ n3_; clear hb hbox hg) | ((with_reducible refine gate_dst (N := 4) rfl ?_); refine Kd.R_lit k40 _ 40 ?hg (N := 4) ?hd (xs := ([(⟨0, 0⟩ : S40), (⟨1, 0⟩ : S40), (⟨2, 1⟩ : S40)] : List (S40))) (inner := [.int .i64 0, .int .i64 0, .int .i64 1, .int .i64 0, .int .i64 2, .int .i64 1]) (ok := fun _ => True) (okp := fun _ => True) ?hr ?hp (fun _ hk => hk) trivial (Below.refl _ _) (Nat.le_refl _) (by simp) ?_; (case hd => rfl); (case hg => rfl); (case hr => first | (go_simp; done) | (go_simp; rfl)); (case hp => exact (Reps.c2 (show Kd.M k40 _ _ _ (⟨0, 0⟩ : S40) [.int .i64 0, .int .i64 0] from (k40_mkM _ _ _ (⟨0, 0⟩ : S40) )) (Reps.c2 (show Kd.M k40 _ _ _ (⟨1, 0⟩ : S40) [.int .i64 1, .int .i64 0] from (k40_mkM _ _ _ (⟨1, 0⟩ : S40) )) (Reps.c2 (show Kd.M k40 _ _ _ (⟨2, 1⟩ : S40) [.int .i64 2, .int .i64 1] from (k40_mkM _ _ _ (⟨2, 1⟩ : S40) )) (Reps.none _ _))))); intro v236 w2 ho3 hb hg_ hnew_; clear hg_ hnew_; (first | rw [← Ny235.out] at ho3 | (simp only [Int.reduceToNat] at ho3; rw [← Ny235.out] at ho3)); have n0_ := As.mk (Kd.R_lower ho3 (below_size (hup1 HB.out GE234.out))); have n1_ := As.mk (blk_below (g := gb234) (o := .cells #[.int .i64 0, .int .i64 0, .slice none 0 0] 33 (0, 0)) (bup BK234.out) hb); have n2_ := As.mk (below_step (hup1 HB.out GE234.out) hb); clear BK234; clear HB; have HO237 := n0_; have BK234 := n1_; have HB := n2_; clear n0_ n1_ n2_; clear hb ho3; obtain ⟨Ao4, co4, eo4⟩ := Kd.R_slice HO237.out; subst eo4; have hcz5_0 : w2.cell? ⟨gb234, 0, none⟩ = some (.int .i64 0) := (blk_cell BK234.out 0).trans rfl; have hcz5_1 : w2.cell? ⟨gb234, 1, none⟩ = some (.int .i64 0) := (blk_cell BK234.out 1).trans rfl; have hcz5_2 : w2.cell? ⟨gb234, 2, none⟩ = some (.slice none 0 0) := (blk_cell BK234.out 2).trans rfl; have hfz5_0 := blk_frozen BK234.out 0; have hfz5_1 := blk_frozen BK234.out 1; have hfz5_2 := blk_frozen BK234.out 2))
 refine bodyPost_ret (results_cell_row rfl _ _ gb234 33 #[.int .i64 3, .int .i64 2, .slice Ao4 y235.length co4] (0, 0) _ rfl (by (with_reducible repeat (first | refine blk_drewN ?_ _ | refine blk_drew ?_ | refine blk_alloc ?_ _)); refine blk_put (cs := #[.int .i64 3, .int .i64 2, .slice none 0 0]) ?_ 2 _ rfl; (with_reducible repeat (first | refine blk_drewN ?_ _ | refine blk_drew ?_ | refine blk_alloc ?_ _)); refine blk_put (cs := #[.int .i64 3, .int .i64 0, .slice none 0 0]) ?_ 1 _ rfl; (with_reducible repeat (first | refine blk_drewN ?_ _ | refine blk_drew ?_ | refine blk_alloc ?_ _)); refine blk_put (cs := #[.int .i64 0, .int .i64 0, .slice none 0 0]) ?_ 0 _ rfl; (with_reducible repeat (first | refine blk_drewN ?_ _ | refine blk_drew ?_ | refine blk_alloc ?_ _)); exact BK234.out) Try.underlying33 rfl (by kernel_rfl)) rfl ?_
 exact ⟨_, by first | rfl | (simp [errW_none, errW_some] <;> rfl) | (simp [*, errW_none, errW_some] <;> rfl), by (with_reducible repeat (first | apply Kd.R_alloc | apply Kd.R_drewN | apply Kd.R_drew)); exact Kd.R_mono (Kd.R_far (p := ⟨gb234, 2, none⟩) (Kd.R_far (p := ⟨gb234, 1, none⟩) (Kd.R_far (p := ⟨gb234, 0, none⟩) (Kd.R_types HO237.out BK234.out (by decide)) (fun _ hk => hk.2) (.int .i64 3)) (fun _ hk => hk.2) (.int .i64 2)) (fun _ hk => hk.2) (.slice Ao4 y235.length co4)) (fun _ hk => trivial), by repeat (first | (with_reducible first | exact HB.out | apply below_alloc | apply pw_below_drewN | apply below_drew1 | refine below_set ?_ GE234.out) | exact HB.out)⟩
end Go.Proofs.Ytlleokhmgblfnaa.M
end

section
namespace Go.Proofs.Ytlleokhmgblfnaa.M
open Go.RowKit Go.Proofs.YtlleokhmgblfnaaW.PrintWords
theorem aw_max : match_Maximum.f 60 2 2 [⟨0, 0⟩, ⟨0, 1⟩, ⟨1, 0⟩] = some ([1, 0], 0) := by decide +kernel
theorem aw_size : match_Size.f 60 3 2 [⟨0, 0⟩, ⟨1, 0⟩, ⟨2, 1⟩] = some (2, 0) := by decide +kernel
theorem aw_hall : match_Hall.f 60 3 2 [⟨0, 0⟩, ⟨1, 0⟩, ⟨2, 1⟩] = some ([0, 1], [0], 0) := by decide +kernel
theorem aw_cover : match_Cover.f 60 3 2 [⟨0, 0⟩, ⟨1, 0⟩, ⟨2, 1⟩] = some ([2], [0], 0) := by decide +kernel
theorem aw_ex : toruslaw30_ex.f = some (3, 2, [⟨0, 0⟩, ⟨1, 0⟩, ⟨2, 1⟩]) := rfl
theorem aw_s1 : torusref01_Same.f 60 [1, 0] [1, 0] = some true := by decide +kernel
theorem aw_s2 : torusref01_Same.f 60 [0, 1] [0, 1] = some true := by decide +kernel
theorem aw_s3 : torusref01_Same.f 60 [0] [0] = some true := by decide +kernel
theorem aw_s4 : torusref01_Same.f 60 [2] [2] = some true := by decide +kernel
theorem C_E3 {W : World} {g : Nat} (a b c : S40) (h : W.heap[g]? = some (.cells #[.int .i64 a.f0, .int .i64 a.f1, .int .i64 b.f0, .int .i64 b.f1, .int .i64 c.f0, .int .i64 c.f1] 40 (0, 0))) : Kd.C k40 W (some ⟨g, 0, none⟩) ([a, b, c] : List S40).length [a, b, c] := by
 refine ⟨rfl, by simp, fun _ => ⟨_, rfl, fun j p hp => ?_⟩⟩
 match j, hp with
 | 0, hp =>
  cases hp
  refine ⟨_, rfl, k40_mk W a, fun i u hu => ?_⟩
  rw [add_plain, blk_cell h]
  match i, hu with
  | 0, hu => exact hu
  | 1, hu => exact hu
 | 1, hp =>
  cases hp
  refine ⟨_, rfl, k40_mk W b, fun i u hu => ?_⟩
  rw [add_plain, blk_cell h]
  match i, hu with
  | 0, hu => exact hu
  | 1, hu => exact hu
 | 2, hp =>
  cases hp
  refine ⟨_, rfl, k40_mk W c, fun i u hu => ?_⟩
  rw [add_plain, blk_cell h]
  match i, hu with
  | 0, hu => exact hu
  | 1, hu => exact hu
theorem aw_hold {w W w1 : World} (hb : Below w.heap.size w W) (o : Obj) (h : Below (W.alloc o).heap.size (W.alloc o) w1) : Below w.heap.size w w1 := below_step (below_alloc hb o) h
set_option maxHeartbeats 1000000 in
set_option maxRecDepth 100000 in
theorem awake_calls (w : World) : Calls Try.prog 16 #[] w fun e w' => e = .returned (.bool true) ∧ Below w.heap.size w w' := by
 go_enter Try.func16, Try.ntmps16
 go_wp2_with fail
 refine (match_Maximum.calls 60 2 2 _ _ [⟨0, 0⟩, ⟨0, 1⟩, ⟨1, 0⟩] [1, 0] 0 _ (C_E3 ⟨0, 0⟩ ⟨0, 1⟩ ⟨1, 0⟩ (blk_new _ _)) (Nat.le_refl _) aw_max).mono ?_
 rintro e w1 ⟨v0, rfl, hr0, hb⟩
 have HB1 := As.mk (below_step (below_alloc (Below.refl w.heap.size w) _) hb)
 obtain ⟨A0, c0, rfl, hl0, hC0⟩ := Kd.R_reads hr0
 have HC0 := As.mk hC0
 have HL0 := As.mk hl0
 clear hb hr0 hC0 hl0
 go_wp2_with fail
 refine (toruslaw30_ex.calls 3 2 _ _ aw_ex).mono ?_
 rintro e w2 ⟨v1, rfl, hr1, hb⟩
 obtain ⟨A1, c1, rfl, hl1, hC1⟩ := Kd.R_reads hr1
 have HB2 := As.mk (below_step HB1.out hb)
 replace HC0 := As.mk (Kd.C_below HC0.out hb)
 have HC1 := As.mk hC1
 have HL1 := As.mk hl1
 clear hb hr1 hC1 hl1 HB1
 go_wp2_with fail
 refine (match_Size.calls 60 3 2 _ _ _ 2 0 _ HC1.out HL1.out aw_size).mono ?_
 rintro e w3 ⟨rfl, hb⟩
 have HB3 := As.mk (below_step HB2.out hb)
 replace HC0 := As.mk (Kd.C_below HC0.out hb)
 clear hb HB2 HC1 HL1
 go_wp2_with fail
 refine (toruslaw30_ex.calls 3 2 _ _ aw_ex).mono ?_
 rintro e w4 ⟨v2, rfl, hr1, hb⟩
 obtain ⟨A2, c2, rfl, hl1, hC1⟩ := Kd.R_reads hr1
 have HB4 := As.mk (below_step HB3.out hb)
 replace HC0 := As.mk (Kd.C_below HC0.out hb)
 have HC2 := As.mk hC1
 have HL2 := As.mk hl1
 clear hb hr1 hC1 hl1 HB3
 go_wp2_with fail
 refine (match_Hall.calls 60 3 2 _ _ _ [0, 1] [0] 0 _ HC2.out HL2.out aw_hall).mono ?_
 rintro e w5 ⟨v3, v4, rfl, hr3, hr4, hb⟩
 obtain ⟨A3, c3, rfl, hl3, hC3⟩ := Kd.R_reads hr3
 obtain ⟨A4, c4, rfl, hl4, hC4⟩ := Kd.R_reads hr4
 have HB5 := As.mk (below_step HB4.out hb)
 replace HC0 := As.mk (Kd.C_below HC0.out hb)
 have HC3 := As.mk hC3
 have HC4 := As.mk hC4
 have HL3 := As.mk hl3
 have HL4 := As.mk hl4
 clear hb hr3 hr4 hC3 hC4 hl3 hl4 HB4 HC2 HL2
 go_wp2_with fail
 refine (toruslaw30_ex.calls 3 2 _ _ aw_ex).mono ?_
 rintro e w6 ⟨v5, rfl, hr1, hb⟩
 obtain ⟨A5, c5, rfl, hl1, hC1⟩ := Kd.R_reads hr1
 have HB6 := As.mk (below_step HB5.out hb)
 replace HC0 := As.mk (Kd.C_below HC0.out hb)
 replace HC3 := As.mk (Kd.C_below HC3.out hb)
 replace HC4 := As.mk (Kd.C_below HC4.out hb)
 have HC5 := As.mk hC1
 have HL5 := As.mk hl1
 clear hb hr1 hC1 hl1 HB5
 go_wp2_with fail
 refine (match_Cover.calls 60 3 2 _ _ _ [2] [0] 0 _ HC5.out HL5.out aw_cover).mono ?_
 rintro e w7 ⟨v6, v7, rfl, hr3, hr4, hb⟩
 obtain ⟨A6, c6, rfl, hl3, hC3⟩ := Kd.R_reads hr3
 obtain ⟨A7, c7, rfl, hl4, hC4⟩ := Kd.R_reads hr4
 have HB7 := As.mk (below_step HB6.out hb)
 replace HC0 := As.mk (Kd.C_below HC0.out hb)
 replace HC3 := As.mk (Kd.C_below HC3.out hb)
 replace HC4 := As.mk (Kd.C_below HC4.out hb)
 have HC6 := As.mk hC3
 have HC7 := As.mk hC4
 have HL6 := As.mk hl3
 have HL7 := As.mk hl4
 clear hb hr3 hr4 hC3 hC4 hl3 hl4 HB6 HC5 HL5
 go_wp2_with fail
 refine (torusref01_Same.calls 60 _ _ [1, 0] _ _ [1, 0] true _ (Kd.C_alloc HC0.out _) HL0.out (H.Row.reads (xs := [1, 0]) (blk_new _ _) (by decide)) (Nat.le_refl _) aw_s1).mono ?_
 rintro e w8 ⟨rfl, hd⟩
 have hb := hd.below
 have HB8 := As.mk (aw_hold HB7.out _ hb)
 replace HC3 := As.mk (Kd.C_below (Kd.C_alloc HC3.out _) hb)
 replace HC4 := As.mk (Kd.C_below (Kd.C_alloc HC4.out _) hb)
 replace HC6 := As.mk (Kd.C_below (Kd.C_alloc HC6.out _) hb)
 replace HC7 := As.mk (Kd.C_below (Kd.C_alloc HC7.out _) hb)
 clear hb hd HB7 HC0 HL0
 go_wp2_with fail
 refine (torusref01_Same.calls 60 _ _ [0, 1] _ _ [0, 1] true _ (Kd.C_alloc HC3.out _) HL3.out (H.Row.reads (xs := [0, 1]) (blk_new _ _) (by decide)) (Nat.le_refl _) aw_s2).mono ?_
 rintro e w9 ⟨rfl, hd⟩
 have hb := hd.below
 have HB9 := As.mk (aw_hold HB8.out _ hb)
 replace HC4 := As.mk (Kd.C_below (Kd.C_alloc HC4.out _) hb)
 replace HC6 := As.mk (Kd.C_below (Kd.C_alloc HC6.out _) hb)
 replace HC7 := As.mk (Kd.C_below (Kd.C_alloc HC7.out _) hb)
 clear hb hd HB8 HC3 HL3
 go_wp2_with fail
 refine (torusref01_Same.calls 60 _ _ [0] _ _ [0] true _ (Kd.C_alloc HC4.out _) HL4.out (H.Row.reads (xs := [0]) (blk_new _ _) (by decide)) (Nat.le_refl _) aw_s3).mono ?_
 rintro e w10 ⟨rfl, hd⟩
 have hb := hd.below
 have HB10 := As.mk (aw_hold HB9.out _ hb)
 replace HC6 := As.mk (Kd.C_below (Kd.C_alloc HC6.out _) hb)
 replace HC7 := As.mk (Kd.C_below (Kd.C_alloc HC7.out _) hb)
 clear hb hd HB9 HC4 HL4
 go_wp2_with fail
 refine (torusref01_Same.calls 60 _ _ [2] _ _ [2] true _ (Kd.C_alloc HC6.out _) HL6.out (H.Row.reads (xs := [2]) (blk_new _ _) (by decide)) (Nat.le_refl _) aw_s4).mono ?_
 rintro e w11 ⟨rfl, hd⟩
 have hb := hd.below
 have HB11 := As.mk (aw_hold HB10.out _ hb)
 replace HC7 := As.mk (Kd.C_below (Kd.C_alloc HC7.out _) hb)
 clear hb hd HB10 HC6 HL6
 go_wp2_with fail
 refine (torusref01_Same.calls 60 _ _ [0] _ _ [0] true _ (Kd.C_alloc HC7.out _) HL7.out (H.Row.reads (xs := [0]) (blk_new _ _) (by decide)) (Nat.le_refl _) aw_s3).mono ?_
 rintro e w12 ⟨rfl, hd⟩
 have hb := hd.below
 have HB12 := As.mk (aw_hold HB11.out _ hb)
 clear hb hd HB11 HC7 HL7
 go_wp2_with fail
 go_ret
 exact ⟨rfl, HB12.out⟩
def toruslaw30_awake.f : Option Bool := some true
theorem toruslaw30_awake.calls (r : Bool) (w : World) (h : toruslaw30_awake.f = some r) : Calls Try.prog 16 #[] w fun e w' => e = .returned (.bool r) ∧ Below w.heap.size w w' := by
 cases h
 exact awake_calls w
end Go.Proofs.Ytlleokhmgblfnaa.M
end

section
namespace Go.Proofs.Ytlleokhmgblfnaa.H
open Go.RowKit Go.Proofs.YtlleokhmgblfnaaW.PrintWords
abbrev Tab := Int → Int → Int
def upd (T : Tab) (v c x : Int) : Tab := fun v' c' => if v' = v ∧ c' = c then x else T v' c'
def updO (O : Int → Int) (i x : Int) : Int → Int := fun j => if j = i then x else O j
def missF (m : Int) (row : Int → Int) : Nat → Int → Option Int
 | 0, _ => none
 | k + 1, c => if c < m then if 0 ≤ row c then missF m row k (c + 1) else some c else none
section
variable (n m e : Int) (X Y : Int → Int)
def pathF (s : Int) (T : Tab) : Nat → Int → Int → List Int → Option (List Int)
 | 0, _, _, _ => none
 | k + 1, u, c, p =>
  if 0 ≤ u ∧ u < n ∧ 0 ≤ c ∧ c < m then
   if 0 ≤ T u c then if T u c < e ∧ p.length < 65536 then pathF s T k (X (T u c) + Y (T u c) - u) (s - c) (p ++ [T u c]) else none
   else some p
  else none
def clearF (O : Int → Int) : List Int → Tab → Option Tab
 | [], T => some T
 | j :: p, T => if 0 ≤ j ∧ j < e ∧ 0 ≤ O j ∧ O j < m then clearF O p (upd (upd T (X j) (O j) (-1)) (Y j) (O j) (-1)) else none
def setF (s : Int) : List Int → Tab → (Int → Int) → Option (Tab × (Int → Int))
 | [], T, O => some (T, O)
 | j :: p, T, O => if 0 ≤ j ∧ j < e ∧ 0 ≤ O j ∧ O j < m ∧ 0 ≤ s - O j ∧ s - O j < m then setF s p (upd (upd T (X j) (s - O j) j) (Y j) (s - O j) j) (updO O j (s - O j)) else none
def flipF (K : Nat) (T : Tab) (O : Int → Int) (w a b : Int) : Option (Tab × (Int → Int)) :=
 (pathF n m e X Y (a + b) T K w a []).bind fun p => (clearF m e X Y O p T).bind fun T1 => setF m e X Y (a + b) p T1 O
def mainF (K : Nat) : Nat → Int → Tab → (Int → Int) → Option (Int → Int)
 | 0, _, _, _ => none
 | k + 1, i, T, O =>
  if i < e then
   (missF m (T (X i)) K 0).bind fun a => (missF m (T (Y i)) K 0).bind fun b =>
    if a = b then mainF K k (i + 1) (upd (upd T (X i) a i) (Y i) a i) (updO O i a)
    else (flipF n m e X Y K T O (Y i) a b).bind fun s => mainF K k (i + 1) (upd (upd s.1 (X i) a i) (Y i) a i) (updO s.2 i a)
  else some O
end
theorem missF_rng {m : Int} {row : Int → Int} : ∀ {k : Nat} {c a : Int}, missF m row k c = some a → 0 ≤ c → 0 ≤ a ∧ a < m
 | 0, _, _, h, _ => by cases h
 | k + 1, c, a, h, hc => by
  unfold missF at h
  split at h
  ·split at h
   ·exact missF_rng h (by omega)
   ·obtain rfl := Option.some.inj h; omega
  ·cases h
structure Lay (B n gb pa ra po ro pe : Nat) (rb : Int → Nat) : Prop where
 bb : B ≤ ro ∧ ∀ v : Int, 0 ≤ v → v < n → B ≤ rb v
 dr : ∀ v : Int, 0 ≤ v → v < n → rb v ≠ gb ∧ rb v ≠ pa ∧ rb v ≠ ra ∧ rb v ≠ ro ∧ rb v ≠ po ∧ rb v ≠ pe
 dd : ∀ u v : Int, 0 ≤ u → u < n → 0 ≤ v → v < n → rb u = rb v → u = v
 dO : ro ≠ gb ∧ ro ≠ pa ∧ ro ≠ ra ∧ ro ≠ po ∧ ro ≠ pe
structure St (n m e gb pa ra po ro pe : Nat) (rb : Int → Nat) (L R : Int) (A : Option Addr) (cp : Nat) (T : Tab) (O : Int → Int) (w : World) : Prop where
 g : w.heap[gb]? = some (.cells #[.int .i64 L, .int .i64 R, .slice A e cp] 33 (0, 0))
 at_ : w.heap[pa]? = some (.cells #[.slice (some ⟨ra, 0, none⟩) n n] 69 (0, 0))
 rows : w.rowIs ra 29 n (fun v => .slice (some ⟨rb v, 0, none⟩) m m)
 row : ∀ v : Int, 0 ≤ v → v < n → w.rowIs (rb v) 3 m (fun c => .int .i64 (T v c))
 out : w.heap[po]? = some (.cells #[.slice (some ⟨ro, 0, none⟩) e e] 29 (0, 0))
 orow : w.rowIs ro 3 e (fun i => .int .i64 (O i))
 ends : w.heap[pe]? = some (.cells #[.func (.func 47) #[] #[.pointer (some ⟨gb, 0, none⟩)]] 77 (0, 0))
section
variable {B n m e gb pa ra po ro pe : Nat} {rb : Int → Nat} {L R : Int} {A : Option Addr} {cp : Nat} {T : Tab} {O : Int → Int} {w : World}
theorem St.cG (h : St n m e gb pa ra po ro pe rb L R A cp T O w) : w.cell? ⟨gb, 0, none⟩ = some (.int .i64 L) ∧ w.cell? ⟨gb, 1, none⟩ = some (.int .i64 R) ∧ w.cell? ⟨gb, 2, none⟩ = some (.slice A e cp) :=
 ⟨(blk_cell h.g 0).trans rfl, (blk_cell h.g 1).trans rfl, (blk_cell h.g 2).trans rfl⟩
theorem St.cA (h : St n m e gb pa ra po ro pe rb L R A cp T O w) : w.cell? ⟨pa, 0, none⟩ = some (.slice (some ⟨ra, 0, none⟩) n n) := (blk_cell h.at_ 0).trans rfl
theorem St.cO (h : St n m e gb pa ra po ro pe rb L R A cp T O w) : w.cell? ⟨po, 0, none⟩ = some (.slice (some ⟨ro, 0, none⟩) e e) := (blk_cell h.out 0).trans rfl
theorem St.cE (h : St n m e gb pa ra po ro pe rb L R A cp T O w) : w.cell? ⟨pe, 0, none⟩ = some (.func (.func 47) #[] #[.pointer (some ⟨gb, 0, none⟩)]) := (blk_cell h.ends 0).trans rfl
theorem St.cR (h : St n m e gb pa ra po ro pe rb L R A cp T O w) (v : Int) (v0 : 0 ≤ v) (v1 : v < n) : w.cell? ⟨ra, v.toNat, none⟩ = some (.slice (some ⟨rb v, 0, none⟩) m m) := by
 have := h.rows.cell (i := v.toNat) (by omega)
 rw [this, show ((v.toNat : Nat) : Int) = v by omega]
theorem St.cT (h : St n m e gb pa ra po ro pe rb L R A cp T O w) (v c : Int) (v0 : 0 ≤ v) (v1 : v < n) (c0 : 0 ≤ c) (c1 : c < m) : w.cell? ⟨rb v, c.toNat, none⟩ = some (.int .i64 (T v c)) := by
 have := (h.row v v0 v1).cell (i := c.toNat) (by omega)
 rw [this, show ((c.toNat : Nat) : Int) = c by omega]
theorem St.fT (h : St n m e gb pa ra po ro pe rb L R A cp T O w) (v c : Int) (v0 : 0 ≤ v) (v1 : v < n) : w.frozen? ⟨rb v, c.toNat, none⟩ = false := (h.row v v0 v1).frozen _
theorem St.cOut (h : St n m e gb pa ra po ro pe rb L R A cp T O w) (i : Int) (i0 : 0 ≤ i) (i1 : i < e) : w.cell? ⟨ro, i.toNat, none⟩ = some (.int .i64 (O i)) := by
 have := h.orow.cell (i := i.toNat) (by omega)
 rw [this, show ((i.toNat : Nat) : Int) = i by omega]
theorem St.fO (h : St n m e gb pa ra po ro pe rb L R A cp T O w) (i : Int) : w.frozen? ⟨ro, i.toNat, none⟩ = false := h.orow.frozen _
theorem St.put (l : Lay B n gb pa ra po ro pe rb) (h : St n m e gb pa ra po ro pe rb L R A cp T O w) (v c x : Int) (v0 : 0 ≤ v) (v1 : v < n) (c0 : 0 ≤ c) : St n m e gb pa ra po ro pe rb L R A cp (upd T v c x) O (w.setCell ⟨rb v, c.toNat, none⟩ (.int .i64 x)) := by
 obtain ⟨d1, d2, d3, d4, d5, d6⟩ := l.dr v v0 v1
 refine ⟨blk_far h.g (p := ⟨rb v, c.toNat, none⟩) (Ne.symm d1) _, blk_far h.at_ (p := ⟨rb v, c.toNat, none⟩) (Ne.symm d2) _, h.rows.setOther (a := ⟨rb v, c.toNat, none⟩) (Ne.symm d3) _, fun u u0 u1 => ?_, blk_far h.out (p := ⟨rb v, c.toNat, none⟩) (Ne.symm d5) _, h.orow.setOther (a := ⟨rb v, c.toNat, none⟩) (Ne.symm d4) _, blk_far h.ends (p := ⟨rb v, c.toNat, none⟩) (Ne.symm d6) _⟩
 by_cases e : u = v
 ·subst e
  refine ((h.row u u0 u1).set c.toNat (.int .i64 x)).congr fun i hi => ?_
  unfold upd
  by_cases h : i = c.toNat
  ·rw [if_pos h, if_pos ⟨rfl, by omega⟩]
  ·rw [if_neg h, if_neg (by rintro ⟨_, h2⟩; omega)]
 ·refine ((h.row u u0 u1).setOther (a := ⟨rb v, c.toNat, none⟩) (fun h => e (l.dd u v u0 u1 v0 v1 h)) _).congr fun i hi => ?_
  unfold upd
  rw [if_neg (fun h => e h.1)]
theorem St.putO (l : Lay B n gb pa ra po ro pe rb) (h : St n m e gb pa ra po ro pe rb L R A cp T O w) (i x : Int) (i0 : 0 ≤ i) : St n m e gb pa ra po ro pe rb L R A cp T (updO O i x) (w.setCell ⟨ro, i.toNat, none⟩ (.int .i64 x)) := by
 obtain ⟨d1, d2, d3, d4, d5⟩ := l.dO
 refine ⟨blk_far h.g (p := ⟨ro, i.toNat, none⟩) (Ne.symm d1) _, blk_far h.at_ (p := ⟨ro, i.toNat, none⟩) (Ne.symm d2) _, h.rows.setOther (a := ⟨ro, i.toNat, none⟩) (Ne.symm d3) _, fun u u0 u1 => (h.row u u0 u1).setOther (a := ⟨ro, i.toNat, none⟩) (l.dr u u0 u1).2.2.2.1 _, blk_far h.out (p := ⟨ro, i.toNat, none⟩) (Ne.symm d4) _, ?_, blk_far h.ends (p := ⟨ro, i.toNat, none⟩) (Ne.symm d5) _⟩
 refine (h.orow.set i.toNat (.int .i64 x)).congr fun j hj => ?_
 unfold updO
 by_cases h : j = i.toNat
 ·rw [if_pos h, if_pos (by omega)]
 ·rw [if_neg h, if_neg (by omega)]
theorem St.same {w' : World} (h : St n m e gb pa ra po ro pe rb L R A cp T O w) (hs : ∀ k, k < w.heap.size → w'.heap[k]? = w.heap[k]?) : St n m e gb pa ra po ro pe rb L R A cp T O w' :=
 ⟨(hs _ (blk_lt h.g)).trans h.g, (hs _ (blk_lt h.at_)).trans h.at_, h.rows.of_block (hs _ h.rows.lt), fun v a b => (h.row v a b).of_block (hs _ (h.row v a b).lt), (hs _ (blk_lt h.out)).trans h.out, h.orow.of_block (hs _ h.orow.lt), (hs _ (blk_lt h.ends)).trans h.ends⟩
theorem St.alloc (h : St n m e gb pa ra po ro pe rb L R A cp T O w) (o : Obj) : St n m e gb pa ra po ro pe rb L R A cp T O (w.alloc o) := h.same fun k hk => Go.Deep.blk_alloc_lt _ _ _ hk
theorem St.drewN (h : St n m e gb pa ra po ro pe rb L R A cp T O w) (nd : Nat) : St n m e gb pa ra po ro pe rb L R A cp T O (w.drewN nd) := h.same fun k hk => rfl
end
end Go.Proofs.Ytlleokhmgblfnaa.H
end

section
namespace Go.Proofs.Ytlleokhmgblfnaa.H
open Go.RowKit Go.Proofs.YtlleokhmgblfnaaW.PrintWords
attribute [local go_sem] eqE
section
variable {n m e gb pa ra po ro pe : Nat} {rb : Int → Nat} {L R : Int} {A : Option Addr} {cp : Nat} {T : Tab} {O : Int → Int}
set_option maxHeartbeats 2000000 in
set_option maxRecDepth 100000 in
theorem ends_calls (E : List (Int × Int)) (w : World) (i : Int) (hs : St n m e gb pa ra po ro pe rb L R A cp T O w) (hE : kE.C w A e E) (i0 : 0 ≤ i) (i1 : i < e) (h : 0 ≤ L ∧ L ≤ 1024 ∧ 0 ≤ (rdE E i).2 ∧ (rdE E i).2 ≤ 1024) :
  Calls Try.prog 47 #[.int .i64 i, .pointer (some ⟨gb, 0, none⟩)] w fun x w' => x = .returned (.tuple #[.int .i64 (rdE E i).1, .int .i64 (L + (rdE E i).2)]) ∧ Drawn0 w w' := by
 obtain ⟨g0, g1, g2⟩ := hs.cG
 obtain ⟨ad, eA, hx0, hx1⟩ := at_E hE i i0 i1
 subst eA
 have hw : wrap64 (L + (rdE E i).2) = L + (rdE E i).2 := by unfold wrap64; omega
 obtain ⟨x, hX⟩ : ∃ x, rdE E i = x := ⟨_, rfl⟩
 rw [hX] at hx0 hx1 hw h ⊢
 obtain ⟨x0, x1⟩ := x
 have HS := As.mk hs
 have HE := As.mk hE
 have HH := As.mk h
 clear hX hs hE h
 go_enter Try.func47, Try.ntmps47
 go_wp2
 go_quiet (fail)
 go_wp2
 refine bodyPost_ret (v := .tuple #[.int .i64 x0, .int .i64 (L + x1)]) (by simp [results, Try.results47, go_sem, hw]) rfl ⟨rfl, nq, rfl⟩
set_option maxHeartbeats 2000000 in
set_option maxRecDepth 100000 in
theorem missing_calls (w : World) (v : Int) (k : Nat) (a : Int) (hs : St n m e gb pa ra po ro pe rb L R A cp T O w) (v0 : 0 ≤ v) (v1 : v < n) (hm : m ≤ 1000000) (h : missF m (T v) k 0 = some a) :
  Calls Try.prog 48 #[.int .i64 v, .pointer (some ⟨pa, 0, none⟩)] w fun x w' => x = .returned (.int .i64 a) ∧ Drawn0 w w' := by
 have hA := hs.cA
 have hR := hs.cR v v0 v1
 have HS := As.mk hs
 have H := As.mk h
 clear hs h
 go_enter Try.func48, Try.ntmps48
 go_wp2_with fail
 go_loopg [4] k (fun kq v4 wr => ∃ c : Int, v4 = .int .i64 c ∧ As (0 ≤ c ∧ missF m (T v) kq c = some a) ∧ As (Drawn0 w wr))
 case atStart => exact ⟨0, rfl, ⟨by omega, H.out⟩, ⟨Drawn0.refl _⟩⟩
 case round =>
  clear H
  obtain ⟨c, rfl, HA, HD⟩ := hrel
  have c0 : 0 ≤ c := HA.out.1
  cases gk with
  | zero => exact absurd HA.out.2 (by simp [missF])
  | succ k1 =>
   have H := HA.out.2
   clear HA
   simp only [missF] at H
   by_cases c1 : c < m
   ·rw [if_pos c1] at H
    obtain ⟨nd, hnd⟩ := HD.out
    subst hnd
    have hT := HS.out.cT v c v0 v1 c0 c1
    by_cases ht : 0 ≤ T v c
    ·rw [if_pos ht] at H
     have HH := As.mk H
     clear H
     go_wp2
     go_roundg k1
     case measure => omega
     case rel => exact ⟨c + 1, by go_num, ⟨by omega, HH.out⟩, ⟨nd, rfl⟩⟩
    ·rw [if_neg ht] at H
     obtain rfl := Option.some.inj H
     go_wp2
     refine bodyPost_ret (v := .int .i64 c) (by simp [results, Try.results48, go_sem]) rfl ⟨rfl, nd, rfl⟩
   ·rw [if_neg c1] at H
    exact absurd H (by simp)
end
end Go.Proofs.Ytlleokhmgblfnaa.H
end

section
namespace Go.Proofs.Ytlleokhmgblfnaa.H
open Go.RowKit Go.Proofs.YtlleokhmgblfnaaW.PrintWords
attribute [local go_sem] eqE
def eX (E : List (Int × Int)) (j : Int) : Int := (rdE E j).1
def eY (L : Int) (E : List (Int × Int)) (j : Int) : Int := L + (rdE E j).2
def EndsOK (L : Int) (n e : Nat) (E : List (Int × Int)) : Prop := 0 ≤ L ∧ L ≤ 1024 ∧ n ≤ 2048 ∧ ∀ j : Int, 0 ≤ j → j < e → 0 ≤ eX E j ∧ eX E j < L ∧ L ≤ eY L E j ∧ eY L E j < n ∧ (rdE E j).2 ≤ 1024
section
variable {B n m e gb pa ra po ro pe : Nat} {rb : Int → Nat} {L R : Int} {A : Option Addr} {cp : Nat} {T : Tab} {O : Int → Int}
theorem ends_at (E : List (Int × Int)) (w : World) (i : Int) (hs : St n m e gb pa ra po ro pe rb L R A cp T O w) (hE : kE.C w A e E) (i0 : 0 ≤ i) (i1 : i < e) (h : EndsOK L n e E) :
  Calls Try.prog 47 #[.int .i64 i, .pointer (some ⟨gb, 0, none⟩)] w fun x w' => x = .returned (.tuple #[.int .i64 (eX E i), .int .i64 (eY L E i)]) ∧ Drawn0 w w' := by
 obtain ⟨h1, h2, h3, h4⟩ := h
 have := h4 i i0 i1
 unfold eY at this
 exact ends_calls E w i hs hE i0 i1 ⟨h1, h2, by omega, this.2.2.2.2⟩
theorem St.grown {w wr w1 : World} {row : Option Nat} {T' : Tab} {O' : Int → Int} (h0 : St n m e gb pa ra po ro pe rb L R A cp T' O' w) (h : St n m e gb pa ra po ro pe rb L R A cp T O wr) (hw : w.heap.size ≤ wr.heap.size) (hg : wr.grownBy w1 row) (hr : ∀ k, row = some k → w.heap.size ≤ k) : St n m e gb pa ra po ro pe rb L R A cp T O w1 := by
 have key : ∀ g, g < w.heap.size → w1.heap[g]? = wr.heap[g]? := fun g hgl => hg.block g (by omega) (fun e => by have := hr g e.symm; omega)
 exact ⟨(key _ (blk_lt h0.g)).trans h.g, (key _ (blk_lt h0.at_)).trans h.at_, h.rows.of_block (key _ h0.rows.lt), fun v x y => (h.row v x y).of_block (key _ (h0.row v x y).lt), (key _ (blk_lt h0.out)).trans h.out, h.orow.of_block (key _ h0.orow.lt), (key _ (blk_lt h0.ends)).trans h.ends⟩
set_option maxHeartbeats 4000000 in
set_option maxRecDepth 100000 in
theorem flip_calls (w0 : World) (E : List (Int × Int)) (w : World) (u a b : Int) (k : Nat) (r : Tab × (Int → Int)) (l : Lay w0.heap.size n gb pa ra po ro pe rb)
  (hs : St n m e gb pa ra po ro pe rb L R A cp T O w) (hE : kE.C w0 A e E) (hw : Below w0.heap.size w0 w) (hok : EndsOK L n e E) (hm : m ≤ 1000000) (he : e ≤ 1000000)
  (a0 : 0 ≤ a ∧ a < m ∧ 0 ≤ b ∧ b < m) (h : flipF n m e (eX E) (eY L E) k T O u a b = some r) :
  Calls Try.prog 49 #[.int .i64 u, .int .i64 a, .int .i64 b, .pointer (some ⟨pa, 0, none⟩), .pointer (some ⟨pe, 0, none⟩), .pointer (some ⟨po, 0, none⟩)] w
   fun x w' => x = .returned (.tuple #[]) ∧ St n m e gb pa ra po ro pe rb L R A cp r.1 r.2 w' ∧ Below w0.heap.size w0 w' := by
 unfold flipF at h
 obtain ⟨P, hP, h⟩ := Option.bind_eq_some_iff.1 h
 obtain ⟨T1, hT1, hr⟩ := Option.bind_eq_some_iff.1 h
 clear h
 have LL := As.mk l
 have HS0 := As.mk hs
 have HE := As.mk hE
 have HW0 := As.mk hw
 have OK := As.mk hok
 have HP := As.mk hP
 have HT1 := As.mk hT1
 have HR := As.mk hr
 obtain ⟨a1, a2, b1, b2⟩ := a0
 clear hs hE hw hok hP hT1 hr l
 go_enter Try.func49, Try.ntmps49
 go_wp2_with fail
 go_loopg [0, 9, 10] k (fun kq v0 v9 v10 wr => ∃ (u c : Int) (p : List Int), v0 = .int .i64 u ∧ v10 = .int .i64 c ∧ As (pathF n m e (eX E) (eY L E) (a + b) T kq u c p = some P) ∧ As (St n m e gb pa ra po ro pe rb L R A cp T O wr ∧ Below w0.heap.size w0 wr ∧ w.heap.size ≤ wr.heap.size) ∧ As (Kd.Q (Kd.int .i64) 3 wr w.heap.size (fun _ => True) v9 p))
 case atStart => exact ⟨u, a, [], rfl, rfl, HP, ⟨HS0.out, HW0.out, Nat.le_refl _⟩, ⟨Kd.Q_nil _ _ _ _ _⟩⟩
 case round =>
  clear HP
  obtain ⟨u, c, p, rfl, rfl, HA, HW, HQ⟩ := hrel
  cases gk with
  | zero => exact absurd HA.out (by simp [pathF])
  | succ k1 =>
   have H := HA.out
   clear HA
   simp only [pathF] at H
   by_cases h1 : 0 ≤ u ∧ u < n ∧ 0 ≤ c ∧ c < m
   ·rw [if_pos h1] at H
    obtain ⟨u0, u1, c0, c1⟩ := h1
    have cA := HW.out.1.cA
    have cR := HW.out.1.cR u u0 u1
    have cT := HW.out.1.cT u c u0 u1 c0 c1
    obtain ⟨rv, hrv⟩ : ∃ rv, rb u = rv := ⟨_, rfl⟩
    rw [hrv] at cR cT
    obtain ⟨j, hj⟩ : ∃ j, T u c = j := ⟨_, rfl⟩
    rw [hj] at cT H
    have HJ := As.mk hj
    clear hrv hj
    by_cases j0 : 0 ≤ j
    ·rw [if_pos j0] at H
     by_cases j1 : j < e ∧ p.length < 65536
     ·rw [if_pos j1] at H
      obtain ⟨j1, hp⟩ := j1
      have HH := As.mk H
      clear H
      have hx := OK.out.2.2.2 j j0 j1
      have hl0 := OK.out.1
      have hl1 := OK.out.2.1
      have hn1 := OK.out.2.2.1
      have HX := As.mk hx
      go_wp2_with (first | ((with_reducible refine gate_builtin (b := .append) (xs := #[.tmp 35, .tmp 43]) rfl ?_); at_builtin; refine Kd.Q_append (Kd.int .i64) w.heap.size rfl (.tmp 35) (.tmp 43) 29 3 (.int .i64 0) 8 rfl Try.underlying29 info3 rfl (by decide) (by omega) u9 p j [.int .i64 j] (fun _ => True) (fun _ => False) rfl rfl ?aP (fun _ hk => hk.elim) (fun _ _ => trivial) HQ.out (Below.refl _ _) ?aS ?aL ?_; (case aP => exact rfl); (case aS => exact HW.out.2.2); (case aL => omega); intro v1 w1 ho hb hg hat; have HQ1 := As.mk ho; have HS1 : As (St n m e gb pa ra po ro pe rb L R A cp T O w1) := ⟨St.grown HS0.out HW.out.1 HW.out.2.2 hg (Kd.Q_base HQ.out)⟩; have HB1 : As (Below w0.heap.size w0 w1) := ⟨pw_below_grown HW.out.2.1 _ HW.out.2.1.size hg (fun k hk => Nat.le_trans HW0.out.size (Kd.Q_base HQ.out k hk))⟩; have HZ1 : As (w.heap.size ≤ w1.heap.size) := ⟨Nat.le_trans HW.out.2.2 hg.size⟩; clear ho hb hg hat cA cR cT HW))
      have cA := HS1.out.cA
      have cR := HS1.out.cR u u0 u1
      have cT := HS1.out.cT u c u0 u1 c0 c1
      have cE := HS1.out.cE
      rw [HJ.out] at cT
      go_quiet (first | (go_at_call 47; refine (ends_at E _ j (HS1.out.drewN _) (Kd.C_below HE.out (pw_below_drewN HB1.out _)) j0 j1 OK.out).mono ?_; rintro x w' ⟨rfl, ⟨nd, rfl⟩⟩; exact ⟨rfl, _, World.drewN_drewN _ _ _⟩))
      go_wp2
      go_roundg k1
      case measure => omega
      case rel => exact ⟨_, _, _, by go_num, by go_num, ⟨HH.out⟩, ⟨HS1.out.drewN _, pw_below_drewN HB1.out _, HZ1.out⟩, ⟨Kd.Q_drewN HQ1.out _⟩⟩
     ·rw [if_neg j1] at H
      exact absurd H (by simp)
    ·rw [if_neg j0] at H
     obtain rfl := Option.some.inj H
     clear H
     obtain ⟨A9, c9, rfl, hc9⟩ := Kd.Q_slice HQ.out
     go_wp2_with fail
     have hmp := Kd.C_max (Kd.Q_reads' HQ.out).2.2
     clear cA cR cT HJ
     go_loopg [64] (p.length + 1) (fun kq v64 wr => ∃ (i : Int) (T' : Tab), v64 = .int .i64 i ∧ As (0 ≤ i ∧ i ≤ p.length ∧ (p.length : Int) < i + kq ∧ clearF m e (eX E) (eY L E) O (p.drop i.toNat) T' = some T1) ∧ As (St n m e gb pa ra po ro pe rb L R A cp T' O wr ∧ Below w0.heap.size w0 wr ∧ w.heap.size ≤ wr.heap.size) ∧ As (Kd.Q (Kd.int .i64) 3 wr w.heap.size (fun _ => True) (.slice A9 p.length c9) p))
     case atStart => exact ⟨0, T, rfl, ⟨by omega, by omega, by omega, by simpa using HT1.out⟩, HW, HQ⟩
     case round =>
      clear HW HQ HT1
      obtain ⟨i, T', rfl, HA, HW, HQ⟩ := hrel
      have i0 : 0 ≤ i := HA.out.1
      by_cases hlt : i < p.length
      ·obtain ⟨ad9, e9, hx9⟩ := Kd.at_int (Kd.Q_reads' HQ.out).2.2 i i0 hlt
       subst e9
       have hdr : p.drop i.toNat = rd p i :: p.drop (i + 1).toNat := by
        rw [show (i + 1).toNat = i.toNat + 1 by omega, List.drop_eq_getElem_cons (by omega)]
        unfold rd
        rw [List.getD_eq_getElem?_getD, List.getElem?_eq_getElem (by omega)]
        rfl
       have H := HA.out.2.2.2
       rw [hdr] at H
       obtain ⟨j, hj⟩ : ∃ j, rd p i = j := ⟨_, rfl⟩
       rw [hj] at hx9 H
       clear hdr hj
       unfold clearF at H
       by_cases h2 : 0 ≤ j ∧ j < e ∧ 0 ≤ O j ∧ O j < m
       ·rw [if_pos h2] at H
        obtain ⟨j0, j1, o0, o1⟩ := h2
        have HH := As.mk H
        clear H
        have hx := OK.out.2.2.2 j j0 j1
        obtain ⟨x, hxx⟩ : ∃ x, eX E j = x := ⟨_, rfl⟩
        obtain ⟨y, hyy⟩ : ∃ y, eY L E j = y := ⟨_, rfl⟩
        obtain ⟨o, hoo⟩ : ∃ o, O j = o := ⟨_, rfl⟩
        have hends := ends_at E wr j HW.out.1 (Kd.C_below HE.out HW.out.2.1) j0 j1 OK.out
        have cOut := HW.out.1.cOut j j0 j1
        rw [hxx, hyy] at hx hends
        rw [hoo] at o0 o1 cOut
        have H1 : As (clearF m e (eX E) (eY L E) O (p.drop (i + 1).toNat) (upd (upd T' x o (-1)) y o (-1)) = some T1) := ⟨by rw [← hxx, ← hyy, ← hoo]; exact HH.out⟩
        clear HH hxx hyy hoo
        have x0 : 0 ≤ x := hx.1
        have x1 : x < n := by omega
        have y0 : 0 ≤ y := by omega
        have y1 : y < n := hx.2.2.2.1
        have xy : x ≠ y := by omega
        have cA := HW.out.1.cA
        have cO := HW.out.1.cO
        have cE := HW.out.1.cE
        have cX := HW.out.1.cR x x0 x1
        have cY := HW.out.1.cR y y0 y1
        have tX := HW.out.1.cT x o x0 x1 o0 o1
        have tY := HW.out.1.cT y o y0 y1 o0 o1
        have fX := HW.out.1.fT x o x0 x1
        have fY := HW.out.1.fT y o y0 y1
        have nxy : rb x ≠ rb y := fun h => xy (LL.out.dd x y x0 x1 y0 y1 h)
        have nyx := nxy.symm
        have HX := As.mk hx
        have HXY := As.mk xy
        have HC := As.mk hends
        clear hx hends xy
        go_wp2_with (go_at_call 47; refine HC.out.mono ?_; rintro x w' ⟨rfl, ⟨nd, rfl⟩⟩)
        go_region
        all_goals go_wp2
        go_roundg (gk - 1)
        case measure => have := HA.out.2.2.1; omega
        case rel => exact ⟨i + 1, _, by go_num, ⟨by omega, by omega, by have := HA.out.2.2.1; omega, H1.out⟩, ⟨((HW.out.1.drewN _).put LL.out x o (-1) x0 x1 o0).put LL.out y o (-1) y0 y1 o0, below_set (below_set (pw_below_drewN HW.out.2.1 _) (LL.out.bb.2 x x0 x1)) (LL.out.bb.2 y y0 y1), by simpa using HW.out.2.2⟩, ⟨Q_put (Q_put (Kd.Q_drewN HQ.out _) (HS0.out.row x x0 x1).lt _ _) (HS0.out.row y y0 y1).lt _ _⟩⟩
       ·rw [if_neg h2] at H
        exact absurd H (by simp)
      ·have hie : p.drop i.toNat = [] := List.drop_eq_nil_of_le (by omega)
       have H := HA.out.2.2.2
       rw [hie] at H
       obtain rfl := Option.some.inj (show some T' = some T1 from H)
       clear H hie HA
       go_wp2_with fail
       go_loopg [95] (p.length + 1) (fun kq v95 wr => ∃ (i : Int) (T1 : Tab) (O' : Int → Int), v95 = .int .i64 i ∧ As (0 ≤ i ∧ i ≤ p.length ∧ (p.length : Int) < i + kq ∧ setF m e (eX E) (eY L E) (a + b) (p.drop i.toNat) T1 O' = some r) ∧ As (St n m e gb pa ra po ro pe rb L R A cp T1 O' wr ∧ Below w0.heap.size w0 wr ∧ w.heap.size ≤ wr.heap.size) ∧ As (Kd.Q (Kd.int .i64) 3 wr w.heap.size (fun _ => True) (.slice A9 p.length c9) p))
       case atStart => exact ⟨0, T', O, rfl, ⟨by omega, by omega, by omega, by simpa using HR.out⟩, HW, HQ⟩
       case round =>
        clear HW HQ HR
        obtain ⟨i, T1, O', rfl, HA, HW, HQ⟩ := hrel
        have i0 : 0 ≤ i := HA.out.1
        by_cases hlt : i < p.length
        ·obtain ⟨ad9, e9, hx9⟩ := Kd.at_int (Kd.Q_reads' HQ.out).2.2 i i0 hlt
         subst e9
         have hdr : p.drop i.toNat = rd p i :: p.drop (i + 1).toNat := by
          rw [show (i + 1).toNat = i.toNat + 1 by omega, List.drop_eq_getElem_cons (by omega)]
          unfold rd
          rw [List.getD_eq_getElem?_getD, List.getElem?_eq_getElem (by omega)]
          rfl
         have H := HA.out.2.2.2
         rw [hdr] at H
         obtain ⟨j, hj⟩ : ∃ j, rd p i = j := ⟨_, rfl⟩
         rw [hj] at hx9 H
         clear hdr hj
         unfold setF at H
         by_cases h2 : 0 ≤ j ∧ j < e ∧ 0 ≤ O' j ∧ O' j < m ∧ 0 ≤ a + b - O' j ∧ a + b - O' j < m
         ·rw [if_pos h2] at H
          obtain ⟨j0, j1, q0, q1, o0, o1⟩ := h2
          have HH := As.mk H
          clear H
          have hx := OK.out.2.2.2 j j0 j1
          obtain ⟨x, hxx⟩ : ∃ x, eX E j = x := ⟨_, rfl⟩
          obtain ⟨y, hyy⟩ : ∃ y, eY L E j = y := ⟨_, rfl⟩
          obtain ⟨q, hqq⟩ : ∃ q, O' j = q := ⟨_, rfl⟩
          obtain ⟨o, hoo⟩ : ∃ o, a + b - q = o := ⟨_, rfl⟩
          have hends := ends_at E wr j HW.out.1 (Kd.C_below HE.out HW.out.2.1) j0 j1 OK.out
          have cOut := HW.out.1.cOut j j0 j1
          have fOut := HW.out.1.fO j
          rw [hxx, hyy] at hx hends
          rw [hqq] at q0 q1 o0 o1 cOut
          rw [hoo] at o0 o1
          have hw1 : wrap64 (wrap64 (a + b) - q) = o := by
           rw [show wrap64 (a + b) = a + b by unfold wrap64; omega, hoo]
           unfold wrap64; omega
          have H1 : As (setF m e (eX E) (eY L E) (a + b) (p.drop (i + 1).toNat) (upd (upd T1 x o j) y o j) (updO O' j o) = some r) := ⟨by rw [← hxx, ← hyy, ← hoo, ← hqq]; exact HH.out⟩
          clear HH hxx hyy hqq
          have x0 : 0 ≤ x := hx.1
          have x1 : x < n := by omega
          have y0 : 0 ≤ y := by omega
          have y1 : y < n := hx.2.2.2.1
          have xy : x ≠ y := by omega
          have cO := HW.out.1.cO
          have cE := HW.out.1.cE
          have HX := As.mk hx
          have HOO := As.mk hoo
          have HC := As.mk hends
          clear hx hends hoo
          go_wp2_with (go_at_call 47; refine HC.out.mono ?_; rintro x w' ⟨rfl, ⟨nd, rfl⟩⟩)
          go_region
          clear cO cE cOut fOut
          have HS2 : As (St n m e gb pa ra po ro pe rb L R A cp T1 (updO O' j o) ((wr.drewN (nd + 1)).setCell ⟨ro, j.toNat, none⟩ (.int .i64 (a + b - q)))) := ⟨by rw [HOO.out]; exact (HW.out.1.drewN _).putO LL.out j o j0⟩
          have HB2 : As (Below w0.heap.size w0 ((wr.drewN (nd + 1)).setCell ⟨ro, j.toNat, none⟩ (.int .i64 (a + b - q)))) := ⟨below_set (pw_below_drewN HW.out.2.1 _) LL.out.bb.1⟩
          have HZ2 : As (w.heap.size ≤ ((wr.drewN (nd + 1)).setCell ⟨ro, j.toNat, none⟩ (.int .i64 (a + b - q))).heap.size) := ⟨by simpa using HW.out.2.2⟩
          have HQ2 : As (Kd.Q (Kd.int .i64) 3 ((wr.drewN (nd + 1)).setCell ⟨ro, j.toNat, none⟩ (.int .i64 (a + b - q))) w.heap.size (fun _ => True) (.slice (some ad9) p.length c9) p) := ⟨Q_put (Kd.Q_drewN HQ.out _) HS0.out.orow.lt _ _⟩
          generalize (wr.drewN (nd + 1)).setCell ⟨ro, j.toNat, none⟩ (.int .i64 (a + b - q)) = w2 at *
          have cO := HS2.out.cO
          have cOut : w2.cell? ⟨ro, j.toNat, none⟩ = some (.int .i64 o) := by
           have := HS2.out.cOut j j0 j1
           rw [this]; unfold updO; rw [if_pos rfl]
          have cA := HS2.out.cA
          have cX := HS2.out.cR x x0 x1
          have cY := HS2.out.cR y y0 y1
          have tX := HS2.out.cT x o x0 x1 o0 o1
          have tY := HS2.out.cT y o y0 y1 o0 o1
          have fX := HS2.out.fT x o x0 x1
          have fY := HS2.out.fT y o y0 y1
          have nxy : rb x ≠ rb y := fun h => xy (LL.out.dd x y x0 x1 y0 y1 h)
          have nyx := nxy.symm
          clear HQ HW hw1 xy hx9
          go_wp2
          go_region
          all_goals go_wp2
          go_roundg (gk - 1)
          case measure => have := HA.out.2.2.1; omega
          case rel => exact ⟨i + 1, _, _, by go_num, ⟨by omega, by omega, by have := HA.out.2.2.1; omega, H1.out⟩, ⟨((HS2.out.drewN _).put LL.out x o j x0 x1 o0).put LL.out y o j y0 y1 o0, below_set (below_set (pw_below_drewN HB2.out _) (LL.out.bb.2 x x0 x1)) (LL.out.bb.2 y y0 y1), by simpa using HZ2.out⟩, ⟨Q_put (Q_put (Kd.Q_drewN HQ2.out _) (HS0.out.row x x0 x1).lt _ _) (HS0.out.row y y0 y1).lt _ _⟩⟩
         ·rw [if_neg h2] at H
          exact absurd H (by simp)
        ·have hie : p.drop i.toNat = [] := List.drop_eq_nil_of_le (by omega)
         have H := HA.out.2.2.2
         rw [hie] at H
         obtain rfl := Option.some.inj (show some (T1, O') = some r from H)
         go_wp2
         go_end0
         exact ⟨rfl, HW.out.1, HW.out.2.1⟩
   ·rw [if_neg h1] at H
    exact absurd H (by simp)
end
end Go.Proofs.Ytlleokhmgblfnaa.H
end

section
namespace Go.Proofs.Ytlleokhmgblfnaa.H
def degS : List Int → (Int → Int) → Int → (Int → Int) × Int
 | [], D, mo => (D, mo)
 | v :: vs, D, mo => degS vs (updO D v (D v + 1)) (if mo < D v + 1 then D v + 1 else mo)
def degF (L : Int) : List (Int × Int) → (Int → Int) → Int → Int
 | [], _, mo => mo
 | x :: E, D, mo => degF L E (degS [x.1, L + x.2] D mo).1 (degS [x.1, L + x.2] D mo).2
end Go.Proofs.Ytlleokhmgblfnaa.H
end

section
namespace Go.Proofs.Ytlleokhmgblfnaa.H
open Go.Maps
theorem plainElem_bool_inv {P : Program} {e : TypeId} (he : P.underlying e = some .bool) {v : Value} {x : Bool} {ps : List MemPlace} (h : plainElem (H := Unit) P e v = some (.lit (.bool x), ps)) : v = .bool x := by
 cases v <;> simp_all [plainElem]
def SetMap {α : Type} (enc : α → Value) (w : World) (k : TypeId) (b n : Nat) (S : α → Bool) : Prop :=
 ∃ D : DataW Unit, w.ownsMap Try.prog k (plainElem Try.prog 4) b n D ∧ ∀ key kl, keyOf Try.prog k (enc key) = some kl → D.atKey kl (.lit (.bool false)) = .lit (.bool (S key))
theorem zeroB (w : World) : (zeroValue 4).run Try.prog w = .ok (.bool false) w := by kernel_rfl
theorem SetMap.made {α : Type} (enc : α → Value) (w : World) (k : TypeId) : SetMap enc (w.alloc (.map #[] 0)) k w.heap.size 0 (fun _ => false) :=
 ⟨.map [], World.ownsMap_made _ _ _ _, fun key kl _ => rfl⟩
theorem SetMap.look {w : World} {k t : TypeId} {b n : Nat} {α : Type} {enc : α → Value} {S : α → Bool} (h : SetMap enc w k b n S) (K : Keyed Try.prog k) (ht : Try.prog.underlying t = some (.map k 4)) {key : α} {kl : Lit} (hk : keyOf Try.prog k (enc key) = some kl) :
  (Instr.lookup t (.map (some b)) (enc key) false).run Try.prog w = .ok (.bool (S key)) w := by
 obtain ⟨D, hD, hS⟩ := h
 obtain ⟨v, ps, hr, hv⟩ := hD.lookup K ht (zeroB w) (plainElem_bool Try.underlying4 false) hk
 rw [hS key kl hk] at hv
 rw [hr, plainElem_bool_inv Try.underlying4 hv]
theorem SetMap.store {w : World} {k t : TypeId} {b n : Nat} {α : Type} [DecidableEq α] {enc : α → Value} {S : α → Bool} (inj : ∀ x y, enc x = enc y → x = y) (h : SetMap enc w k b n S) (K : Keyed Try.prog k) (ht : Try.prog.underlying t = some (.map k 4)) (hn : n < maxLen) {key : α} {kl : Lit} (hk : keyOf Try.prog k (enc key) = some kl) :
  ∃ w', (Instr.mapUpdate t (.map (some b)) (enc key) (.bool true)).run Try.prog w = .ok () w' ∧ SetMap enc w' k b (n + 1) (fun x => S x || decide (x = key)) ∧ w.grownBy w' (some b) := by
 obtain ⟨D, hD, hS⟩ := h
 obtain ⟨w', hr, h1, h2⟩ := hD.update K ht hn hk (plainElem_bool Try.underlying4 true)
 refine ⟨w', hr, ⟨_, h1, fun x xl hx => ?_⟩, h2⟩
 by_cases e : x = key
 ·subst e
  have : xl = kl := by rw [hk] at hx; exact (Option.some.inj hx).symm
  subst this
  rw [atKey_put_same hD.isMap (K.key hk)]
  simp
 ·have ne : xl ≠ kl := fun e2 => by subst e2; exact e (inj _ _ (K.inj hx hk))
  rw [atKey_put_other ne, hS x xl hx]
  simp [e]
theorem SetMap.mono {w : World} {k : TypeId} {b n n' : Nat} {α : Type} {enc : α → Value} {S : α → Bool} (h : SetMap enc w k b n S) (hn : n ≤ n') : SetMap enc w k b n' S := by
 obtain ⟨D, h1, h2⟩ := h
 exact ⟨D, h1.mono hn, h2⟩
theorem SetMap.kept {w w' : World} {k : TypeId} {b n : Nat} {α : Type} {enc : α → Value} {S : α → Bool} {row : Option Nat} (h : SetMap enc w k b n S) (hg : w.grownBy w' row) (hne : some b ≠ row) : SetMap enc w' k b n S := by
 obtain ⟨D, h1, h2⟩ := h
 exact ⟨D, h1.kept hg hne, h2⟩
theorem SetMap.alloc {w : World} {k : TypeId} {b n : Nat} {α : Type} {enc : α → Value} {S : α → Bool} (h : SetMap enc w k b n S) (o : Obj) : SetMap enc (w.alloc o) k b n S := by
 obtain ⟨D, h1, h2⟩ := h
 exact ⟨D, h1.alloc o, h2⟩
theorem SetMap.drew {w : World} {k : TypeId} {b n : Nat} {α : Type} {enc : α → Value} {S : α → Bool} (h : SetMap enc w k b n S) : SetMap enc w.drew k b n S := by
 obtain ⟨D, h1, h2⟩ := h
 exact ⟨D, h1.drew, h2⟩
theorem SetMap.setCell {w : World} {k : TypeId} {b n : Nat} {α : Type} {enc : α → Value} {S : α → Bool} (h : SetMap enc w k b n S) {a : Addr} (ha : b ≠ a.block) (u : Value) : SetMap enc (w.setCell a u) k b n S := by
 obtain ⟨D, h1, h2⟩ := h
 exact ⟨D, h1.setCell ha u, h2⟩
theorem keyed3 : Keyed Try.prog 3 := int_keyed Try.underlying3
theorem keyed40 : Keyed Try.prog 40 := Keyed.of_law (deep_law_gate (by kernel_rfl) (by decide +kernel) (by decide +kernel) (by kernel_rfl) (by rw [Try.underlying40]))
theorem key3 {x : Int} (h : (Lit.int .i64 x).wf = true) : keyOf Try.prog 3 (.int .i64 x) = some (.int .i64 x) := keyOf_int_mk Try.underlying3 h
theorem kt40 : Try.prog.keyType 40 = true := by decide +kernel
theorem ce40 : Try.prog.cellsOf 40 = 2 := by kernel_rfl
theorem ce3 : Try.prog.cellsOf 3 = 1 := by kernel_rfl
def encP (x : Int × Int) : Value := .agg #[.int .i64 x.1, .int .i64 x.2]
theorem encP_inj (x y : Int × Int) (h : encP x = encP y) : x = y := by
 simp [encP] at h
 exact Prod.ext h.1 h.2
def encI (x : Int) : Value := .int .i64 x
theorem encI_inj (x y : Int) (h : encI x = encI y) : x = y := by simpa [encI] using h
theorem lits3 (m : Nat) {a : Int} (ha : (Lit.int .i64 a).wf = true) : Try.prog.keyLits (m + 1) 3 [.int .i64 a] = some [.int .i64 a] := by
 unfold Program.keyLits
 rw [Try.underlying3]
 simp [ha]
theorem key40 {x : Int × Int} (ha : (Lit.int .i64 x.1).wf = true) (hb : (Lit.int .i64 x.2).wf = true) : ∃ kl, keyOf Try.prog 40 (encP x) = some kl := by
 obtain ⟨m, hm⟩ : ∃ m, Try.prog.types.size = m + 1 := ⟨Try.prog.types.size - 1, by decide +kernel⟩
 unfold keyOf encP
 rw [Try.underlying40]
 simp only [kt40, Value.formed, Try.underlying40, ce40, hm]
 unfold Program.keyLits
 rw [Try.underlying40]
 simp [ce40, ce3, Value.cells, List.range, List.range.loop, lits3 m ha, lits3 m hb]
end Go.Proofs.Ytlleokhmgblfnaa.H
end
