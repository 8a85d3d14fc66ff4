-- Written by a program of this session (a widened copy of the kit's printer) out of the translation.
import Derived.Test.YtlleokhmgblfnaaMx0
import Derived.Test.YtlleokhmgblfnaaMx1
import Derived.Test.YtlleokhmgblfnaaMx2
import Derived.Test.YtlleokhmgblfnaaMx6
import Derived.Test.YtlleokhmgblfnaaMx9
import Derived.Test.YtlleokhmgblfnaaEAwake
namespace Go.Proofs.Ytlleokhmgblfnaa.M
open Go.RowKit Go.Proofs.YtlleokhmgblfnaaW.PrintWords Go.Proofs.YtlleokhmgblfnaaW.PrintLast Go.Proofs.YtlleokhmgblfnaaW.PrintMore
attribute [local go_sem] max2_int min2_int max_two min_two max_three min_three max_four min_four   -- for this text's walks alone
set_option linter.unusedVariables false
set_option linter.unusedSimpArgs false

attribute [local go_sem high] eqA40
/-! ### toruslaw30_MatchEdges: function 4 -/
mutual
def toruslaw30_MatchEdges.j0 : Nat → Int → Int → Bool → Int → Int → List (S40) → Option (Bool)
  | 0, _, _, _, _, _, _ => none
  | k + 1, x1, x2, x23, x288000, x288001, x288002 => if x23 = true then ((toruslaw30_awake.f).bind fun t288 => (some t288)) else (if x288000 = 0 then (none) else (if x288001 = 0 then (none) else (toruslaw30_MatchEdges.l0 k false x288002 (x288002.length : Int) 0 x288000 x288001 x288002 (Int.tmod (wrap64 (x1)) x288000) (Int.tmod (wrap64 (x2)) x288001) x288000 x288001 ([] : List (S40)))))
def toruslaw30_MatchEdges.l0 : Nat → Bool → List (S40) → Int → Int → Int → Int → List (S40) → Int → Int → Int → Int → List (S40) → Option (Bool)
  | 0, _, _, _, _, _, _, _, _, _, _, _, _ => none
  | k + 1, x10, x42, x43, x44, x288000, x288001, x288002, x290000, x290001, x291000, x291001, x291002 => if x44 < x43 then (if 0 ≤ x44 then (if x44 < (x42.length : Int) then (if x10 = true then (toruslaw30_MatchEdges.j2 k x10 x42 x43 x44 false x288000 x288001 x288002 x290000 x290001 x291000 x291001 x291002 ((rd_T40 x42 x44).f0) ((rd_T40 x42 x44).f1)) else (if ((rd_T40 x42 x44).f0) > x290000 then (toruslaw30_MatchEdges.j2 k x10 x42 x43 x44 true x288000 x288001 x288002 x290000 x290001 x291000 x291001 x291002 ((rd_T40 x42 x44).f0) ((rd_T40 x42 x44).f1)) else (if ((rd_T40 x42 x44).f0) = x290000 then (toruslaw30_MatchEdges.j2 k x10 x42 x43 x44 (decide (((rd_T40 x42 x44).f1) ≥ x290001)) x288000 x288001 x288002 x290000 x290001 x291000 x291001 x291002 ((rd_T40 x42 x44).f0) ((rd_T40 x42 x44).f1)) else (toruslaw30_MatchEdges.j2 k x10 x42 x43 x44 false x288000 x288001 x288002 x290000 x290001 x291000 x291001 x291002 ((rd_T40 x42 x44).f0) ((rd_T40 x42 x44).f1))))) else (none)) else (none)) else (if x10 = true then (toruslaw30_MatchEdges.j3 k x288000 x288001 x288002 x290000 x290001 x291000 x291001 x291002) else (if x291002.length < 8796093022208 then (toruslaw30_MatchEdges.j3 k x288000 x288001 x288002 x290000 x290001 x291000 x291001 (x291002 ++ [(⟨x290000, x290001⟩ : S40)])) else (none)))
def toruslaw30_MatchEdges.j2 : Nat → Bool → List (S40) → Int → Int → Bool → Int → Int → List (S40) → Int → Int → Int → Int → List (S40) → Int → Int → Option (Bool)
  | 0, _, _, _, _, _, _, _, _, _, _, _, _, _, _, _ => none
  | k + 1, x10, x42, x43, x44, x70, x288000, x288001, x288002, x290000, x290001, x291000, x291001, x291002, x293000, x293001 => if x70 = true then (if (!(x293000 == x290000) || (!(x293001 == x290001))) = true then (if x291002.length < 8796093022208 then ((some (x291002 ++ [(⟨x290000, x290001⟩ : S40)] : List (S40))).bind fun y293 => (if y293.length < 8796093022208 then (toruslaw30_MatchEdges.l0 k true x42 x43 (wrap64 (x44 + 1)) x288000 x288001 x288002 x290000 x290001 x291000 x291001 (y293 ++ [(⟨x293000, x293001⟩ : S40)])) else (none))) else (none)) else (if x291002.length < 8796093022208 then (toruslaw30_MatchEdges.l0 k true x42 x43 (wrap64 (x44 + 1)) x288000 x288001 x288002 x290000 x290001 x291000 x291001 (x291002 ++ [(⟨x293000, x293001⟩ : S40)])) else (none))) else (if x291002.length < 8796093022208 then (toruslaw30_MatchEdges.l0 k x10 x42 x43 (wrap64 (x44 + 1)) x288000 x288001 x288002 x290000 x290001 x291000 x291001 (x291002 ++ [(⟨x293000, x293001⟩ : S40)])) else (none))
def toruslaw30_MatchEdges.j3 : Nat → Int → Int → List (S40) → Int → Int → Int → Int → List (S40) → Option (Bool)
  | 0, _, _, _, _, _, _, _, _ => none
  | k + 1, x288000, x288001, x288002, x290000, x290001, x291000, x291001, x291002 => (toruslaw30_size.f k x288000 x288001 x288002).bind fun t308 => (if (x291002.length : Int) > (x288002.length : Int) then ((torusref30_Without.f k x288000 x288001 x288002 x290000 x290001).bind fun bt309 => ((toruslaw30_size.f k bt309.1 bt309.2.1 bt309.2.2).bind fun t314 => (toruslaw30_MatchEdges.j4 k t308 (t314 == t308) x291000 x291001 x291002))) else (toruslaw30_MatchEdges.j4 k t308 false x291000 x291001 x291002))
def toruslaw30_MatchEdges.j4 : Nat → Int → Bool → Int → Int → List (S40) → Option (Bool)
  | 0, _, _, _, _, _ => none
  | k + 1, x13, x114, x291000, x291001, x291002 => if x114 = true then ((toruslaw30_size.f k x291000 x291001 x291002).bind fun t315 => (if t315 = (wrap64 (x13 + 1)) then ((toruslaw30_awake.f).bind fun t316 => (some t316)) else (some false))) else ((toruslaw30_size.f k x291000 x291001 x291002).bind fun t317 => (if t317 = x13 then ((toruslaw30_awake.f).bind fun t318 => (some t318)) else (some false)))
end
def toruslaw30_MatchEdges.f (k : Nat) (a0_0 : Int) (a0_1 : Int) (l0_2 : List Int) (a1 : Int) (a2 : Int) : Option (Bool) := (toruslaw30_fit.f k a0_0 a0_1 l0_2).bind fun bt282 => (if bt282.1 = 0 then (toruslaw30_MatchEdges.j0 k a1 a2 true bt282.1 bt282.2.1 bt282.2.2) else (toruslaw30_MatchEdges.j0 k a1 a2 (bt282.2.1 == 0) bt282.1 bt282.2.1 bt282.2.2))
theorem toruslaw30_MatchEdges.mono_l : ∀ k, (∀ y0 y1 y2 y3 y4 y5, LeO (toruslaw30_MatchEdges.j0 k y0 y1 y2 y3 y4 y5) (toruslaw30_MatchEdges.j0 (k + 1) y0 y1 y2 y3 y4 y5)) ∧ (∀ y0 y1 y2 y3 y4 y5 y6 y7 y8 y9 y10 y11, LeO (toruslaw30_MatchEdges.l0 k y0 y1 y2 y3 y4 y5 y6 y7 y8 y9 y10 y11) (toruslaw30_MatchEdges.l0 (k + 1) y0 y1 y2 y3 y4 y5 y6 y7 y8 y9 y10 y11)) ∧ (∀ y0 y1 y2 y3 y4 y5 y6 y7 y8 y9 y10 y11 y12 y13 y14, LeO (toruslaw30_MatchEdges.j2 k y0 y1 y2 y3 y4 y5 y6 y7 y8 y9 y10 y11 y12 y13 y14) (toruslaw30_MatchEdges.j2 (k + 1) y0 y1 y2 y3 y4 y5 y6 y7 y8 y9 y10 y11 y12 y13 y14)) ∧ (∀ y0 y1 y2 y3 y4 y5 y6 y7, LeO (toruslaw30_MatchEdges.j3 k y0 y1 y2 y3 y4 y5 y6 y7) (toruslaw30_MatchEdges.j3 (k + 1) y0 y1 y2 y3 y4 y5 y6 y7)) ∧ (∀ y0 y1 y2 y3 y4, LeO (toruslaw30_MatchEdges.j4 k y0 y1 y2 y3 y4) (toruslaw30_MatchEdges.j4 (k + 1) y0 y1 y2 y3 y4))
  | 0 => ⟨fun _ _ _ _ _ _ r h => by simp [toruslaw30_MatchEdges.j0] at h, fun _ _ _ _ _ _ _ _ _ _ _ _ r h => by simp [toruslaw30_MatchEdges.l0] at h, fun _ _ _ _ _ _ _ _ _ _ _ _ _ _ _ r h => by simp [toruslaw30_MatchEdges.j2] at h, fun _ _ _ _ _ _ _ _ r h => by simp [toruslaw30_MatchEdges.j3] at h, fun _ _ _ _ _ r h => by simp [toruslaw30_MatchEdges.j4] at h⟩
  | k + 1 => by
    obtain ⟨ih0, ih1, ih2, ih3, ih4⟩ := toruslaw30_MatchEdges.mono_l k
    refine ⟨?_, ?_, ?_, ?_, ?_⟩
    · intro y0 y1 y2 y3 y4 y5
      unfold toruslaw30_MatchEdges.j0
      repeat' first
      | (with_reducible exact ih0 _ _ _ _ _ _)
      | (with_reducible exact ih1 _ _ _ _ _ _ _ _ _ _ _ _)
      | (with_reducible exact ih2 _ _ _ _ _ _ _ _ _ _ _ _ _ _ _)
      | (with_reducible exact ih3 _ _ _ _ _ _ _ _)
      | (with_reducible exact ih4 _ _ _ _ _)
      | (with_reducible exact toruslaw30_fit.mono _ _ _ _)
      | (with_reducible exact toruslaw30_size.mono _ _ _ _)
      | (with_reducible exact torusref30_Without.mono _ _ _ _ _ _)
      | (with_reducible exact LeO.refl _)
      | (with_reducible exact LeO.none _)
      | (with_reducible refine LeO.ite ?_ ?_)
      | (with_reducible refine LeO.bind ?_ (fun _ => ?_))
      | exact ih0 _ _ _ _ _ _
      | exact ih1 _ _ _ _ _ _ _ _ _ _ _ _
      | exact ih2 _ _ _ _ _ _ _ _ _ _ _ _ _ _ _
      | exact ih3 _ _ _ _ _ _ _ _
      | exact ih4 _ _ _ _ _
      | exact toruslaw30_fit.mono _ _ _ _
      | exact toruslaw30_size.mono _ _ _ _
      | exact torusref30_Without.mono _ _ _ _ _ _
      | exact LeO.none _
      | refine LeO.ite ?_ ?_
      | refine LeO.bind ?_ (fun _ => ?_)
    · intro y0 y1 y2 y3 y4 y5 y6 y7 y8 y9 y10 y11
      unfold toruslaw30_MatchEdges.l0
      repeat' first
      | (with_reducible exact ih0 _ _ _ _ _ _)
      | (with_reducible exact ih1 _ _ _ _ _ _ _ _ _ _ _ _)
      | (with_reducible exact ih2 _ _ _ _ _ _ _ _ _ _ _ _ _ _ _)
      | (with_reducible exact ih3 _ _ _ _ _ _ _ _)
      | (with_reducible exact ih4 _ _ _ _ _)
      | (with_reducible exact toruslaw30_fit.mono _ _ _ _)
      | (with_reducible exact toruslaw30_size.mono _ _ _ _)
      | (with_reducible exact torusref30_Without.mono _ _ _ _ _ _)
      | (with_reducible exact LeO.refl _)
      | (with_reducible exact LeO.none _)
      | (with_reducible refine LeO.ite ?_ ?_)
      | (with_reducible refine LeO.bind ?_ (fun _ => ?_))
      | exact ih0 _ _ _ _ _ _
      | exact ih1 _ _ _ _ _ _ _ _ _ _ _ _
      | exact ih2 _ _ _ _ _ _ _ _ _ _ _ _ _ _ _
      | exact ih3 _ _ _ _ _ _ _ _
      | exact ih4 _ _ _ _ _
      | exact toruslaw30_fit.mono _ _ _ _
      | exact toruslaw30_size.mono _ _ _ _
      | exact torusref30_Without.mono _ _ _ _ _ _
      | exact LeO.none _
      | refine LeO.ite ?_ ?_
      | refine LeO.bind ?_ (fun _ => ?_)
    · intro y0 y1 y2 y3 y4 y5 y6 y7 y8 y9 y10 y11 y12 y13 y14
      unfold toruslaw30_MatchEdges.j2
      repeat' first
      | (with_reducible exact ih0 _ _ _ _ _ _)
      | (with_reducible exact ih1 _ _ _ _ _ _ _ _ _ _ _ _)
      | (with_reducible exact ih2 _ _ _ _ _ _ _ _ _ _ _ _ _ _ _)
      | (with_reducible exact ih3 _ _ _ _ _ _ _ _)
      | (with_reducible exact ih4 _ _ _ _ _)
      | (with_reducible exact toruslaw30_fit.mono _ _ _ _)
      | (with_reducible exact toruslaw30_size.mono _ _ _ _)
      | (with_reducible exact torusref30_Without.mono _ _ _ _ _ _)
      | (with_reducible exact LeO.refl _)
      | (with_reducible exact LeO.none _)
      | (with_reducible refine LeO.ite ?_ ?_)
      | (with_reducible refine LeO.bind ?_ (fun _ => ?_))
      | exact ih0 _ _ _ _ _ _
      | exact ih1 _ _ _ _ _ _ _ _ _ _ _ _
      | exact ih2 _ _ _ _ _ _ _ _ _ _ _ _ _ _ _
      | exact ih3 _ _ _ _ _ _ _ _
      | exact ih4 _ _ _ _ _
      | exact toruslaw30_fit.mono _ _ _ _
      | exact toruslaw30_size.mono _ _ _ _
      | exact torusref30_Without.mono _ _ _ _ _ _
      | exact LeO.none _
      | refine LeO.ite ?_ ?_
      | refine LeO.bind ?_ (fun _ => ?_)
    · intro y0 y1 y2 y3 y4 y5 y6 y7
      unfold toruslaw30_MatchEdges.j3
      repeat' first
      | (with_reducible exact ih0 _ _ _ _ _ _)
      | (with_reducible exact ih1 _ _ _ _ _ _ _ _ _ _ _ _)
      | (with_reducible exact ih2 _ _ _ _ _ _ _ _ _ _ _ _ _ _ _)
      | (with_reducible exact ih3 _ _ _ _ _ _ _ _)
      | (with_reducible exact ih4 _ _ _ _ _)
      | (with_reducible exact toruslaw30_fit.mono _ _ _ _)
      | (with_reducible exact toruslaw30_size.mono _ _ _ _)
      | (with_reducible exact torusref30_Without.mono _ _ _ _ _ _)
      | (with_reducible exact LeO.refl _)
      | (with_reducible exact LeO.none _)
      | (with_reducible refine LeO.ite ?_ ?_)
      | (with_reducible refine LeO.bind ?_ (fun _ => ?_))
      | exact ih0 _ _ _ _ _ _
      | exact ih1 _ _ _ _ _ _ _ _ _ _ _ _
      | exact ih2 _ _ _ _ _ _ _ _ _ _ _ _ _ _ _
      | exact ih3 _ _ _ _ _ _ _ _
      | exact ih4 _ _ _ _ _
      | exact toruslaw30_fit.mono _ _ _ _
      | exact toruslaw30_size.mono _ _ _ _
      | exact torusref30_Without.mono _ _ _ _ _ _
      | exact LeO.none _
      | refine LeO.ite ?_ ?_
      | refine LeO.bind ?_ (fun _ => ?_)
    · intro y0 y1 y2 y3 y4
      unfold toruslaw30_MatchEdges.j4
      repeat' first
      | (with_reducible exact ih0 _ _ _ _ _ _)
      | (with_reducible exact ih1 _ _ _ _ _ _ _ _ _ _ _ _)
      | (with_reducible exact ih2 _ _ _ _ _ _ _ _ _ _ _ _ _ _ _)
      | (with_reducible exact ih3 _ _ _ _ _ _ _ _)
      | (with_reducible exact ih4 _ _ _ _ _)
      | (with_reducible exact toruslaw30_fit.mono _ _ _ _)
      | (with_reducible exact toruslaw30_size.mono _ _ _ _)
      | (with_reducible exact torusref30_Without.mono _ _ _ _ _ _)
      | (with_reducible exact LeO.refl _)
      | (with_reducible exact LeO.none _)
      | (with_reducible refine LeO.ite ?_ ?_)
      | (with_reducible refine LeO.bind ?_ (fun _ => ?_))
      | exact ih0 _ _ _ _ _ _
      | exact ih1 _ _ _ _ _ _ _ _ _ _ _ _
      | exact ih2 _ _ _ _ _ _ _ _ _ _ _ _ _ _ _
      | exact ih3 _ _ _ _ _ _ _ _
      | exact ih4 _ _ _ _ _
      | exact toruslaw30_fit.mono _ _ _ _
      | exact toruslaw30_size.mono _ _ _ _
      | exact torusref30_Without.mono _ _ _ _ _ _
      | exact LeO.none _
      | refine LeO.ite ?_ ?_
      | refine LeO.bind ?_ (fun _ => ?_)
theorem toruslaw30_MatchEdges.mono : ∀ a0 a1 a2 a3 a4 k, LeO (toruslaw30_MatchEdges.f k a0 a1 a2 a3 a4) (toruslaw30_MatchEdges.f (k + 1) a0 a1 a2 a3 a4) := by
  intro a0 a1 a2 a3 a4 k
  obtain ⟨ih0, ih1, ih2, ih3, ih4⟩ := toruslaw30_MatchEdges.mono_l k
  unfold toruslaw30_MatchEdges.f
  repeat' first
      | (with_reducible exact ih0 _ _ _ _ _ _)
      | (with_reducible exact ih1 _ _ _ _ _ _ _ _ _ _ _ _)
      | (with_reducible exact ih2 _ _ _ _ _ _ _ _ _ _ _ _ _ _ _)
      | (with_reducible exact ih3 _ _ _ _ _ _ _ _)
      | (with_reducible exact ih4 _ _ _ _ _)
      | (with_reducible exact toruslaw30_fit.mono _ _ _ _)
      | (with_reducible exact toruslaw30_size.mono _ _ _ _)
      | (with_reducible exact torusref30_Without.mono _ _ _ _ _ _)
      | (with_reducible exact LeO.refl _)
      | (with_reducible exact LeO.none _)
      | (with_reducible refine LeO.ite ?_ ?_)
      | (with_reducible refine LeO.bind ?_ (fun _ => ?_))
      | exact ih0 _ _ _ _ _ _
      | exact ih1 _ _ _ _ _ _ _ _ _ _ _ _
      | exact ih2 _ _ _ _ _ _ _ _ _ _ _ _ _ _ _
      | exact ih3 _ _ _ _ _ _ _ _
      | exact ih4 _ _ _ _ _
      | exact toruslaw30_fit.mono _ _ _ _
      | exact toruslaw30_size.mono _ _ _ _
      | exact torusref30_Without.mono _ _ _ _ _ _
      | exact LeO.none _
      | refine LeO.ite ?_ ?_
      | refine LeO.bind ?_ (fun _ => ?_)
def toruslaw30_MatchEdges.T4 : Bool × List (List Nat × List Nat) := (true, [([], []), ([0], [0]), ([], []), ([2], [2]), ([1, 3], [1, 3]), ([], []), ([5], [5]), ([], []), ([7], [7]), ([6, 8], [6, 8]), ([4, 9], [4, 9]), ([], []), ([11, 10, 0, 1, 2, 3, 4, 5, 6, 7, 8, 9, 10, 11], [10, 11])])
def toruslaw30_MatchEdges.B4 : List Nat := [0, 1, 0, 4, 15, 0, 32, 0, 128, 480, 1023, 0, 4095]
theorem toruslaw30_MatchEdges.tab4 : rtab .any (opsOf Try.f4 4) = toruslaw30_MatchEdges.T4 := by kernel_rfl
theorem toruslaw30_MatchEdges.bits4 : waitsOk toruslaw30_MatchEdges.T4.2 toruslaw30_MatchEdges.B4 = true := by kernel_rfl
set_option maxHeartbeats 8000000 in
set_option maxRecDepth 100000 in
theorem toruslaw30_MatchEdges.calls (k : Nat) (a0_0 : Int) (a0_1 : Int) (A0_2 : Option Addr) (c0_2 : Nat) (l0_2 : List Int) (a1 : Int) (a2 : Int) (r : Bool) (w : World) (hr0_2 : Kd.C (Kd.int .u8) w A0_2 l0_2.length l0_2) (hc0_2 : l0_2.length ≤ c0_2) (h : toruslaw30_MatchEdges.f k a0_0 a0_1 l0_2 a1 a2 = some r) :
    Calls Try.prog 4 #[.agg #[.int .u8 a0_0, .int .u8 a0_1, .slice A0_2 l0_2.length c0_2], .int .u8 a1, .int .u8 a2] w fun e w' => e = .returned (.bool r) ∧ Below w.heap.size w w' := by
  have hu24 := Try.underlying24
  have hu27 := Try.underlying27
  have hu40 := Try.underlying40
  have HR0_2 := Aside0.mk hr0_2
  have HC0_2 := Aside0.mk hc0_2
  clear hr0_2 hc0_2
  have HB := Aside0.mk (Below.refl w.heap.size w)
  have H : ((toruslaw30_fit.f k a0_0 a0_1 l0_2).bind fun bt282 => (if bt282.1 = 0 then (toruslaw30_MatchEdges.j0 k a1 a2 true bt282.1 bt282.2.1 bt282.2.2) else (toruslaw30_MatchEdges.j0 k a1 a2 (bt282.2.1 == 0) bt282.1 bt282.2.1 bt282.2.2))) = some r := h
  clear h
  replace H := Option.bind_eq_some_iff.mp H
  obtain ⟨⟨t282, t283, t284⟩, A40, H⟩ := H
  replace H : (if t282 = 0 then (toruslaw30_MatchEdges.j0 k a1 a2 true t282 t283 t284) else (toruslaw30_MatchEdges.j0 k a1 a2 (t283 == 0) t282 t283 t284)) = some r := H
  have A4 := Aside0.mk A40
  clear A40
  have HC5 := Aside0.mk H
  clear H
  go_enter Try.func4, Try.ntmps4
  go_upto_region 2 with (first | ((with_reducible refine gate_dst (N := 3) rfl ?_); refine box_event ?hg (N := 3) ?hd (cs := #[.int .u8 a0_0, .int .u8 a0_1, .slice A0_2 l0_2.length c0_2]) (t := 24) ?hr ?_; (case hd => rfl); (case hg => rfl); (case hr => first | (go_simp; done) | (go_simp; rfl)); intro gb281 hg w6 hbox hb; have n0_ := Aside0.mk (below_step (by repeat (first | (with_reducible first | exact HB.out | apply below_alloc | apply pw_below_drewN | apply below_drew1) | exact HB.out)) hb); have n1_ := Aside0.mk (hbox); have n2_ := Aside0.mk ((by rw [hg]; exact (below_size (by repeat (first | (with_reducible first | exact HB.out | apply below_alloc | apply pw_below_drewN | apply below_drew1) | exact HB.out))) : w.heap.size ≤ gb281)); have n3_ := Aside0.mk ((by rw [hg]; exact (below_size (by repeat (first | (with_reducible first | exact HB.out | apply below_alloc | apply pw_below_drewN | apply below_drew1) | exact HB.out))) : w.heap.size ≤ gb281)); clear HB; have HB := n0_; have BK281 := n1_; have GW281 := n2_; have GE281 := n3_; clear n0_ n1_ n2_ n3_; clear hb hbox hg; have hcz7_0 : w6.cell? ⟨gb281, 0, none⟩ = some (.int .u8 a0_0) := (blk_cell BK281.out 0).trans rfl; have hcz7_1 : w6.cell? ⟨gb281, 1, none⟩ = some (.int .u8 a0_1) := (blk_cell BK281.out 1).trans rfl; have hcz7_2 : w6.cell? ⟨gb281, 2, none⟩ = some (.slice A0_2 l0_2.length c0_2) := (blk_cell BK281.out 2).trans rfl; have hfz7_0 := blk_frozen BK281.out 0; have hfz7_1 := blk_frozen BK281.out 1; have hfz7_2 := blk_frozen BK281.out 2) | ((with_reducible refine gate_callee (f := 12) rfl ?_); refine goesL_ (some 15) rfl rfl Try.func12 (by kernel_rfl) rfl #[.agg #[.int .u8 a0_0, .int .u8 a0_1, .slice A0_2 l0_2.length c0_2]] rfl (by (try simp only [List.map_toArray, List.map_cons, List.map_nil]); first | done | rfl | (simp only [List.length_drop, List.length_take]; rfl)) ?_; (with_reducible refine (toruslaw30_fit.calls k a0_0 a0_1 _ _ l0_2 t282 t283 t284 _ ?side1 ?side2 A4.out).mono ?_); (case side1 => repeat (first | exact (Kd.C_below HR0_2.out HB.out) | (with_reducible refine Kd.C_alloc ?_ _) | (with_reducible refine Kd.C_drewN ?_ _) | (with_reducible refine Kd.C_drew ?_))); (case side2 => exact HC0_2.out); rintro e w8 ⟨v285, rfl, ho0, hb⟩; refine ⟨_, rfl, ?_⟩; have n0_ := Aside0.mk (Kd.R_lower ho0 (below_size (by repeat (first | (with_reducible first | exact HB.out | apply below_alloc | apply pw_below_drewN | apply below_drew1 | refine below_set ?_ GE281.out) | exact HB.out)))); have n1_ := Aside0.mk (blk_below (g := gb281) (o := .cells #[.int .u8 a0_0, .int .u8 a0_1, .slice A0_2 l0_2.length c0_2] 24 (0, 0)) (by (with_reducible repeat (first | refine blk_drewN ?_ _ | refine blk_drew ?_ | refine blk_alloc ?_ _)); exact BK281.out) hb); have n2_ := Aside0.mk (below_step (by repeat (first | (with_reducible first | exact HB.out | apply below_alloc | apply pw_below_drewN | apply below_drew1 | refine below_set ?_ GE281.out) | exact HB.out)) hb); clear BK281; clear HB; have HO286 := n0_; have BK281 := n1_; have HB := n2_; clear n0_ n1_ n2_; (try clear hb); (try clear hb2); (try clear hk); (try clear hi); (try clear ho0)) | ((with_reducible refine gate_dst (N := 7) rfl ?_); refine box_event ?hg (N := 7) ?hd (cs := #[.int .i64 0, .int .i64 0, .slice none 0 0]) (t := 27) ?hr ?_; (case hd => rfl); (case hg => rfl); (case hr => first | (go_simp; done) | (go_simp; rfl)); intro gb287 hg w9 hbox hb; have n0_ := Aside0.mk (Kd.R_below (by (with_reducible repeat (first | apply Kd.R_alloc | apply Kd.R_drewN | apply Kd.R_drew)); exact HO286.out) hb); have n1_ := Aside0.mk (blk_below (g := gb281) (o := .cells #[.int .u8 a0_0, .int .u8 a0_1, .slice A0_2 l0_2.length c0_2] 24 (0, 0)) (by (with_reducible repeat (first | refine blk_drewN ?_ _ | refine blk_drew ?_ | refine blk_alloc ?_ _)); exact BK281.out) hb); have n2_ := Aside0.mk (below_step (by repeat (first | (with_reducible first | exact HB.out | apply below_alloc | apply pw_below_drewN | apply below_drew1 | refine below_set ?_ GE281.out) | exact HB.out)) hb); have n3_ := Aside0.mk (hbox); have n4_ := Aside0.mk ((by rw [hg]; exact (below_size (by repeat (first | (with_reducible first | exact HB.out | apply below_alloc | apply pw_below_drewN | apply below_drew1 | refine below_set ?_ GE281.out) | exact HB.out))) : w.heap.size ≤ gb287)); have n5_ := Aside0.mk ((by rw [hg]; exact (below_size (by repeat (first | (with_reducible first | exact HB.out | apply below_alloc | apply pw_below_drewN | apply below_drew1 | refine below_set ?_ GE281.out) | exact HB.out))) : w.heap.size ≤ gb287)); have n6_ := Aside0.mk ((by rw [hg]; exact Nat.ne_of_lt (blk_lt (g := gb281) (o := .cells #[.int .u8 a0_0, .int .u8 a0_1, .slice A0_2 l0_2.length c0_2] 24 (0, 0)) (by (with_reducible repeat (first | refine blk_drewN ?_ _ | refine blk_drew ?_ | refine blk_alloc ?_ _)); exact BK281.out)) : gb281 ≠ gb287)); have n7_ := Aside0.mk ((by rw [hg]; exact Nat.ne_of_gt (blk_lt (g := gb281) (o := .cells #[.int .u8 a0_0, .int .u8 a0_1, .slice A0_2 l0_2.length c0_2] 24 (0, 0)) (by (with_reducible repeat (first | refine blk_drewN ?_ _ | refine blk_drew ?_ | refine blk_alloc ?_ _)); exact BK281.out)) : gb287 ≠ gb281)); clear HO286; clear BK281; clear HB; have HO286 := n0_; have BK281 := n1_; have HB := n2_; have BK287 := n3_; have GW287 := n4_; have GE287 := n5_; have NB281_287 := n6_; have NB287_281 := n7_; clear n0_ n1_ n2_ n3_ n4_ n5_ n6_ n7_; clear hb hbox hg; have hnb10 := NB287_281.out; have hnc10 := NB281_287.out; have hcz11_0 : w9.cell? ⟨gb287, 0, none⟩ = some (.int .i64 0) := (blk_cell BK287.out 0).trans rfl; have hcz11_1 : w9.cell? ⟨gb287, 1, none⟩ = some (.int .i64 0) := (blk_cell BK287.out 1).trans rfl; have hcz11_2 : w9.cell? ⟨gb287, 2, none⟩ = some (.slice none 0 0) := (blk_cell BK287.out 2).trans rfl; have hfz11_0 := blk_frozen BK287.out 0; have hfz11_1 := blk_frozen BK287.out 1; have hfz11_2 := blk_frozen BK287.out 2; obtain ⟨Ao12, co12, eo12⟩ := Kd.R_slice HO286.out; subst eo12))
  (try simp only [Act.put, List.setIfInBounds_toArray, List.set_cons_zero, List.set_cons_succ])
  go_cut [23] (fun v23 wc => ∃ (kq : Nat) (x23_4 : Bool), v23 = .bool x23_4 ∧ Aside0 (toruslaw30_MatchEdges.j0 kq a1 a2 x23_4 t282 t283 t284 = some r) ∧ Aside0 (kq ≤ k) ∧ Aside0 (Kd.R k40 40 wc w.heap.size (fun _ => True) (.slice Ao12 t284.length co12) t284) ∧ Aside0 (wc.heap[gb281]? = some (.cells #[.int .u8 a0_0, .int .u8 a0_1, (.slice A0_2 l0_2.length c0_2)] 24 (0, 0))) ∧ Aside0 (wc.heap[gb287]? = some (.cells #[.int .i64 t282, .int .i64 t283, (.slice Ao12 t284.length co12)] 27 (0, 0))) ∧ Aside0 (Below w.heap.size w wc))
  case first =>
    have H := HC5.out
    clear HC5
    by_cases c13 : t282 = 0
    · rw [if_pos c13] at H
      have c13b0 : (t282 == 0) = true := beq_iff_eq.mpr c13
      have c13b1 : (t282 != 0) = false := bne_eq_false_iff_eq.mpr c13
      clear c13
      (first | rw [c13b0] | (simp only [i64_w, i32_w]; rw [c13b0]) | skip)
      have H' := Aside0.mk H
      clear H
      have hnb14 := NB287_281.out
      have hnc14 := NB281_287.out
      have hcz15_0 : w9.cell? ⟨gb287, 0, none⟩ = some (.int .i64 0) := (blk_cell BK287.out 0).trans rfl
      have hcz15_1 : w9.cell? ⟨gb287, 1, none⟩ = some (.int .i64 0) := (blk_cell BK287.out 1).trans rfl
      have hcz15_2 : w9.cell? ⟨gb287, 2, none⟩ = some (.slice none 0 0) := (blk_cell BK287.out 2).trans rfl
      have hfz15_0 := blk_frozen BK287.out 0
      have hfz15_1 := blk_frozen BK287.out 1
      have hfz15_2 := blk_frozen BK287.out 2
      go_wp2
      go_meet
      case rel => exact ⟨_, (true), (by first | rfl | (simp; done) | (simp [*]; done)), H', ⟨by first | omega | exact Nat.le_refl _⟩, ⟨by (with_reducible repeat (first | apply Kd.R_alloc | apply Kd.R_drewN | apply Kd.R_drew)); exact Kd.R_mono (Kd.R_far (p := ⟨gb287, 2, none⟩) (Kd.R_far (p := ⟨gb287, 1, none⟩) (Kd.R_far (p := ⟨gb287, 0, none⟩) (Kd.R_types HO286.out BK287.out (by decide)) (fun _ hk => hk.2) (.int .i64 t282)) (fun _ hk => hk.2) (.int .i64 t283)) (fun _ hk => hk.2) (.slice Ao12 t284.length co12)) (fun _ hk => trivial)⟩, ⟨by (with_reducible repeat (first | refine blk_drewN ?_ _ | refine blk_drew ?_ | refine blk_alloc ?_ _)); refine blk_far ?_ NB281_287.out _; (with_reducible repeat (first | refine blk_drewN ?_ _ | refine blk_drew ?_ | refine blk_alloc ?_ _)); refine blk_far ?_ NB281_287.out _; (with_reducible repeat (first | refine blk_drewN ?_ _ | refine blk_drew ?_ | refine blk_alloc ?_ _)); refine blk_far ?_ NB281_287.out _; (with_reducible repeat (first | refine blk_drewN ?_ _ | refine blk_drew ?_ | refine blk_alloc ?_ _)); exact BK281.out⟩, ⟨by (with_reducible repeat (first | refine blk_drewN ?_ _ | refine blk_drew ?_ | refine blk_alloc ?_ _)); refine blk_put (cs := #[.int .i64 t282, .int .i64 t283, .slice none 0 0]) ?_ 2 _ rfl; (with_reducible repeat (first | refine blk_drewN ?_ _ | refine blk_drew ?_ | refine blk_alloc ?_ _)); refine blk_put (cs := #[.int .i64 t282, .int .i64 0, .slice none 0 0]) ?_ 1 _ rfl; (with_reducible repeat (first | refine blk_drewN ?_ _ | refine blk_drew ?_ | refine blk_alloc ?_ _)); refine blk_put (cs := #[.int .i64 0, .int .i64 0, .slice none 0 0]) ?_ 0 _ rfl; (with_reducible repeat (first | refine blk_drewN ?_ _ | refine blk_drew ?_ | refine blk_alloc ?_ _)); exact BK287.out⟩, ⟨by repeat (first | (with_reducible first | exact HB.out | apply below_alloc | apply pw_below_drewN | apply below_drew1 | refine below_set ?_ GE281.out | refine below_set ?_ GE287.out) | exact HB.out)⟩⟩
    · rw [if_neg c13] at H
      have c13b0 : (t282 == 0) = false := beq_eq_false_iff_ne.mpr c13
      have c13b1 : (t282 != 0) = true := bne_iff_ne.mpr c13
      (first | rw [c13b0] | (simp only [i64_w, i32_w]; rw [c13b0]) | skip)
      have H' := Aside0.mk H
      clear H
      have hnb16 := NB287_281.out
      have hnc16 := NB281_287.out
      have hcz17_0 : w9.cell? ⟨gb287, 0, none⟩ = some (.int .i64 0) := (blk_cell BK287.out 0).trans rfl
      have hcz17_1 : w9.cell? ⟨gb287, 1, none⟩ = some (.int .i64 0) := (blk_cell BK287.out 1).trans rfl
      have hcz17_2 : w9.cell? ⟨gb287, 2, none⟩ = some (.slice none 0 0) := (blk_cell BK287.out 2).trans rfl
      have hfz17_0 := blk_frozen BK287.out 0
      have hfz17_1 := blk_frozen BK287.out 1
      have hfz17_2 := blk_frozen BK287.out 2
      go_wp2
      go_meet
      case rel => exact ⟨_, ((t283 == 0)), (by first | rfl | (simp; done) | (simp [*]; done)), H', ⟨by first | omega | exact Nat.le_refl _⟩, ⟨by (with_reducible repeat (first | apply Kd.R_alloc | apply Kd.R_drewN | apply Kd.R_drew)); exact Kd.R_mono (Kd.R_far (p := ⟨gb287, 2, none⟩) (Kd.R_far (p := ⟨gb287, 1, none⟩) (Kd.R_far (p := ⟨gb287, 0, none⟩) (Kd.R_types HO286.out BK287.out (by decide)) (fun _ hk => hk.2) (.int .i64 t282)) (fun _ hk => hk.2) (.int .i64 t283)) (fun _ hk => hk.2) (.slice Ao12 t284.length co12)) (fun _ hk => trivial)⟩, ⟨by (with_reducible repeat (first | refine blk_drewN ?_ _ | refine blk_drew ?_ | refine blk_alloc ?_ _)); refine blk_far ?_ NB281_287.out _; (with_reducible repeat (first | refine blk_drewN ?_ _ | refine blk_drew ?_ | refine blk_alloc ?_ _)); refine blk_far ?_ NB281_287.out _; (with_reducible repeat (first | refine blk_drewN ?_ _ | refine blk_drew ?_ | refine blk_alloc ?_ _)); refine blk_far ?_ NB281_287.out _; (with_reducible repeat (first | refine blk_drewN ?_ _ | refine blk_drew ?_ | refine blk_alloc ?_ _)); exact BK281.out⟩, ⟨by (with_reducible repeat (first | refine blk_drewN ?_ _ | refine blk_drew ?_ | refine blk_alloc ?_ _)); refine blk_put (cs := #[.int .i64 t282, .int .i64 t283, .slice none 0 0]) ?_ 2 _ rfl; (with_reducible repeat (first | refine blk_drewN ?_ _ | refine blk_drew ?_ | refine blk_alloc ?_ _)); refine blk_put (cs := #[.int .i64 t282, .int .i64 0, .slice none 0 0]) ?_ 1 _ rfl; (with_reducible repeat (first | refine blk_drewN ?_ _ | refine blk_drew ?_ | refine blk_alloc ?_ _)); refine blk_put (cs := #[.int .i64 0, .int .i64 0, .slice none 0 0]) ?_ 0 _ rfl; (with_reducible repeat (first | refine blk_drewN ?_ _ | refine blk_drew ?_ | refine blk_alloc ?_ _)); exact BK287.out⟩, ⟨by repeat (first | (with_reducible first | exact HB.out | apply below_alloc | apply pw_below_drewN | apply below_drew1 | refine below_set ?_ GE281.out | refine below_set ?_ GE287.out) | exact HB.out)⟩⟩
  case rest =>
    clear HC5
    try clear c1
    try clear p2
    try clear c4
    try clear c10
    try clear c12
    try clear c13
    try clear c13b0
    try clear c13b1
    try clear c14
    try clear c16
    try clear hcz11_0
    try clear hcz11_1
    try clear hcz11_2
    try clear hcz15_0
    try clear hcz15_1
    try clear hcz15_2
    try clear hcz17_0
    try clear hcz17_1
    try clear hcz17_2
    try clear hcz7_0
    try clear hcz7_1
    try clear hcz7_2
    try clear hfz11_0
    try clear hfz11_1
    try clear hfz11_2
    try clear hfz15_0
    try clear hfz15_1
    try clear hfz15_2
    try clear hfz17_0
    try clear hfz17_1
    try clear hfz17_2
    try clear hfz7_0
    try clear hfz7_1
    try clear hfz7_2
    obtain ⟨kq, x23_4, rfl, HA, HJ4, HO_288002, BK281, BK287, HB⟩ := hcut
    cases kq with
    | zero => exact absurd HA.out (by simp [toruslaw30_MatchEdges.j0])
    | succ kj4 =>
      have H := HA.out
      clear HA
      simp only [toruslaw30_MatchEdges.j0] at H
      by_cases c18 : x23_4 = true
      · subst c18
        have H1 : ((toruslaw30_awake.f).bind fun t288 => (some t288)) = some r := by rw [if_pos rfl] at H; exact H
        clear H
        have H := H1
        clear H1
        replace H := Option.bind_eq_some_iff.mp H
        obtain ⟨t288, A190, H⟩ := H
        replace H : (some t288) = some r := H
        have A19 := Aside0.mk A190
        clear A190
        obtain rfl := Option.some.inj H
        go_wp2_with (first | ((with_reducible refine gate_callee (f := 16) rfl ?_); refine goesL_ (some 24) rfl rfl Try.func16 (by kernel_rfl) rfl #[] rfl (by (try simp only [List.map_toArray, List.map_cons, List.map_nil]); first | done | rfl | (simp only [List.length_drop, List.length_take]; rfl)) ?_; (with_reducible refine (toruslaw30_awake.calls  t288 _ A19.out).mono ?_); rintro e w20 ⟨rfl, hb⟩; refine ⟨_, rfl, ?_⟩; have n0_ := Aside0.mk (Kd.R_below (by (with_reducible repeat (first | apply Kd.R_alloc | apply Kd.R_drewN | apply Kd.R_drew)); exact HO_288002.out) hb); have n1_ := Aside0.mk (blk_below (g := gb281) (o := .cells #[.int .u8 a0_0, .int .u8 a0_1, .slice A0_2 l0_2.length c0_2] 24 (0, 0)) (by (with_reducible repeat (first | refine blk_drewN ?_ _ | refine blk_drew ?_ | refine blk_alloc ?_ _)); exact BK281.out) hb); have n2_ := Aside0.mk (blk_below (g := gb287) (o := .cells #[.int .i64 t282, .int .i64 t283, .slice Ao12 t284.length co12] 27 (0, 0)) (by (with_reducible repeat (first | refine blk_drewN ?_ _ | refine blk_drew ?_ | refine blk_alloc ?_ _)); exact BK287.out) hb); have n3_ := Aside0.mk (below_step (by repeat (first | (with_reducible first | exact HB.out | apply below_alloc | apply pw_below_drewN | apply below_drew1 | refine below_set ?_ GE281.out | refine below_set ?_ GE287.out) | exact HB.out)) hb); clear HO_288002; clear BK281; clear BK287; clear HB; have HO_288002 := n0_; have BK281 := n1_; have BK287 := n2_; have HB := n3_; clear n0_ n1_ n2_ n3_; (try clear hb); (try clear hb2); (try clear hk); (try clear hi)))
        go_ret
        exact ⟨by first | rfl | (simp [errW_none, errW_some] <;> rfl) | (simp [*, errW_none, errW_some] <;> rfl), by repeat (first | (with_reducible first | exact HB.out | apply below_alloc | apply pw_below_drewN | apply below_drew1 | refine below_set ?_ GE281.out | refine below_set ?_ GE287.out) | exact HB.out)⟩
      · replace c18 := Bool.eq_false_iff.mpr c18
        subst c18
        have H1 : (if t282 = 0 then (none) else (if t283 = 0 then (none) else (toruslaw30_MatchEdges.l0 kj4 false t284 (t284.length : Int) 0 t282 t283 t284 (Int.tmod (wrap64 (a1)) t282) (Int.tmod (wrap64 (a2)) t283) t282 t283 ([] : List (S40))))) = some r := by rw [if_neg (show ¬ (false = true) by decide)] at H; exact H
        clear H
        have H := H1
        clear H1
        by_cases c21 : t282 = 0
        · rw [if_pos c21] at H
          exact absurd H (by simp)
        · rw [if_neg c21] at H
          have c21b0 : (t282 == 0) = false := beq_eq_false_iff_ne.mpr c21
          have c21b1 : (t282 != 0) = true := bne_iff_ne.mpr c21
          by_cases c22 : t283 = 0
          · rw [if_pos c22] at H
            exact absurd H (by simp)
          · rw [if_neg c22] at H
            have c22b0 : (t283 == 0) = false := beq_eq_false_iff_ne.mpr c22
            have c22b1 : (t283 != 0) = true := bne_iff_ne.mpr c22
            have H' := Aside0.mk H
            clear H
            try go_wp2
            have n0_ := Aside0.mk (Kd.R_drew HO_288002.out)
            have n1_ := Aside0.mk (blk_drew BK281.out)
            have n2_ := Aside0.mk (blk_drew BK287.out)
            have n3_ := Aside0.mk (below_drew1 HB.out)
            clear HO_288002
            clear BK281
            clear BK287
            clear HB
            have HO_288002 := n0_
            have BK281 := n1_
            have BK287 := n2_
            have HB := n3_
            clear n0_ n1_ n2_ n3_
            refine start_ (n := 13) (S := fun w' => w'.cell? ⟨gb287, 0, none⟩ = some (.int .i64 t282) ∧ w'.cell? ⟨gb287, 1, none⟩ = some (.int .i64 t283) ∧ w'.cell? ⟨gb287, 2, none⟩ = some (.slice Ao12 t284.length co12)) (ds := []) #[false, false, false, false, false, false, false, false, false, false, false, false, false] (by kernel_rfl) rfl rfl ⟨(blk_cell BK287.out 0).trans rfl, (blk_cell BK287.out 1).trans rfl, (blk_cell BK287.out 2).trans rfl⟩ (fun hHeld => ?_); refine with_tabW toruslaw30_MatchEdges.tab4 toruslaw30_MatchEdges.bits4 (fun HT_ HW_ => ?_)
            generalize wc.drew = w23 at HO_288002 BK281 BK287 HB hHeld ⊢
            refine pure_ (i := 0) (N := some 25) (v := ?_) (a' := ?_) #[true, false, false, false, false, false, false, false, false, false, false, false, false] rfl rfl (any_of HT_.out (by kernel_rfl)) (fun _ _ _ h => h) (Or.inl ⟨by rfl, ?_⟩) ?_ ?_
            rotate_left
            · intro w'
              go_simp
              with_reducible rfl
            rotate_left
            · simp only [Act.put, List.setIfInBounds_toArray, List.set_cons_zero, List.set_cons_succ, i64_w, i32_w]
              rfl
            refine pure_ (i := 1) (N := some 26) (v := ?_) (a' := ?_) #[true, true, false, false, false, false, false, false, false, false, false, false, false] rfl rfl (any_of HT_.out (by kernel_rfl)) (fun _ _ _ h => h) (Or.inl ⟨by rfl, ?_⟩) ?_ ?_
            rotate_left
            · intro w'
              go_simp
              with_reducible rfl
            rotate_left
            · simp only [Act.put, List.setIfInBounds_toArray, List.set_cons_zero, List.set_cons_succ, i64_w, i32_w]
              rfl
            refine pure_ (i := 2) (N := some 27) (v := ?_) (a' := ?_) #[true, true, true, false, false, false, false, false, false, false, false, false, false] rfl rfl (any_of HT_.out (by kernel_rfl)) (fun _ _ _ h => h) (Or.inl ⟨by rfl, ?_⟩) ?_ ?_
            rotate_left
            · intro w'
              go_simp
              with_reducible rfl
            rotate_left
            · simp only [Act.put, List.setIfInBounds_toArray, List.set_cons_zero, List.set_cons_succ, i64_w, i32_w]
              rfl
            refine pure_ (i := 5) (N := some 30) (v := ?_) (a' := ?_) #[true, true, true, false, false, true, false, false, false, false, false, false, false] rfl rfl (any_of HT_.out (by kernel_rfl)) (fun _ _ _ h => h) (Or.inl ⟨by rfl, ?_⟩) ?_ ?_
            rotate_left
            · intro w'
              go_simp
              with_reducible rfl
            rotate_left
            · simp only [Act.put, List.setIfInBounds_toArray, List.set_cons_zero, List.set_cons_succ, i64_w, i32_w]
              rfl
            refine pure_ (i := 6) (N := some 31) (v := ?_) (a' := ?_) #[true, true, true, false, false, true, true, false, false, false, false, false, false] rfl rfl (any_of HT_.out (by kernel_rfl)) (fun _ _ _ h => h) (Or.inl ⟨by rfl, ?_⟩) ?_ ?_
            rotate_left
            · intro w'
              go_simp
              with_reducible rfl
            rotate_left
            · simp only [Act.put, List.setIfInBounds_toArray, List.set_cons_zero, List.set_cons_succ, i64_w, i32_w]
              rfl
            refine pure_ (i := 7) (N := some 32) (v := ?_) (a' := ?_) #[true, true, true, false, false, true, true, true, false, false, false, false, false] rfl rfl (any_of HT_.out (by kernel_rfl)) (fun _ _ _ h => h) (Or.inl ⟨by rfl, ?_⟩) ?_ ?_
            rotate_left
            · intro w'
              go_simp
              with_reducible rfl
            rotate_left
            · simp only [Act.put, List.setIfInBounds_toArray, List.set_cons_zero, List.set_cons_succ, i64_w, i32_w]
              rfl
            refine take_ (i := 3) (N := some 28) (v := ?_) (a' := ?_) #[true, true, true, true, false, true, true, true, false, false, false, false, false] rfl rfl (take_ofW HT_.out HW_.out (by kernel_rfl)) (fun _ _ _ h => h) (Or.inl ⟨by rfl, ?_⟩) hHeld ?_ ?_
            rotate_left
            · rintro w' ⟨s0, s1, s2⟩
              go_simp
              with_reducible rfl
            rotate_left
            · simp only [Act.put, List.setIfInBounds_toArray, List.set_cons_zero, List.set_cons_succ, i64_w, i32_w]
              rfl
            refine pure_ (i := 4) (N := some 29) (v := ?_) (a' := ?_) #[true, true, true, true, true, true, true, true, false, false, false, false, false] rfl rfl (any_of HT_.out (by kernel_rfl)) (fun _ _ _ h => h) (Or.inl ⟨by rfl, ?_⟩) ?_ ?_
            rotate_left
            · intro w'
              go_simp
              with_reducible rfl
            rotate_left
            · simp only [Act.put, List.setIfInBounds_toArray, List.set_cons_zero, List.set_cons_succ, i64_w, i32_w]
              rfl
            refine take_ (i := 8) (N := some 33) (v := ?_) (a' := ?_) #[true, true, true, true, true, true, true, true, true, false, false, false, false] rfl rfl (take_ofW HT_.out HW_.out (by kernel_rfl)) (fun _ _ _ h => h) (Or.inl ⟨by rfl, ?_⟩) hHeld ?_ ?_
            rotate_left
            · rintro w' ⟨s0, s1, s2⟩
              go_simp
              with_reducible rfl
            rotate_left
            · simp only [Act.put, List.setIfInBounds_toArray, List.set_cons_zero, List.set_cons_succ, i64_w, i32_w]
              rfl
            refine pure_ (i := 9) (N := some 34) (v := ?_) (a' := ?_) #[true, true, true, true, true, true, true, true, true, true, false, false, false] rfl rfl (any_of HT_.out (by kernel_rfl)) (fun _ _ _ h => h) (Or.inl ⟨by rfl, ?_⟩) ?_ ?_
            rotate_left
            · intro w'
              go_simp
              with_reducible rfl
            rotate_left
            · simp only [Act.put, List.setIfInBounds_toArray, List.set_cons_zero, List.set_cons_succ, i64_w, i32_w]
              rfl
            refine pure_ (i := 10) (N := some 35) (v := ?_) (a' := ?_) #[true, true, true, true, true, true, true, true, true, true, true, false, false] rfl rfl (any_of HT_.out (by kernel_rfl)) (fun _ _ _ h => h) (Or.inl ⟨by rfl, ?_⟩) ?_ ?_
            rotate_left
            · intro w'
              go_simp
              with_reducible rfl
            rotate_left
            · simp only [Act.put, List.setIfInBounds_toArray, List.set_cons_zero, List.set_cons_succ, i64_w, i32_w]
              rfl
            refine one_ (i := 11) (N := some 8) #[true, true, true, true, true, true, true, true, true, true, true, true, false] rfl rfl (one_of HT_.out (by kernel_rfl)) (by decide) (fun K hK => ?_)
            refine box_step ?hg (N := 8) ?hd (cs := #[.int .i64 0, .int .i64 0]) (t := 40) ?hr ?_; (case hd => rfl); (case hg => rfl); (case hr => first | (go_simp; done) | (go_simp; rfl))
            intro gb289 hg w24 hbox hb
            have n0_ := Aside0.mk (Kd.R_below (Kd.R_elderB (by (with_reducible repeat (first | apply Kd.R_alloc | apply Kd.R_drewN | apply Kd.R_drew)); exact HO_288002.out) gb289 (Nat.le_of_eq hg.symm)) hb)
            have n1_ := Aside0.mk (blk_below (g := gb281) (o := .cells #[.int .u8 a0_0, .int .u8 a0_1, .slice A0_2 l0_2.length c0_2] 24 (0, 0)) (by (with_reducible repeat (first | refine blk_drewN ?_ _ | refine blk_drew ?_ | refine blk_alloc ?_ _)); exact BK281.out) hb)
            have n2_ := Aside0.mk (blk_below (g := gb287) (o := .cells #[.int .i64 t282, .int .i64 t283, .slice Ao12 t284.length co12] 27 (0, 0)) (by (with_reducible repeat (first | refine blk_drewN ?_ _ | refine blk_drew ?_ | refine blk_alloc ?_ _)); exact BK287.out) hb)
            have n3_ := Aside0.mk (below_step (by repeat (first | (with_reducible first | exact HB.out | apply below_alloc | apply pw_below_drewN | apply below_drew1 | refine below_set ?_ GE281.out | refine below_set ?_ GE287.out) | exact HB.out)) hb)
            have n4_ := Aside0.mk (hbox)
            have n5_ := Aside0.mk ((by rw [hg]; exact (below_size (by repeat (first | (with_reducible first | exact HB.out | apply below_alloc | apply pw_below_drewN | apply below_drew1 | refine below_set ?_ GE281.out | refine below_set ?_ GE287.out) | exact HB.out))) : w.heap.size ≤ gb289))
            have n6_ := Aside0.mk ((by rw [hg]; exact (below_size (by repeat (first | (with_reducible first | exact HB.out | apply below_alloc | apply pw_below_drewN | apply below_drew1 | refine below_set ?_ GE281.out | refine below_set ?_ GE287.out) | exact HB.out))) : w.heap.size ≤ gb289))
            have n7_ := Aside0.mk ((by rw [hg]; exact Nat.ne_of_lt (blk_lt (g := gb281) (o := .cells #[.int .u8 a0_0, .int .u8 a0_1, .slice A0_2 l0_2.length c0_2] 24 (0, 0)) (by (with_reducible repeat (first | refine blk_drewN ?_ _ | refine blk_drew ?_ | refine blk_alloc ?_ _)); exact BK281.out)) : gb281 ≠ gb289))
            have n8_ := Aside0.mk ((by rw [hg]; exact Nat.ne_of_gt (blk_lt (g := gb281) (o := .cells #[.int .u8 a0_0, .int .u8 a0_1, .slice A0_2 l0_2.length c0_2] 24 (0, 0)) (by (with_reducible repeat (first | refine blk_drewN ?_ _ | refine blk_drew ?_ | refine blk_alloc ?_ _)); exact BK281.out)) : gb289 ≠ gb281))
            have n9_ := Aside0.mk ((by rw [hg]; exact Nat.ne_of_lt (blk_lt (g := gb287) (o := .cells #[.int .i64 t282, .int .i64 t283, .slice Ao12 t284.length co12] 27 (0, 0)) (by (with_reducible repeat (first | refine blk_drewN ?_ _ | refine blk_drew ?_ | refine blk_alloc ?_ _)); exact BK287.out)) : gb287 ≠ gb289))
            have n10_ := Aside0.mk ((by rw [hg]; exact Nat.ne_of_gt (blk_lt (g := gb287) (o := .cells #[.int .i64 t282, .int .i64 t283, .slice Ao12 t284.length co12] 27 (0, 0)) (by (with_reducible repeat (first | refine blk_drewN ?_ _ | refine blk_drew ?_ | refine blk_alloc ?_ _)); exact BK287.out)) : gb289 ≠ gb287))
            clear HO_288002
            clear BK281
            clear BK287
            clear HB
            have HO_288002 := n0_
            have BK281 := n1_
            have BK287 := n2_
            have HB := n3_
            have BK289 := n4_
            have GW289 := n5_
            have GE289 := n6_
            have NB281_289 := n7_
            have NB289_281 := n8_
            have NB287_289 := n9_
            have NB289_287 := n10_
            clear n0_ n1_ n2_ n3_ n4_ n5_ n6_ n7_ n8_ n9_ n10_
            clear hb hbox hg
            refine hK.out _ _ ⟨(blk_cell BK287.out 0).trans rfl, (blk_cell BK287.out 1).trans rfl, (blk_cell BK287.out 2).trans rfl⟩ (fun hHeld => ?_)
            clear hK K
            refine norm_ (a' := ?_) ?_ ?_
            rotate_left
            · show Act.put _ (some 8) _ = _
              simp only [Act.put, List.setIfInBounds_toArray, List.set_cons_zero, List.set_cons_succ, i64_w, i32_w]
              rfl
            refine one_ (i := 12) (N := none) #[true, true, true, true, true, true, true, true, true, true, true, true, true] rfl rfl (one_of HT_.out (by kernel_rfl)) (by decide) (fun K hK => ?_)
            have hs25 : w24.cell? ⟨gb289, 0, none⟩ = some (.int .i64 0) := (blk_cell BK289.out 0).trans rfl
            have hfs25 := blk_frozen BK289.out 0
            have hns25_0 := NB281_289.out
            have hns25_1 := NB287_289.out
            have hms25_0 := NB289_281.out
            have hms25_1 := NB289_287.out
            have hs26 : w24.cell? ⟨gb289, 1, none⟩ = some (.int .i64 0) := (blk_cell BK289.out 1).trans rfl
            have hfs26 := blk_frozen BK289.out 1
            have hns26_0 := NB281_289.out
            have hns26_1 := NB287_289.out
            have hms26_0 := NB289_281.out
            have hms26_1 := NB289_287.out
            refine skip_ (w1 := ?_) (by rfl) rfl ?_ ?_
            rotate_left
            · go_simp
              rfl
            refine hK.out _ _ ⟨((cell_far (p := ⟨gb289, _, none⟩) NB287_289.out _).trans (((cell_far (p := ⟨gb289, _, none⟩) NB287_289.out _).trans (hHeld.1)))), ((cell_far (p := ⟨gb289, _, none⟩) NB287_289.out _).trans (((cell_far (p := ⟨gb289, _, none⟩) NB287_289.out _).trans (hHeld.2.1)))), ((cell_far (p := ⟨gb289, _, none⟩) NB287_289.out _).trans (((cell_far (p := ⟨gb289, _, none⟩) NB287_289.out _).trans (hHeld.2.2))))⟩ (fun hHeld => ?_)
            clear hK K
            refine done_ (done_of HT_.out (by kernel_rfl)) ?_
            have hnb27 := NB287_281.out
            have hnc27 := NB281_287.out
            have hnb28 := NB287_289.out
            have hnc28 := NB289_287.out
            have hcz29_0 : w24.cell? ⟨gb287, 0, none⟩ = some (.int .i64 t282) := (blk_cell BK287.out 0).trans rfl
            have hcz29_1 : w24.cell? ⟨gb287, 1, none⟩ = some (.int .i64 t283) := (blk_cell BK287.out 1).trans rfl
            have hcz29_2 : w24.cell? ⟨gb287, 2, none⟩ = some (.slice Ao12 t284.length co12) := (blk_cell BK287.out 2).trans rfl
            have hfz29_0 := blk_frozen BK287.out 0
            have hfz29_1 := blk_frozen BK287.out 1
            have hfz29_2 := blk_frozen BK287.out 2
            try go_wp2_with (first | ((with_reducible refine gate_dst (N := 9) rfl ?_); refine box_event ?hg (N := 9) ?hd (cs := #[.int .i64 0, .int .i64 0, .slice none 0 0]) (t := 27) ?hr ?_; (case hd => rfl); (case hg => rfl); (case hr => first | (go_simp; done) | (go_simp; rfl)); intro gb290 hg w30 hbox hb; have n0_ := Aside0.mk (Kd.R_below (by (with_reducible repeat (first | apply Kd.R_alloc | apply Kd.R_drewN | apply Kd.R_drew)); exact (Kd.R_mono (Kd.R_far (p := ⟨gb289, 1, none⟩) (Kd.R_far (p := ⟨gb289, 0, none⟩) (Kd.R_mono HO_288002.out (fun k_ hk => (⟨hk, hk.2⟩ : _ ∧ k_ ≠ gb289))) (fun _ hk => hk.2) (.int .i64 (Int.tmod (wrap64 (a1)) t282))) (fun _ hk => hk.2) (.int .i64 (Int.tmod (wrap64 (a2)) t283))) (fun _ h_ => h_.1))) hb); have n1_ := Aside0.mk (blk_below (g := gb281) (o := .cells #[.int .u8 a0_0, .int .u8 a0_1, .slice A0_2 l0_2.length c0_2] 24 (0, 0)) (by (with_reducible repeat (first | refine blk_drewN ?_ _ | refine blk_drew ?_ | refine blk_alloc ?_ _)); refine blk_far ?_ NB281_289.out _; (with_reducible repeat (first | refine blk_drewN ?_ _ | refine blk_drew ?_ | refine blk_alloc ?_ _)); refine blk_far ?_ NB281_289.out _; (with_reducible repeat (first | refine blk_drewN ?_ _ | refine blk_drew ?_ | refine blk_alloc ?_ _)); exact BK281.out) hb); have n2_ := Aside0.mk (blk_below (g := gb287) (o := .cells #[.int .i64 t282, .int .i64 t283, .slice Ao12 t284.length co12] 27 (0, 0)) (by (with_reducible repeat (first | refine blk_drewN ?_ _ | refine blk_drew ?_ | refine blk_alloc ?_ _)); refine blk_far ?_ NB287_289.out _; (with_reducible repeat (first | refine blk_drewN ?_ _ | refine blk_drew ?_ | refine blk_alloc ?_ _)); refine blk_far ?_ NB287_289.out _; (with_reducible repeat (first | refine blk_drewN ?_ _ | refine blk_drew ?_ | refine blk_alloc ?_ _)); exact BK287.out) hb); have n3_ := Aside0.mk (blk_below (g := gb289) (o := .cells #[.int .i64 (Int.tmod (wrap64 (a1)) t282), .int .i64 (Int.tmod (wrap64 (a2)) t283)] 40 (0, 0)) (by (with_reducible repeat (first | refine blk_drewN ?_ _ | refine blk_drew ?_ | refine blk_alloc ?_ _)); refine blk_put (cs := #[.int .i64 (Int.tmod (wrap64 (a1)) t282), .int .i64 0]) ?_ 1 _ rfl; (with_reducible repeat (first | refine blk_drewN ?_ _ | refine blk_drew ?_ | refine blk_alloc ?_ _)); refine blk_put (cs := #[.int .i64 0, .int .i64 0]) ?_ 0 _ rfl; (with_reducible repeat (first | refine blk_drewN ?_ _ | refine blk_drew ?_ | refine blk_alloc ?_ _)); exact BK289.out) hb); have n4_ := Aside0.mk (below_step (by repeat (first | (with_reducible first | exact HB.out | apply below_alloc | apply pw_below_drewN | apply below_drew1 | refine below_set ?_ GE281.out | refine below_set ?_ GE287.out | refine below_set ?_ GE289.out) | exact HB.out)) hb); have n5_ := Aside0.mk (hbox); have n6_ := Aside0.mk ((by rw [hg]; exact (below_size (by repeat (first | (with_reducible first | exact HB.out | apply below_alloc | apply pw_below_drewN | apply below_drew1 | refine below_set ?_ GE281.out | refine below_set ?_ GE287.out | refine below_set ?_ GE289.out) | exact HB.out))) : w.heap.size ≤ gb290)); have n7_ := Aside0.mk ((by rw [hg]; exact (below_size (by repeat (first | (with_reducible first | exact HB.out | apply below_alloc | apply pw_below_drewN | apply below_drew1 | refine below_set ?_ GE281.out | refine below_set ?_ GE287.out | refine below_set ?_ GE289.out) | exact HB.out))) : w.heap.size ≤ gb290)); have n8_ := Aside0.mk ((by rw [hg]; exact Nat.ne_of_lt (blk_lt (g := gb281) (o := .cells #[.int .u8 a0_0, .int .u8 a0_1, .slice A0_2 l0_2.length c0_2] 24 (0, 0)) (by (with_reducible repeat (first | refine blk_drewN ?_ _ | refine blk_drew ?_ | refine blk_alloc ?_ _)); refine blk_far ?_ NB281_289.out _; (with_reducible repeat (first | refine blk_drewN ?_ _ | refine blk_drew ?_ | refine blk_alloc ?_ _)); refine blk_far ?_ NB281_289.out _; (with_reducible repeat (first | refine blk_drewN ?_ _ | refine blk_drew ?_ | refine blk_alloc ?_ _)); exact BK281.out)) : gb281 ≠ gb290)); have n9_ := Aside0.mk ((by rw [hg]; exact Nat.ne_of_gt (blk_lt (g := gb281) (o := .cells #[.int .u8 a0_0, .int .u8 a0_1, .slice A0_2 l0_2.length c0_2] 24 (0, 0)) (by (with_reducible repeat (first | refine blk_drewN ?_ _ | refine blk_drew ?_ | refine blk_alloc ?_ _)); refine blk_far ?_ NB281_289.out _; (with_reducible repeat (first | refine blk_drewN ?_ _ | refine blk_drew ?_ | refine blk_alloc ?_ _)); refine blk_far ?_ NB281_289.out _; (with_reducible repeat (first | refine blk_drewN ?_ _ | refine blk_drew ?_ | refine blk_alloc ?_ _)); exact BK281.out)) : gb290 ≠ gb281)); have n10_ := Aside0.mk ((by rw [hg]; exact Nat.ne_of_lt (blk_lt (g := gb287) (o := .cells #[.int .i64 t282, .int .i64 t283, .slice Ao12 t284.length co12] 27 (0, 0)) (by (with_reducible repeat (first | refine blk_drewN ?_ _ | refine blk_drew ?_ | refine blk_alloc ?_ _)); refine blk_far ?_ NB287_289.out _; (with_reducible repeat (first | refine blk_drewN ?_ _ | refine blk_drew ?_ | refine blk_alloc ?_ _)); refine blk_far ?_ NB287_289.out _; (with_reducible repeat (first | refine blk_drewN ?_ _ | refine blk_drew ?_ | refine blk_alloc ?_ _)); exact BK287.out)) : gb287 ≠ gb290)); have n11_ := Aside0.mk ((by rw [hg]; exact Nat.ne_of_gt (blk_lt (g := gb287) (o := .cells #[.int .i64 t282, .int .i64 t283, .slice Ao12 t284.length co12] 27 (0, 0)) (by (with_reducible repeat (first | refine blk_drewN ?_ _ | refine blk_drew ?_ | refine blk_alloc ?_ _)); refine blk_far ?_ NB287_289.out _; (with_reducible repeat (first | refine blk_drewN ?_ _ | refine blk_drew ?_ | refine blk_alloc ?_ _)); refine blk_far ?_ NB287_289.out _; (with_reducible repeat (first | refine blk_drewN ?_ _ | refine blk_drew ?_ | refine blk_alloc ?_ _)); exact BK287.out)) : gb290 ≠ gb287)); have n12_ := Aside0.mk ((by rw [hg]; exact Nat.ne_of_lt (blk_lt (g := gb289) (o := .cells #[.int .i64 (Int.tmod (wrap64 (a1)) t282), .int .i64 (Int.tmod (wrap64 (a2)) t283)] 40 (0, 0)) (by (with_reducible repeat (first | refine blk_drewN ?_ _ | refine blk_drew ?_ | refine blk_alloc ?_ _)); refine blk_put (cs := #[.int .i64 (Int.tmod (wrap64 (a1)) t282), .int .i64 0]) ?_ 1 _ rfl; (with_reducible repeat (first | refine blk_drewN ?_ _ | refine blk_drew ?_ | refine blk_alloc ?_ _)); refine blk_put (cs := #[.int .i64 0, .int .i64 0]) ?_ 0 _ rfl; (with_reducible repeat (first | refine blk_drewN ?_ _ | refine blk_drew ?_ | refine blk_alloc ?_ _)); exact BK289.out)) : gb289 ≠ gb290)); have n13_ := Aside0.mk ((by rw [hg]; exact Nat.ne_of_gt (blk_lt (g := gb289) (o := .cells #[.int .i64 (Int.tmod (wrap64 (a1)) t282), .int .i64 (Int.tmod (wrap64 (a2)) t283)] 40 (0, 0)) (by (with_reducible repeat (first | refine blk_drewN ?_ _ | refine blk_drew ?_ | refine blk_alloc ?_ _)); refine blk_put (cs := #[.int .i64 (Int.tmod (wrap64 (a1)) t282), .int .i64 0]) ?_ 1 _ rfl; (with_reducible repeat (first | refine blk_drewN ?_ _ | refine blk_drew ?_ | refine blk_alloc ?_ _)); refine blk_put (cs := #[.int .i64 0, .int .i64 0]) ?_ 0 _ rfl; (with_reducible repeat (first | refine blk_drewN ?_ _ | refine blk_drew ?_ | refine blk_alloc ?_ _)); exact BK289.out)) : gb290 ≠ gb289)); clear HO_288002; clear BK281; clear BK287; clear BK289; clear HB; have HO_288002 := n0_; have BK281 := n1_; have BK287 := n2_; have BK289 := n3_; have HB := n4_; have BK290 := n5_; have GW290 := n6_; have GE290 := n7_; have NB281_290 := n8_; have NB290_281 := n9_; have NB287_290 := n10_; have NB290_287 := n11_; have NB289_290 := n12_; have NB290_289 := n13_; clear n0_ n1_ n2_ n3_ n4_ n5_ n6_ n7_ n8_ n9_ n10_ n11_ n12_ n13_; clear hb hbox hg; have hnb31 := NB290_281.out; have hnc31 := NB281_290.out; have hnb32 := NB290_287.out; have hnc32 := NB287_290.out; have hnb33 := NB290_289.out; have hnc33 := NB289_290.out; have hcz34_0 : w30.cell? ⟨gb290, 0, none⟩ = some (.int .i64 0) := (blk_cell BK290.out 0).trans rfl; have hcz34_1 : w30.cell? ⟨gb290, 1, none⟩ = some (.int .i64 0) := (blk_cell BK290.out 1).trans rfl; have hcz34_2 : w30.cell? ⟨gb290, 2, none⟩ = some (.slice none 0 0) := (blk_cell BK290.out 2).trans rfl; have hfz34_0 := blk_frozen BK290.out 0; have hfz34_1 := blk_frozen BK290.out 1; have hfz34_2 := blk_frozen BK290.out 2; have hcz35_0 : w30.cell? ⟨gb287, 0, none⟩ = some (.int .i64 t282) := (blk_cell BK287.out 0).trans rfl; have hcz35_1 : w30.cell? ⟨gb287, 1, none⟩ = some (.int .i64 t283) := (blk_cell BK287.out 1).trans rfl; have hcz35_2 : w30.cell? ⟨gb287, 2, none⟩ = some (.slice Ao12 t284.length co12) := (blk_cell BK287.out 2).trans rfl; have hfz35_0 := blk_frozen BK287.out 0; have hfz35_1 := blk_frozen BK287.out 1; have hfz35_2 := blk_frozen BK287.out 2))
            go_loopg [10, 44] kj4 (fun kq v10 v44 w' => ∃ (x10_2 : Bool) (x44_2 : Int) (x291002_2 : List (S40)) (u291002 : Value), v10 = .bool x10_2 ∧ v44 = .int .i64 x44_2 ∧ Aside0 (toruslaw30_MatchEdges.l0 kq x10_2 t284 (t284.length : Int) x44_2 t282 t283 t284 (Int.tmod (wrap64 (a1)) t282) (Int.tmod (wrap64 (a2)) t283) t282 t283 x291002_2 = some r) ∧ Aside0 (kq ≤ kj4) ∧ Aside0 (Kd.R k40 40 w' w.heap.size (fun k_ => some k_ ≠ (u291002 : Value).ownBlock ∧ k_ ≠ gb289) (.slice Ao12 t284.length co12) t284) ∧ Aside0 (Kd.R k40 40 w' w.heap.size (fun k_ => some k_ ≠ (u291002 : Value).ownBlock ∧ k_ ≠ gb289) (.slice Ao12 t284.length co12) t284) ∧ Aside0 (Kd.R k40 40 w' w.heap.size (fun k_ => some k_ ≠ ((.slice Ao12 t284.length co12) : Value).ownBlock ∧ some k_ ≠ ((.slice Ao12 t284.length co12) : Value).ownBlock ∧ k_ ≠ gb289) u291002 x291002_2) ∧ Aside0 (w'.heap[gb281]? = some (.cells #[.int .u8 a0_0, .int .u8 a0_1, (.slice A0_2 l0_2.length c0_2)] 24 (0, 0))) ∧ Aside0 (w'.heap[gb287]? = some (.cells #[.int .i64 t282, .int .i64 t283, (.slice Ao12 t284.length co12)] 27 (0, 0))) ∧ Aside0 (w'.heap[gb289]? = some (.cells #[.int .i64 (Int.tmod (wrap64 (a1)) t282), .int .i64 (Int.tmod (wrap64 (a2)) t283)] 40 (0, 0))) ∧ Aside0 (w'.heap[gb290]? = some (.cells #[.int .i64 t282, .int .i64 t283, u291002] 27 (0, 0))) ∧ Aside0 (Below w.heap.size w w'))
            case atStart => exact ⟨(false), (0), (([] : List (S40))), (.slice none 0 0), (by first | rfl | (simp; done) | (simp [*]; done)), (by first | rfl | (simp; done) | (simp [*]; done)), H', ⟨Nat.le_refl _⟩, ⟨by (with_reducible repeat (first | apply Kd.R_alloc | apply Kd.R_drewN | apply Kd.R_drew)); exact Kd.R_mono (Kd.R_far (p := ⟨gb290, 2, none⟩) (Kd.R_far (p := ⟨gb290, 1, none⟩) (Kd.R_far (p := ⟨gb290, 0, none⟩) (Kd.R_types HO_288002.out BK290.out (by decide)) (fun _ hk => hk.2) (.int .i64 t282)) (fun _ hk => hk.2) (.int .i64 t283)) (fun _ hk => hk.2) (.slice none 0 0)) (fun _ hk => ⟨(by simp [Value.ownBlock]), hk.1.2⟩)⟩, ⟨by (with_reducible repeat (first | apply Kd.R_alloc | apply Kd.R_drewN | apply Kd.R_drew)); exact Kd.R_mono (Kd.R_far (p := ⟨gb290, 2, none⟩) (Kd.R_far (p := ⟨gb290, 1, none⟩) (Kd.R_far (p := ⟨gb290, 0, none⟩) (Kd.R_types HO_288002.out BK290.out (by decide)) (fun _ hk => hk.2) (.int .i64 t282)) (fun _ hk => hk.2) (.int .i64 t283)) (fun _ hk => hk.2) (.slice none 0 0)) (fun _ hk => ⟨(by simp [Value.ownBlock]), hk.1.2⟩)⟩, ⟨by first | exact Kd.R_nil _ _ _ _ _ | exact Kd.N_nil _ _ _ _ _ | exact Kd.V_nil _ _ _ _ _ | exact Kd.Q_nil _ _ _ _ _ | exact Kd.S_nil _ _ _ _ _⟩, ⟨by (with_reducible repeat (first | refine blk_drewN ?_ _ | refine blk_drew ?_ | refine blk_alloc ?_ _)); refine blk_far ?_ NB281_290.out _; (with_reducible repeat (first | refine blk_drewN ?_ _ | refine blk_drew ?_ | refine blk_alloc ?_ _)); refine blk_far ?_ NB281_290.out _; (with_reducible repeat (first | refine blk_drewN ?_ _ | refine blk_drew ?_ | refine blk_alloc ?_ _)); refine blk_far ?_ NB281_290.out _; (with_reducible repeat (first | refine blk_drewN ?_ _ | refine blk_drew ?_ | refine blk_alloc ?_ _)); exact BK281.out⟩, ⟨by (with_reducible repeat (first | refine blk_drewN ?_ _ | refine blk_drew ?_ | refine blk_alloc ?_ _)); refine blk_far ?_ NB287_290.out _; (with_reducible repeat (first | refine blk_drewN ?_ _ | refine blk_drew ?_ | refine blk_alloc ?_ _)); refine blk_far ?_ NB287_290.out _; (with_reducible repeat (first | refine blk_drewN ?_ _ | refine blk_drew ?_ | refine blk_alloc ?_ _)); refine blk_far ?_ NB287_290.out _; (with_reducible repeat (first | refine blk_drewN ?_ _ | refine blk_drew ?_ | refine blk_alloc ?_ _)); exact BK287.out⟩, ⟨by (with_reducible repeat (first | refine blk_drewN ?_ _ | refine blk_drew ?_ | refine blk_alloc ?_ _)); refine blk_far ?_ NB289_290.out _; (with_reducible repeat (first | refine blk_drewN ?_ _ | refine blk_drew ?_ | refine blk_alloc ?_ _)); refine blk_far ?_ NB289_290.out _; (with_reducible repeat (first | refine blk_drewN ?_ _ | refine blk_drew ?_ | refine blk_alloc ?_ _)); refine blk_far ?_ NB289_290.out _; (with_reducible repeat (first | refine blk_drewN ?_ _ | refine blk_drew ?_ | refine blk_alloc ?_ _)); exact BK289.out⟩, ⟨by (with_reducible repeat (first | refine blk_drewN ?_ _ | refine blk_drew ?_ | refine blk_alloc ?_ _)); refine blk_put (cs := #[.int .i64 t282, .int .i64 t283, .slice none 0 0]) ?_ 2 _ rfl; (with_reducible repeat (first | refine blk_drewN ?_ _ | refine blk_drew ?_ | refine blk_alloc ?_ _)); refine blk_put (cs := #[.int .i64 t282, .int .i64 0, .slice none 0 0]) ?_ 1 _ rfl; (with_reducible repeat (first | refine blk_drewN ?_ _ | refine blk_drew ?_ | refine blk_alloc ?_ _)); refine blk_put (cs := #[.int .i64 0, .int .i64 0, .slice none 0 0]) ?_ 0 _ rfl; (with_reducible repeat (first | refine blk_drewN ?_ _ | refine blk_drew ?_ | refine blk_alloc ?_ _)); exact BK290.out⟩, ⟨by repeat (first | (with_reducible first | exact HB.out | apply below_alloc | apply pw_below_drewN | apply below_drew1 | refine below_set ?_ GE281.out | refine below_set ?_ GE287.out | refine below_set ?_ GE289.out | refine below_set ?_ GE290.out) | exact HB.out)⟩⟩
            case round =>
              clear H'
              try clear c1
              try clear c2
              try clear p2
              try clear c3
              try clear c4
              try clear p6
              try clear c10
              try clear c12
              try clear c13
              try clear c13b0
              try clear c13b1
              try clear c14
              try clear c16
              try clear c18
              try clear c21
              try clear c21b0
              try clear c21b1
              try clear c22
              try clear c22b0
              try clear c22b1
              try clear c27
              try clear c28
              try clear c31
              try clear c32
              try clear c33
              try clear hcz11_0
              try clear hcz11_1
              try clear hcz11_2
              try clear hcz15_0
              try clear hcz15_1
              try clear hcz15_2
              try clear hcz17_0
              try clear hcz17_1
              try clear hcz17_2
              try clear hcz29_0
              try clear hcz29_1
              try clear hcz29_2
              try clear hcz34_0
              try clear hcz34_1
              try clear hcz34_2
              try clear hcz35_0
              try clear hcz35_1
              try clear hcz35_2
              try clear hcz7_0
              try clear hcz7_1
              try clear hcz7_2
              try clear hfz11_0
              try clear hfz11_1
              try clear hfz11_2
              try clear hfz15_0
              try clear hfz15_1
              try clear hfz15_2
              try clear hfz17_0
              try clear hfz17_1
              try clear hfz17_2
              try clear hfz29_0
              try clear hfz29_1
              try clear hfz29_2
              try clear hfz34_0
              try clear hfz34_1
              try clear hfz34_2
              try clear hfz35_0
              try clear hfz35_1
              try clear hfz35_2
              try clear hfz7_0
              try clear hfz7_1
              try clear hfz7_2
              try clear p2
              obtain ⟨x10_2, x44_2, x291002_2, u291002, rfl, rfl, HA, HK2, HO_42, HO_288002, HO_291002, BK281, BK287, BK289, BK290, HB⟩ := hrel
              cases gk with
              | zero => exact absurd HA.out (by simp [toruslaw30_MatchEdges.l0])
              | succ k2 =>
                have H := HA.out
                clear HA
                simp only [toruslaw30_MatchEdges.l0] at H
                by_cases c36 : x44_2 < (t284.length : Int)
                · rw [if_pos c36] at H
                  have c36b0 : decide (x44_2 < (t284.length : Int)) = true := decide_eq_true c36
                  clear c36
                  by_cases c37 : 0 ≤ x44_2
                  · rw [if_pos c37] at H
                    have c37b0 : decide (0 ≤ x44_2) = true := decide_eq_true c37
                    clear c37
                    by_cases c38 : x44_2 < (t284.length : Int)
                    · rw [if_pos c38] at H
                      have c38b0 : decide (x44_2 < (t284.length : Int)) = true := decide_eq_true c38
                      clear c38
                      have HC39 := Aside0.mk H
                      clear H
                      have p291 : 0 ≤ (x44_2 : Int) := of_decide_eq_true (by first | (with_reducible assumption) | assumption)
                      have q291 : x44_2 < (t284.length : Int) := of_decide_eq_true (by first | (with_reducible assumption) | assumption)
                      obtain ⟨ad291, e291, hx291_0, hx291_1⟩ := at_T40 (Kd.R_reads' HO_42.out).2.2 x44_2 p291 q291
                      cases e291
                      replace p291 := eq_true p291
                      replace q291 := eq_true q291
                      go_upto_region 10 with (first | ((with_reducible refine gate_dst (N := 12) rfl ?_); refine box_event ?hg (N := 12) ?hd (cs := #[.int .i64 0, .int .i64 0]) (t := 40) ?hr ?_; (case hd => rfl); (case hg => rfl); (case hr => first | (go_simp; done) | (go_simp; rfl)); intro gb292 hg w40 hbox hb; have n0_ := Aside0.mk (Kd.R_below (Kd.R_elderB (by (with_reducible repeat (first | apply Kd.R_alloc | apply Kd.R_drewN | apply Kd.R_drew)); exact HO_42.out) gb292 (Nat.le_of_eq hg.symm)) hb); have n1_ := Aside0.mk (Kd.R_below (Kd.R_elderB (by (with_reducible repeat (first | apply Kd.R_alloc | apply Kd.R_drewN | apply Kd.R_drew)); exact HO_288002.out) gb292 (Nat.le_of_eq hg.symm)) hb); have n2_ := Aside0.mk (Kd.R_below (Kd.R_elderB (by (with_reducible repeat (first | apply Kd.R_alloc | apply Kd.R_drewN | apply Kd.R_drew)); exact HO_291002.out) gb292 (Nat.le_of_eq hg.symm)) hb); have n3_ := Aside0.mk (blk_below (g := gb281) (o := .cells #[.int .u8 a0_0, .int .u8 a0_1, .slice A0_2 l0_2.length c0_2] 24 (0, 0)) (by (with_reducible repeat (first | refine blk_drewN ?_ _ | refine blk_drew ?_ | refine blk_alloc ?_ _)); exact BK281.out) hb); have n4_ := Aside0.mk (blk_below (g := gb287) (o := .cells #[.int .i64 t282, .int .i64 t283, .slice (some ad291) t284.length co12] 27 (0, 0)) (by (with_reducible repeat (first | refine blk_drewN ?_ _ | refine blk_drew ?_ | refine blk_alloc ?_ _)); exact BK287.out) hb); have n5_ := Aside0.mk (blk_below (g := gb289) (o := .cells #[.int .i64 (Int.tmod (wrap64 (a1)) t282), .int .i64 (Int.tmod (wrap64 (a2)) t283)] 40 (0, 0)) (by (with_reducible repeat (first | refine blk_drewN ?_ _ | refine blk_drew ?_ | refine blk_alloc ?_ _)); exact BK289.out) hb); have n6_ := Aside0.mk (blk_below (g := gb290) (o := .cells #[.int .i64 t282, .int .i64 t283, u291002] 27 (0, 0)) (by (with_reducible repeat (first | refine blk_drewN ?_ _ | refine blk_drew ?_ | refine blk_alloc ?_ _)); exact BK290.out) hb); have n7_ := Aside0.mk (below_step (by repeat (first | (with_reducible first | exact HB.out | apply below_alloc | apply pw_below_drewN | apply below_drew1 | refine below_set ?_ GE281.out | refine below_set ?_ GE287.out | refine below_set ?_ GE289.out | refine below_set ?_ GE290.out) | exact HB.out)) hb); have n8_ := Aside0.mk (hbox); have n9_ := Aside0.mk ((by rw [hg]; exact (below_size (by repeat (first | (with_reducible first | exact HB.out | apply below_alloc | apply pw_below_drewN | apply below_drew1 | refine below_set ?_ GE281.out | refine below_set ?_ GE287.out | refine below_set ?_ GE289.out | refine below_set ?_ GE290.out) | exact HB.out))) : w.heap.size ≤ gb292)); have n10_ := Aside0.mk ((by rw [hg]; exact (below_size (by repeat (first | (with_reducible first | exact HB.out | apply below_alloc | apply pw_below_drewN | apply below_drew1 | refine below_set ?_ GE281.out | refine below_set ?_ GE287.out | refine below_set ?_ GE289.out | refine below_set ?_ GE290.out) | exact HB.out))) : w.heap.size ≤ gb292)); have n11_ := Aside0.mk ((by rw [hg]; exact Nat.ne_of_lt (blk_lt (g := gb281) (o := .cells #[.int .u8 a0_0, .int .u8 a0_1, .slice A0_2 l0_2.length c0_2] 24 (0, 0)) (by (with_reducible repeat (first | refine blk_drewN ?_ _ | refine blk_drew ?_ | refine blk_alloc ?_ _)); exact BK281.out)) : gb281 ≠ gb292)); have n12_ := Aside0.mk ((by rw [hg]; exact Nat.ne_of_gt (blk_lt (g := gb281) (o := .cells #[.int .u8 a0_0, .int .u8 a0_1, .slice A0_2 l0_2.length c0_2] 24 (0, 0)) (by (with_reducible repeat (first | refine blk_drewN ?_ _ | refine blk_drew ?_ | refine blk_alloc ?_ _)); exact BK281.out)) : gb292 ≠ gb281)); have n13_ := Aside0.mk ((by rw [hg]; exact Nat.ne_of_lt (blk_lt (g := gb287) (o := .cells #[.int .i64 t282, .int .i64 t283, .slice (some ad291) t284.length co12] 27 (0, 0)) (by (with_reducible repeat (first | refine blk_drewN ?_ _ | refine blk_drew ?_ | refine blk_alloc ?_ _)); exact BK287.out)) : gb287 ≠ gb292)); have n14_ := Aside0.mk ((by rw [hg]; exact Nat.ne_of_gt (blk_lt (g := gb287) (o := .cells #[.int .i64 t282, .int .i64 t283, .slice (some ad291) t284.length co12] 27 (0, 0)) (by (with_reducible repeat (first | refine blk_drewN ?_ _ | refine blk_drew ?_ | refine blk_alloc ?_ _)); exact BK287.out)) : gb292 ≠ gb287)); have n15_ := Aside0.mk ((by rw [hg]; exact Nat.ne_of_lt (blk_lt (g := gb289) (o := .cells #[.int .i64 (Int.tmod (wrap64 (a1)) t282), .int .i64 (Int.tmod (wrap64 (a2)) t283)] 40 (0, 0)) (by (with_reducible repeat (first | refine blk_drewN ?_ _ | refine blk_drew ?_ | refine blk_alloc ?_ _)); exact BK289.out)) : gb289 ≠ gb292)); have n16_ := Aside0.mk ((by rw [hg]; exact Nat.ne_of_gt (blk_lt (g := gb289) (o := .cells #[.int .i64 (Int.tmod (wrap64 (a1)) t282), .int .i64 (Int.tmod (wrap64 (a2)) t283)] 40 (0, 0)) (by (with_reducible repeat (first | refine blk_drewN ?_ _ | refine blk_drew ?_ | refine blk_alloc ?_ _)); exact BK289.out)) : gb292 ≠ gb289)); have n17_ := Aside0.mk ((by rw [hg]; exact Nat.ne_of_lt (blk_lt (g := gb290) (o := .cells #[.int .i64 t282, .int .i64 t283, u291002] 27 (0, 0)) (by (with_reducible repeat (first | refine blk_drewN ?_ _ | refine blk_drew ?_ | refine blk_alloc ?_ _)); exact BK290.out)) : gb290 ≠ gb292)); have n18_ := Aside0.mk ((by rw [hg]; exact Nat.ne_of_gt (blk_lt (g := gb290) (o := .cells #[.int .i64 t282, .int .i64 t283, u291002] 27 (0, 0)) (by (with_reducible repeat (first | refine blk_drewN ?_ _ | refine blk_drew ?_ | refine blk_alloc ?_ _)); exact BK290.out)) : gb292 ≠ gb290)); clear HO_42; clear HO_288002; clear HO_291002; clear BK281; clear BK287; clear BK289; clear BK290; clear HB; have HO_42 := n0_; have HO_288002 := n1_; have HO_291002 := n2_; have BK281 := n3_; have BK287 := n4_; have BK289 := n5_; have BK290 := n6_; have HB := n7_; have BK292 := n8_; have GW292 := n9_; have GE292 := n10_; have NB281_292 := n11_; have NB292_281 := n12_; have NB287_292 := n13_; have NB292_287 := n14_; have NB289_292 := n15_; have NB292_289 := n16_; have NB290_292 := n17_; have NB292_290 := n18_; clear n0_ n1_ n2_ n3_ n4_ n5_ n6_ n7_ n8_ n9_ n10_ n11_ n12_ n13_ n14_ n15_ n16_ n17_ n18_; clear hb hbox hg; have hnb41 := NB292_281.out; have hnc41 := NB281_292.out; have hnb42 := NB292_287.out; have hnc42 := NB287_292.out; have hnb43 := NB292_289.out; have hnc43 := NB289_292.out; have hnb44 := NB292_290.out; have hnc44 := NB290_292.out; have hcz45_0 : w40.cell? ⟨gb292, 0, none⟩ = some (.int .i64 0) := (blk_cell BK292.out 0).trans rfl; have hcz45_1 : w40.cell? ⟨gb292, 1, none⟩ = some (.int .i64 0) := (blk_cell BK292.out 1).trans rfl; have hfz45_0 := blk_frozen BK292.out 0; have hfz45_1 := blk_frozen BK292.out 1))
                      (try simp only [Act.put, List.setIfInBounds_toArray, List.set_cons_zero, List.set_cons_succ])
                      go_cut [70] (fun v70 wc => ∃ (kq : Nat) (x70_38 : Bool), v70 = .bool x70_38 ∧ Aside0 (toruslaw30_MatchEdges.j2 kq x10_2 t284 (t284.length : Int) x44_2 x70_38 t282 t283 t284 (Int.tmod (wrap64 (a1)) t282) (Int.tmod (wrap64 (a2)) t283) t282 t283 x291002_2 ((rd_T40 t284 x44_2).f0) ((rd_T40 t284 x44_2).f1) = some r) ∧ Aside0 (kq ≤ k2) ∧ Aside0 (Kd.R k40 40 wc w.heap.size (fun k_ => some k_ ≠ (u291002 : Value).ownBlock ∧ k_ ≠ gb289 ∧ k_ ≠ gb292) (.slice (some ad291) t284.length co12) t284) ∧ Aside0 (Kd.R k40 40 wc w.heap.size (fun k_ => some k_ ≠ (u291002 : Value).ownBlock ∧ k_ ≠ gb289 ∧ k_ ≠ gb292) (.slice (some ad291) t284.length co12) t284) ∧ Aside0 (Kd.R k40 40 wc w.heap.size (fun k_ => some k_ ≠ ((.slice (some ad291) t284.length co12) : Value).ownBlock ∧ some k_ ≠ ((.slice (some ad291) t284.length co12) : Value).ownBlock ∧ k_ ≠ gb289 ∧ k_ ≠ gb292) u291002 x291002_2) ∧ Aside0 (wc.heap[gb281]? = some (.cells #[.int .u8 a0_0, .int .u8 a0_1, (.slice A0_2 l0_2.length c0_2)] 24 (0, 0))) ∧ Aside0 (wc.heap[gb287]? = some (.cells #[.int .i64 t282, .int .i64 t283, (.slice (some ad291) t284.length co12)] 27 (0, 0))) ∧ Aside0 (wc.heap[gb289]? = some (.cells #[.int .i64 (Int.tmod (wrap64 (a1)) t282), .int .i64 (Int.tmod (wrap64 (a2)) t283)] 40 (0, 0))) ∧ Aside0 (wc.heap[gb290]? = some (.cells #[.int .i64 t282, .int .i64 t283, u291002] 27 (0, 0))) ∧ Aside0 (wc.heap[gb292]? = some (.cells #[.int .i64 ((rd_T40 t284 x44_2).f0), .int .i64 ((rd_T40 t284 x44_2).f1)] 40 (0, 0))) ∧ Aside0 (Below w.heap.size w wc))
                      case first =>
                        have H := HC39.out
                        clear HC39
                        by_cases c46 : x10_2 = true
                        · subst c46
                          have H1 : (toruslaw30_MatchEdges.j2 k2 true t284 (t284.length : Int) x44_2 false t282 t283 t284 (Int.tmod (wrap64 (a1)) t282) (Int.tmod (wrap64 (a2)) t283) t282 t283 x291002_2 ((rd_T40 t284 x44_2).f0) ((rd_T40 t284 x44_2).f1)) = some r := by rw [if_pos rfl] at H; exact H
                          clear H
                          have H := H1
                          clear H1
                          have H' := Aside0.mk H
                          clear H
                          go_wp2
                          go_meet
                          case rel => exact ⟨_, (false), (by first | rfl | (simp; done) | (simp [*]; done)), H', ⟨by have := HJ4.out; have := HK2.out; first | omega | exact Nat.le_refl _⟩, ⟨by (with_reducible repeat (first | apply Kd.R_alloc | apply Kd.R_drewN | apply Kd.R_drew)); exact Kd.R_mono (Kd.R_far (p := ⟨gb292, 1, none⟩) (Kd.R_far (p := ⟨gb292, 0, none⟩) (Kd.R_mono HO_42.out (fun k_ hk => (⟨hk, hk.2⟩ : _ ∧ k_ ≠ gb292))) (fun _ hk => hk.2) (.int .i64 ((rd_T40 t284 x44_2).f0))) (fun _ hk => hk.2) (.int .i64 ((rd_T40 t284 x44_2).f1))) (fun _ hk => ⟨hk.1.1.1, ⟨hk.1.1.2, hk.1.2⟩⟩)⟩, ⟨by (with_reducible repeat (first | apply Kd.R_alloc | apply Kd.R_drewN | apply Kd.R_drew)); exact Kd.R_mono (Kd.R_far (p := ⟨gb292, 1, none⟩) (Kd.R_far (p := ⟨gb292, 0, none⟩) (Kd.R_mono HO_288002.out (fun k_ hk => (⟨hk, hk.2⟩ : _ ∧ k_ ≠ gb292))) (fun _ hk => hk.2) (.int .i64 ((rd_T40 t284 x44_2).f0))) (fun _ hk => hk.2) (.int .i64 ((rd_T40 t284 x44_2).f1))) (fun _ hk => ⟨hk.1.1.1, ⟨hk.1.1.2, hk.1.2⟩⟩)⟩, ⟨by (with_reducible repeat (first | apply Kd.R_alloc | apply Kd.R_drewN | apply Kd.R_drew)); exact Kd.R_mono (Kd.R_far (p := ⟨gb292, 1, none⟩) (Kd.R_far (p := ⟨gb292, 0, none⟩) (Kd.R_mono HO_291002.out (fun k_ hk => (⟨hk, hk.2⟩ : _ ∧ k_ ≠ gb292))) (fun _ hk => hk.2) (.int .i64 ((rd_T40 t284 x44_2).f0))) (fun _ hk => hk.2) (.int .i64 ((rd_T40 t284 x44_2).f1))) (fun _ hk => ⟨hk.1.1.1, ⟨hk.1.1.2.1, ⟨hk.1.1.2.2, hk.1.2⟩⟩⟩)⟩, ⟨by (with_reducible repeat (first | refine blk_drewN ?_ _ | refine blk_drew ?_ | refine blk_alloc ?_ _)); refine blk_far ?_ NB281_292.out _; (with_reducible repeat (first | refine blk_drewN ?_ _ | refine blk_drew ?_ | refine blk_alloc ?_ _)); refine blk_far ?_ NB281_292.out _; (with_reducible repeat (first | refine blk_drewN ?_ _ | refine blk_drew ?_ | refine blk_alloc ?_ _)); exact BK281.out⟩, ⟨by (with_reducible repeat (first | refine blk_drewN ?_ _ | refine blk_drew ?_ | refine blk_alloc ?_ _)); refine blk_far ?_ NB287_292.out _; (with_reducible repeat (first | refine blk_drewN ?_ _ | refine blk_drew ?_ | refine blk_alloc ?_ _)); refine blk_far ?_ NB287_292.out _; (with_reducible repeat (first | refine blk_drewN ?_ _ | refine blk_drew ?_ | refine blk_alloc ?_ _)); exact BK287.out⟩, ⟨by (with_reducible repeat (first | refine blk_drewN ?_ _ | refine blk_drew ?_ | refine blk_alloc ?_ _)); refine blk_far ?_ NB289_292.out _; (with_reducible repeat (first | refine blk_drewN ?_ _ | refine blk_drew ?_ | refine blk_alloc ?_ _)); refine blk_far ?_ NB289_292.out _; (with_reducible repeat (first | refine blk_drewN ?_ _ | refine blk_drew ?_ | refine blk_alloc ?_ _)); exact BK289.out⟩, ⟨by (with_reducible repeat (first | refine blk_drewN ?_ _ | refine blk_drew ?_ | refine blk_alloc ?_ _)); refine blk_far ?_ NB290_292.out _; (with_reducible repeat (first | refine blk_drewN ?_ _ | refine blk_drew ?_ | refine blk_alloc ?_ _)); refine blk_far ?_ NB290_292.out _; (with_reducible repeat (first | refine blk_drewN ?_ _ | refine blk_drew ?_ | refine blk_alloc ?_ _)); exact BK290.out⟩, ⟨by (with_reducible repeat (first | refine blk_drewN ?_ _ | refine blk_drew ?_ | refine blk_alloc ?_ _)); refine blk_put (cs := #[.int .i64 ((rd_T40 t284 x44_2).f0), .int .i64 0]) ?_ 1 _ rfl; (with_reducible repeat (first | refine blk_drewN ?_ _ | refine blk_drew ?_ | refine blk_alloc ?_ _)); refine blk_put (cs := #[.int .i64 0, .int .i64 0]) ?_ 0 _ rfl; (with_reducible repeat (first | refine blk_drewN ?_ _ | refine blk_drew ?_ | refine blk_alloc ?_ _)); exact BK292.out⟩, ⟨by repeat (first | (with_reducible first | exact HB.out | apply below_alloc | apply pw_below_drewN | apply below_drew1 | refine below_set ?_ GE281.out | refine below_set ?_ GE287.out | refine below_set ?_ GE289.out | refine below_set ?_ GE290.out | refine below_set ?_ GE292.out) | exact HB.out)⟩⟩
                        · replace c46 := Bool.eq_false_iff.mpr c46
                          subst c46
                          have H1 : (if ((rd_T40 t284 x44_2).f0) > (Int.tmod (wrap64 (a1)) t282) then (toruslaw30_MatchEdges.j2 k2 false t284 (t284.length : Int) x44_2 true t282 t283 t284 (Int.tmod (wrap64 (a1)) t282) (Int.tmod (wrap64 (a2)) t283) t282 t283 x291002_2 ((rd_T40 t284 x44_2).f0) ((rd_T40 t284 x44_2).f1)) else (if ((rd_T40 t284 x44_2).f0) = (Int.tmod (wrap64 (a1)) t282) then (toruslaw30_MatchEdges.j2 k2 false t284 (t284.length : Int) x44_2 (decide (((rd_T40 t284 x44_2).f1) ≥ (Int.tmod (wrap64 (a2)) t283))) t282 t283 t284 (Int.tmod (wrap64 (a1)) t282) (Int.tmod (wrap64 (a2)) t283) t282 t283 x291002_2 ((rd_T40 t284 x44_2).f0) ((rd_T40 t284 x44_2).f1)) else (toruslaw30_MatchEdges.j2 k2 false t284 (t284.length : Int) x44_2 false t282 t283 t284 (Int.tmod (wrap64 (a1)) t282) (Int.tmod (wrap64 (a2)) t283) t282 t283 x291002_2 ((rd_T40 t284 x44_2).f0) ((rd_T40 t284 x44_2).f1)))) = some r := by rw [if_neg (show ¬ (false = true) by decide)] at H; exact H
                          clear H
                          have H := H1
                          clear H1
                          by_cases c47 : ((rd_T40 t284 x44_2).f0) > (Int.tmod (wrap64 (a1)) t282)
                          · rw [if_pos c47] at H
                            have c47b0 : decide ((Int.tmod (wrap64 (a1)) t282) < ((rd_T40 t284 x44_2).f0)) = true := decide_eq_true c47
                            clear c47
                            (first | rw [c47b0] | (simp only [i64_w, i32_w]; rw [c47b0]) | skip)
                            have H' := Aside0.mk H
                            clear H
                            have hnb48 := NB292_281.out
                            have hnc48 := NB281_292.out
                            have hnb49 := NB292_287.out
                            have hnc49 := NB287_292.out
                            have hnb50 := NB292_289.out
                            have hnc50 := NB289_292.out
                            have hnb51 := NB292_290.out
                            have hnc51 := NB290_292.out
                            have hcz52_0 : w40.cell? ⟨gb292, 0, none⟩ = some (.int .i64 0) := (blk_cell BK292.out 0).trans rfl
                            have hcz52_1 : w40.cell? ⟨gb292, 1, none⟩ = some (.int .i64 0) := (blk_cell BK292.out 1).trans rfl
                            have hfz52_0 := blk_frozen BK292.out 0
                            have hfz52_1 := blk_frozen BK292.out 1
                            have hnb53 := NB289_281.out
                            have hnc53 := NB281_289.out
                            have hnb54 := NB289_287.out
                            have hnc54 := NB287_289.out
                            have hnb55 := NB289_290.out
                            have hnc55 := NB290_289.out
                            have hcz56_0 : w40.cell? ⟨gb289, 0, none⟩ = some (.int .i64 (Int.tmod (wrap64 (a1)) t282)) := (blk_cell BK289.out 0).trans rfl
                            have hcz56_1 : w40.cell? ⟨gb289, 1, none⟩ = some (.int .i64 (Int.tmod (wrap64 (a2)) t283)) := (blk_cell BK289.out 1).trans rfl
                            have hfz56_0 := blk_frozen BK289.out 0
                            have hfz56_1 := blk_frozen BK289.out 1
                            go_wp2
                            go_meet
                            case rel => exact ⟨_, (true), (by first | rfl | (simp; done) | (simp [*]; done)), H', ⟨by have := HJ4.out; have := HK2.out; first | omega | exact Nat.le_refl _⟩, ⟨by (with_reducible repeat (first | apply Kd.R_alloc | apply Kd.R_drewN | apply Kd.R_drew)); exact Kd.R_mono (Kd.R_far (p := ⟨gb292, 1, none⟩) (Kd.R_far (p := ⟨gb292, 0, none⟩) (Kd.R_mono HO_42.out (fun k_ hk => (⟨hk, hk.2⟩ : _ ∧ k_ ≠ gb292))) (fun _ hk => hk.2) (.int .i64 ((rd_T40 t284 x44_2).f0))) (fun _ hk => hk.2) (.int .i64 ((rd_T40 t284 x44_2).f1))) (fun _ hk => ⟨hk.1.1.1, ⟨hk.1.1.2, hk.1.2⟩⟩)⟩, ⟨by (with_reducible repeat (first | apply Kd.R_alloc | apply Kd.R_drewN | apply Kd.R_drew)); exact Kd.R_mono (Kd.R_far (p := ⟨gb292, 1, none⟩) (Kd.R_far (p := ⟨gb292, 0, none⟩) (Kd.R_mono HO_288002.out (fun k_ hk => (⟨hk, hk.2⟩ : _ ∧ k_ ≠ gb292))) (fun _ hk => hk.2) (.int .i64 ((rd_T40 t284 x44_2).f0))) (fun _ hk => hk.2) (.int .i64 ((rd_T40 t284 x44_2).f1))) (fun _ hk => ⟨hk.1.1.1, ⟨hk.1.1.2, hk.1.2⟩⟩)⟩, ⟨by (with_reducible repeat (first | apply Kd.R_alloc | apply Kd.R_drewN | apply Kd.R_drew)); exact Kd.R_mono (Kd.R_far (p := ⟨gb292, 1, none⟩) (Kd.R_far (p := ⟨gb292, 0, none⟩) (Kd.R_mono HO_291002.out (fun k_ hk => (⟨hk, hk.2⟩ : _ ∧ k_ ≠ gb292))) (fun _ hk => hk.2) (.int .i64 ((rd_T40 t284 x44_2).f0))) (fun _ hk => hk.2) (.int .i64 ((rd_T40 t284 x44_2).f1))) (fun _ hk => ⟨hk.1.1.1, ⟨hk.1.1.2.1, ⟨hk.1.1.2.2, hk.1.2⟩⟩⟩)⟩, ⟨by (with_reducible repeat (first | refine blk_drewN ?_ _ | refine blk_drew ?_ | refine blk_alloc ?_ _)); refine blk_far ?_ NB281_292.out _; (with_reducible repeat (first | refine blk_drewN ?_ _ | refine blk_drew ?_ | refine blk_alloc ?_ _)); refine blk_far ?_ NB281_292.out _; (with_reducible repeat (first | refine blk_drewN ?_ _ | refine blk_drew ?_ | refine blk_alloc ?_ _)); exact BK281.out⟩, ⟨by (with_reducible repeat (first | refine blk_drewN ?_ _ | refine blk_drew ?_ | refine blk_alloc ?_ _)); refine blk_far ?_ NB287_292.out _; (with_reducible repeat (first | refine blk_drewN ?_ _ | refine blk_drew ?_ | refine blk_alloc ?_ _)); refine blk_far ?_ NB287_292.out _; (with_reducible repeat (first | refine blk_drewN ?_ _ | refine blk_drew ?_ | refine blk_alloc ?_ _)); exact BK287.out⟩, ⟨by (with_reducible repeat (first | refine blk_drewN ?_ _ | refine blk_drew ?_ | refine blk_alloc ?_ _)); refine blk_far ?_ NB289_292.out _; (with_reducible repeat (first | refine blk_drewN ?_ _ | refine blk_drew ?_ | refine blk_alloc ?_ _)); refine blk_far ?_ NB289_292.out _; (with_reducible repeat (first | refine blk_drewN ?_ _ | refine blk_drew ?_ | refine blk_alloc ?_ _)); exact BK289.out⟩, ⟨by (with_reducible repeat (first | refine blk_drewN ?_ _ | refine blk_drew ?_ | refine blk_alloc ?_ _)); refine blk_far ?_ NB290_292.out _; (with_reducible repeat (first | refine blk_drewN ?_ _ | refine blk_drew ?_ | refine blk_alloc ?_ _)); refine blk_far ?_ NB290_292.out _; (with_reducible repeat (first | refine blk_drewN ?_ _ | refine blk_drew ?_ | refine blk_alloc ?_ _)); exact BK290.out⟩, ⟨by (with_reducible repeat (first | refine blk_drewN ?_ _ | refine blk_drew ?_ | refine blk_alloc ?_ _)); refine blk_put (cs := #[.int .i64 ((rd_T40 t284 x44_2).f0), .int .i64 0]) ?_ 1 _ rfl; (with_reducible repeat (first | refine blk_drewN ?_ _ | refine blk_drew ?_ | refine blk_alloc ?_ _)); refine blk_put (cs := #[.int .i64 0, .int .i64 0]) ?_ 0 _ rfl; (with_reducible repeat (first | refine blk_drewN ?_ _ | refine blk_drew ?_ | refine blk_alloc ?_ _)); exact BK292.out⟩, ⟨by repeat (first | (with_reducible first | exact HB.out | apply below_alloc | apply pw_below_drewN | apply below_drew1 | refine below_set ?_ GE281.out | refine below_set ?_ GE287.out | refine below_set ?_ GE289.out | refine below_set ?_ GE290.out | refine below_set ?_ GE292.out) | exact HB.out)⟩⟩
                          · rw [if_neg c47] at H
                            have c47b0 : decide ((Int.tmod (wrap64 (a1)) t282) < ((rd_T40 t284 x44_2).f0)) = false := decide_eq_false c47
                            clear c47
                            (first | rw [c47b0] | (simp only [i64_w, i32_w]; rw [c47b0]) | skip)
                            by_cases c57 : ((rd_T40 t284 x44_2).f0) = (Int.tmod (wrap64 (a1)) t282)
                            · rw [if_pos c57] at H
                              have c57b0 : (((rd_T40 t284 x44_2).f0) == (Int.tmod (wrap64 (a1)) t282)) = true := beq_iff_eq.mpr c57
                              have c57b1 : (((rd_T40 t284 x44_2).f0) != (Int.tmod (wrap64 (a1)) t282)) = false := bne_eq_false_iff_eq.mpr c57
                              clear c57
                              have H' := Aside0.mk H
                              clear H
                              have hnb58 := NB292_281.out
                              have hnc58 := NB281_292.out
                              have hnb59 := NB292_287.out
                              have hnc59 := NB287_292.out
                              have hnb60 := NB292_289.out
                              have hnc60 := NB289_292.out
                              have hnb61 := NB292_290.out
                              have hnc61 := NB290_292.out
                              have hcz62_0 : w40.cell? ⟨gb292, 0, none⟩ = some (.int .i64 0) := (blk_cell BK292.out 0).trans rfl
                              have hcz62_1 : w40.cell? ⟨gb292, 1, none⟩ = some (.int .i64 0) := (blk_cell BK292.out 1).trans rfl
                              have hfz62_0 := blk_frozen BK292.out 0
                              have hfz62_1 := blk_frozen BK292.out 1
                              have hnb63 := NB289_281.out
                              have hnc63 := NB281_289.out
                              have hnb64 := NB289_287.out
                              have hnc64 := NB287_289.out
                              have hnb65 := NB289_290.out
                              have hnc65 := NB290_289.out
                              have hcz66_0 : w40.cell? ⟨gb289, 0, none⟩ = some (.int .i64 (Int.tmod (wrap64 (a1)) t282)) := (blk_cell BK289.out 0).trans rfl
                              have hcz66_1 : w40.cell? ⟨gb289, 1, none⟩ = some (.int .i64 (Int.tmod (wrap64 (a2)) t283)) := (blk_cell BK289.out 1).trans rfl
                              have hfz66_0 := blk_frozen BK289.out 0
                              have hfz66_1 := blk_frozen BK289.out 1
                              go_wp2
                              go_meet
                              case rel => exact ⟨_, (decide (((rd_T40 t284 x44_2).f1) ≥ (Int.tmod (wrap64 (a2)) t283))), (by first | rfl | (simp; done) | (simp [*]; done)), H', ⟨by have := HJ4.out; have := HK2.out; first | omega | exact Nat.le_refl _⟩, ⟨by (with_reducible repeat (first | apply Kd.R_alloc | apply Kd.R_drewN | apply Kd.R_drew)); exact Kd.R_mono (Kd.R_far (p := ⟨gb292, 1, none⟩) (Kd.R_far (p := ⟨gb292, 0, none⟩) (Kd.R_mono HO_42.out (fun k_ hk => (⟨hk, hk.2⟩ : _ ∧ k_ ≠ gb292))) (fun _ hk => hk.2) (.int .i64 ((rd_T40 t284 x44_2).f0))) (fun _ hk => hk.2) (.int .i64 ((rd_T40 t284 x44_2).f1))) (fun _ hk => ⟨hk.1.1.1, ⟨hk.1.1.2, hk.1.2⟩⟩)⟩, ⟨by (with_reducible repeat (first | apply Kd.R_alloc | apply Kd.R_drewN | apply Kd.R_drew)); exact Kd.R_mono (Kd.R_far (p := ⟨gb292, 1, none⟩) (Kd.R_far (p := ⟨gb292, 0, none⟩) (Kd.R_mono HO_288002.out (fun k_ hk => (⟨hk, hk.2⟩ : _ ∧ k_ ≠ gb292))) (fun _ hk => hk.2) (.int .i64 ((rd_T40 t284 x44_2).f0))) (fun _ hk => hk.2) (.int .i64 ((rd_T40 t284 x44_2).f1))) (fun _ hk => ⟨hk.1.1.1, ⟨hk.1.1.2, hk.1.2⟩⟩)⟩, ⟨by (with_reducible repeat (first | apply Kd.R_alloc | apply Kd.R_drewN | apply Kd.R_drew)); exact Kd.R_mono (Kd.R_far (p := ⟨gb292, 1, none⟩) (Kd.R_far (p := ⟨gb292, 0, none⟩) (Kd.R_mono HO_291002.out (fun k_ hk => (⟨hk, hk.2⟩ : _ ∧ k_ ≠ gb292))) (fun _ hk => hk.2) (.int .i64 ((rd_T40 t284 x44_2).f0))) (fun _ hk => hk.2) (.int .i64 ((rd_T40 t284 x44_2).f1))) (fun _ hk => ⟨hk.1.1.1, ⟨hk.1.1.2.1, ⟨hk.1.1.2.2, hk.1.2⟩⟩⟩)⟩, ⟨by (with_reducible repeat (first | refine blk_drewN ?_ _ | refine blk_drew ?_ | refine blk_alloc ?_ _)); refine blk_far ?_ NB281_292.out _; (with_reducible repeat (first | refine blk_drewN ?_ _ | refine blk_drew ?_ | refine blk_alloc ?_ _)); refine blk_far ?_ NB281_292.out _; (with_reducible repeat (first | refine blk_drewN ?_ _ | refine blk_drew ?_ | refine blk_alloc ?_ _)); exact BK281.out⟩, ⟨by (with_reducible repeat (first | refine blk_drewN ?_ _ | refine blk_drew ?_ | refine blk_alloc ?_ _)); refine blk_far ?_ NB287_292.out _; (with_reducible repeat (first | refine blk_drewN ?_ _ | refine blk_drew ?_ | refine blk_alloc ?_ _)); refine blk_far ?_ NB287_292.out _; (with_reducible repeat (first | refine blk_drewN ?_ _ | refine blk_drew ?_ | refine blk_alloc ?_ _)); exact BK287.out⟩, ⟨by (with_reducible repeat (first | refine blk_drewN ?_ _ | refine blk_drew ?_ | refine blk_alloc ?_ _)); refine blk_far ?_ NB289_292.out _; (with_reducible repeat (first | refine blk_drewN ?_ _ | refine blk_drew ?_ | refine blk_alloc ?_ _)); refine blk_far ?_ NB289_292.out _; (with_reducible repeat (first | refine blk_drewN ?_ _ | refine blk_drew ?_ | refine blk_alloc ?_ _)); exact BK289.out⟩, ⟨by (with_reducible repeat (first | refine blk_drewN ?_ _ | refine blk_drew ?_ | refine blk_alloc ?_ _)); refine blk_far ?_ NB290_292.out _; (with_reducible repeat (first | refine blk_drewN ?_ _ | refine blk_drew ?_ | refine blk_alloc ?_ _)); refine blk_far ?_ NB290_292.out _; (with_reducible repeat (first | refine blk_drewN ?_ _ | refine blk_drew ?_ | refine blk_alloc ?_ _)); exact BK290.out⟩, ⟨by (with_reducible repeat (first | refine blk_drewN ?_ _ | refine blk_drew ?_ | refine blk_alloc ?_ _)); refine blk_put (cs := #[.int .i64 ((rd_T40 t284 x44_2).f0), .int .i64 0]) ?_ 1 _ rfl; (with_reducible repeat (first | refine blk_drewN ?_ _ | refine blk_drew ?_ | refine blk_alloc ?_ _)); refine blk_put (cs := #[.int .i64 0, .int .i64 0]) ?_ 0 _ rfl; (with_reducible repeat (first | refine blk_drewN ?_ _ | refine blk_drew ?_ | refine blk_alloc ?_ _)); exact BK292.out⟩, ⟨by repeat (first | (with_reducible first | exact HB.out | apply below_alloc | apply pw_below_drewN | apply below_drew1 | refine below_set ?_ GE281.out | refine below_set ?_ GE287.out | refine below_set ?_ GE289.out | refine below_set ?_ GE290.out | refine below_set ?_ GE292.out) | exact HB.out)⟩⟩
                            · rw [if_neg c57] at H
                              have c57b0 : (((rd_T40 t284 x44_2).f0) == (Int.tmod (wrap64 (a1)) t282)) = false := beq_eq_false_iff_ne.mpr c57
                              have c57b1 : (((rd_T40 t284 x44_2).f0) != (Int.tmod (wrap64 (a1)) t282)) = true := bne_iff_ne.mpr c57
                              have H' := Aside0.mk H
                              clear H
                              have hnb67 := NB292_281.out
                              have hnc67 := NB281_292.out
                              have hnb68 := NB292_287.out
                              have hnc68 := NB287_292.out
                              have hnb69 := NB292_289.out
                              have hnc69 := NB289_292.out
                              have hnb70 := NB292_290.out
                              have hnc70 := NB290_292.out
                              have hcz71_0 : w40.cell? ⟨gb292, 0, none⟩ = some (.int .i64 0) := (blk_cell BK292.out 0).trans rfl
                              have hcz71_1 : w40.cell? ⟨gb292, 1, none⟩ = some (.int .i64 0) := (blk_cell BK292.out 1).trans rfl
                              have hfz71_0 := blk_frozen BK292.out 0
                              have hfz71_1 := blk_frozen BK292.out 1
                              have hnb72 := NB289_281.out
                              have hnc72 := NB281_289.out
                              have hnb73 := NB289_287.out
                              have hnc73 := NB287_289.out
                              have hnb74 := NB289_290.out
                              have hnc74 := NB290_289.out
                              have hcz75_0 : w40.cell? ⟨gb289, 0, none⟩ = some (.int .i64 (Int.tmod (wrap64 (a1)) t282)) := (blk_cell BK289.out 0).trans rfl
                              have hcz75_1 : w40.cell? ⟨gb289, 1, none⟩ = some (.int .i64 (Int.tmod (wrap64 (a2)) t283)) := (blk_cell BK289.out 1).trans rfl
                              have hfz75_0 := blk_frozen BK289.out 0
                              have hfz75_1 := blk_frozen BK289.out 1
                              go_wp2
                              go_meet
                              case rel => exact ⟨_, (false), (by first | rfl | (simp; done) | (simp [*]; done)), H', ⟨by have := HJ4.out; have := HK2.out; first | omega | exact Nat.le_refl _⟩, ⟨by (with_reducible repeat (first | apply Kd.R_alloc | apply Kd.R_drewN | apply Kd.R_drew)); exact Kd.R_mono (Kd.R_far (p := ⟨gb292, 1, none⟩) (Kd.R_far (p := ⟨gb292, 0, none⟩) (Kd.R_mono HO_42.out (fun k_ hk => (⟨hk, hk.2⟩ : _ ∧ k_ ≠ gb292))) (fun _ hk => hk.2) (.int .i64 ((rd_T40 t284 x44_2).f0))) (fun _ hk => hk.2) (.int .i64 ((rd_T40 t284 x44_2).f1))) (fun _ hk => ⟨hk.1.1.1, ⟨hk.1.1.2, hk.1.2⟩⟩)⟩, ⟨by (with_reducible repeat (first | apply Kd.R_alloc | apply Kd.R_drewN | apply Kd.R_drew)); exact Kd.R_mono (Kd.R_far (p := ⟨gb292, 1, none⟩) (Kd.R_far (p := ⟨gb292, 0, none⟩) (Kd.R_mono HO_288002.out (fun k_ hk => (⟨hk, hk.2⟩ : _ ∧ k_ ≠ gb292))) (fun _ hk => hk.2) (.int .i64 ((rd_T40 t284 x44_2).f0))) (fun _ hk => hk.2) (.int .i64 ((rd_T40 t284 x44_2).f1))) (fun _ hk => ⟨hk.1.1.1, ⟨hk.1.1.2, hk.1.2⟩⟩)⟩, ⟨by (with_reducible repeat (first | apply Kd.R_alloc | apply Kd.R_drewN | apply Kd.R_drew)); exact Kd.R_mono (Kd.R_far (p := ⟨gb292, 1, none⟩) (Kd.R_far (p := ⟨gb292, 0, none⟩) (Kd.R_mono HO_291002.out (fun k_ hk => (⟨hk, hk.2⟩ : _ ∧ k_ ≠ gb292))) (fun _ hk => hk.2) (.int .i64 ((rd_T40 t284 x44_2).f0))) (fun _ hk => hk.2) (.int .i64 ((rd_T40 t284 x44_2).f1))) (fun _ hk => ⟨hk.1.1.1, ⟨hk.1.1.2.1, ⟨hk.1.1.2.2, hk.1.2⟩⟩⟩)⟩, ⟨by (with_reducible repeat (first | refine blk_drewN ?_ _ | refine blk_drew ?_ | refine blk_alloc ?_ _)); refine blk_far ?_ NB281_292.out _; (with_reducible repeat (first | refine blk_drewN ?_ _ | refine blk_drew ?_ | refine blk_alloc ?_ _)); refine blk_far ?_ NB281_292.out _; (with_reducible repeat (first | refine blk_drewN ?_ _ | refine blk_drew ?_ | refine blk_alloc ?_ _)); exact BK281.out⟩, ⟨by (with_reducible repeat (first | refine blk_drewN ?_ _ | refine blk_drew ?_ | refine blk_alloc ?_ _)); refine blk_far ?_ NB287_292.out _; (with_reducible repeat (first | refine blk_drewN ?_ _ | refine blk_drew ?_ | refine blk_alloc ?_ _)); refine blk_far ?_ NB287_292.out _; (with_reducible repeat (first | refine blk_drewN ?_ _ | refine blk_drew ?_ | refine blk_alloc ?_ _)); exact BK287.out⟩, ⟨by (with_reducible repeat (first | refine blk_drewN ?_ _ | refine blk_drew ?_ | refine blk_alloc ?_ _)); refine blk_far ?_ NB289_292.out _; (with_reducible repeat (first | refine blk_drewN ?_ _ | refine blk_drew ?_ | refine blk_alloc ?_ _)); refine blk_far ?_ NB289_292.out _; (with_reducible repeat (first | refine blk_drewN ?_ _ | refine blk_drew ?_ | refine blk_alloc ?_ _)); exact BK289.out⟩, ⟨by (with_reducible repeat (first | refine blk_drewN ?_ _ | refine blk_drew ?_ | refine blk_alloc ?_ _)); refine blk_far ?_ NB290_292.out _; (with_reducible repeat (first | refine blk_drewN ?_ _ | refine blk_drew ?_ | refine blk_alloc ?_ _)); refine blk_far ?_ NB290_292.out _; (with_reducible repeat (first | refine blk_drewN ?_ _ | refine blk_drew ?_ | refine blk_alloc ?_ _)); exact BK290.out⟩, ⟨by (with_reducible repeat (first | refine blk_drewN ?_ _ | refine blk_drew ?_ | refine blk_alloc ?_ _)); refine blk_put (cs := #[.int .i64 ((rd_T40 t284 x44_2).f0), .int .i64 0]) ?_ 1 _ rfl; (with_reducible repeat (first | refine blk_drewN ?_ _ | refine blk_drew ?_ | refine blk_alloc ?_ _)); refine blk_put (cs := #[.int .i64 0, .int .i64 0]) ?_ 0 _ rfl; (with_reducible repeat (first | refine blk_drewN ?_ _ | refine blk_drew ?_ | refine blk_alloc ?_ _)); exact BK292.out⟩, ⟨by repeat (first | (with_reducible first | exact HB.out | apply below_alloc | apply pw_below_drewN | apply below_drew1 | refine below_set ?_ GE281.out | refine below_set ?_ GE287.out | refine below_set ?_ GE289.out | refine below_set ?_ GE290.out | refine below_set ?_ GE292.out) | exact HB.out)⟩⟩
                      case rest =>
                        clear HC39
                        try clear c1
                        try clear c2
                        try clear p2
                        try clear q2
                        try clear hx2
                        try clear c3
                        try clear c4
                        try clear c5
                        try clear c6
                        try clear p6
                        try clear c7
                        try clear c10
                        try clear c12
                        try clear c13
                        try clear c13b0
                        try clear c13b1
                        try clear c14
                        try clear c16
                        try clear c18
                        try clear c21
                        try clear c21b0
                        try clear c21b1
                        try clear c22
                        try clear c22b0
                        try clear c22b1
                        try clear c27
                        try clear c28
                        try clear p29
                        try clear q29
                        try clear hx29
                        try clear c31
                        try clear c32
                        try clear c33
                        try clear c36
                        try clear c36b0
                        try clear c37
                        try clear c37b0
                        try clear c38
                        try clear c38b0
                        try clear c41
                        try clear c42
                        try clear c43
                        try clear c44
                        try clear c46
                        try clear c47
                        try clear c47b0
                        try clear c48
                        try clear c49
                        try clear c50
                        try clear c51
                        try clear c53
                        try clear c54
                        try clear c55
                        try clear c57
                        try clear c57b0
                        try clear c57b1
                        try clear c58
                        try clear c59
                        try clear c60
                        try clear c61
                        try clear c63
                        try clear c64
                        try clear p64
                        try clear c65
                        try clear c67
                        try clear c68
                        try clear c69
                        try clear c70
                        try clear c72
                        try clear c73
                        try clear c74
                        try clear hcz11_0
                        try clear hcz11_1
                        try clear hcz11_2
                        try clear hcz15_0
                        try clear hcz15_1
                        try clear hcz15_2
                        try clear hcz17_0
                        try clear hcz17_1
                        try clear hcz17_2
                        try clear hcz29_0
                        try clear hcz29_1
                        try clear hcz29_2
                        try clear hcz34_0
                        try clear hcz34_1
                        try clear hcz34_2
                        try clear hcz35_0
                        try clear hcz35_1
                        try clear hcz35_2
                        try clear hcz45_0
                        try clear hcz45_1
                        try clear hcz52_0
                        try clear hcz52_1
                        try clear hcz56_0
                        try clear hcz56_1
                        try clear hcz62_0
                        try clear hcz62_1
                        try clear hcz66_0
                        try clear hcz66_1
                        try clear hcz71_0
                        try clear hcz71_1
                        try clear hcz75_0
                        try clear hcz75_1
                        try clear hcz7_0
                        try clear hcz7_1
                        try clear hcz7_2
                        try clear hfz11_0
                        try clear hfz11_1
                        try clear hfz11_2
                        try clear hfz15_0
                        try clear hfz15_1
                        try clear hfz15_2
                        try clear hfz17_0
                        try clear hfz17_1
                        try clear hfz17_2
                        try clear hfz29_0
                        try clear hfz29_1
                        try clear hfz29_2
                        try clear hfz34_0
                        try clear hfz34_1
                        try clear hfz34_2
                        try clear hfz35_0
                        try clear hfz35_1
                        try clear hfz35_2
                        try clear hfz45_0
                        try clear hfz45_1
                        try clear hfz52_0
                        try clear hfz52_1
                        try clear hfz56_0
                        try clear hfz56_1
                        try clear hfz62_0
                        try clear hfz62_1
                        try clear hfz66_0
                        try clear hfz66_1
                        try clear hfz71_0
                        try clear hfz71_1
                        try clear hfz75_0
                        try clear hfz75_1
                        try clear hfz7_0
                        try clear hfz7_1
                        try clear hfz7_2
                        try clear hx291_0
                        try clear hx291_1
                        try clear p2
                        try clear p291
                        try clear p6
                        try clear q291
                        obtain ⟨kq, x70_38, rfl, HA, HJ38, HO_42, HO_288002, HO_291002, BK281, BK287, BK289, BK290, BK292, HB⟩ := hcut
                        cases kq with
                        | zero => exact absurd HA.out (by simp [toruslaw30_MatchEdges.j2])
                        | succ kj38 =>
                          have H := HA.out
                          clear HA
                          simp only [toruslaw30_MatchEdges.j2] at H
                          by_cases c76 : x70_38 = true
                          · subst c76
                            have H1 : (if (!(((rd_T40 t284 x44_2).f0) == (Int.tmod (wrap64 (a1)) t282)) || (!(((rd_T40 t284 x44_2).f1) == (Int.tmod (wrap64 (a2)) t283)))) = true then (if x291002_2.length < 8796093022208 then ((some (x291002_2 ++ [(⟨(Int.tmod (wrap64 (a1)) t282), (Int.tmod (wrap64 (a2)) t283)⟩ : S40)] : List (S40))).bind fun y293 => (if y293.length < 8796093022208 then (toruslaw30_MatchEdges.l0 kj38 true t284 (t284.length : Int) (wrap64 (x44_2 + 1)) t282 t283 t284 (Int.tmod (wrap64 (a1)) t282) (Int.tmod (wrap64 (a2)) t283) t282 t283 (y293 ++ [(⟨((rd_T40 t284 x44_2).f0), ((rd_T40 t284 x44_2).f1)⟩ : S40)])) else (none))) else (none)) else (if x291002_2.length < 8796093022208 then (toruslaw30_MatchEdges.l0 kj38 true t284 (t284.length : Int) (wrap64 (x44_2 + 1)) t282 t283 t284 (Int.tmod (wrap64 (a1)) t282) (Int.tmod (wrap64 (a2)) t283) t282 t283 (x291002_2 ++ [(⟨((rd_T40 t284 x44_2).f0), ((rd_T40 t284 x44_2).f1)⟩ : S40)])) else (none))) = some r := by rw [if_pos rfl] at H; exact H
                            clear H
                            have H := H1
                            clear H1
                            by_cases c77 : (!(((rd_T40 t284 x44_2).f0) == (Int.tmod (wrap64 (a1)) t282)) || (!(((rd_T40 t284 x44_2).f1) == (Int.tmod (wrap64 (a2)) t283)))) = true
                            · rw [if_pos c77] at H
                              have c77b0 : (!(((rd_T40 t284 x44_2).f0) == (Int.tmod (wrap64 (a1)) t282)) || (!(((rd_T40 t284 x44_2).f1) == (Int.tmod (wrap64 (a2)) t283)))) = true := c77
                              clear c77
                              by_cases c78 : x291002_2.length < 8796093022208
                              · rw [if_pos c78] at H
                                have LMc78 := Aside0.mk c78
                                clear c78
                                obtain ⟨y293, hy293⟩ : ∃ y_ : List (S40), y_ = (x291002_2 ++ [(⟨(Int.tmod (wrap64 (a1)) t282), (Int.tmod (wrap64 (a2)) t283)⟩ : S40)]) := ⟨_, rfl⟩
                                replace H : (if y293.length < 8796093022208 then (toruslaw30_MatchEdges.l0 kj38 true t284 (t284.length : Int) (wrap64 (x44_2 + 1)) t282 t283 t284 (Int.tmod (wrap64 (a1)) t282) (Int.tmod (wrap64 (a2)) t283) t282 t283 (y293 ++ [(⟨((rd_T40 t284 x44_2).f0), ((rd_T40 t284 x44_2).f1)⟩ : S40)])) else (none)) = some r := by first | (rw [hy293]; with_reducible exact H) | (have H2_ := (Option.bind_some _ _).symm.trans H; rw [hy293]; with_reducible exact H2_) | (have H2_ := (Option.bind_some _ _).symm.trans H; with_reducible exact H2_) | with_reducible exact H | (rw [hy293]; exact H) | exact H
                                have Ny293 := Aside0.mk hy293
                                clear hy293
                                by_cases c79 : y293.length < 8796093022208
                                · rw [if_pos c79] at H
                                  have LMc79 := Aside0.mk c79
                                  clear c79
                                  obtain ⟨y296, hy296⟩ : ∃ y_ : List (S40), y_ = (y293 ++ [(⟨((rd_T40 t284 x44_2).f0), ((rd_T40 t284 x44_2).f1)⟩ : S40)]) := ⟨_, rfl⟩
                                  replace H : (toruslaw30_MatchEdges.l0 kj38 true t284 (t284.length : Int) (wrap64 (x44_2 + 1)) t282 t283 t284 (Int.tmod (wrap64 (a1)) t282) (Int.tmod (wrap64 (a2)) t283) t282 t283 y296) = some r := by first | (rw [hy296]; with_reducible exact H) | (have H2_ := (Option.bind_some _ _).symm.trans H; rw [hy296]; with_reducible exact H2_) | (have H2_ := (Option.bind_some _ _).symm.trans H; with_reducible exact H2_) | with_reducible exact H | (rw [hy296]; exact H) | exact H
                                  have Ny296 := Aside0.mk hy296
                                  clear hy296
                                  have H' := Aside0.mk H
                                  clear H
                                  have hnb80 := NB292_281.out
                                  have hnc80 := NB281_292.out
                                  have hnb81 := NB292_287.out
                                  have hnc81 := NB287_292.out
                                  have hnb82 := NB292_289.out
                                  have hnc82 := NB289_292.out
                                  have hnb83 := NB292_290.out
                                  have hnc83 := NB290_292.out
                                  have hcz84_0 : wc.cell? ⟨gb292, 0, none⟩ = some (.int .i64 ((rd_T40 t284 x44_2).f0)) := (blk_cell BK292.out 0).trans rfl
                                  have hcz84_1 : wc.cell? ⟨gb292, 1, none⟩ = some (.int .i64 ((rd_T40 t284 x44_2).f1)) := (blk_cell BK292.out 1).trans rfl
                                  have hfz84_0 := blk_frozen BK292.out 0
                                  have hfz84_1 := blk_frozen BK292.out 1
                                  have hnb85 := NB289_281.out
                                  have hnc85 := NB281_289.out
                                  have hnb86 := NB289_287.out
                                  have hnc86 := NB287_289.out
                                  have hnb87 := NB289_290.out
                                  have hnc87 := NB290_289.out
                                  have hcz88_0 : wc.cell? ⟨gb289, 0, none⟩ = some (.int .i64 (Int.tmod (wrap64 (a1)) t282)) := (blk_cell BK289.out 0).trans rfl
                                  have hcz88_1 : wc.cell? ⟨gb289, 1, none⟩ = some (.int .i64 (Int.tmod (wrap64 (a2)) t283)) := (blk_cell BK289.out 1).trans rfl
                                  have hfz88_0 := blk_frozen BK289.out 0
                                  have hfz88_1 := blk_frozen BK289.out 1
                                  have hnb89 := NB290_281.out
                                  have hnc89 := NB281_290.out
                                  have hnb90 := NB290_287.out
                                  have hnc90 := NB287_290.out
                                  have hcz91_0 : wc.cell? ⟨gb290, 0, none⟩ = some (.int .i64 t282) := (blk_cell BK290.out 0).trans rfl
                                  have hcz91_1 : wc.cell? ⟨gb290, 1, none⟩ = some (.int .i64 t283) := (blk_cell BK290.out 1).trans rfl
                                  have hcz91_2 : wc.cell? ⟨gb290, 2, none⟩ = some (u291002) := (blk_cell BK290.out 2).trans rfl
                                  have hfz91_0 := blk_frozen BK290.out 0
                                  have hfz91_1 := blk_frozen BK290.out 1
                                  have hfz91_2 := blk_frozen BK290.out 2
                                  go_wp2_with (first | ((with_reducible refine gate_builtin (b := .append) (xs := #[.tmp 75, .tmp 77]) rfl ?_); at_builtin; refine Kd.R_append k40 (w0 := w) w.heap.size rfl (.tmp 75) (.tmp 77) 25 40 (.agg #[(.int .i64 0), (.int .i64 0)]) 16 rfl Try.underlying25 info40 rfl (by decide) (by omega) u291002 x291002_2 (⟨(Int.tmod (wrap64 (a1)) t282), (Int.tmod (wrap64 (a2)) t283)⟩ : S40) [.int .i64 (Int.tmod (wrap64 (a1)) t282), .int .i64 (Int.tmod (wrap64 (a2)) t283)] (fun k_ => some k_ ≠ (.slice (some ad291) t284.length co12 : Value).ownBlock ∧ some k_ ≠ (.slice (some ad291) t284.length co12 : Value).ownBlock ∧ k_ ≠ gb289 ∧ k_ ≠ gb292) (fun _ => False) rfl rfl ?aP (fun _ hk => hk.elim) ?aF ?aO ?aB ?aS ?aL ?_; (case aP => exact k40_mkM _ _ _ (⟨(Int.tmod (wrap64 (a1)) t282), (Int.tmod (wrap64 (a2)) t283)⟩ : S40)); (case aB => exact (by repeat (first | (with_reducible first | exact HB.out | apply below_alloc | apply pw_below_drewN | apply below_drew1 | refine below_set ?_ GE281.out | refine below_set ?_ GE287.out | refine below_set ?_ GE289.out | refine below_set ?_ GE290.out | refine below_set ?_ GE292.out) | exact HB.out))); (case aF => exact (fun k_ hk => ⟨Kd.fresh' (Kd.R_lt (by (with_reducible repeat (first | apply Kd.R_alloc | apply Kd.R_drewN | apply Kd.R_drew)); exact HO_42.out)) k_ hk, Kd.fresh' (Kd.R_lt (by (with_reducible repeat (first | apply Kd.R_alloc | apply Kd.R_drewN | apply Kd.R_drew)); exact HO_288002.out)) k_ hk, Kd.freshB (g := gb289) (o := .cells #[.int .i64 (Int.tmod (wrap64 (a1)) t282), .int .i64 (Int.tmod (wrap64 (a2)) t283)] 40 (0, 0)) (by (with_reducible repeat (first | refine blk_drewN ?_ _ | refine blk_drew ?_ | refine blk_alloc ?_ _)); exact BK289.out) k_ hk, Kd.freshB (g := gb292) (o := .cells #[.int .i64 ((rd_T40 t284 x44_2).f0), .int .i64 ((rd_T40 t284 x44_2).f1)] 40 (0, 0)) (by (with_reducible repeat (first | refine blk_drewN ?_ _ | refine blk_drew ?_ | refine blk_alloc ?_ _)); exact BK292.out) k_ hk⟩)); (case aO => exact (by (with_reducible repeat (first | apply Kd.R_alloc | apply Kd.R_drewN | apply Kd.R_drew)); exact HO_291002.out)); (case aS => exact (below_size (by repeat (first | (with_reducible first | exact HB.out | apply below_alloc | apply pw_below_drewN | apply below_drew1 | refine below_set ?_ GE281.out | refine below_set ?_ GE287.out | refine below_set ?_ GE289.out | refine below_set ?_ GE290.out | refine below_set ?_ GE292.out) | exact HB.out)))); (case aL => have := LMc78.out; omega); intro v294 w92 ho hb hg hat; rw [← Ny293.out] at ho; have n0_ := Aside0.mk (Kd.R_after (ok := (fun k_ => k_ ≠ gb289 ∧ k_ ≠ gb292)) (by (with_reducible repeat (first | apply Kd.R_alloc | apply Kd.R_drewN | apply Kd.R_drew)); exact Kd.R_mono HO_42.out (fun _ hk => ⟨⟨hk.2.1, hk.2.2⟩, hk.1⟩)) hg hat); have n1_ := Aside0.mk (Kd.R_after (ok := (fun k_ => k_ ≠ gb289 ∧ k_ ≠ gb292)) (by (with_reducible repeat (first | apply Kd.R_alloc | apply Kd.R_drewN | apply Kd.R_drew)); exact Kd.R_mono HO_288002.out (fun _ hk => ⟨⟨hk.2.1, hk.2.2⟩, hk.1⟩)) hg hat); have n2_ := Aside0.mk (blk_grown (g := gb281) (o := .cells #[.int .u8 a0_0, .int .u8 a0_1, .slice A0_2 l0_2.length c0_2] 24 (0, 0)) (by (with_reducible repeat (first | refine blk_drewN ?_ _ | refine blk_drew ?_ | refine blk_alloc ?_ _)); exact BK281.out) hg (Kd.R_ne HO_291002.out BK281.out (by decide))); have n3_ := Aside0.mk (blk_grown (g := gb287) (o := .cells #[.int .i64 t282, .int .i64 t283, .slice (some ad291) t284.length co12] 27 (0, 0)) (by (with_reducible repeat (first | refine blk_drewN ?_ _ | refine blk_drew ?_ | refine blk_alloc ?_ _)); exact BK287.out) hg (Kd.R_ne HO_291002.out BK287.out (by decide))); have n4_ := Aside0.mk (blk_grown (g := gb289) (o := .cells #[.int .i64 (Int.tmod (wrap64 (a1)) t282), .int .i64 (Int.tmod (wrap64 (a2)) t283)] 40 (0, 0)) (by (with_reducible repeat (first | refine blk_drewN ?_ _ | refine blk_drew ?_ | refine blk_alloc ?_ _)); exact BK289.out) hg (Kd.R_away HO_291002.out (fun _ hk => hk.2.2.1))); have n5_ := Aside0.mk (blk_grown (g := gb290) (o := .cells #[.int .i64 t282, .int .i64 t283, u291002] 27 (0, 0)) (by (with_reducible repeat (first | refine blk_drewN ?_ _ | refine blk_drew ?_ | refine blk_alloc ?_ _)); exact BK290.out) hg (Kd.R_ne HO_291002.out BK290.out (by decide))); have n6_ := Aside0.mk (blk_grown (g := gb292) (o := .cells #[.int .i64 ((rd_T40 t284 x44_2).f0), .int .i64 ((rd_T40 t284 x44_2).f1)] 40 (0, 0)) (by (with_reducible repeat (first | refine blk_drewN ?_ _ | refine blk_drew ?_ | refine blk_alloc ?_ _)); exact BK292.out) hg (Kd.R_away HO_291002.out (fun _ hk => hk.2.2.2))); have n7_ := Aside0.mk (hb); have n8_ := Aside0.mk (ho); clear HO_42; clear HO_288002; clear BK281; clear BK287; clear BK289; clear BK290; clear BK292; clear HB; clear HO_291002; have HO_42 := n0_; have HO_288002 := n1_; have BK281 := n2_; have BK287 := n3_; have BK289 := n4_; have BK290 := n5_; have BK292 := n6_; have HB := n7_; have HO295 := n8_; clear n0_ n1_ n2_ n3_ n4_ n5_ n6_ n7_ n8_; clear ho hb hg hat; obtain ⟨Ao93, co93, eo93⟩ := Kd.R_slice HO295.out; subst eo93; have hcz94_0 : w92.cell? ⟨gb290, 0, none⟩ = some (.int .i64 t282) := (blk_cell BK290.out 0).trans rfl; have hcz94_1 : w92.cell? ⟨gb290, 1, none⟩ = some (.int .i64 t283) := (blk_cell BK290.out 1).trans rfl; have hcz94_2 : w92.cell? ⟨gb290, 2, none⟩ = some (u291002) := (blk_cell BK290.out 2).trans rfl; have hfz94_0 := blk_frozen BK290.out 0; have hfz94_1 := blk_frozen BK290.out 1; have hfz94_2 := blk_frozen BK290.out 2; have hcz95_0 : w92.cell? ⟨gb292, 0, none⟩ = some (.int .i64 ((rd_T40 t284 x44_2).f0)) := (blk_cell BK292.out 0).trans rfl; have hcz95_1 : w92.cell? ⟨gb292, 1, none⟩ = some (.int .i64 ((rd_T40 t284 x44_2).f1)) := (blk_cell BK292.out 1).trans rfl; have hfz95_0 := blk_frozen BK292.out 0; have hfz95_1 := blk_frozen BK292.out 1) | ((with_reducible refine gate_builtin (b := .append) (xs := #[.tmp 81, .tmp 83]) rfl ?_); at_builtin; refine Kd.R_append k40 (w0 := w) w.heap.size rfl (.tmp 81) (.tmp 83) 25 40 (.agg #[(.int .i64 0), (.int .i64 0)]) 16 rfl Try.underlying25 info40 rfl (by decide) (by omega) (.slice Ao93 y293.length co93) y293 (⟨((rd_T40 t284 x44_2).f0), ((rd_T40 t284 x44_2).f1)⟩ : S40) [.int .i64 ((rd_T40 t284 x44_2).f0), .int .i64 ((rd_T40 t284 x44_2).f1)] (fun k_ => some k_ ≠ (.slice (some ad291) t284.length co12 : Value).ownBlock ∧ some k_ ≠ (.slice (some ad291) t284.length co12 : Value).ownBlock ∧ k_ ≠ gb289 ∧ k_ ≠ gb292) (fun _ => False) rfl (by first | (go_simp; done) | (go_simp; rfl)) ?aP (fun _ hk => hk.elim) ?aF ?aO ?aB ?aS ?aL ?_; (case aP => exact k40_mkM _ _ _ (⟨((rd_T40 t284 x44_2).f0), ((rd_T40 t284 x44_2).f1)⟩ : S40)); (case aB => exact (by repeat (first | (with_reducible first | exact HB.out | apply below_alloc | apply pw_below_drewN | apply below_drew1 | refine below_set ?_ GE281.out | refine below_set ?_ GE287.out | refine below_set ?_ GE289.out | refine below_set ?_ GE290.out | refine below_set ?_ GE292.out) | exact HB.out))); (case aF => exact (fun k_ hk => ⟨Kd.fresh' (Kd.R_lt (by (with_reducible repeat (first | apply Kd.R_alloc | apply Kd.R_drewN | apply Kd.R_drew)); exact (Kd.R_mono (Kd.R_far (p := ⟨gb290, 2, none⟩) (Kd.R_types HO_42.out BK290.out (by decide)) (fun _ hk => hk.2) (.slice Ao93 y293.length co93)) (fun _ h_ => h_.1)))) k_ hk, Kd.fresh' (Kd.R_lt (by (with_reducible repeat (first | apply Kd.R_alloc | apply Kd.R_drewN | apply Kd.R_drew)); exact (Kd.R_mono (Kd.R_far (p := ⟨gb290, 2, none⟩) (Kd.R_types HO_288002.out BK290.out (by decide)) (fun _ hk => hk.2) (.slice Ao93 y293.length co93)) (fun _ h_ => h_.1)))) k_ hk, Kd.freshB (g := gb289) (o := .cells #[.int .i64 (Int.tmod (wrap64 (a1)) t282), .int .i64 (Int.tmod (wrap64 (a2)) t283)] 40 (0, 0)) (by (with_reducible repeat (first | refine blk_drewN ?_ _ | refine blk_drew ?_ | refine blk_alloc ?_ _)); refine blk_far ?_ NB289_290.out _; (with_reducible repeat (first | refine blk_drewN ?_ _ | refine blk_drew ?_ | refine blk_alloc ?_ _)); exact BK289.out) k_ hk, Kd.freshB (g := gb292) (o := .cells #[.int .i64 ((rd_T40 t284 x44_2).f0), .int .i64 ((rd_T40 t284 x44_2).f1)] 40 (0, 0)) (by (with_reducible repeat (first | refine blk_drewN ?_ _ | refine blk_drew ?_ | refine blk_alloc ?_ _)); refine blk_far ?_ NB292_290.out _; (with_reducible repeat (first | refine blk_drewN ?_ _ | refine blk_drew ?_ | refine blk_alloc ?_ _)); exact BK292.out) k_ hk⟩)); (case aO => exact (by (with_reducible repeat (first | apply Kd.R_alloc | apply Kd.R_drewN | apply Kd.R_drew)); exact Kd.R_mono (Kd.R_far (p := ⟨gb290, 2, none⟩) (Kd.R_types HO295.out BK290.out (by decide)) (fun _ hk => hk.2) (.slice Ao93 y293.length co93)) (fun _ hk => ⟨hk.1.1, ⟨hk.1.2.1, ⟨hk.1.2.2.1, hk.1.2.2.2⟩⟩⟩))); (case aS => exact (below_size (by repeat (first | (with_reducible first | exact HB.out | apply below_alloc | apply pw_below_drewN | apply below_drew1 | refine below_set ?_ GE281.out | refine below_set ?_ GE287.out | refine below_set ?_ GE289.out | refine below_set ?_ GE290.out | refine below_set ?_ GE292.out) | exact HB.out)))); (case aL => have := LMc79.out; omega); intro v297 w96 ho hb hg hat; rw [← Ny296.out] at ho; have n0_ := Aside0.mk (Kd.R_after (ok := (fun k_ => k_ ≠ gb289 ∧ k_ ≠ gb292)) (by (with_reducible repeat (first | apply Kd.R_alloc | apply Kd.R_drewN | apply Kd.R_drew)); exact Kd.R_mono (Kd.R_far (p := ⟨gb290, 2, none⟩) (Kd.R_types HO_42.out BK290.out (by decide)) (fun _ hk => hk.2) (.slice Ao93 y293.length co93)) (fun _ hk => ⟨⟨hk.1.1.1, hk.1.1.2⟩, hk.1.2⟩)) hg hat); have n1_ := Aside0.mk (Kd.R_after (ok := (fun k_ => k_ ≠ gb289 ∧ k_ ≠ gb292)) (by (with_reducible repeat (first | apply Kd.R_alloc | apply Kd.R_drewN | apply Kd.R_drew)); exact Kd.R_mono (Kd.R_far (p := ⟨gb290, 2, none⟩) (Kd.R_types HO_288002.out BK290.out (by decide)) (fun _ hk => hk.2) (.slice Ao93 y293.length co93)) (fun _ hk => ⟨⟨hk.1.1.1, hk.1.1.2⟩, hk.1.2⟩)) hg hat); have n2_ := Aside0.mk (blk_grown (g := gb281) (o := .cells #[.int .u8 a0_0, .int .u8 a0_1, .slice A0_2 l0_2.length c0_2] 24 (0, 0)) (by (with_reducible repeat (first | refine blk_drewN ?_ _ | refine blk_drew ?_ | refine blk_alloc ?_ _)); refine blk_far ?_ NB281_290.out _; (with_reducible repeat (first | refine blk_drewN ?_ _ | refine blk_drew ?_ | refine blk_alloc ?_ _)); exact BK281.out) hg (Kd.R_ne HO295.out BK281.out (by decide))); have n3_ := Aside0.mk (blk_grown (g := gb287) (o := .cells #[.int .i64 t282, .int .i64 t283, .slice (some ad291) t284.length co12] 27 (0, 0)) (by (with_reducible repeat (first | refine blk_drewN ?_ _ | refine blk_drew ?_ | refine blk_alloc ?_ _)); refine blk_far ?_ NB287_290.out _; (with_reducible repeat (first | refine blk_drewN ?_ _ | refine blk_drew ?_ | refine blk_alloc ?_ _)); exact BK287.out) hg (Kd.R_ne HO295.out BK287.out (by decide))); have n4_ := Aside0.mk (blk_grown (g := gb289) (o := .cells #[.int .i64 (Int.tmod (wrap64 (a1)) t282), .int .i64 (Int.tmod (wrap64 (a2)) t283)] 40 (0, 0)) (by (with_reducible repeat (first | refine blk_drewN ?_ _ | refine blk_drew ?_ | refine blk_alloc ?_ _)); refine blk_far ?_ NB289_290.out _; (with_reducible repeat (first | refine blk_drewN ?_ _ | refine blk_drew ?_ | refine blk_alloc ?_ _)); exact BK289.out) hg (Kd.R_away HO295.out (fun _ hk => hk.2.2.1))); have n5_ := Aside0.mk (blk_grown (g := gb290) (o := .cells #[.int .i64 t282, .int .i64 t283, .slice Ao93 y293.length co93] 27 (0, 0)) (by (with_reducible repeat (first | refine blk_drewN ?_ _ | refine blk_drew ?_ | refine blk_alloc ?_ _)); refine blk_put (cs := #[.int .i64 t282, .int .i64 t283, u291002]) ?_ 2 _ rfl; (with_reducible repeat (first | refine blk_drewN ?_ _ | refine blk_drew ?_ | refine blk_alloc ?_ _)); exact BK290.out) hg (Kd.R_ne HO295.out BK290.out (by decide))); have n6_ := Aside0.mk (blk_grown (g := gb292) (o := .cells #[.int .i64 ((rd_T40 t284 x44_2).f0), .int .i64 ((rd_T40 t284 x44_2).f1)] 40 (0, 0)) (by (with_reducible repeat (first | refine blk_drewN ?_ _ | refine blk_drew ?_ | refine blk_alloc ?_ _)); refine blk_far ?_ NB292_290.out _; (with_reducible repeat (first | refine blk_drewN ?_ _ | refine blk_drew ?_ | refine blk_alloc ?_ _)); exact BK292.out) hg (Kd.R_away HO295.out (fun _ hk => hk.2.2.2))); have n7_ := Aside0.mk (hb); have n8_ := Aside0.mk (ho); clear HO_42; clear HO_288002; clear BK281; clear BK287; clear BK289; clear BK290; clear BK292; clear HB; clear HO295; have HO_42 := n0_; have HO_288002 := n1_; have BK281 := n2_; have BK287 := n3_; have BK289 := n4_; have BK290 := n5_; have BK292 := n6_; have HB := n7_; have HO298 := n8_; clear n0_ n1_ n2_ n3_ n4_ n5_ n6_ n7_ n8_; clear ho hb hg hat; obtain ⟨Ao97, co97, eo97⟩ := Kd.R_slice HO298.out; subst eo97; have hcz98_0 : w96.cell? ⟨gb290, 0, none⟩ = some (.int .i64 t282) := (blk_cell BK290.out 0).trans rfl; have hcz98_1 : w96.cell? ⟨gb290, 1, none⟩ = some (.int .i64 t283) := (blk_cell BK290.out 1).trans rfl; have hcz98_2 : w96.cell? ⟨gb290, 2, none⟩ = some (.slice Ao93 y293.length co93) := (blk_cell BK290.out 2).trans rfl; have hfz98_0 := blk_frozen BK290.out 0; have hfz98_1 := blk_frozen BK290.out 1; have hfz98_2 := blk_frozen BK290.out 2))
                                  go_roundg kj38
                                  case measure => have := HJ4.out; have := HK2.out; have := HJ38.out; omega
                                  case rel => exact ⟨(true), (wrap64 (x44_2 + 1)), (y296), (.slice Ao97 y296.length co97), (by first | rfl | (simp; done) | (simp [*]; done)), (by first | rfl | (simp; done) | (simp [*]; done)), H', ⟨by have := HJ4.out; have := HK2.out; have := HJ38.out; omega⟩, ⟨by (with_reducible repeat (first | apply Kd.R_alloc | apply Kd.R_drewN | apply Kd.R_drew)); exact Kd.R_mono (Kd.R_far (p := ⟨gb290, 2, none⟩) (Kd.R_types HO_42.out BK290.out (by decide)) (fun _ hk => hk.2) (.slice Ao97 y296.length co97)) (fun _ hk => ⟨hk.1.2, hk.1.1.1⟩)⟩, ⟨by (with_reducible repeat (first | apply Kd.R_alloc | apply Kd.R_drewN | apply Kd.R_drew)); exact Kd.R_mono (Kd.R_far (p := ⟨gb290, 2, none⟩) (Kd.R_types HO_288002.out BK290.out (by decide)) (fun _ hk => hk.2) (.slice Ao97 y296.length co97)) (fun _ hk => ⟨hk.1.2, hk.1.1.1⟩)⟩, ⟨by (with_reducible repeat (first | apply Kd.R_alloc | apply Kd.R_drewN | apply Kd.R_drew)); exact Kd.R_mono (Kd.R_far (p := ⟨gb290, 2, none⟩) (Kd.R_types HO298.out BK290.out (by decide)) (fun _ hk => hk.2) (.slice Ao97 y296.length co97)) (fun _ hk => ⟨hk.1.1, ⟨hk.1.2.1, hk.1.2.2.1⟩⟩)⟩, ⟨by (with_reducible repeat (first | refine blk_drewN ?_ _ | refine blk_drew ?_ | refine blk_alloc ?_ _)); refine blk_far ?_ NB281_290.out _; (with_reducible repeat (first | refine blk_drewN ?_ _ | refine blk_drew ?_ | refine blk_alloc ?_ _)); exact BK281.out⟩, ⟨by (with_reducible repeat (first | refine blk_drewN ?_ _ | refine blk_drew ?_ | refine blk_alloc ?_ _)); refine blk_far ?_ NB287_290.out _; (with_reducible repeat (first | refine blk_drewN ?_ _ | refine blk_drew ?_ | refine blk_alloc ?_ _)); exact BK287.out⟩, ⟨by (with_reducible repeat (first | refine blk_drewN ?_ _ | refine blk_drew ?_ | refine blk_alloc ?_ _)); refine blk_far ?_ NB289_290.out _; (with_reducible repeat (first | refine blk_drewN ?_ _ | refine blk_drew ?_ | refine blk_alloc ?_ _)); exact BK289.out⟩, ⟨by (with_reducible repeat (first | refine blk_drewN ?_ _ | refine blk_drew ?_ | refine blk_alloc ?_ _)); refine blk_put (cs := #[.int .i64 t282, .int .i64 t283, .slice Ao93 y293.length co93]) ?_ 2 _ rfl; (with_reducible repeat (first | refine blk_drewN ?_ _ | refine blk_drew ?_ | refine blk_alloc ?_ _)); exact BK290.out⟩, ⟨by repeat (first | (with_reducible first | exact HB.out | apply below_alloc | apply pw_below_drewN | apply below_drew1 | refine below_set ?_ GE281.out | refine below_set ?_ GE287.out | refine below_set ?_ GE289.out | refine below_set ?_ GE290.out | refine below_set ?_ GE292.out) | exact HB.out)⟩⟩
                                · rw [if_neg c79] at H
                                  exact absurd H (by simp)
                              · rw [if_neg c78] at H
                                exact absurd H (by simp)
                            · rw [if_neg c77] at H
                              have c77b0 : (!(((rd_T40 t284 x44_2).f0) == (Int.tmod (wrap64 (a1)) t282)) || (!(((rd_T40 t284 x44_2).f1) == (Int.tmod (wrap64 (a2)) t283)))) = false := by simpa using c77
                              clear c77
                              by_cases c99 : x291002_2.length < 8796093022208
                              · rw [if_pos c99] at H
                                have LMc99 := Aside0.mk c99
                                clear c99
                                obtain ⟨y299, hy299⟩ : ∃ y_ : List (S40), y_ = (x291002_2 ++ [(⟨((rd_T40 t284 x44_2).f0), ((rd_T40 t284 x44_2).f1)⟩ : S40)]) := ⟨_, rfl⟩
                                replace H : (toruslaw30_MatchEdges.l0 kj38 true t284 (t284.length : Int) (wrap64 (x44_2 + 1)) t282 t283 t284 (Int.tmod (wrap64 (a1)) t282) (Int.tmod (wrap64 (a2)) t283) t282 t283 y299) = some r := by first | (rw [hy299]; with_reducible exact H) | (have H2_ := (Option.bind_some _ _).symm.trans H; rw [hy299]; with_reducible exact H2_) | (have H2_ := (Option.bind_some _ _).symm.trans H; with_reducible exact H2_) | with_reducible exact H | (rw [hy299]; exact H) | exact H
                                have Ny299 := Aside0.mk hy299
                                clear hy299
                                have H' := Aside0.mk H
                                clear H
                                have hnb100 := NB292_281.out
                                have hnc100 := NB281_292.out
                                have hnb101 := NB292_287.out
                                have hnc101 := NB287_292.out
                                have hnb102 := NB292_289.out
                                have hnc102 := NB289_292.out
                                have hnb103 := NB292_290.out
                                have hnc103 := NB290_292.out
                                have hcz104_0 : wc.cell? ⟨gb292, 0, none⟩ = some (.int .i64 ((rd_T40 t284 x44_2).f0)) := (blk_cell BK292.out 0).trans rfl
                                have hcz104_1 : wc.cell? ⟨gb292, 1, none⟩ = some (.int .i64 ((rd_T40 t284 x44_2).f1)) := (blk_cell BK292.out 1).trans rfl
                                have hfz104_0 := blk_frozen BK292.out 0
                                have hfz104_1 := blk_frozen BK292.out 1
                                have hnb105 := NB289_281.out
                                have hnc105 := NB281_289.out
                                have hnb106 := NB289_287.out
                                have hnc106 := NB287_289.out
                                have hnb107 := NB289_290.out
                                have hnc107 := NB290_289.out
                                have hcz108_0 : wc.cell? ⟨gb289, 0, none⟩ = some (.int .i64 (Int.tmod (wrap64 (a1)) t282)) := (blk_cell BK289.out 0).trans rfl
                                have hcz108_1 : wc.cell? ⟨gb289, 1, none⟩ = some (.int .i64 (Int.tmod (wrap64 (a2)) t283)) := (blk_cell BK289.out 1).trans rfl
                                have hfz108_0 := blk_frozen BK289.out 0
                                have hfz108_1 := blk_frozen BK289.out 1
                                have hnb109 := NB290_281.out
                                have hnc109 := NB281_290.out
                                have hnb110 := NB290_287.out
                                have hnc110 := NB287_290.out
                                have hcz111_0 : wc.cell? ⟨gb290, 0, none⟩ = some (.int .i64 t282) := (blk_cell BK290.out 0).trans rfl
                                have hcz111_1 : wc.cell? ⟨gb290, 1, none⟩ = some (.int .i64 t283) := (blk_cell BK290.out 1).trans rfl
                                have hcz111_2 : wc.cell? ⟨gb290, 2, none⟩ = some (u291002) := (blk_cell BK290.out 2).trans rfl
                                have hfz111_0 := blk_frozen BK290.out 0
                                have hfz111_1 := blk_frozen BK290.out 1
                                have hfz111_2 := blk_frozen BK290.out 2
                                go_wp2_with (first | ((with_reducible refine gate_builtin (b := .append) (xs := #[.tmp 81, .tmp 83]) rfl ?_); at_builtin; refine Kd.R_append k40 (w0 := w) w.heap.size rfl (.tmp 81) (.tmp 83) 25 40 (.agg #[(.int .i64 0), (.int .i64 0)]) 16 rfl Try.underlying25 info40 rfl (by decide) (by omega) u291002 x291002_2 (⟨((rd_T40 t284 x44_2).f0), ((rd_T40 t284 x44_2).f1)⟩ : S40) [.int .i64 ((rd_T40 t284 x44_2).f0), .int .i64 ((rd_T40 t284 x44_2).f1)] (fun k_ => some k_ ≠ (.slice (some ad291) t284.length co12 : Value).ownBlock ∧ some k_ ≠ (.slice (some ad291) t284.length co12 : Value).ownBlock ∧ k_ ≠ gb289 ∧ k_ ≠ gb292) (fun _ => False) rfl rfl ?aP (fun _ hk => hk.elim) ?aF ?aO ?aB ?aS ?aL ?_; (case aP => exact k40_mkM _ _ _ (⟨((rd_T40 t284 x44_2).f0), ((rd_T40 t284 x44_2).f1)⟩ : S40)); (case aB => exact (by repeat (first | (with_reducible first | exact HB.out | apply below_alloc | apply pw_below_drewN | apply below_drew1 | refine below_set ?_ GE281.out | refine below_set ?_ GE287.out | refine below_set ?_ GE289.out | refine below_set ?_ GE290.out | refine below_set ?_ GE292.out) | exact HB.out))); (case aF => exact (fun k_ hk => ⟨Kd.fresh' (Kd.R_lt (by (with_reducible repeat (first | apply Kd.R_alloc | apply Kd.R_drewN | apply Kd.R_drew)); exact HO_42.out)) k_ hk, Kd.fresh' (Kd.R_lt (by (with_reducible repeat (first | apply Kd.R_alloc | apply Kd.R_drewN | apply Kd.R_drew)); exact HO_288002.out)) k_ hk, Kd.freshB (g := gb289) (o := .cells #[.int .i64 (Int.tmod (wrap64 (a1)) t282), .int .i64 (Int.tmod (wrap64 (a2)) t283)] 40 (0, 0)) (by (with_reducible repeat (first | refine blk_drewN ?_ _ | refine blk_drew ?_ | refine blk_alloc ?_ _)); exact BK289.out) k_ hk, Kd.freshB (g := gb292) (o := .cells #[.int .i64 ((rd_T40 t284 x44_2).f0), .int .i64 ((rd_T40 t284 x44_2).f1)] 40 (0, 0)) (by (with_reducible repeat (first | refine blk_drewN ?_ _ | refine blk_drew ?_ | refine blk_alloc ?_ _)); exact BK292.out) k_ hk⟩)); (case aO => exact (by (with_reducible repeat (first | apply Kd.R_alloc | apply Kd.R_drewN | apply Kd.R_drew)); exact HO_291002.out)); (case aS => exact (below_size (by repeat (first | (with_reducible first | exact HB.out | apply below_alloc | apply pw_below_drewN | apply below_drew1 | refine below_set ?_ GE281.out | refine below_set ?_ GE287.out | refine below_set ?_ GE289.out | refine below_set ?_ GE290.out | refine below_set ?_ GE292.out) | exact HB.out)))); (case aL => have := LMc99.out; omega); intro v300 w112 ho hb hg hat; rw [← Ny299.out] at ho; have n0_ := Aside0.mk (Kd.R_after (ok := (fun k_ => k_ ≠ gb289 ∧ k_ ≠ gb292)) (by (with_reducible repeat (first | apply Kd.R_alloc | apply Kd.R_drewN | apply Kd.R_drew)); exact Kd.R_mono HO_42.out (fun _ hk => ⟨⟨hk.2.1, hk.2.2⟩, hk.1⟩)) hg hat); have n1_ := Aside0.mk (Kd.R_after (ok := (fun k_ => k_ ≠ gb289 ∧ k_ ≠ gb292)) (by (with_reducible repeat (first | apply Kd.R_alloc | apply Kd.R_drewN | apply Kd.R_drew)); exact Kd.R_mono HO_288002.out (fun _ hk => ⟨⟨hk.2.1, hk.2.2⟩, hk.1⟩)) hg hat); have n2_ := Aside0.mk (blk_grown (g := gb281) (o := .cells #[.int .u8 a0_0, .int .u8 a0_1, .slice A0_2 l0_2.length c0_2] 24 (0, 0)) (by (with_reducible repeat (first | refine blk_drewN ?_ _ | refine blk_drew ?_ | refine blk_alloc ?_ _)); exact BK281.out) hg (Kd.R_ne HO_291002.out BK281.out (by decide))); have n3_ := Aside0.mk (blk_grown (g := gb287) (o := .cells #[.int .i64 t282, .int .i64 t283, .slice (some ad291) t284.length co12] 27 (0, 0)) (by (with_reducible repeat (first | refine blk_drewN ?_ _ | refine blk_drew ?_ | refine blk_alloc ?_ _)); exact BK287.out) hg (Kd.R_ne HO_291002.out BK287.out (by decide))); have n4_ := Aside0.mk (blk_grown (g := gb289) (o := .cells #[.int .i64 (Int.tmod (wrap64 (a1)) t282), .int .i64 (Int.tmod (wrap64 (a2)) t283)] 40 (0, 0)) (by (with_reducible repeat (first | refine blk_drewN ?_ _ | refine blk_drew ?_ | refine blk_alloc ?_ _)); exact BK289.out) hg (Kd.R_away HO_291002.out (fun _ hk => hk.2.2.1))); have n5_ := Aside0.mk (blk_grown (g := gb290) (o := .cells #[.int .i64 t282, .int .i64 t283, u291002] 27 (0, 0)) (by (with_reducible repeat (first | refine blk_drewN ?_ _ | refine blk_drew ?_ | refine blk_alloc ?_ _)); exact BK290.out) hg (Kd.R_ne HO_291002.out BK290.out (by decide))); have n6_ := Aside0.mk (blk_grown (g := gb292) (o := .cells #[.int .i64 ((rd_T40 t284 x44_2).f0), .int .i64 ((rd_T40 t284 x44_2).f1)] 40 (0, 0)) (by (with_reducible repeat (first | refine blk_drewN ?_ _ | refine blk_drew ?_ | refine blk_alloc ?_ _)); exact BK292.out) hg (Kd.R_away HO_291002.out (fun _ hk => hk.2.2.2))); have n7_ := Aside0.mk (hb); have n8_ := Aside0.mk (ho); clear HO_42; clear HO_288002; clear BK281; clear BK287; clear BK289; clear BK290; clear BK292; clear HB; clear HO_291002; have HO_42 := n0_; have HO_288002 := n1_; have BK281 := n2_; have BK287 := n3_; have BK289 := n4_; have BK290 := n5_; have BK292 := n6_; have HB := n7_; have HO301 := n8_; clear n0_ n1_ n2_ n3_ n4_ n5_ n6_ n7_ n8_; clear ho hb hg hat; obtain ⟨Ao113, co113, eo113⟩ := Kd.R_slice HO301.out; subst eo113; have hcz114_0 : w112.cell? ⟨gb290, 0, none⟩ = some (.int .i64 t282) := (blk_cell BK290.out 0).trans rfl; have hcz114_1 : w112.cell? ⟨gb290, 1, none⟩ = some (.int .i64 t283) := (blk_cell BK290.out 1).trans rfl; have hcz114_2 : w112.cell? ⟨gb290, 2, none⟩ = some (u291002) := (blk_cell BK290.out 2).trans rfl; have hfz114_0 := blk_frozen BK290.out 0; have hfz114_1 := blk_frozen BK290.out 1; have hfz114_2 := blk_frozen BK290.out 2))
                                go_roundg kj38
                                case measure => have := HJ4.out; have := HK2.out; have := HJ38.out; omega
                                case rel => exact ⟨(true), (wrap64 (x44_2 + 1)), (y299), (.slice Ao113 y299.length co113), (by first | rfl | (simp; done) | (simp [*]; done)), (by first | rfl | (simp; done) | (simp [*]; done)), H', ⟨by have := HJ4.out; have := HK2.out; have := HJ38.out; omega⟩, ⟨by (with_reducible repeat (first | apply Kd.R_alloc | apply Kd.R_drewN | apply Kd.R_drew)); exact Kd.R_mono (Kd.R_far (p := ⟨gb290, 2, none⟩) (Kd.R_types HO_42.out BK290.out (by decide)) (fun _ hk => hk.2) (.slice Ao113 y299.length co113)) (fun _ hk => ⟨hk.1.2, hk.1.1.1⟩)⟩, ⟨by (with_reducible repeat (first | apply Kd.R_alloc | apply Kd.R_drewN | apply Kd.R_drew)); exact Kd.R_mono (Kd.R_far (p := ⟨gb290, 2, none⟩) (Kd.R_types HO_288002.out BK290.out (by decide)) (fun _ hk => hk.2) (.slice Ao113 y299.length co113)) (fun _ hk => ⟨hk.1.2, hk.1.1.1⟩)⟩, ⟨by (with_reducible repeat (first | apply Kd.R_alloc | apply Kd.R_drewN | apply Kd.R_drew)); exact Kd.R_mono (Kd.R_far (p := ⟨gb290, 2, none⟩) (Kd.R_types HO301.out BK290.out (by decide)) (fun _ hk => hk.2) (.slice Ao113 y299.length co113)) (fun _ hk => ⟨hk.1.1, ⟨hk.1.2.1, hk.1.2.2.1⟩⟩)⟩, ⟨by (with_reducible repeat (first | refine blk_drewN ?_ _ | refine blk_drew ?_ | refine blk_alloc ?_ _)); refine blk_far ?_ NB281_290.out _; (with_reducible repeat (first | refine blk_drewN ?_ _ | refine blk_drew ?_ | refine blk_alloc ?_ _)); exact BK281.out⟩, ⟨by (with_reducible repeat (first | refine blk_drewN ?_ _ | refine blk_drew ?_ | refine blk_alloc ?_ _)); refine blk_far ?_ NB287_290.out _; (with_reducible repeat (first | refine blk_drewN ?_ _ | refine blk_drew ?_ | refine blk_alloc ?_ _)); exact BK287.out⟩, ⟨by (with_reducible repeat (first | refine blk_drewN ?_ _ | refine blk_drew ?_ | refine blk_alloc ?_ _)); refine blk_far ?_ NB289_290.out _; (with_reducible repeat (first | refine blk_drewN ?_ _ | refine blk_drew ?_ | refine blk_alloc ?_ _)); exact BK289.out⟩, ⟨by (with_reducible repeat (first | refine blk_drewN ?_ _ | refine blk_drew ?_ | refine blk_alloc ?_ _)); refine blk_put (cs := #[.int .i64 t282, .int .i64 t283, u291002]) ?_ 2 _ rfl; (with_reducible repeat (first | refine blk_drewN ?_ _ | refine blk_drew ?_ | refine blk_alloc ?_ _)); exact BK290.out⟩, ⟨by repeat (first | (with_reducible first | exact HB.out | apply below_alloc | apply pw_below_drewN | apply below_drew1 | refine below_set ?_ GE281.out | refine below_set ?_ GE287.out | refine below_set ?_ GE289.out | refine below_set ?_ GE290.out | refine below_set ?_ GE292.out) | exact HB.out)⟩⟩
                              · rw [if_neg c99] at H
                                exact absurd H (by simp)
                          · replace c76 := Bool.eq_false_iff.mpr c76
                            subst c76
                            have H1 : (if x291002_2.length < 8796093022208 then (toruslaw30_MatchEdges.l0 kj38 x10_2 t284 (t284.length : Int) (wrap64 (x44_2 + 1)) t282 t283 t284 (Int.tmod (wrap64 (a1)) t282) (Int.tmod (wrap64 (a2)) t283) t282 t283 (x291002_2 ++ [(⟨((rd_T40 t284 x44_2).f0), ((rd_T40 t284 x44_2).f1)⟩ : S40)])) else (none)) = some r := by rw [if_neg (show ¬ (false = true) by decide)] at H; exact H
                            clear H
                            have H := H1
                            clear H1
                            by_cases c115 : x291002_2.length < 8796093022208
                            · rw [if_pos c115] at H
                              have LMc115 := Aside0.mk c115
                              clear c115
                              obtain ⟨y302, hy302⟩ : ∃ y_ : List (S40), y_ = (x291002_2 ++ [(⟨((rd_T40 t284 x44_2).f0), ((rd_T40 t284 x44_2).f1)⟩ : S40)]) := ⟨_, rfl⟩
                              replace H : (toruslaw30_MatchEdges.l0 kj38 x10_2 t284 (t284.length : Int) (wrap64 (x44_2 + 1)) t282 t283 t284 (Int.tmod (wrap64 (a1)) t282) (Int.tmod (wrap64 (a2)) t283) t282 t283 y302) = some r := by first | (rw [hy302]; with_reducible exact H) | (have H2_ := (Option.bind_some _ _).symm.trans H; rw [hy302]; with_reducible exact H2_) | (have H2_ := (Option.bind_some _ _).symm.trans H; with_reducible exact H2_) | with_reducible exact H | (rw [hy302]; exact H) | exact H
                              have Ny302 := Aside0.mk hy302
                              clear hy302
                              have H' := Aside0.mk H
                              clear H
                              have hnb116 := NB290_281.out
                              have hnc116 := NB281_290.out
                              have hnb117 := NB290_287.out
                              have hnc117 := NB287_290.out
                              have hnb118 := NB290_289.out
                              have hnc118 := NB289_290.out
                              have hnb119 := NB290_292.out
                              have hnc119 := NB292_290.out
                              have hcz120_0 : wc.cell? ⟨gb290, 0, none⟩ = some (.int .i64 t282) := (blk_cell BK290.out 0).trans rfl
                              have hcz120_1 : wc.cell? ⟨gb290, 1, none⟩ = some (.int .i64 t283) := (blk_cell BK290.out 1).trans rfl
                              have hcz120_2 : wc.cell? ⟨gb290, 2, none⟩ = some (u291002) := (blk_cell BK290.out 2).trans rfl
                              have hfz120_0 := blk_frozen BK290.out 0
                              have hfz120_1 := blk_frozen BK290.out 1
                              have hfz120_2 := blk_frozen BK290.out 2
                              have hnb121 := NB292_281.out
                              have hnc121 := NB281_292.out
                              have hnb122 := NB292_287.out
                              have hnc122 := NB287_292.out
                              have hnb123 := NB292_289.out
                              have hnc123 := NB289_292.out
                              have hcz124_0 : wc.cell? ⟨gb292, 0, none⟩ = some (.int .i64 ((rd_T40 t284 x44_2).f0)) := (blk_cell BK292.out 0).trans rfl
                              have hcz124_1 : wc.cell? ⟨gb292, 1, none⟩ = some (.int .i64 ((rd_T40 t284 x44_2).f1)) := (blk_cell BK292.out 1).trans rfl
                              have hfz124_0 := blk_frozen BK292.out 0
                              have hfz124_1 := blk_frozen BK292.out 1
                              go_wp2_with (first | ((with_reducible refine gate_builtin (b := .append) (xs := #[.tmp 81, .tmp 83]) rfl ?_); at_builtin; refine Kd.R_append k40 (w0 := w) w.heap.size rfl (.tmp 81) (.tmp 83) 25 40 (.agg #[(.int .i64 0), (.int .i64 0)]) 16 rfl Try.underlying25 info40 rfl (by decide) (by omega) u291002 x291002_2 (⟨((rd_T40 t284 x44_2).f0), ((rd_T40 t284 x44_2).f1)⟩ : S40) [.int .i64 ((rd_T40 t284 x44_2).f0), .int .i64 ((rd_T40 t284 x44_2).f1)] (fun k_ => some k_ ≠ (.slice (some ad291) t284.length co12 : Value).ownBlock ∧ some k_ ≠ (.slice (some ad291) t284.length co12 : Value).ownBlock ∧ k_ ≠ gb289 ∧ k_ ≠ gb292) (fun _ => False) rfl rfl ?aP (fun _ hk => hk.elim) ?aF ?aO ?aB ?aS ?aL ?_; (case aP => exact k40_mkM _ _ _ (⟨((rd_T40 t284 x44_2).f0), ((rd_T40 t284 x44_2).f1)⟩ : S40)); (case aB => exact (by repeat (first | (with_reducible first | exact HB.out | apply below_alloc | apply pw_below_drewN | apply below_drew1 | refine below_set ?_ GE281.out | refine below_set ?_ GE287.out | refine below_set ?_ GE289.out | refine below_set ?_ GE290.out | refine below_set ?_ GE292.out) | exact HB.out))); (case aF => exact (fun k_ hk => ⟨Kd.fresh' (Kd.R_lt (by (with_reducible repeat (first | apply Kd.R_alloc | apply Kd.R_drewN | apply Kd.R_drew)); exact HO_42.out)) k_ hk, Kd.fresh' (Kd.R_lt (by (with_reducible repeat (first | apply Kd.R_alloc | apply Kd.R_drewN | apply Kd.R_drew)); exact HO_288002.out)) k_ hk, Kd.freshB (g := gb289) (o := .cells #[.int .i64 (Int.tmod (wrap64 (a1)) t282), .int .i64 (Int.tmod (wrap64 (a2)) t283)] 40 (0, 0)) (by (with_reducible repeat (first | refine blk_drewN ?_ _ | refine blk_drew ?_ | refine blk_alloc ?_ _)); exact BK289.out) k_ hk, Kd.freshB (g := gb292) (o := .cells #[.int .i64 ((rd_T40 t284 x44_2).f0), .int .i64 ((rd_T40 t284 x44_2).f1)] 40 (0, 0)) (by (with_reducible repeat (first | refine blk_drewN ?_ _ | refine blk_drew ?_ | refine blk_alloc ?_ _)); exact BK292.out) k_ hk⟩)); (case aO => exact (by (with_reducible repeat (first | apply Kd.R_alloc | apply Kd.R_drewN | apply Kd.R_drew)); exact HO_291002.out)); (case aS => exact (below_size (by repeat (first | (with_reducible first | exact HB.out | apply below_alloc | apply pw_below_drewN | apply below_drew1 | refine below_set ?_ GE281.out | refine below_set ?_ GE287.out | refine below_set ?_ GE289.out | refine below_set ?_ GE290.out | refine below_set ?_ GE292.out) | exact HB.out)))); (case aL => have := LMc115.out; omega); intro v303 w125 ho hb hg hat; rw [← Ny302.out] at ho; have n0_ := Aside0.mk (Kd.R_after (ok := (fun k_ => k_ ≠ gb289 ∧ k_ ≠ gb292)) (by (with_reducible repeat (first | apply Kd.R_alloc | apply Kd.R_drewN | apply Kd.R_drew)); exact Kd.R_mono HO_42.out (fun _ hk => ⟨⟨hk.2.1, hk.2.2⟩, hk.1⟩)) hg hat); have n1_ := Aside0.mk (Kd.R_after (ok := (fun k_ => k_ ≠ gb289 ∧ k_ ≠ gb292)) (by (with_reducible repeat (first | apply Kd.R_alloc | apply Kd.R_drewN | apply Kd.R_drew)); exact Kd.R_mono HO_288002.out (fun _ hk => ⟨⟨hk.2.1, hk.2.2⟩, hk.1⟩)) hg hat); have n2_ := Aside0.mk (blk_grown (g := gb281) (o := .cells #[.int .u8 a0_0, .int .u8 a0_1, .slice A0_2 l0_2.length c0_2] 24 (0, 0)) (by (with_reducible repeat (first | refine blk_drewN ?_ _ | refine blk_drew ?_ | refine blk_alloc ?_ _)); exact BK281.out) hg (Kd.R_ne HO_291002.out BK281.out (by decide))); have n3_ := Aside0.mk (blk_grown (g := gb287) (o := .cells #[.int .i64 t282, .int .i64 t283, .slice (some ad291) t284.length co12] 27 (0, 0)) (by (with_reducible repeat (first | refine blk_drewN ?_ _ | refine blk_drew ?_ | refine blk_alloc ?_ _)); exact BK287.out) hg (Kd.R_ne HO_291002.out BK287.out (by decide))); have n4_ := Aside0.mk (blk_grown (g := gb289) (o := .cells #[.int .i64 (Int.tmod (wrap64 (a1)) t282), .int .i64 (Int.tmod (wrap64 (a2)) t283)] 40 (0, 0)) (by (with_reducible repeat (first | refine blk_drewN ?_ _ | refine blk_drew ?_ | refine blk_alloc ?_ _)); exact BK289.out) hg (Kd.R_away HO_291002.out (fun _ hk => hk.2.2.1))); have n5_ := Aside0.mk (blk_grown (g := gb290) (o := .cells #[.int .i64 t282, .int .i64 t283, u291002] 27 (0, 0)) (by (with_reducible repeat (first | refine blk_drewN ?_ _ | refine blk_drew ?_ | refine blk_alloc ?_ _)); exact BK290.out) hg (Kd.R_ne HO_291002.out BK290.out (by decide))); have n6_ := Aside0.mk (blk_grown (g := gb292) (o := .cells #[.int .i64 ((rd_T40 t284 x44_2).f0), .int .i64 ((rd_T40 t284 x44_2).f1)] 40 (0, 0)) (by (with_reducible repeat (first | refine blk_drewN ?_ _ | refine blk_drew ?_ | refine blk_alloc ?_ _)); exact BK292.out) hg (Kd.R_away HO_291002.out (fun _ hk => hk.2.2.2))); have n7_ := Aside0.mk (hb); have n8_ := Aside0.mk (ho); clear HO_42; clear HO_288002; clear BK281; clear BK287; clear BK289; clear BK290; clear BK292; clear HB; clear HO_291002; have HO_42 := n0_; have HO_288002 := n1_; have BK281 := n2_; have BK287 := n3_; have BK289 := n4_; have BK290 := n5_; have BK292 := n6_; have HB := n7_; have HO304 := n8_; clear n0_ n1_ n2_ n3_ n4_ n5_ n6_ n7_ n8_; clear ho hb hg hat; obtain ⟨Ao126, co126, eo126⟩ := Kd.R_slice HO304.out; subst eo126; have hcz127_0 : w125.cell? ⟨gb290, 0, none⟩ = some (.int .i64 t282) := (blk_cell BK290.out 0).trans rfl; have hcz127_1 : w125.cell? ⟨gb290, 1, none⟩ = some (.int .i64 t283) := (blk_cell BK290.out 1).trans rfl; have hcz127_2 : w125.cell? ⟨gb290, 2, none⟩ = some (u291002) := (blk_cell BK290.out 2).trans rfl; have hfz127_0 := blk_frozen BK290.out 0; have hfz127_1 := blk_frozen BK290.out 1; have hfz127_2 := blk_frozen BK290.out 2))
                              go_roundg kj38
                              case measure => have := HJ4.out; have := HK2.out; have := HJ38.out; omega
                              case rel => exact ⟨(x10_2), (wrap64 (x44_2 + 1)), (y302), (.slice Ao126 y302.length co126), (by first | rfl | (simp; done) | (simp [*]; done)), (by first | rfl | (simp; done) | (simp [*]; done)), H', ⟨by have := HJ4.out; have := HK2.out; have := HJ38.out; omega⟩, ⟨by (with_reducible repeat (first | apply Kd.R_alloc | apply Kd.R_drewN | apply Kd.R_drew)); exact Kd.R_mono (Kd.R_far (p := ⟨gb290, 2, none⟩) (Kd.R_types HO_42.out BK290.out (by decide)) (fun _ hk => hk.2) (.slice Ao126 y302.length co126)) (fun _ hk => ⟨hk.1.2, hk.1.1.1⟩)⟩, ⟨by (with_reducible repeat (first | apply Kd.R_alloc | apply Kd.R_drewN | apply Kd.R_drew)); exact Kd.R_mono (Kd.R_far (p := ⟨gb290, 2, none⟩) (Kd.R_types HO_288002.out BK290.out (by decide)) (fun _ hk => hk.2) (.slice Ao126 y302.length co126)) (fun _ hk => ⟨hk.1.2, hk.1.1.1⟩)⟩, ⟨by (with_reducible repeat (first | apply Kd.R_alloc | apply Kd.R_drewN | apply Kd.R_drew)); exact Kd.R_mono (Kd.R_far (p := ⟨gb290, 2, none⟩) (Kd.R_types HO304.out BK290.out (by decide)) (fun _ hk => hk.2) (.slice Ao126 y302.length co126)) (fun _ hk => ⟨hk.1.1, ⟨hk.1.2.1, hk.1.2.2.1⟩⟩)⟩, ⟨by (with_reducible repeat (first | refine blk_drewN ?_ _ | refine blk_drew ?_ | refine blk_alloc ?_ _)); refine blk_far ?_ NB281_290.out _; (with_reducible repeat (first | refine blk_drewN ?_ _ | refine blk_drew ?_ | refine blk_alloc ?_ _)); exact BK281.out⟩, ⟨by (with_reducible repeat (first | refine blk_drewN ?_ _ | refine blk_drew ?_ | refine blk_alloc ?_ _)); refine blk_far ?_ NB287_290.out _; (with_reducible repeat (first | refine blk_drewN ?_ _ | refine blk_drew ?_ | refine blk_alloc ?_ _)); exact BK287.out⟩, ⟨by (with_reducible repeat (first | refine blk_drewN ?_ _ | refine blk_drew ?_ | refine blk_alloc ?_ _)); refine blk_far ?_ NB289_290.out _; (with_reducible repeat (first | refine blk_drewN ?_ _ | refine blk_drew ?_ | refine blk_alloc ?_ _)); exact BK289.out⟩, ⟨by (with_reducible repeat (first | refine blk_drewN ?_ _ | refine blk_drew ?_ | refine blk_alloc ?_ _)); refine blk_put (cs := #[.int .i64 t282, .int .i64 t283, u291002]) ?_ 2 _ rfl; (with_reducible repeat (first | refine blk_drewN ?_ _ | refine blk_drew ?_ | refine blk_alloc ?_ _)); exact BK290.out⟩, ⟨by repeat (first | (with_reducible first | exact HB.out | apply below_alloc | apply pw_below_drewN | apply below_drew1 | refine below_set ?_ GE281.out | refine below_set ?_ GE287.out | refine below_set ?_ GE289.out | refine below_set ?_ GE290.out | refine below_set ?_ GE292.out) | exact HB.out)⟩⟩
                            · rw [if_neg c115] at H
                              exact absurd H (by simp)
                    · rw [if_neg c38] at H
                      exact absurd H (by simp)
                  · rw [if_neg c37] at H
                    exact absurd H (by simp)
                · rw [if_neg c36] at H
                  have c36b0 : decide (x44_2 < (t284.length : Int)) = false := decide_eq_false c36
                  clear c36
                  have HC128 := Aside0.mk H
                  clear H
                  go_upto_if 88 with (fail)
                  go_cut [] (fun wc => ∃ (kq : Nat) (x291002_127 : List (S40)) (u291002 : Value), Aside0 (toruslaw30_MatchEdges.j3 kq t282 t283 t284 (Int.tmod (wrap64 (a1)) t282) (Int.tmod (wrap64 (a2)) t283) t282 t283 x291002_127 = some r) ∧ Aside0 (kq ≤ k2) ∧ Aside0 (Kd.R k40 40 wc w.heap.size (fun k_ => some k_ ≠ (u291002 : Value).ownBlock ∧ k_ ≠ gb289) (.slice Ao12 t284.length co12) t284) ∧ Aside0 (Kd.R k40 40 wc w.heap.size (fun k_ => some k_ ≠ ((.slice Ao12 t284.length co12) : Value).ownBlock ∧ k_ ≠ gb289) u291002 x291002_127) ∧ Aside0 (wc.heap[gb281]? = some (.cells #[.int .u8 a0_0, .int .u8 a0_1, (.slice A0_2 l0_2.length c0_2)] 24 (0, 0))) ∧ Aside0 (wc.heap[gb287]? = some (.cells #[.int .i64 t282, .int .i64 t283, (.slice Ao12 t284.length co12)] 27 (0, 0))) ∧ Aside0 (wc.heap[gb289]? = some (.cells #[.int .i64 (Int.tmod (wrap64 (a1)) t282), .int .i64 (Int.tmod (wrap64 (a2)) t283)] 40 (0, 0))) ∧ Aside0 (wc.heap[gb290]? = some (.cells #[.int .i64 t282, .int .i64 t283, u291002] 27 (0, 0))) ∧ Aside0 (Below w.heap.size w wc))
                  case first =>
                    have H := HC128.out
                    clear HC128
                    by_cases c129 : x10_2 = true
                    · subst c129
                      have H1 : (toruslaw30_MatchEdges.j3 k2 t282 t283 t284 (Int.tmod (wrap64 (a1)) t282) (Int.tmod (wrap64 (a2)) t283) t282 t283 x291002_2) = some r := by rw [if_pos rfl] at H; exact H
                      clear H
                      have H := H1
                      clear H1
                      have H' := Aside0.mk H
                      clear H
                      go_wp2
                      go_meet
                      case rel => exact ⟨_, (x291002_2), (u291002), H', ⟨by have := HJ4.out; have := HK2.out; first | omega | exact Nat.le_refl _⟩, ⟨by (with_reducible repeat (first | apply Kd.R_alloc | apply Kd.R_drewN | apply Kd.R_drew)); exact HO_288002.out⟩, ⟨by (with_reducible repeat (first | apply Kd.R_alloc | apply Kd.R_drewN | apply Kd.R_drew)); exact Kd.R_mono HO_291002.out (fun _ hk => ⟨hk.2.1, hk.2.2⟩)⟩, ⟨by (with_reducible repeat (first | refine blk_drewN ?_ _ | refine blk_drew ?_ | refine blk_alloc ?_ _)); exact BK281.out⟩, ⟨by (with_reducible repeat (first | refine blk_drewN ?_ _ | refine blk_drew ?_ | refine blk_alloc ?_ _)); exact BK287.out⟩, ⟨by (with_reducible repeat (first | refine blk_drewN ?_ _ | refine blk_drew ?_ | refine blk_alloc ?_ _)); exact BK289.out⟩, ⟨by (with_reducible repeat (first | refine blk_drewN ?_ _ | refine blk_drew ?_ | refine blk_alloc ?_ _)); exact BK290.out⟩, ⟨by repeat (first | (with_reducible first | exact HB.out | apply below_alloc | apply pw_below_drewN | apply below_drew1 | refine below_set ?_ GE281.out | refine below_set ?_ GE287.out | refine below_set ?_ GE289.out | refine below_set ?_ GE290.out) | exact HB.out)⟩⟩
                    · replace c129 := Bool.eq_false_iff.mpr c129
                      subst c129
                      have H1 : (if x291002_2.length < 8796093022208 then (toruslaw30_MatchEdges.j3 k2 t282 t283 t284 (Int.tmod (wrap64 (a1)) t282) (Int.tmod (wrap64 (a2)) t283) t282 t283 (x291002_2 ++ [(⟨(Int.tmod (wrap64 (a1)) t282), (Int.tmod (wrap64 (a2)) t283)⟩ : S40)])) else (none)) = some r := by rw [if_neg (show ¬ (false = true) by decide)] at H; exact H
                      clear H
                      have H := H1
                      clear H1
                      by_cases c130 : x291002_2.length < 8796093022208
                      · rw [if_pos c130] at H
                        have LMc130 := Aside0.mk c130
                        clear c130
                        obtain ⟨y305, hy305⟩ : ∃ y_ : List (S40), y_ = (x291002_2 ++ [(⟨(Int.tmod (wrap64 (a1)) t282), (Int.tmod (wrap64 (a2)) t283)⟩ : S40)]) := ⟨_, rfl⟩
                        replace H : (toruslaw30_MatchEdges.j3 k2 t282 t283 t284 (Int.tmod (wrap64 (a1)) t282) (Int.tmod (wrap64 (a2)) t283) t282 t283 y305) = some r := by first | (rw [hy305]; with_reducible exact H) | (have H2_ := (Option.bind_some _ _).symm.trans H; rw [hy305]; with_reducible exact H2_) | (have H2_ := (Option.bind_some _ _).symm.trans H; with_reducible exact H2_) | with_reducible exact H | (rw [hy305]; exact H) | exact H
                        have Ny305 := Aside0.mk hy305
                        clear hy305
                        have H' := Aside0.mk H
                        clear H
                        have hnb131 := NB290_281.out
                        have hnc131 := NB281_290.out
                        have hnb132 := NB290_287.out
                        have hnc132 := NB287_290.out
                        have hnb133 := NB290_289.out
                        have hnc133 := NB289_290.out
                        have hcz134_0 : wr.cell? ⟨gb290, 0, none⟩ = some (.int .i64 t282) := (blk_cell BK290.out 0).trans rfl
                        have hcz134_1 : wr.cell? ⟨gb290, 1, none⟩ = some (.int .i64 t283) := (blk_cell BK290.out 1).trans rfl
                        have hcz134_2 : wr.cell? ⟨gb290, 2, none⟩ = some (u291002) := (blk_cell BK290.out 2).trans rfl
                        have hfz134_0 := blk_frozen BK290.out 0
                        have hfz134_1 := blk_frozen BK290.out 1
                        have hfz134_2 := blk_frozen BK290.out 2
                        have hnb135 := NB289_281.out
                        have hnc135 := NB281_289.out
                        have hnb136 := NB289_287.out
                        have hnc136 := NB287_289.out
                        have hcz137_0 : wr.cell? ⟨gb289, 0, none⟩ = some (.int .i64 (Int.tmod (wrap64 (a1)) t282)) := (blk_cell BK289.out 0).trans rfl
                        have hcz137_1 : wr.cell? ⟨gb289, 1, none⟩ = some (.int .i64 (Int.tmod (wrap64 (a2)) t283)) := (blk_cell BK289.out 1).trans rfl
                        have hfz137_0 := blk_frozen BK289.out 0
                        have hfz137_1 := blk_frozen BK289.out 1
                        go_wp2_with (first | ((with_reducible refine gate_builtin (b := .append) (xs := #[.tmp 90, .tmp 92]) rfl ?_); at_builtin; refine Kd.R_append k40 (w0 := w) w.heap.size rfl (.tmp 90) (.tmp 92) 25 40 (.agg #[(.int .i64 0), (.int .i64 0)]) 16 rfl Try.underlying25 info40 rfl (by decide) (by omega) u291002 x291002_2 (⟨(Int.tmod (wrap64 (a1)) t282), (Int.tmod (wrap64 (a2)) t283)⟩ : S40) [.int .i64 (Int.tmod (wrap64 (a1)) t282), .int .i64 (Int.tmod (wrap64 (a2)) t283)] (fun k_ => some k_ ≠ (.slice Ao12 t284.length co12 : Value).ownBlock ∧ some k_ ≠ (.slice Ao12 t284.length co12 : Value).ownBlock ∧ k_ ≠ gb289) (fun _ => False) rfl rfl ?aP (fun _ hk => hk.elim) ?aF ?aO ?aB ?aS ?aL ?_; (case aP => exact k40_mkM _ _ _ (⟨(Int.tmod (wrap64 (a1)) t282), (Int.tmod (wrap64 (a2)) t283)⟩ : S40)); (case aB => exact (by repeat (first | (with_reducible first | exact HB.out | apply below_alloc | apply pw_below_drewN | apply below_drew1 | refine below_set ?_ GE281.out | refine below_set ?_ GE287.out | refine below_set ?_ GE289.out | refine below_set ?_ GE290.out) | exact HB.out))); (case aF => exact (fun k_ hk => ⟨Kd.fresh' (Kd.R_lt (by (with_reducible repeat (first | apply Kd.R_alloc | apply Kd.R_drewN | apply Kd.R_drew)); exact HO_42.out)) k_ hk, Kd.fresh' (Kd.R_lt (by (with_reducible repeat (first | apply Kd.R_alloc | apply Kd.R_drewN | apply Kd.R_drew)); exact HO_288002.out)) k_ hk, Kd.freshB (g := gb289) (o := .cells #[.int .i64 (Int.tmod (wrap64 (a1)) t282), .int .i64 (Int.tmod (wrap64 (a2)) t283)] 40 (0, 0)) (by (with_reducible repeat (first | refine blk_drewN ?_ _ | refine blk_drew ?_ | refine blk_alloc ?_ _)); exact BK289.out) k_ hk⟩)); (case aO => exact (by (with_reducible repeat (first | apply Kd.R_alloc | apply Kd.R_drewN | apply Kd.R_drew)); exact HO_291002.out)); (case aS => exact (below_size (by repeat (first | (with_reducible first | exact HB.out | apply below_alloc | apply pw_below_drewN | apply below_drew1 | refine below_set ?_ GE281.out | refine below_set ?_ GE287.out | refine below_set ?_ GE289.out | refine below_set ?_ GE290.out) | exact HB.out)))); (case aL => have := LMc130.out; omega); intro v306 w138 ho hb hg hat; rw [← Ny305.out] at ho; have n0_ := Aside0.mk (Kd.R_after (ok := (fun k_ => k_ ≠ gb289)) (by (with_reducible repeat (first | apply Kd.R_alloc | apply Kd.R_drewN | apply Kd.R_drew)); exact Kd.R_mono HO_42.out (fun _ hk => ⟨hk.2, hk.1⟩)) hg hat); have n1_ := Aside0.mk (Kd.R_after (ok := (fun k_ => k_ ≠ gb289)) (by (with_reducible repeat (first | apply Kd.R_alloc | apply Kd.R_drewN | apply Kd.R_drew)); exact Kd.R_mono HO_288002.out (fun _ hk => ⟨hk.2, hk.1⟩)) hg hat); have n2_ := Aside0.mk (blk_grown (g := gb281) (o := .cells #[.int .u8 a0_0, .int .u8 a0_1, .slice A0_2 l0_2.length c0_2] 24 (0, 0)) (by (with_reducible repeat (first | refine blk_drewN ?_ _ | refine blk_drew ?_ | refine blk_alloc ?_ _)); exact BK281.out) hg (Kd.R_ne HO_291002.out BK281.out (by decide))); have n3_ := Aside0.mk (blk_grown (g := gb287) (o := .cells #[.int .i64 t282, .int .i64 t283, .slice Ao12 t284.length co12] 27 (0, 0)) (by (with_reducible repeat (first | refine blk_drewN ?_ _ | refine blk_drew ?_ | refine blk_alloc ?_ _)); exact BK287.out) hg (Kd.R_ne HO_291002.out BK287.out (by decide))); have n4_ := Aside0.mk (blk_grown (g := gb289) (o := .cells #[.int .i64 (Int.tmod (wrap64 (a1)) t282), .int .i64 (Int.tmod (wrap64 (a2)) t283)] 40 (0, 0)) (by (with_reducible repeat (first | refine blk_drewN ?_ _ | refine blk_drew ?_ | refine blk_alloc ?_ _)); exact BK289.out) hg (Kd.R_away HO_291002.out (fun _ hk => hk.2.2))); have n5_ := Aside0.mk (blk_grown (g := gb290) (o := .cells #[.int .i64 t282, .int .i64 t283, u291002] 27 (0, 0)) (by (with_reducible repeat (first | refine blk_drewN ?_ _ | refine blk_drew ?_ | refine blk_alloc ?_ _)); exact BK290.out) hg (Kd.R_ne HO_291002.out BK290.out (by decide))); have n6_ := Aside0.mk (hb); have n7_ := Aside0.mk (ho); clear HO_42; clear HO_288002; clear BK281; clear BK287; clear BK289; clear BK290; clear HB; clear HO_291002; have HO_42 := n0_; have HO_288002 := n1_; have BK281 := n2_; have BK287 := n3_; have BK289 := n4_; have BK290 := n5_; have HB := n6_; have HO307 := n7_; clear n0_ n1_ n2_ n3_ n4_ n5_ n6_ n7_; clear ho hb hg hat; obtain ⟨Ao139, co139, eo139⟩ := Kd.R_slice HO307.out; subst eo139; have hcz140_0 : w138.cell? ⟨gb290, 0, none⟩ = some (.int .i64 t282) := (blk_cell BK290.out 0).trans rfl; have hcz140_1 : w138.cell? ⟨gb290, 1, none⟩ = some (.int .i64 t283) := (blk_cell BK290.out 1).trans rfl; have hcz140_2 : w138.cell? ⟨gb290, 2, none⟩ = some (u291002) := (blk_cell BK290.out 2).trans rfl; have hfz140_0 := blk_frozen BK290.out 0; have hfz140_1 := blk_frozen BK290.out 1; have hfz140_2 := blk_frozen BK290.out 2))
                        go_meet
                        case rel => exact ⟨_, (y305), (.slice Ao139 y305.length co139), H', ⟨by have := HJ4.out; have := HK2.out; first | omega | exact Nat.le_refl _⟩, ⟨by (with_reducible repeat (first | apply Kd.R_alloc | apply Kd.R_drewN | apply Kd.R_drew)); exact Kd.R_mono (Kd.R_far (p := ⟨gb290, 2, none⟩) (Kd.R_types HO_288002.out BK290.out (by decide)) (fun _ hk => hk.2) (.slice Ao139 y305.length co139)) (fun _ hk => ⟨hk.1.2, hk.1.1⟩)⟩, ⟨by (with_reducible repeat (first | apply Kd.R_alloc | apply Kd.R_drewN | apply Kd.R_drew)); exact Kd.R_mono (Kd.R_far (p := ⟨gb290, 2, none⟩) (Kd.R_types HO307.out BK290.out (by decide)) (fun _ hk => hk.2) (.slice Ao139 y305.length co139)) (fun _ hk => ⟨hk.1.2.1, hk.1.2.2⟩)⟩, ⟨by (with_reducible repeat (first | refine blk_drewN ?_ _ | refine blk_drew ?_ | refine blk_alloc ?_ _)); refine blk_far ?_ NB281_290.out _; (with_reducible repeat (first | refine blk_drewN ?_ _ | refine blk_drew ?_ | refine blk_alloc ?_ _)); exact BK281.out⟩, ⟨by (with_reducible repeat (first | refine blk_drewN ?_ _ | refine blk_drew ?_ | refine blk_alloc ?_ _)); refine blk_far ?_ NB287_290.out _; (with_reducible repeat (first | refine blk_drewN ?_ _ | refine blk_drew ?_ | refine blk_alloc ?_ _)); exact BK287.out⟩, ⟨by (with_reducible repeat (first | refine blk_drewN ?_ _ | refine blk_drew ?_ | refine blk_alloc ?_ _)); refine blk_far ?_ NB289_290.out _; (with_reducible repeat (first | refine blk_drewN ?_ _ | refine blk_drew ?_ | refine blk_alloc ?_ _)); exact BK289.out⟩, ⟨by (with_reducible repeat (first | refine blk_drewN ?_ _ | refine blk_drew ?_ | refine blk_alloc ?_ _)); refine blk_put (cs := #[.int .i64 t282, .int .i64 t283, u291002]) ?_ 2 _ rfl; (with_reducible repeat (first | refine blk_drewN ?_ _ | refine blk_drew ?_ | refine blk_alloc ?_ _)); exact BK290.out⟩, ⟨by repeat (first | (with_reducible first | exact HB.out | apply below_alloc | apply pw_below_drewN | apply below_drew1 | refine below_set ?_ GE281.out | refine below_set ?_ GE287.out | refine below_set ?_ GE289.out | refine below_set ?_ GE290.out) | exact HB.out)⟩⟩
                      · rw [if_neg c130] at H
                        exact absurd H (by simp)
                  case rest =>
                    clear HC128
                    try clear c1
                    try clear c2
                    try clear p2
                    try clear q2
                    try clear hx2
                    try clear c3
                    try clear c4
                    try clear c5
                    try clear c6
                    try clear p6
                    try clear c7
                    try clear c8
                    try clear c9
                    try clear c10
                    try clear c11
                    try clear c12
                    try clear c13
                    try clear c13b0
                    try clear c13b1
                    try clear c14
                    try clear c16
                    try clear c18
                    try clear c21
                    try clear c21b0
                    try clear c21b1
                    try clear c22
                    try clear c22b0
                    try clear c22b1
                    try clear c27
                    try clear c28
                    try clear p29
                    try clear q29
                    try clear hx29
                    try clear c31
                    try clear c32
                    try clear c33
                    try clear c36
                    try clear c36b0
                    try clear c37
                    try clear c37b0
                    try clear c38
                    try clear c38b0
                    try clear c41
                    try clear c42
                    try clear c43
                    try clear c44
                    try clear c46
                    try clear c47
                    try clear c47b0
                    try clear c48
                    try clear c49
                    try clear c50
                    try clear c51
                    try clear c53
                    try clear c54
                    try clear c55
                    try clear c57
                    try clear c57b0
                    try clear c57b1
                    try clear c58
                    try clear c59
                    try clear c60
                    try clear c61
                    try clear c63
                    try clear c64
                    try clear p64
                    try clear c65
                    try clear c67
                    try clear c68
                    try clear c69
                    try clear c70
                    try clear c72
                    try clear c73
                    try clear c74
                    try clear c76
                    try clear c77
                    try clear c77b0
                    try clear c78
                    try clear c79
                    try clear c80
                    try clear c81
                    try clear c82
                    try clear c83
                    try clear c85
                    try clear c86
                    try clear c87
                    try clear c89
                    try clear c90
                    try clear c99
                    try clear c100
                    try clear c101
                    try clear c102
                    try clear c103
                    try clear c105
                    try clear c106
                    try clear c107
                    try clear c109
                    try clear c110
                    try clear c115
                    try clear c116
                    try clear c117
                    try clear c118
                    try clear c119
                    try clear c121
                    try clear c122
                    try clear c123
                    try clear c129
                    try clear c130
                    try clear c131
                    try clear c132
                    try clear c133
                    try clear c135
                    try clear c136
                    try clear hcz104_0
                    try clear hcz104_1
                    try clear hcz108_0
                    try clear hcz108_1
                    try clear hcz111_0
                    try clear hcz111_1
                    try clear hcz111_2
                    try clear hcz114_0
                    try clear hcz114_1
                    try clear hcz114_2
                    try clear hcz11_0
                    try clear hcz11_1
                    try clear hcz11_2
                    try clear hcz120_0
                    try clear hcz120_1
                    try clear hcz120_2
                    try clear hcz124_0
                    try clear hcz124_1
                    try clear hcz127_0
                    try clear hcz127_1
                    try clear hcz127_2
                    try clear hcz134_0
                    try clear hcz134_1
                    try clear hcz134_2
                    try clear hcz137_0
                    try clear hcz137_1
                    try clear hcz140_0
                    try clear hcz140_1
                    try clear hcz140_2
                    try clear hcz15_0
                    try clear hcz15_1
                    try clear hcz15_2
                    try clear hcz17_0
                    try clear hcz17_1
                    try clear hcz17_2
                    try clear hcz29_0
                    try clear hcz29_1
                    try clear hcz29_2
                    try clear hcz34_0
                    try clear hcz34_1
                    try clear hcz34_2
                    try clear hcz35_0
                    try clear hcz35_1
                    try clear hcz35_2
                    try clear hcz45_0
                    try clear hcz45_1
                    try clear hcz52_0
                    try clear hcz52_1
                    try clear hcz56_0
                    try clear hcz56_1
                    try clear hcz62_0
                    try clear hcz62_1
                    try clear hcz66_0
                    try clear hcz66_1
                    try clear hcz71_0
                    try clear hcz71_1
                    try clear hcz75_0
                    try clear hcz75_1
                    try clear hcz7_0
                    try clear hcz7_1
                    try clear hcz7_2
                    try clear hcz84_0
                    try clear hcz84_1
                    try clear hcz88_0
                    try clear hcz88_1
                    try clear hcz91_0
                    try clear hcz91_1
                    try clear hcz91_2
                    try clear hcz94_0
                    try clear hcz94_1
                    try clear hcz94_2
                    try clear hcz95_0
                    try clear hcz95_1
                    try clear hcz98_0
                    try clear hcz98_1
                    try clear hcz98_2
                    try clear hfz104_0
                    try clear hfz104_1
                    try clear hfz108_0
                    try clear hfz108_1
                    try clear hfz111_0
                    try clear hfz111_1
                    try clear hfz111_2
                    try clear hfz114_0
                    try clear hfz114_1
                    try clear hfz114_2
                    try clear hfz11_0
                    try clear hfz11_1
                    try clear hfz11_2
                    try clear hfz120_0
                    try clear hfz120_1
                    try clear hfz120_2
                    try clear hfz124_0
                    try clear hfz124_1
                    try clear hfz127_0
                    try clear hfz127_1
                    try clear hfz127_2
                    try clear hfz134_0
                    try clear hfz134_1
                    try clear hfz134_2
                    try clear hfz137_0
                    try clear hfz137_1
                    try clear hfz140_0
                    try clear hfz140_1
                    try clear hfz140_2
                    try clear hfz15_0
                    try clear hfz15_1
                    try clear hfz15_2
                    try clear hfz17_0
                    try clear hfz17_1
                    try clear hfz17_2
                    try clear hfz29_0
                    try clear hfz29_1
                    try clear hfz29_2
                    try clear hfz34_0
                    try clear hfz34_1
                    try clear hfz34_2
                    try clear hfz35_0
                    try clear hfz35_1
                    try clear hfz35_2
                    try clear hfz45_0
                    try clear hfz45_1
                    try clear hfz52_0
                    try clear hfz52_1
                    try clear hfz56_0
                    try clear hfz56_1
                    try clear hfz62_0
                    try clear hfz62_1
                    try clear hfz66_0
                    try clear hfz66_1
                    try clear hfz71_0
                    try clear hfz71_1
                    try clear hfz75_0
                    try clear hfz75_1
                    try clear hfz7_0
                    try clear hfz7_1
                    try clear hfz7_2
                    try clear hfz84_0
                    try clear hfz84_1
                    try clear hfz88_0
                    try clear hfz88_1
                    try clear hfz91_0
                    try clear hfz91_1
                    try clear hfz91_2
                    try clear hfz94_0
                    try clear hfz94_1
                    try clear hfz94_2
                    try clear hfz95_0
                    try clear hfz95_1
                    try clear hfz98_0
                    try clear hfz98_1
                    try clear hfz98_2
                    try clear hx291_0
                    try clear hx291_1
                    try clear p2
                    try clear p29
                    try clear p291
                    try clear p6
                    try clear p64
                    try clear q2
                    try clear q29
                    try clear q291
                    obtain ⟨kq, x291002_127, u291002, HA, HJ127, HO_288002, HO_291002, BK281, BK287, BK289, BK290, HB⟩ := hcut
                    cases kq with
                    | zero => exact absurd HA.out (by simp [toruslaw30_MatchEdges.j3])
                    | succ kj127 =>
                      have H := HA.out
                      clear HA
                      simp only [toruslaw30_MatchEdges.j3] at H
                      replace H := Option.bind_eq_some_iff.mp H
                      obtain ⟨t308, A1410, H⟩ := H
                      replace H : (if (x291002_127.length : Int) > (t284.length : Int) then ((torusref30_Without.f kj127 t282 t283 t284 (Int.tmod (wrap64 (a1)) t282) (Int.tmod (wrap64 (a2)) t283)).bind fun bt309 => ((toruslaw30_size.f kj127 bt309.1 bt309.2.1 bt309.2.2).bind fun t314 => (toruslaw30_MatchEdges.j4 kj127 t308 (t314 == t308) t282 t283 x291002_127))) else (toruslaw30_MatchEdges.j4 kj127 t308 false t282 t283 x291002_127)) = some r := H
                      have A141 := Aside0.mk A1410
                      clear A1410
                      have HC142 := Aside0.mk H
                      clear H
                      have hnb143 := NB287_281.out
                      have hnc143 := NB281_287.out
                      have hnb144 := NB287_289.out
                      have hnc144 := NB289_287.out
                      have hnb145 := NB287_290.out
                      have hnc145 := NB290_287.out
                      have hcz146_0 : wc.cell? ⟨gb287, 0, none⟩ = some (.int .i64 t282) := (blk_cell BK287.out 0).trans rfl
                      have hcz146_1 : wc.cell? ⟨gb287, 1, none⟩ = some (.int .i64 t283) := (blk_cell BK287.out 1).trans rfl
                      have hcz146_2 : wc.cell? ⟨gb287, 2, none⟩ = some (.slice Ao12 t284.length co12) := (blk_cell BK287.out 2).trans rfl
                      have hfz146_0 := blk_frozen BK287.out 0
                      have hfz146_1 := blk_frozen BK287.out 1
                      have hfz146_2 := blk_frozen BK287.out 2
                      go_upto_region 19 with (first | ((with_reducible refine gate_callee (f := 15) rfl ?_); refine goesL_ (some 96) rfl rfl Try.func15 (by kernel_rfl) rfl #[.agg #[.int .i64 t282, .int .i64 t283, .slice Ao12 t284.length co12]] rfl (by (try simp only [List.map_toArray, List.map_cons, List.map_nil]); first | done | rfl | (simp only [List.length_drop, List.length_take]; rfl)) ?_; (with_reducible refine (toruslaw30_size.calls kj127 t282 t283 _ _ t284 t308 _ ?side1 ?side2 A141.out).mono ?_); (case side1 => repeat (first | exact (Kd.R_reads' HO_288002.out).2.2 | (with_reducible refine Kd.C_alloc ?_ _) | (with_reducible refine Kd.C_drewN ?_ _) | (with_reducible refine Kd.C_drew ?_))); (case side2 => exact (Kd.R_reads' HO_288002.out).2.1); rintro e w147 ⟨rfl, hb⟩; refine ⟨_, rfl, ?_⟩; have n0_ := Aside0.mk (Kd.R_below (by (with_reducible repeat (first | apply Kd.R_alloc | apply Kd.R_drewN | apply Kd.R_drew)); exact HO_288002.out) hb); have n1_ := Aside0.mk (Kd.R_below (by (with_reducible repeat (first | apply Kd.R_alloc | apply Kd.R_drewN | apply Kd.R_drew)); exact HO_291002.out) hb); have n2_ := Aside0.mk (blk_below (g := gb281) (o := .cells #[.int .u8 a0_0, .int .u8 a0_1, .slice A0_2 l0_2.length c0_2] 24 (0, 0)) (by (with_reducible repeat (first | refine blk_drewN ?_ _ | refine blk_drew ?_ | refine blk_alloc ?_ _)); exact BK281.out) hb); have n3_ := Aside0.mk (blk_below (g := gb287) (o := .cells #[.int .i64 t282, .int .i64 t283, .slice Ao12 t284.length co12] 27 (0, 0)) (by (with_reducible repeat (first | refine blk_drewN ?_ _ | refine blk_drew ?_ | refine blk_alloc ?_ _)); exact BK287.out) hb); have n4_ := Aside0.mk (blk_below (g := gb289) (o := .cells #[.int .i64 (Int.tmod (wrap64 (a1)) t282), .int .i64 (Int.tmod (wrap64 (a2)) t283)] 40 (0, 0)) (by (with_reducible repeat (first | refine blk_drewN ?_ _ | refine blk_drew ?_ | refine blk_alloc ?_ _)); exact BK289.out) hb); have n5_ := Aside0.mk (blk_below (g := gb290) (o := .cells #[.int .i64 t282, .int .i64 t283, u291002] 27 (0, 0)) (by (with_reducible repeat (first | refine blk_drewN ?_ _ | refine blk_drew ?_ | refine blk_alloc ?_ _)); exact BK290.out) hb); have n6_ := Aside0.mk (below_step (by repeat (first | (with_reducible first | exact HB.out | apply below_alloc | apply pw_below_drewN | apply below_drew1 | refine below_set ?_ GE281.out | refine below_set ?_ GE287.out | refine below_set ?_ GE289.out | refine below_set ?_ GE290.out) | exact HB.out)) hb); clear HO_288002; clear HO_291002; clear BK281; clear BK287; clear BK289; clear BK290; clear HB; have HO_288002 := n0_; have HO_291002 := n1_; have BK281 := n2_; have BK287 := n3_; have BK289 := n4_; have BK290 := n5_; have HB := n6_; clear n0_ n1_ n2_ n3_ n4_ n5_ n6_; (try clear hb); (try clear hb2); (try clear hk); (try clear hi)))
                      (try simp only [Act.put, List.setIfInBounds_toArray, List.set_cons_zero, List.set_cons_succ])
                      go_cut [114] (fun v114 wc => ∃ (kq : Nat) (x114_141 : Bool), v114 = .bool x114_141 ∧ Aside0 (toruslaw30_MatchEdges.j4 kq t308 x114_141 t282 t283 x291002_127 = some r) ∧ Aside0 (kq ≤ kj127) ∧ Aside0 (Kd.R k40 40 wc w.heap.size (fun k_ => some k_ ≠ (u291002 : Value).ownBlock ∧ k_ ≠ gb289) (.slice Ao12 t284.length co12) t284) ∧ Aside0 (Kd.R k40 40 wc w.heap.size (fun k_ => some k_ ≠ ((.slice Ao12 t284.length co12) : Value).ownBlock ∧ k_ ≠ gb289) u291002 x291002_127) ∧ Aside0 (wc.heap[gb281]? = some (.cells #[.int .u8 a0_0, .int .u8 a0_1, (.slice A0_2 l0_2.length c0_2)] 24 (0, 0))) ∧ Aside0 (wc.heap[gb287]? = some (.cells #[.int .i64 t282, .int .i64 t283, (.slice Ao12 t284.length co12)] 27 (0, 0))) ∧ Aside0 (wc.heap[gb289]? = some (.cells #[.int .i64 (Int.tmod (wrap64 (a1)) t282), .int .i64 (Int.tmod (wrap64 (a2)) t283)] 40 (0, 0))) ∧ Aside0 (wc.heap[gb290]? = some (.cells #[.int .i64 t282, .int .i64 t283, u291002] 27 (0, 0))) ∧ Aside0 (Below w.heap.size w wc))
                      case first =>
                        have H := HC142.out
                        clear HC142
                        by_cases c148 : (x291002_127.length : Int) > (t284.length : Int)
                        · rw [if_pos c148] at H
                          have c148b0 : decide ((t284.length : Int) < (x291002_127.length : Int)) = true := decide_eq_true c148
                          have c148b1 : decide (t284.length < x291002_127.length) = true := decide_eq_true (Int.ofNat_lt.mp c148)
                          clear c148
                          (first | rw [c148b0] | (simp only [i64_w, i32_w]; rw [c148b0]) | skip)
                          replace H := Option.bind_eq_some_iff.mp H
                          obtain ⟨⟨t309, t310, t311⟩, A1490, H⟩ := H
                          replace H : ((toruslaw30_size.f kj127 t309 t310 t311).bind fun t314 => (toruslaw30_MatchEdges.j4 kj127 t308 (t314 == t308) t282 t283 x291002_127)) = some r := H
                          have A149 := Aside0.mk A1490
                          clear A1490
                          replace H := Option.bind_eq_some_iff.mp H
                          obtain ⟨t314, A1500, H⟩ := H
                          replace H : (toruslaw30_MatchEdges.j4 kj127 t308 (t314 == t308) t282 t283 x291002_127) = some r := H
                          have A150 := Aside0.mk A1500
                          clear A1500
                          have H' := Aside0.mk H
                          clear H
                          have hnb151 := NB290_281.out
                          have hnc151 := NB281_290.out
                          have hnb152 := NB290_287.out
                          have hnc152 := NB287_290.out
                          have hnb153 := NB290_289.out
                          have hnc153 := NB289_290.out
                          have hcz154_0 : w147.cell? ⟨gb290, 0, none⟩ = some (.int .i64 t282) := (blk_cell BK290.out 0).trans rfl
                          have hcz154_1 : w147.cell? ⟨gb290, 1, none⟩ = some (.int .i64 t283) := (blk_cell BK290.out 1).trans rfl
                          have hcz154_2 : w147.cell? ⟨gb290, 2, none⟩ = some (u291002) := (blk_cell BK290.out 2).trans rfl
                          have hfz154_0 := blk_frozen BK290.out 0
                          have hfz154_1 := blk_frozen BK290.out 1
                          have hfz154_2 := blk_frozen BK290.out 2
                          obtain ⟨Ao155, co155, eo155⟩ := Kd.R_slice HO_291002.out
                          subst eo155
                          have hnb156 := NB287_281.out
                          have hnc156 := NB281_287.out
                          have hnb157 := NB287_289.out
                          have hnc157 := NB289_287.out
                          have hcz158_0 : w147.cell? ⟨gb287, 0, none⟩ = some (.int .i64 t282) := (blk_cell BK287.out 0).trans rfl
                          have hcz158_1 : w147.cell? ⟨gb287, 1, none⟩ = some (.int .i64 t283) := (blk_cell BK287.out 1).trans rfl
                          have hcz158_2 : w147.cell? ⟨gb287, 2, none⟩ = some (.slice Ao12 t284.length co12) := (blk_cell BK287.out 2).trans rfl
                          have hfz158_0 := blk_frozen BK287.out 0
                          have hfz158_1 := blk_frozen BK287.out 1
                          have hfz158_2 := blk_frozen BK287.out 2
                          have hnb159 := NB289_281.out
                          have hnc159 := NB281_289.out
                          have hcz160_0 : w147.cell? ⟨gb289, 0, none⟩ = some (.int .i64 (Int.tmod (wrap64 (a1)) t282)) := (blk_cell BK289.out 0).trans rfl
                          have hcz160_1 : w147.cell? ⟨gb289, 1, none⟩ = some (.int .i64 (Int.tmod (wrap64 (a2)) t283)) := (blk_cell BK289.out 1).trans rfl
                          have hfz160_0 := blk_frozen BK289.out 0
                          have hfz160_1 := blk_frozen BK289.out 1
                          go_wp2_with (first | (go_at_call 19; (with_reducible refine (torusref30_Without.calls kj127 t282 t283 _ _ t284 (Int.tmod (wrap64 (a1)) t282) (Int.tmod (wrap64 (a2)) t283) t309 t310 t311 _ ?side1 ?side2 A149.out).mono ?_); (case side1 => repeat (first | exact (Kd.R_reads' HO_288002.out).2.2 | (with_reducible refine Kd.C_alloc ?_ _) | (with_reducible refine Kd.C_drewN ?_ _) | (with_reducible refine Kd.C_drew ?_))); (case side2 => exact (Kd.R_reads' HO_288002.out).2.1); rintro e w161 ⟨v312, rfl, ho0, hb⟩; have n0_ := Aside0.mk (Kd.R_elder' (by (with_reducible repeat (first | apply Kd.R_alloc | apply Kd.R_drewN | apply Kd.R_drew)); exact HO_288002.out) (Kd.R_base ho0) hb); have n1_ := Aside0.mk (Kd.R_elder' (by (with_reducible repeat (first | apply Kd.R_alloc | apply Kd.R_drewN | apply Kd.R_drew)); exact HO_291002.out) (Kd.R_base ho0) hb); have n2_ := Aside0.mk (Kd.R_lower (Kd.R_newB (Kd.R_new' (Kd.R_new' ho0 (Kd.R_lt (by (with_reducible repeat (first | apply Kd.R_alloc | apply Kd.R_drewN | apply Kd.R_drew)); exact HO_288002.out))) (Kd.R_lt (by (with_reducible repeat (first | apply Kd.R_alloc | apply Kd.R_drewN | apply Kd.R_drew)); exact HO_291002.out))) (g := gb289) (o := .cells #[.int .i64 (Int.tmod (wrap64 (a1)) t282), .int .i64 (Int.tmod (wrap64 (a2)) t283)] 40 (0, 0)) (by (with_reducible repeat (first | refine blk_drewN ?_ _ | refine blk_drew ?_ | refine blk_alloc ?_ _)); exact BK289.out)) (below_size (by repeat (first | (with_reducible first | exact HB.out | apply below_alloc | apply pw_below_drewN | apply below_drew1 | refine below_set ?_ GE281.out | refine below_set ?_ GE287.out | refine below_set ?_ GE289.out | refine below_set ?_ GE290.out) | exact HB.out)))); have n3_ := Aside0.mk (blk_below (g := gb281) (o := .cells #[.int .u8 a0_0, .int .u8 a0_1, .slice A0_2 l0_2.length c0_2] 24 (0, 0)) (by (with_reducible repeat (first | refine blk_drewN ?_ _ | refine blk_drew ?_ | refine blk_alloc ?_ _)); exact BK281.out) hb); have n4_ := Aside0.mk (blk_below (g := gb287) (o := .cells #[.int .i64 t282, .int .i64 t283, .slice Ao12 t284.length co12] 27 (0, 0)) (by (with_reducible repeat (first | refine blk_drewN ?_ _ | refine blk_drew ?_ | refine blk_alloc ?_ _)); exact BK287.out) hb); have n5_ := Aside0.mk (blk_below (g := gb289) (o := .cells #[.int .i64 (Int.tmod (wrap64 (a1)) t282), .int .i64 (Int.tmod (wrap64 (a2)) t283)] 40 (0, 0)) (by (with_reducible repeat (first | refine blk_drewN ?_ _ | refine blk_drew ?_ | refine blk_alloc ?_ _)); exact BK289.out) hb); have n6_ := Aside0.mk (blk_below (g := gb290) (o := .cells #[.int .i64 t282, .int .i64 t283, .slice Ao155 x291002_127.length co155] 27 (0, 0)) (by (with_reducible repeat (first | refine blk_drewN ?_ _ | refine blk_drew ?_ | refine blk_alloc ?_ _)); exact BK290.out) hb); have n7_ := Aside0.mk (below_step (by repeat (first | (with_reducible first | exact HB.out | apply below_alloc | apply pw_below_drewN | apply below_drew1 | refine below_set ?_ GE281.out | refine below_set ?_ GE287.out | refine below_set ?_ GE289.out | refine below_set ?_ GE290.out) | exact HB.out)) hb); clear HO_288002; clear HO_291002; clear BK281; clear BK287; clear BK289; clear BK290; clear HB; have HO_288002 := n0_; have HO_291002 := n1_; have HO313 := n2_; have BK281 := n3_; have BK287 := n4_; have BK289 := n5_; have BK290 := n6_; have HB := n7_; clear n0_ n1_ n2_ n3_ n4_ n5_ n6_ n7_; (try clear hb); (try clear hb2); (try clear hk); (try clear hi); (try clear ho0); obtain ⟨Ao162, co162, eo162⟩ := Kd.R_slice HO313.out; subst eo162) | (go_at_call 15; (with_reducible refine (toruslaw30_size.calls kj127 t309 t310 _ _ t311 t314 _ ?side1 ?side2 A150.out).mono ?_); (case side1 => repeat (first | exact (Kd.R_reads' HO313.out).2.2 | (with_reducible refine Kd.C_alloc ?_ _) | (with_reducible refine Kd.C_drewN ?_ _) | (with_reducible refine Kd.C_drew ?_))); (case side2 => exact (Kd.R_reads' HO313.out).2.1); rintro e w163 ⟨rfl, hb⟩; have n0_ := Aside0.mk (Kd.R_below (by (with_reducible repeat (first | apply Kd.R_alloc | apply Kd.R_drewN | apply Kd.R_drew)); exact HO_288002.out) hb); have n1_ := Aside0.mk (Kd.R_below (by (with_reducible repeat (first | apply Kd.R_alloc | apply Kd.R_drewN | apply Kd.R_drew)); exact HO_291002.out) hb); have n2_ := Aside0.mk (Kd.R_below (by (with_reducible repeat (first | apply Kd.R_alloc | apply Kd.R_drewN | apply Kd.R_drew)); exact HO313.out) hb); have n3_ := Aside0.mk (blk_below (g := gb281) (o := .cells #[.int .u8 a0_0, .int .u8 a0_1, .slice A0_2 l0_2.length c0_2] 24 (0, 0)) (by (with_reducible repeat (first | refine blk_drewN ?_ _ | refine blk_drew ?_ | refine blk_alloc ?_ _)); exact BK281.out) hb); have n4_ := Aside0.mk (blk_below (g := gb287) (o := .cells #[.int .i64 t282, .int .i64 t283, .slice Ao12 t284.length co12] 27 (0, 0)) (by (with_reducible repeat (first | refine blk_drewN ?_ _ | refine blk_drew ?_ | refine blk_alloc ?_ _)); exact BK287.out) hb); have n5_ := Aside0.mk (blk_below (g := gb289) (o := .cells #[.int .i64 (Int.tmod (wrap64 (a1)) t282), .int .i64 (Int.tmod (wrap64 (a2)) t283)] 40 (0, 0)) (by (with_reducible repeat (first | refine blk_drewN ?_ _ | refine blk_drew ?_ | refine blk_alloc ?_ _)); exact BK289.out) hb); have n6_ := Aside0.mk (blk_below (g := gb290) (o := .cells #[.int .i64 t282, .int .i64 t283, .slice Ao155 x291002_127.length co155] 27 (0, 0)) (by (with_reducible repeat (first | refine blk_drewN ?_ _ | refine blk_drew ?_ | refine blk_alloc ?_ _)); exact BK290.out) hb); have n7_ := Aside0.mk (below_step (by repeat (first | (with_reducible first | exact HB.out | apply below_alloc | apply pw_below_drewN | apply below_drew1 | refine below_set ?_ GE281.out | refine below_set ?_ GE287.out | refine below_set ?_ GE289.out | refine below_set ?_ GE290.out) | exact HB.out)) hb); clear HO_288002; clear HO_291002; clear HO313; clear BK281; clear BK287; clear BK289; clear BK290; clear HB; have HO_288002 := n0_; have HO_291002 := n1_; have HO313 := n2_; have BK281 := n3_; have BK287 := n4_; have BK289 := n5_; have BK290 := n6_; have HB := n7_; clear n0_ n1_ n2_ n3_ n4_ n5_ n6_ n7_; (try clear hb); (try clear hb2); (try clear hk); (try clear hi)))
                          go_meet
                          case rel => exact ⟨_, ((t314 == t308)), (by first | rfl | (simp; done) | (simp [*]; done)), H', ⟨by have := HJ4.out; have := HK2.out; have := HJ127.out; first | omega | exact Nat.le_refl _⟩, ⟨by (with_reducible repeat (first | apply Kd.R_alloc | apply Kd.R_drewN | apply Kd.R_drew)); exact Kd.R_mono HO_288002.out (fun _ hk => ⟨hk.1.1, hk.1.2⟩)⟩, ⟨by (with_reducible repeat (first | apply Kd.R_alloc | apply Kd.R_drewN | apply Kd.R_drew)); exact Kd.R_mono HO_291002.out (fun _ hk => ⟨hk.1.1, hk.1.2⟩)⟩, ⟨by (with_reducible repeat (first | refine blk_drewN ?_ _ | refine blk_drew ?_ | refine blk_alloc ?_ _)); exact BK281.out⟩, ⟨by (with_reducible repeat (first | refine blk_drewN ?_ _ | refine blk_drew ?_ | refine blk_alloc ?_ _)); exact BK287.out⟩, ⟨by (with_reducible repeat (first | refine blk_drewN ?_ _ | refine blk_drew ?_ | refine blk_alloc ?_ _)); exact BK289.out⟩, ⟨by (with_reducible repeat (first | refine blk_drewN ?_ _ | refine blk_drew ?_ | refine blk_alloc ?_ _)); exact BK290.out⟩, ⟨by repeat (first | (with_reducible first | exact HB.out | apply below_alloc | apply pw_below_drewN | apply below_drew1 | refine below_set ?_ GE281.out | refine below_set ?_ GE287.out | refine below_set ?_ GE289.out | refine below_set ?_ GE290.out) | exact HB.out)⟩⟩
                        · rw [if_neg c148] at H
                          have c148b0 : decide ((t284.length : Int) < (x291002_127.length : Int)) = false := decide_eq_false c148
                          have c148b1 : decide (t284.length < x291002_127.length) = false := decide_eq_false (fun h => c148 (Int.ofNat_lt.mpr h))
                          clear c148
                          (first | rw [c148b0] | (simp only [i64_w, i32_w]; rw [c148b0]) | skip)
                          have H' := Aside0.mk H
                          clear H
                          have hnb164 := NB290_281.out
                          have hnc164 := NB281_290.out
                          have hnb165 := NB290_287.out
                          have hnc165 := NB287_290.out
                          have hnb166 := NB290_289.out
                          have hnc166 := NB289_290.out
                          have hcz167_0 : w147.cell? ⟨gb290, 0, none⟩ = some (.int .i64 t282) := (blk_cell BK290.out 0).trans rfl
                          have hcz167_1 : w147.cell? ⟨gb290, 1, none⟩ = some (.int .i64 t283) := (blk_cell BK290.out 1).trans rfl
                          have hcz167_2 : w147.cell? ⟨gb290, 2, none⟩ = some (u291002) := (blk_cell BK290.out 2).trans rfl
                          have hfz167_0 := blk_frozen BK290.out 0
                          have hfz167_1 := blk_frozen BK290.out 1
                          have hfz167_2 := blk_frozen BK290.out 2
                          obtain ⟨Ao168, co168, eo168⟩ := Kd.R_slice HO_291002.out
                          subst eo168
                          have hnb169 := NB287_281.out
                          have hnc169 := NB281_287.out
                          have hnb170 := NB287_289.out
                          have hnc170 := NB289_287.out
                          have hcz171_0 : w147.cell? ⟨gb287, 0, none⟩ = some (.int .i64 t282) := (blk_cell BK287.out 0).trans rfl
                          have hcz171_1 : w147.cell? ⟨gb287, 1, none⟩ = some (.int .i64 t283) := (blk_cell BK287.out 1).trans rfl
                          have hcz171_2 : w147.cell? ⟨gb287, 2, none⟩ = some (.slice Ao12 t284.length co12) := (blk_cell BK287.out 2).trans rfl
                          have hfz171_0 := blk_frozen BK287.out 0
                          have hfz171_1 := blk_frozen BK287.out 1
                          have hfz171_2 := blk_frozen BK287.out 2
                          go_wp2
                          go_meet
                          case rel => exact ⟨_, (false), (by first | rfl | (simp; done) | (simp [*]; done)), H', ⟨by have := HJ4.out; have := HK2.out; have := HJ127.out; first | omega | exact Nat.le_refl _⟩, ⟨by (with_reducible repeat (first | apply Kd.R_alloc | apply Kd.R_drewN | apply Kd.R_drew)); exact HO_288002.out⟩, ⟨by (with_reducible repeat (first | apply Kd.R_alloc | apply Kd.R_drewN | apply Kd.R_drew)); exact HO_291002.out⟩, ⟨by (with_reducible repeat (first | refine blk_drewN ?_ _ | refine blk_drew ?_ | refine blk_alloc ?_ _)); exact BK281.out⟩, ⟨by (with_reducible repeat (first | refine blk_drewN ?_ _ | refine blk_drew ?_ | refine blk_alloc ?_ _)); exact BK287.out⟩, ⟨by (with_reducible repeat (first | refine blk_drewN ?_ _ | refine blk_drew ?_ | refine blk_alloc ?_ _)); exact BK289.out⟩, ⟨by (with_reducible repeat (first | refine blk_drewN ?_ _ | refine blk_drew ?_ | refine blk_alloc ?_ _)); exact BK290.out⟩, ⟨by repeat (first | (with_reducible first | exact HB.out | apply below_alloc | apply pw_below_drewN | apply below_drew1 | refine below_set ?_ GE281.out | refine below_set ?_ GE287.out | refine below_set ?_ GE289.out | refine below_set ?_ GE290.out) | exact HB.out)⟩⟩
                      case rest =>
                        clear HC142
                        try clear c1
                        try clear c2
                        try clear p2
                        try clear q2
                        try clear hx2
                        try clear c3
                        try clear c4
                        try clear c5
                        try clear c6
                        try clear p6
                        try clear c7
                        try clear c8
                        try clear c9
                        try clear c10
                        try clear c11
                        try clear c12
                        try clear c13
                        try clear c13b0
                        try clear c13b1
                        try clear c14
                        try clear c15
                        try clear c16
                        try clear c17
                        try clear c18
                        try clear c21
                        try clear c21b0
                        try clear c21b1
                        try clear c22
                        try clear c22b0
                        try clear c22b1
                        try clear c27
                        try clear c28
                        try clear p29
                        try clear q29
                        try clear hx29
                        try clear c31
                        try clear c32
                        try clear c33
                        try clear c36
                        try clear c36b0
                        try clear c37
                        try clear c37b0
                        try clear c38
                        try clear c38b0
                        try clear c41
                        try clear c42
                        try clear c43
                        try clear c44
                        try clear c46
                        try clear c47
                        try clear c47b0
                        try clear c48
                        try clear c49
                        try clear c50
                        try clear c51
                        try clear c53
                        try clear c54
                        try clear c55
                        try clear c57
                        try clear c57b0
                        try clear c57b1
                        try clear c58
                        try clear c59
                        try clear c60
                        try clear c61
                        try clear c63
                        try clear c64
                        try clear p64
                        try clear c65
                        try clear c67
                        try clear c68
                        try clear c69
                        try clear c70
                        try clear c72
                        try clear c73
                        try clear c74
                        try clear c76
                        try clear c77
                        try clear c77b0
                        try clear c78
                        try clear c79
                        try clear c80
                        try clear c81
                        try clear c82
                        try clear c83
                        try clear c85
                        try clear c86
                        try clear c87
                        try clear c89
                        try clear c90
                        try clear c99
                        try clear c100
                        try clear c101
                        try clear c102
                        try clear c103
                        try clear c105
                        try clear c106
                        try clear c107
                        try clear c109
                        try clear c110
                        try clear c115
                        try clear c116
                        try clear c117
                        try clear c118
                        try clear c119
                        try clear c121
                        try clear c122
                        try clear c123
                        try clear c129
                        try clear c130
                        try clear c131
                        try clear c132
                        try clear c133
                        try clear c135
                        try clear c136
                        try clear c143
                        try clear c144
                        try clear c145
                        try clear c148
                        try clear c148b0
                        try clear c148b1
                        try clear c151
                        try clear c152
                        try clear c153
                        try clear c156
                        try clear c157
                        try clear c159
                        try clear c164
                        try clear c165
                        try clear c166
                        try clear c169
                        try clear c170
                        try clear hcz104_0
                        try clear hcz104_1
                        try clear hcz108_0
                        try clear hcz108_1
                        try clear hcz111_0
                        try clear hcz111_1
                        try clear hcz111_2
                        try clear hcz114_0
                        try clear hcz114_1
                        try clear hcz114_2
                        try clear hcz11_0
                        try clear hcz11_1
                        try clear hcz11_2
                        try clear hcz120_0
                        try clear hcz120_1
                        try clear hcz120_2
                        try clear hcz124_0
                        try clear hcz124_1
                        try clear hcz127_0
                        try clear hcz127_1
                        try clear hcz127_2
                        try clear hcz134_0
                        try clear hcz134_1
                        try clear hcz134_2
                        try clear hcz137_0
                        try clear hcz137_1
                        try clear hcz140_0
                        try clear hcz140_1
                        try clear hcz140_2
                        try clear hcz146_0
                        try clear hcz146_1
                        try clear hcz146_2
                        try clear hcz154_0
                        try clear hcz154_1
                        try clear hcz154_2
                        try clear hcz158_0
                        try clear hcz158_1
                        try clear hcz158_2
                        try clear hcz15_0
                        try clear hcz15_1
                        try clear hcz15_2
                        try clear hcz160_0
                        try clear hcz160_1
                        try clear hcz167_0
                        try clear hcz167_1
                        try clear hcz167_2
                        try clear hcz171_0
                        try clear hcz171_1
                        try clear hcz171_2
                        try clear hcz17_0
                        try clear hcz17_1
                        try clear hcz17_2
                        try clear hcz29_0
                        try clear hcz29_1
                        try clear hcz29_2
                        try clear hcz34_0
                        try clear hcz34_1
                        try clear hcz34_2
                        try clear hcz35_0
                        try clear hcz35_1
                        try clear hcz35_2
                        try clear hcz45_0
                        try clear hcz45_1
                        try clear hcz52_0
                        try clear hcz52_1
                        try clear hcz56_0
                        try clear hcz56_1
                        try clear hcz62_0
                        try clear hcz62_1
                        try clear hcz66_0
                        try clear hcz66_1
                        try clear hcz71_0
                        try clear hcz71_1
                        try clear hcz75_0
                        try clear hcz75_1
                        try clear hcz7_0
                        try clear hcz7_1
                        try clear hcz7_2
                        try clear hcz84_0
                        try clear hcz84_1
                        try clear hcz88_0
                        try clear hcz88_1
                        try clear hcz91_0
                        try clear hcz91_1
                        try clear hcz91_2
                        try clear hcz94_0
                        try clear hcz94_1
                        try clear hcz94_2
                        try clear hcz95_0
                        try clear hcz95_1
                        try clear hcz98_0
                        try clear hcz98_1
                        try clear hcz98_2
                        try clear hfz104_0
                        try clear hfz104_1
                        try clear hfz108_0
                        try clear hfz108_1
                        try clear hfz111_0
                        try clear hfz111_1
                        try clear hfz111_2
                        try clear hfz114_0
                        try clear hfz114_1
                        try clear hfz114_2
                        try clear hfz11_0
                        try clear hfz11_1
                        try clear hfz11_2
                        try clear hfz120_0
                        try clear hfz120_1
                        try clear hfz120_2
                        try clear hfz124_0
                        try clear hfz124_1
                        try clear hfz127_0
                        try clear hfz127_1
                        try clear hfz127_2
                        try clear hfz134_0
                        try clear hfz134_1
                        try clear hfz134_2
                        try clear hfz137_0
                        try clear hfz137_1
                        try clear hfz140_0
                        try clear hfz140_1
                        try clear hfz140_2
                        try clear hfz146_0
                        try clear hfz146_1
                        try clear hfz146_2
                        try clear hfz154_0
                        try clear hfz154_1
                        try clear hfz154_2
                        try clear hfz158_0
                        try clear hfz158_1
                        try clear hfz158_2
                        try clear hfz15_0
                        try clear hfz15_1
                        try clear hfz15_2
                        try clear hfz160_0
                        try clear hfz160_1
                        try clear hfz167_0
                        try clear hfz167_1
                        try clear hfz167_2
                        try clear hfz171_0
                        try clear hfz171_1
                        try clear hfz171_2
                        try clear hfz17_0
                        try clear hfz17_1
                        try clear hfz17_2
                        try clear hfz29_0
                        try clear hfz29_1
                        try clear hfz29_2
                        try clear hfz34_0
                        try clear hfz34_1
                        try clear hfz34_2
                        try clear hfz35_0
                        try clear hfz35_1
                        try clear hfz35_2
                        try clear hfz45_0
                        try clear hfz45_1
                        try clear hfz52_0
                        try clear hfz52_1
                        try clear hfz56_0
                        try clear hfz56_1
                        try clear hfz62_0
                        try clear hfz62_1
                        try clear hfz66_0
                        try clear hfz66_1
                        try clear hfz71_0
                        try clear hfz71_1
                        try clear hfz75_0
                        try clear hfz75_1
                        try clear hfz7_0
                        try clear hfz7_1
                        try clear hfz7_2
                        try clear hfz84_0
                        try clear hfz84_1
                        try clear hfz88_0
                        try clear hfz88_1
                        try clear hfz91_0
                        try clear hfz91_1
                        try clear hfz91_2
                        try clear hfz94_0
                        try clear hfz94_1
                        try clear hfz94_2
                        try clear hfz95_0
                        try clear hfz95_1
                        try clear hfz98_0
                        try clear hfz98_1
                        try clear hfz98_2
                        try clear hx291_0
                        try clear hx291_1
                        try clear p2
                        try clear p29
                        try clear p291
                        try clear p6
                        try clear p64
                        try clear q2
                        try clear q29
                        try clear q291
                        obtain ⟨kq, x114_141, rfl, HA, HJ141, HO_288002, HO_291002, BK281, BK287, BK289, BK290, HB⟩ := hcut
                        cases kq with
                        | zero => exact absurd HA.out (by simp [toruslaw30_MatchEdges.j4])
                        | succ kj141 =>
                          have H := HA.out
                          clear HA
                          simp only [toruslaw30_MatchEdges.j4] at H
                          by_cases c172 : x114_141 = true
                          · subst c172
                            have H1 : ((toruslaw30_size.f kj141 t282 t283 x291002_127).bind fun t315 => (if t315 = (wrap64 (t308 + 1)) then ((toruslaw30_awake.f).bind fun t316 => (some t316)) else (some false))) = some r := by rw [if_pos rfl] at H; exact H
                            clear H
                            have H := H1
                            clear H1
                            replace H := Option.bind_eq_some_iff.mp H
                            obtain ⟨t315, A1730, H⟩ := H
                            replace H : (if t315 = (wrap64 (t308 + 1)) then ((toruslaw30_awake.f).bind fun t316 => (some t316)) else (some false)) = some r := H
                            have A173 := Aside0.mk A1730
                            clear A1730
                            by_cases c174 : t315 = (wrap64 (t308 + 1))
                            · rw [if_pos c174] at H
                              have c174b0 : (t315 == (wrap64 (t308 + 1))) = true := beq_iff_eq.mpr c174
                              have c174b1 : (t315 != (wrap64 (t308 + 1))) = false := bne_eq_false_iff_eq.mpr c174
                              clear c174
                              replace H := Option.bind_eq_some_iff.mp H
                              obtain ⟨t316, A1750, H⟩ := H
                              replace H : (some t316) = some r := H
                              have A175 := Aside0.mk A1750
                              clear A1750
                              obtain rfl := Option.some.inj H
                              have hnb176 := NB290_281.out
                              have hnc176 := NB281_290.out
                              have hnb177 := NB290_287.out
                              have hnc177 := NB287_290.out
                              have hnb178 := NB290_289.out
                              have hnc178 := NB289_290.out
                              have hcz179_0 : wc.cell? ⟨gb290, 0, none⟩ = some (.int .i64 t282) := (blk_cell BK290.out 0).trans rfl
                              have hcz179_1 : wc.cell? ⟨gb290, 1, none⟩ = some (.int .i64 t283) := (blk_cell BK290.out 1).trans rfl
                              have hcz179_2 : wc.cell? ⟨gb290, 2, none⟩ = some (u291002) := (blk_cell BK290.out 2).trans rfl
                              have hfz179_0 := blk_frozen BK290.out 0
                              have hfz179_1 := blk_frozen BK290.out 1
                              have hfz179_2 := blk_frozen BK290.out 2
                              obtain ⟨Ao180, co180, eo180⟩ := Kd.R_slice HO_291002.out
                              subst eo180
                              go_wp2_with (first | ((with_reducible refine gate_callee (f := 15) rfl ?_); refine goesL_ (some 118) rfl rfl Try.func15 (by kernel_rfl) rfl #[.agg #[.int .i64 t282, .int .i64 t283, .slice Ao180 x291002_127.length co180]] rfl (by (try simp only [List.map_toArray, List.map_cons, List.map_nil]); first | done | rfl | (simp only [List.length_drop, List.length_take]; rfl)) ?_; (with_reducible refine (toruslaw30_size.calls kj141 t282 t283 _ _ x291002_127 t315 _ ?side1 ?side2 A173.out).mono ?_); (case side1 => repeat (first | exact (Kd.R_reads' HO_291002.out).2.2 | (with_reducible refine Kd.C_alloc ?_ _) | (with_reducible refine Kd.C_drewN ?_ _) | (with_reducible refine Kd.C_drew ?_))); (case side2 => exact (Kd.R_reads' HO_291002.out).2.1); rintro e w181 ⟨rfl, hb⟩; refine ⟨_, rfl, ?_⟩; have n0_ := Aside0.mk (Kd.R_below (by (with_reducible repeat (first | apply Kd.R_alloc | apply Kd.R_drewN | apply Kd.R_drew)); exact HO_288002.out) hb); have n1_ := Aside0.mk (Kd.R_below (by (with_reducible repeat (first | apply Kd.R_alloc | apply Kd.R_drewN | apply Kd.R_drew)); exact HO_291002.out) hb); have n2_ := Aside0.mk (blk_below (g := gb281) (o := .cells #[.int .u8 a0_0, .int .u8 a0_1, .slice A0_2 l0_2.length c0_2] 24 (0, 0)) (by (with_reducible repeat (first | refine blk_drewN ?_ _ | refine blk_drew ?_ | refine blk_alloc ?_ _)); exact BK281.out) hb); have n3_ := Aside0.mk (blk_below (g := gb287) (o := .cells #[.int .i64 t282, .int .i64 t283, .slice Ao12 t284.length co12] 27 (0, 0)) (by (with_reducible repeat (first | refine blk_drewN ?_ _ | refine blk_drew ?_ | refine blk_alloc ?_ _)); exact BK287.out) hb); have n4_ := Aside0.mk (blk_below (g := gb289) (o := .cells #[.int .i64 (Int.tmod (wrap64 (a1)) t282), .int .i64 (Int.tmod (wrap64 (a2)) t283)] 40 (0, 0)) (by (with_reducible repeat (first | refine blk_drewN ?_ _ | refine blk_drew ?_ | refine blk_alloc ?_ _)); exact BK289.out) hb); have n5_ := Aside0.mk (blk_below (g := gb290) (o := .cells #[.int .i64 t282, .int .i64 t283, .slice Ao180 x291002_127.length co180] 27 (0, 0)) (by (with_reducible repeat (first | refine blk_drewN ?_ _ | refine blk_drew ?_ | refine blk_alloc ?_ _)); exact BK290.out) hb); have n6_ := Aside0.mk (below_step (by repeat (first | (with_reducible first | exact HB.out | apply below_alloc | apply pw_below_drewN | apply below_drew1 | refine below_set ?_ GE281.out | refine below_set ?_ GE287.out | refine below_set ?_ GE289.out | refine below_set ?_ GE290.out) | exact HB.out)) hb); clear HO_288002; clear HO_291002; clear BK281; clear BK287; clear BK289; clear BK290; clear HB; have HO_288002 := n0_; have HO_291002 := n1_; have BK281 := n2_; have BK287 := n3_; have BK289 := n4_; have BK290 := n5_; have HB := n6_; clear n0_ n1_ n2_ n3_ n4_ n5_ n6_; (try clear hb); (try clear hb2); (try clear hk); (try clear hi)) | (go_at_call 16; (with_reducible refine (toruslaw30_awake.calls  t316 _ A175.out).mono ?_); rintro e w182 ⟨rfl, hb⟩; have n0_ := Aside0.mk (Kd.R_below (by (with_reducible repeat (first | apply Kd.R_alloc | apply Kd.R_drewN | apply Kd.R_drew)); exact HO_288002.out) hb); have n1_ := Aside0.mk (Kd.R_below (by (with_reducible repeat (first | apply Kd.R_alloc | apply Kd.R_drewN | apply Kd.R_drew)); exact HO_291002.out) hb); have n2_ := Aside0.mk (blk_below (g := gb281) (o := .cells #[.int .u8 a0_0, .int .u8 a0_1, .slice A0_2 l0_2.length c0_2] 24 (0, 0)) (by (with_reducible repeat (first | refine blk_drewN ?_ _ | refine blk_drew ?_ | refine blk_alloc ?_ _)); exact BK281.out) hb); have n3_ := Aside0.mk (blk_below (g := gb287) (o := .cells #[.int .i64 t282, .int .i64 t283, .slice Ao12 t284.length co12] 27 (0, 0)) (by (with_reducible repeat (first | refine blk_drewN ?_ _ | refine blk_drew ?_ | refine blk_alloc ?_ _)); exact BK287.out) hb); have n4_ := Aside0.mk (blk_below (g := gb289) (o := .cells #[.int .i64 (Int.tmod (wrap64 (a1)) t282), .int .i64 (Int.tmod (wrap64 (a2)) t283)] 40 (0, 0)) (by (with_reducible repeat (first | refine blk_drewN ?_ _ | refine blk_drew ?_ | refine blk_alloc ?_ _)); exact BK289.out) hb); have n5_ := Aside0.mk (blk_below (g := gb290) (o := .cells #[.int .i64 t282, .int .i64 t283, .slice Ao180 x291002_127.length co180] 27 (0, 0)) (by (with_reducible repeat (first | refine blk_drewN ?_ _ | refine blk_drew ?_ | refine blk_alloc ?_ _)); exact BK290.out) hb); have n6_ := Aside0.mk (below_step (by repeat (first | (with_reducible first | exact HB.out | apply below_alloc | apply pw_below_drewN | apply below_drew1 | refine below_set ?_ GE281.out | refine below_set ?_ GE287.out | refine below_set ?_ GE289.out | refine below_set ?_ GE290.out) | exact HB.out)) hb); clear HO_288002; clear HO_291002; clear BK281; clear BK287; clear BK289; clear BK290; clear HB; have HO_288002 := n0_; have HO_291002 := n1_; have BK281 := n2_; have BK287 := n3_; have BK289 := n4_; have BK290 := n5_; have HB := n6_; clear n0_ n1_ n2_ n3_ n4_ n5_ n6_; (try clear hb); (try clear hb2); (try clear hk); (try clear hi)))
                              go_ret
                              exact ⟨by first | rfl | (simp [errW_none, errW_some] <;> rfl) | (simp [*, errW_none, errW_some] <;> rfl), by repeat (first | (with_reducible first | exact HB.out | apply below_alloc | apply pw_below_drewN | apply below_drew1 | refine below_set ?_ GE281.out | refine below_set ?_ GE287.out | refine below_set ?_ GE289.out | refine below_set ?_ GE290.out) | exact HB.out)⟩
                            · rw [if_neg c174] at H
                              have c174b0 : (t315 == (wrap64 (t308 + 1))) = false := beq_eq_false_iff_ne.mpr c174
                              have c174b1 : (t315 != (wrap64 (t308 + 1))) = true := bne_iff_ne.mpr c174
                              obtain rfl := Option.some.inj H
                              have hnb183 := NB290_281.out
                              have hnc183 := NB281_290.out
                              have hnb184 := NB290_287.out
                              have hnc184 := NB287_290.out
                              have hnb185 := NB290_289.out
                              have hnc185 := NB289_290.out
                              have hcz186_0 : wc.cell? ⟨gb290, 0, none⟩ = some (.int .i64 t282) := (blk_cell BK290.out 0).trans rfl
                              have hcz186_1 : wc.cell? ⟨gb290, 1, none⟩ = some (.int .i64 t283) := (blk_cell BK290.out 1).trans rfl
                              have hcz186_2 : wc.cell? ⟨gb290, 2, none⟩ = some (u291002) := (blk_cell BK290.out 2).trans rfl
                              have hfz186_0 := blk_frozen BK290.out 0
                              have hfz186_1 := blk_frozen BK290.out 1
                              have hfz186_2 := blk_frozen BK290.out 2
                              obtain ⟨Ao187, co187, eo187⟩ := Kd.R_slice HO_291002.out
                              subst eo187
                              go_wp2_with (first | ((with_reducible refine gate_callee (f := 15) rfl ?_); refine goesL_ (some 118) rfl rfl Try.func15 (by kernel_rfl) rfl #[.agg #[.int .i64 t282, .int .i64 t283, .slice Ao187 x291002_127.length co187]] rfl (by (try simp only [List.map_toArray, List.map_cons, List.map_nil]); first | done | rfl | (simp only [List.length_drop, List.length_take]; rfl)) ?_; (with_reducible refine (toruslaw30_size.calls kj141 t282 t283 _ _ x291002_127 t315 _ ?side1 ?side2 A173.out).mono ?_); (case side1 => repeat (first | exact (Kd.R_reads' HO_291002.out).2.2 | (with_reducible refine Kd.C_alloc ?_ _) | (with_reducible refine Kd.C_drewN ?_ _) | (with_reducible refine Kd.C_drew ?_))); (case side2 => exact (Kd.R_reads' HO_291002.out).2.1); rintro e w188 ⟨rfl, hb⟩; refine ⟨_, rfl, ?_⟩; have n0_ := Aside0.mk (Kd.R_below (by (with_reducible repeat (first | apply Kd.R_alloc | apply Kd.R_drewN | apply Kd.R_drew)); exact HO_288002.out) hb); have n1_ := Aside0.mk (Kd.R_below (by (with_reducible repeat (first | apply Kd.R_alloc | apply Kd.R_drewN | apply Kd.R_drew)); exact HO_291002.out) hb); have n2_ := Aside0.mk (blk_below (g := gb281) (o := .cells #[.int .u8 a0_0, .int .u8 a0_1, .slice A0_2 l0_2.length c0_2] 24 (0, 0)) (by (with_reducible repeat (first | refine blk_drewN ?_ _ | refine blk_drew ?_ | refine blk_alloc ?_ _)); exact BK281.out) hb); have n3_ := Aside0.mk (blk_below (g := gb287) (o := .cells #[.int .i64 t282, .int .i64 t283, .slice Ao12 t284.length co12] 27 (0, 0)) (by (with_reducible repeat (first | refine blk_drewN ?_ _ | refine blk_drew ?_ | refine blk_alloc ?_ _)); exact BK287.out) hb); have n4_ := Aside0.mk (blk_below (g := gb289) (o := .cells #[.int .i64 (Int.tmod (wrap64 (a1)) t282), .int .i64 (Int.tmod (wrap64 (a2)) t283)] 40 (0, 0)) (by (with_reducible repeat (first | refine blk_drewN ?_ _ | refine blk_drew ?_ | refine blk_alloc ?_ _)); exact BK289.out) hb); have n5_ := Aside0.mk (blk_below (g := gb290) (o := .cells #[.int .i64 t282, .int .i64 t283, .slice Ao187 x291002_127.length co187] 27 (0, 0)) (by (with_reducible repeat (first | refine blk_drewN ?_ _ | refine blk_drew ?_ | refine blk_alloc ?_ _)); exact BK290.out) hb); have n6_ := Aside0.mk (below_step (by repeat (first | (with_reducible first | exact HB.out | apply below_alloc | apply pw_below_drewN | apply below_drew1 | refine below_set ?_ GE281.out | refine below_set ?_ GE287.out | refine below_set ?_ GE289.out | refine below_set ?_ GE290.out) | exact HB.out)) hb); clear HO_288002; clear HO_291002; clear BK281; clear BK287; clear BK289; clear BK290; clear HB; have HO_288002 := n0_; have HO_291002 := n1_; have BK281 := n2_; have BK287 := n3_; have BK289 := n4_; have BK290 := n5_; have HB := n6_; clear n0_ n1_ n2_ n3_ n4_ n5_ n6_; (try clear hb); (try clear hb2); (try clear hk); (try clear hi)))
                              go_ret
                              exact ⟨by first | rfl | (simp [errW_none, errW_some] <;> rfl) | (simp [*, errW_none, errW_some] <;> rfl), by repeat (first | (with_reducible first | exact HB.out | apply below_alloc | apply pw_below_drewN | apply below_drew1 | refine below_set ?_ GE281.out | refine below_set ?_ GE287.out | refine below_set ?_ GE289.out | refine below_set ?_ GE290.out) | exact HB.out)⟩
                          · replace c172 := Bool.eq_false_iff.mpr c172
                            subst c172
                            have H1 : ((toruslaw30_size.f kj141 t282 t283 x291002_127).bind fun t317 => (if t317 = t308 then ((toruslaw30_awake.f).bind fun t318 => (some t318)) else (some false))) = some r := by rw [if_neg (show ¬ (false = true) by decide)] at H; exact H
                            clear H
                            have H := H1
                            clear H1
                            replace H := Option.bind_eq_some_iff.mp H
                            obtain ⟨t317, A1890, H⟩ := H
                            replace H : (if t317 = t308 then ((toruslaw30_awake.f).bind fun t318 => (some t318)) else (some false)) = some r := H
                            have A189 := Aside0.mk A1890
                            clear A1890
                            by_cases c190 : t317 = t308
                            · rw [if_pos c190] at H
                              have c190b0 : (t317 == t308) = true := beq_iff_eq.mpr c190
                              have c190b1 : (t317 != t308) = false := bne_eq_false_iff_eq.mpr c190
                              clear c190
                              replace H := Option.bind_eq_some_iff.mp H
                              obtain ⟨t318, A1910, H⟩ := H
                              replace H : (some t318) = some r := H
                              have A191 := Aside0.mk A1910
                              clear A1910
                              obtain rfl := Option.some.inj H
                              have hnb192 := NB290_281.out
                              have hnc192 := NB281_290.out
                              have hnb193 := NB290_287.out
                              have hnc193 := NB287_290.out
                              have hnb194 := NB290_289.out
                              have hnc194 := NB289_290.out
                              have hcz195_0 : wc.cell? ⟨gb290, 0, none⟩ = some (.int .i64 t282) := (blk_cell BK290.out 0).trans rfl
                              have hcz195_1 : wc.cell? ⟨gb290, 1, none⟩ = some (.int .i64 t283) := (blk_cell BK290.out 1).trans rfl
                              have hcz195_2 : wc.cell? ⟨gb290, 2, none⟩ = some (u291002) := (blk_cell BK290.out 2).trans rfl
                              have hfz195_0 := blk_frozen BK290.out 0
                              have hfz195_1 := blk_frozen BK290.out 1
                              have hfz195_2 := blk_frozen BK290.out 2
                              obtain ⟨Ao196, co196, eo196⟩ := Kd.R_slice HO_291002.out
                              subst eo196
                              go_wp2_with (first | ((with_reducible refine gate_callee (f := 15) rfl ?_); refine goesL_ (some 118) rfl rfl Try.func15 (by kernel_rfl) rfl #[.agg #[.int .i64 t282, .int .i64 t283, .slice Ao196 x291002_127.length co196]] rfl (by (try simp only [List.map_toArray, List.map_cons, List.map_nil]); first | done | rfl | (simp only [List.length_drop, List.length_take]; rfl)) ?_; (with_reducible refine (toruslaw30_size.calls kj141 t282 t283 _ _ x291002_127 t317 _ ?side1 ?side2 A189.out).mono ?_); (case side1 => repeat (first | exact (Kd.R_reads' HO_291002.out).2.2 | (with_reducible refine Kd.C_alloc ?_ _) | (with_reducible refine Kd.C_drewN ?_ _) | (with_reducible refine Kd.C_drew ?_))); (case side2 => exact (Kd.R_reads' HO_291002.out).2.1); rintro e w197 ⟨rfl, hb⟩; refine ⟨_, rfl, ?_⟩; have n0_ := Aside0.mk (Kd.R_below (by (with_reducible repeat (first | apply Kd.R_alloc | apply Kd.R_drewN | apply Kd.R_drew)); exact HO_288002.out) hb); have n1_ := Aside0.mk (Kd.R_below (by (with_reducible repeat (first | apply Kd.R_alloc | apply Kd.R_drewN | apply Kd.R_drew)); exact HO_291002.out) hb); have n2_ := Aside0.mk (blk_below (g := gb281) (o := .cells #[.int .u8 a0_0, .int .u8 a0_1, .slice A0_2 l0_2.length c0_2] 24 (0, 0)) (by (with_reducible repeat (first | refine blk_drewN ?_ _ | refine blk_drew ?_ | refine blk_alloc ?_ _)); exact BK281.out) hb); have n3_ := Aside0.mk (blk_below (g := gb287) (o := .cells #[.int .i64 t282, .int .i64 t283, .slice Ao12 t284.length co12] 27 (0, 0)) (by (with_reducible repeat (first | refine blk_drewN ?_ _ | refine blk_drew ?_ | refine blk_alloc ?_ _)); exact BK287.out) hb); have n4_ := Aside0.mk (blk_below (g := gb289) (o := .cells #[.int .i64 (Int.tmod (wrap64 (a1)) t282), .int .i64 (Int.tmod (wrap64 (a2)) t283)] 40 (0, 0)) (by (with_reducible repeat (first | refine blk_drewN ?_ _ | refine blk_drew ?_ | refine blk_alloc ?_ _)); exact BK289.out) hb); have n5_ := Aside0.mk (blk_below (g := gb290) (o := .cells #[.int .i64 t282, .int .i64 t283, .slice Ao196 x291002_127.length co196] 27 (0, 0)) (by (with_reducible repeat (first | refine blk_drewN ?_ _ | refine blk_drew ?_ | refine blk_alloc ?_ _)); exact BK290.out) hb); have n6_ := Aside0.mk (below_step (by repeat (first | (with_reducible first | exact HB.out | apply below_alloc | apply pw_below_drewN | apply below_drew1 | refine below_set ?_ GE281.out | refine below_set ?_ GE287.out | refine below_set ?_ GE289.out | refine below_set ?_ GE290.out) | exact HB.out)) hb); clear HO_288002; clear HO_291002; clear BK281; clear BK287; clear BK289; clear BK290; clear HB; have HO_288002 := n0_; have HO_291002 := n1_; have BK281 := n2_; have BK287 := n3_; have BK289 := n4_; have BK290 := n5_; have HB := n6_; clear n0_ n1_ n2_ n3_ n4_ n5_ n6_; (try clear hb); (try clear hb2); (try clear hk); (try clear hi)) | (go_at_call 16; (with_reducible refine (toruslaw30_awake.calls  t318 _ A191.out).mono ?_); rintro e w198 ⟨rfl, hb⟩; have n0_ := Aside0.mk (Kd.R_below (by (with_reducible repeat (first | apply Kd.R_alloc | apply Kd.R_drewN | apply Kd.R_drew)); exact HO_288002.out) hb); have n1_ := Aside0.mk (Kd.R_below (by (with_reducible repeat (first | apply Kd.R_alloc | apply Kd.R_drewN | apply Kd.R_drew)); exact HO_291002.out) hb); have n2_ := Aside0.mk (blk_below (g := gb281) (o := .cells #[.int .u8 a0_0, .int .u8 a0_1, .slice A0_2 l0_2.length c0_2] 24 (0, 0)) (by (with_reducible repeat (first | refine blk_drewN ?_ _ | refine blk_drew ?_ | refine blk_alloc ?_ _)); exact BK281.out) hb); have n3_ := Aside0.mk (blk_below (g := gb287) (o := .cells #[.int .i64 t282, .int .i64 t283, .slice Ao12 t284.length co12] 27 (0, 0)) (by (with_reducible repeat (first | refine blk_drewN ?_ _ | refine blk_drew ?_ | refine blk_alloc ?_ _)); exact BK287.out) hb); have n4_ := Aside0.mk (blk_below (g := gb289) (o := .cells #[.int .i64 (Int.tmod (wrap64 (a1)) t282), .int .i64 (Int.tmod (wrap64 (a2)) t283)] 40 (0, 0)) (by (with_reducible repeat (first | refine blk_drewN ?_ _ | refine blk_drew ?_ | refine blk_alloc ?_ _)); exact BK289.out) hb); have n5_ := Aside0.mk (blk_below (g := gb290) (o := .cells #[.int .i64 t282, .int .i64 t283, .slice Ao196 x291002_127.length co196] 27 (0, 0)) (by (with_reducible repeat (first | refine blk_drewN ?_ _ | refine blk_drew ?_ | refine blk_alloc ?_ _)); exact BK290.out) hb); have n6_ := Aside0.mk (below_step (by repeat (first | (with_reducible first | exact HB.out | apply below_alloc | apply pw_below_drewN | apply below_drew1 | refine below_set ?_ GE281.out | refine below_set ?_ GE287.out | refine below_set ?_ GE289.out | refine below_set ?_ GE290.out) | exact HB.out)) hb); clear HO_288002; clear HO_291002; clear BK281; clear BK287; clear BK289; clear BK290; clear HB; have HO_288002 := n0_; have HO_291002 := n1_; have BK281 := n2_; have BK287 := n3_; have BK289 := n4_; have BK290 := n5_; have HB := n6_; clear n0_ n1_ n2_ n3_ n4_ n5_ n6_; (try clear hb); (try clear hb2); (try clear hk); (try clear hi)))
                              go_ret
                              exact ⟨by first | rfl | (simp [errW_none, errW_some] <;> rfl) | (simp [*, errW_none, errW_some] <;> rfl), by repeat (first | (with_reducible first | exact HB.out | apply below_alloc | apply pw_below_drewN | apply below_drew1 | refine below_set ?_ GE281.out | refine below_set ?_ GE287.out | refine below_set ?_ GE289.out | refine below_set ?_ GE290.out) | exact HB.out)⟩
                            · rw [if_neg c190] at H
                              have c190b0 : (t317 == t308) = false := beq_eq_false_iff_ne.mpr c190
                              have c190b1 : (t317 != t308) = true := bne_iff_ne.mpr c190
                              obtain rfl := Option.some.inj H
                              have hnb199 := NB290_281.out
                              have hnc199 := NB281_290.out
                              have hnb200 := NB290_287.out
                              have hnc200 := NB287_290.out
                              have hnb201 := NB290_289.out
                              have hnc201 := NB289_290.out
                              have hcz202_0 : wc.cell? ⟨gb290, 0, none⟩ = some (.int .i64 t282) := (blk_cell BK290.out 0).trans rfl
                              have hcz202_1 : wc.cell? ⟨gb290, 1, none⟩ = some (.int .i64 t283) := (blk_cell BK290.out 1).trans rfl
                              have hcz202_2 : wc.cell? ⟨gb290, 2, none⟩ = some (u291002) := (blk_cell BK290.out 2).trans rfl
                              have hfz202_0 := blk_frozen BK290.out 0
                              have hfz202_1 := blk_frozen BK290.out 1
                              have hfz202_2 := blk_frozen BK290.out 2
                              obtain ⟨Ao203, co203, eo203⟩ := Kd.R_slice HO_291002.out
                              subst eo203
                              go_wp2_with (first | ((with_reducible refine gate_callee (f := 15) rfl ?_); refine goesL_ (some 118) rfl rfl Try.func15 (by kernel_rfl) rfl #[.agg #[.int .i64 t282, .int .i64 t283, .slice Ao203 x291002_127.length co203]] rfl (by (try simp only [List.map_toArray, List.map_cons, List.map_nil]); first | done | rfl | (simp only [List.length_drop, List.length_take]; rfl)) ?_; (with_reducible refine (toruslaw30_size.calls kj141 t282 t283 _ _ x291002_127 t317 _ ?side1 ?side2 A189.out).mono ?_); (case side1 => repeat (first | exact (Kd.R_reads' HO_291002.out).2.2 | (with_reducible refine Kd.C_alloc ?_ _) | (with_reducible refine Kd.C_drewN ?_ _) | (with_reducible refine Kd.C_drew ?_))); (case side2 => exact (Kd.R_reads' HO_291002.out).2.1); rintro e w204 ⟨rfl, hb⟩; refine ⟨_, rfl, ?_⟩; have n0_ := Aside0.mk (Kd.R_below (by (with_reducible repeat (first | apply Kd.R_alloc | apply Kd.R_drewN | apply Kd.R_drew)); exact HO_288002.out) hb); have n1_ := Aside0.mk (Kd.R_below (by (with_reducible repeat (first | apply Kd.R_alloc | apply Kd.R_drewN | apply Kd.R_drew)); exact HO_291002.out) hb); have n2_ := Aside0.mk (blk_below (g := gb281) (o := .cells #[.int .u8 a0_0, .int .u8 a0_1, .slice A0_2 l0_2.length c0_2] 24 (0, 0)) (by (with_reducible repeat (first | refine blk_drewN ?_ _ | refine blk_drew ?_ | refine blk_alloc ?_ _)); exact BK281.out) hb); have n3_ := Aside0.mk (blk_below (g := gb287) (o := .cells #[.int .i64 t282, .int .i64 t283, .slice Ao12 t284.length co12] 27 (0, 0)) (by (with_reducible repeat (first | refine blk_drewN ?_ _ | refine blk_drew ?_ | refine blk_alloc ?_ _)); exact BK287.out) hb); have n4_ := Aside0.mk (blk_below (g := gb289) (o := .cells #[.int .i64 (Int.tmod (wrap64 (a1)) t282), .int .i64 (Int.tmod (wrap64 (a2)) t283)] 40 (0, 0)) (by (with_reducible repeat (first | refine blk_drewN ?_ _ | refine blk_drew ?_ | refine blk_alloc ?_ _)); exact BK289.out) hb); have n5_ := Aside0.mk (blk_below (g := gb290) (o := .cells #[.int .i64 t282, .int .i64 t283, .slice Ao203 x291002_127.length co203] 27 (0, 0)) (by (with_reducible repeat (first | refine blk_drewN ?_ _ | refine blk_drew ?_ | refine blk_alloc ?_ _)); exact BK290.out) hb); have n6_ := Aside0.mk (below_step (by repeat (first | (with_reducible first | exact HB.out | apply below_alloc | apply pw_below_drewN | apply below_drew1 | refine below_set ?_ GE281.out | refine below_set ?_ GE287.out | refine below_set ?_ GE289.out | refine below_set ?_ GE290.out) | exact HB.out)) hb); clear HO_288002; clear HO_291002; clear BK281; clear BK287; clear BK289; clear BK290; clear HB; have HO_288002 := n0_; have HO_291002 := n1_; have BK281 := n2_; have BK287 := n3_; have BK289 := n4_; have BK290 := n5_; have HB := n6_; clear n0_ n1_ n2_ n3_ n4_ n5_ n6_; (try clear hb); (try clear hb2); (try clear hk); (try clear hi)))
                              go_ret
                              exact ⟨by first | rfl | (simp [errW_none, errW_some] <;> rfl) | (simp [*, errW_none, errW_some] <;> rfl), by repeat (first | (with_reducible first | exact HB.out | apply below_alloc | apply pw_below_drewN | apply below_drew1 | refine below_set ?_ GE281.out | refine below_set ?_ GE287.out | refine below_set ?_ GE289.out | refine below_set ?_ GE290.out) | exact HB.out)⟩

end Go.Proofs.Ytlleokhmgblfnaa.M
