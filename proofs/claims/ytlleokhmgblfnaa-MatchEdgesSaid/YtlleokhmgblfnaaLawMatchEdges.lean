/- The law MatchEdges: whatever the input, it returns true and the input reads as it did. No conditions. -/
import Derived.Test.YtlleokhmgblfnaaRows
import Derived.Test.YtlleokhmgblfnaaMx10
import Derived.Test.YtlleokhmgblfnaaPEdge
import Derived.Test.YtlleokhmgblfnaaRBits
namespace Go.Proofs.Ytlleokhmgblfnaa.matchEdges
open Go.ChangeShapes Go.WideShapes Go.ChangeAt Go.RowKit Go.Proofs.YtlleokhmgblfnaaW.PrintWords
set_option linter.unusedVariables false
theorem walk (a0 a1 x y : Int) (A : Option Addr) (len cap : Nat) (zs : List Int) (w : World) (h0 : (Lit.int .u8 a0).wf = true) (h1 : (Lit.int .u8 a1).wf = true) (h2 : (Lit.int .u8 x).wf = true) (h3 : (Lit.int .u8 y).wf = true) (hr : RBits.IsRow .u8 w A len cap zs) :
    Calls Try.prog 4 #[.agg #[.int .u8 a0, .int .u8 a1, .slice A len cap], .int .u8 x, .int .u8 y] w fun e w' => e = .returned (.bool true) ∧ Below w.heap.size w w' := by
  obtain ⟨l, rfl, hr, hm, hw, hc⟩ := ReadsInt.ofRowC hr
  have b0 := RBits.wf_u8 h0
  have b1 := RBits.wf_u8 h1
  have b2 := RBits.wf_u8 h2
  have b3 := RBits.wf_u8 h3
  obtain ⟨k, hk⟩ := P.edges_true a0 a1 l x y b0.1 b0.2 b1.1 b1.2 b2.1 b2.2 b3.1 b3.2
  exact M.toruslaw30_MatchEdges.calls k a0 a1 A cap l x y true w (Kd.C_of_reads (d := (0 : Int)) (h1 := fun _ => rfl) hr) hc hk
set_option maxRecDepth 100000 in
theorem lifted (os : Os) (started : os.Started) (H : Type) (enc : TypeId × Value → H) :
    ReturnsInHanded {} Try.checked os 4 .any (Rows.matchEdgesSpec.pre6 enc Try.prog Try.f4 Rows.matchEdgesRow.domain false) (Rows.matchEdgesSpec.post enc Try.prog Try.f4 false true false false) := by
  refine returnsInHanded_of_change_sized (C := Try.checked) RBits.own started (by kernel_rfl) Try.func4
    (ChangeSpec.witness6 (enc := enc) (C := Try.checked) false ⟨#[], #[.agg #[.int .u8 0, .int .u8 0, .slice none 0 0], .int .u8 0, .int .u8 0], []⟩ 8 (by kernel_rfl) (by kernel_rfl) (by kernel_rfl) (by kernel_rfl)) ?_
  intro W base args ds gs before hval0 hW hcnd hsz0 _
  have hval : ∀ (j : Nat) t v, Try.f4.params[j]? = some t → args[j]? = some v → Value.okWide Try.prog W .any base t v := hval0
  have hW' := hW
  obtain ⟨p, q, hA0, hV, rfl, hfz, hnd⟩ := hW
  have hA : DataW.TrodAll enc Try.prog W 0 (fun _ => true) true Try.f4.params.toList args.toList ds p := hA0
  rw [Try.params4] at hA hval
  obtain ⟨v0, vs0, d0, ds0, p0, q0, hargs, rfl, rfl, h0, r0⟩ := trodAll_cons hA
  obtain ⟨v1, vs1, d1, ds1, p1, q1, rfl, rfl, rfl, h1, r1⟩ := trodAll_cons r0
  obtain ⟨v2, vs2, d2, ds2, p2, q2, rfl, rfl, rfl, h2, r2⟩ := trodAll_cons r1
  obtain ⟨rfl, rfl, rfl⟩ := trodAll_nil r2
  obtain rfl : args = #[v0, v1, v2] := by cases args; simp_all
  obtain ⟨rfl, rfl⟩ := trodVars_none hV
  have k0 := h0
  have lt0 : ∀ x ∈ p0, x.block < W.heap.size := by obtain ⟨m, hm⟩ := k0; exact DataW.trod_lt m _ _ _ hm
  obtain ⟨a0, a1, A, len, cap, zs, rfl, w0, w1, hrow⟩ := RBits.open_bits (hval 0 24 v0 rfl rfl) h0
  obtain ⟨x, rfl, rfl, rfl, wx⟩ := open_int Try.underlying5 (hval 1 5 v1 rfl rfl) h1
  obtain ⟨y, rfl, rfl, rfl, wy⟩ := open_int Try.underlying5 (hval 2 5 v2 rfl rfl) h2
  clear hA0 hval0 hsz0
  refine (walk a0 a1 x y A len cap zs W w0 w1 wx wy hrow).mono fun e W' ⟨he, bel⟩ => ?_
  subst he
  exact ⟨_, rfl, _, _, _, [], _, [], hW', trodAll_mk1 (shut_bool Try.underlying4 _), (trodAll_cons_mk (Below.trod RBits.laidOut (by kernel_rfl) (of_decide_eq_true (by kernel_rfl)) k0 bel lt0) (trodAll_cons_mk (shut_int Try.underlying5 wx) (trodAll_cons_mk (shut_int Try.underlying5 wy) trodAll_mk0))), rfl, bel.frame _, fun h => by cases h⟩
theorem over : Rows.matchEdgesRow.holds Try.pinned (OpenSpec.ofChange Rows.matchEdgesSpec) :=
  OpenClaim.holds_of_wide 4 Try.f4 rfl rfl rfl rfl rfl rfl rfl ⟨rfl, rfl, rfl, rfl, rfl⟩ rfl rfl rfl rfl rfl (by kernel_rfl) Try.func4 (by kernel_rfl)
    (of_decide_eq_true (by kernel_rfl)) (by unfold Func.isWrapper; first | (rw [if_pos (by decide +kernel)]; kernel_rfl) | (rw [if_neg (by decide +kernel)]; exact ⟨rfl, rfl⟩))
    (fun os started H enc _ => lifted os started H enc)
theorem proved : Rows.MatchEdgesSaid := over
end Go.Proofs.Ytlleokhmgblfnaa.matchEdges
namespace Go.Proofs.Ytlleokhmgblfnaa
/-- The law holds. -/
theorem matchEdges_holds : Rows.MatchEdgesSaid := matchEdges.proved
end Go.Proofs.Ytlleokhmgblfnaa
