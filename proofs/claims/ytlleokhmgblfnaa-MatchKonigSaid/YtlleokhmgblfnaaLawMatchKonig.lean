/- The law MatchKonig: whatever the input, it returns true and the input reads as it did. No conditions. -/
import Derived.Test.YtlleokhmgblfnaaRows
import Derived.Test.YtlleokhmgblfnaaMx22
import Derived.Test.YtlleokhmgblfnaaPKonig
import Derived.Test.YtlleokhmgblfnaaRBits
namespace Go.Proofs.Ytlleokhmgblfnaa.matchKonig
open Go.ChangeShapes Go.WideShapes Go.ChangeAt Go.RowKit Go.Proofs.YtlleokhmgblfnaaW.PrintWords
set_option linter.unusedVariables false
theorem walk (a0 a1 : Int) (A : Option Addr) (len cap : Nat) (zs : List Int) (w : World) (h0 : (Lit.int .u8 a0).wf = true) (h1 : (Lit.int .u8 a1).wf = true) (hr : RBits.IsRow .u8 w A len cap zs) :
    Calls Try.prog 8 #[.agg #[.int .u8 a0, .int .u8 a1, .slice A len cap]] w fun e w' => e = .returned (.bool true) ∧ Below w.heap.size w w' := by
  obtain ⟨l, rfl, hr, hm, hw, hc⟩ := ReadsInt.ofRowC hr
  have b0 := RBits.wf_u8 h0
  have b1 := RBits.wf_u8 h1
  obtain ⟨k, hk⟩ := P.konig_true a0 a1 l b0.1 b0.2 b1.1 b1.2
  exact M.toruslaw30_MatchKonig.calls k a0 a1 A cap l true w (Kd.C_of_reads (d := (0 : Int)) (h1 := fun _ => rfl) hr) hc hk rfl
set_option maxRecDepth 100000 in
theorem lifted (os : Os) (started : os.Started) (H : Type) (enc : TypeId × Value → H) :
    ReturnsInHanded {} Try.checked os 8 .any (Rows.matchKonigSpec.pre6 enc Try.prog Try.f8 Rows.matchKonigRow.domain false) (Rows.matchKonigSpec.post enc Try.prog Try.f8 false true false false) := by
  refine returnsInHanded_of_change_sized (C := Try.checked) RBits.own started (by kernel_rfl) Try.func8
    (ChangeSpec.witness6 (enc := enc) (C := Try.checked) false ⟨#[], #[.agg #[.int .u8 0, .int .u8 0, .slice none 0 0]], []⟩ 8 (by kernel_rfl) (by kernel_rfl) (by kernel_rfl) (by kernel_rfl)) ?_
  intro W base args ds gs before hval0 hW hcnd hsz0 _
  have hval : ∀ (j : Nat) t v, Try.f8.params[j]? = some t → args[j]? = some v → Value.okWide Try.prog W .any base t v := hval0
  have hW' := hW
  obtain ⟨p, q, hA0, hV, rfl, hfz, hnd⟩ := hW
  have hA : DataW.TrodAll enc Try.prog W 0 (fun _ => true) true Try.f8.params.toList args.toList ds p := hA0
  rw [Try.params8] at hA hval
  obtain ⟨v0, vs0, d0, ds0, p0, q0, hargs, rfl, rfl, h0, r0⟩ := trodAll_cons hA
  obtain ⟨rfl, rfl, rfl⟩ := trodAll_nil r0
  obtain rfl : args = #[v0] := by cases args; simp_all
  obtain ⟨rfl, rfl⟩ := trodVars_none hV
  have k0 := h0
  have lt0 : ∀ x ∈ p0, x.block < W.heap.size := by obtain ⟨m, hm⟩ := k0; exact DataW.trod_lt m _ _ _ hm
  obtain ⟨a0, a1, A, len, cap, zs, rfl, w0, w1, hrow⟩ := RBits.open_bits (hval 0 24 v0 rfl rfl) h0
  clear hA0 hval0 hsz0
  refine (walk a0 a1 A len cap zs W w0 w1 hrow).mono fun e W' ⟨he, bel⟩ => ?_
  subst he
  exact ⟨_, rfl, _, _, _, [], _, [], hW', trodAll_mk1 (shut_bool Try.underlying4 _), (trodAll_cons_mk (Below.trod RBits.laidOut (by kernel_rfl) (of_decide_eq_true (by kernel_rfl)) k0 bel lt0) trodAll_mk0), rfl, bel.frame _, fun h => by cases h⟩
theorem over : Rows.matchKonigRow.holds Try.pinned (OpenSpec.ofChange Rows.matchKonigSpec) :=
  OpenClaim.holds_of_wide 8 Try.f8 rfl rfl rfl rfl rfl rfl rfl ⟨rfl, rfl, rfl, rfl, rfl⟩ rfl rfl rfl rfl rfl (by kernel_rfl) Try.func8 (by kernel_rfl)
    (of_decide_eq_true (by kernel_rfl)) (by unfold Func.isWrapper; first | (rw [if_pos (by decide +kernel)]; kernel_rfl) | (rw [if_neg (by decide +kernel)]; exact ⟨rfl, rfl⟩))
    (fun os started H enc _ => lifted os started H enc)
theorem proved : Rows.MatchKonigSaid := over
end Go.Proofs.Ytlleokhmgblfnaa.matchKonig
namespace Go.Proofs.Ytlleokhmgblfnaa
/-- The law holds. -/
theorem matchKonig_holds : Rows.MatchKonigSaid := matchKonig.proved
end Go.Proofs.Ytlleokhmgblfnaa
