/- The law ColumnSpace: whatever the input, it returns true and the input reads as it did. No conditions. -/
import Derived.Test.YtojnnfhalpefmaaRows
import Derived.Test.YtojnnfhalpefmaaMx21
import Derived.Test.YtojnnfhalpefmaaPSpace
import Derived.Test.YtojnnfhalpefmaaRCol3
namespace Go.Proofs.Ytojnnfhalpefmaa.columnSpace
open Go.ChangeShapes Go.WideShapes Go.ChangeAt Go.RowKit Go.Proofs.YtojnnfhalpefmaaW.PrintWords
set_option linter.unusedVariables false
theorem walk (w : World) (a0 : Int) (A1_0 : Option Addr) (c1_0 : Nat) (l1_0 : List M.S45) (hc1_0 : l1_0.length ≤ c1_0) (hr1_0 : Kd.C M.k45 w A1_0 l1_0.length l1_0) (hm1_0 : l1_0.length < 8796093022208) (A1_1 : Option Addr) (c1_1 : Nat) (l1_1 : List M.S45) (hc1_1 : l1_1.length ≤ c1_1) (hr1_1 : Kd.C M.k45 w A1_1 l1_1.length l1_1) (hm1_1 : l1_1.length < 8796093022208) (A1_2 : Option Addr) (c1_2 : Nat) (l1_2 : List M.S45) (hc1_2 : l1_2.length ≤ c1_2) (hr1_2 : Kd.C M.k45 w A1_2 l1_2.length l1_2) (hm1_2 : l1_2.length < 8796093022208) (a2 : Int) (a3 : Int) :
    Calls Try.prog 3 #[.int .i64 a0, .agg #[.slice A1_0 l1_0.length c1_0, .slice A1_1 l1_1.length c1_1, .slice A1_2 l1_2.length c1_2], .int .i64 a2, .int .i64 a3] w fun e w' => e = .returned (.bool true) ∧ Below w.heap.size w w' := by
  obtain ⟨k, hk⟩ := P.space_true a0 l1_0 l1_1 l1_2 a2 a3 (by omega) (by omega) (by omega)
  exact M.toruslaw04_ColumnSpace.calls k a0 A1_0 c1_0 l1_0 A1_1 c1_1 l1_1 A1_2 c1_2 l1_2 a2 a3 true w hr1_0 hc1_0 hr1_1 hc1_1 hr1_2 hc1_2 hk rfl
set_option maxRecDepth 100000 in
theorem lifted (os : Os) (started : os.Started) (H : Type) (enc : TypeId × Value → H) :
    ReturnsInHanded {} Try.checked os 3 .any (Rows.columnSpaceSpec.pre6 enc Try.prog Try.f3 Rows.columnSpaceRow.domain false) (Rows.columnSpaceSpec.post enc Try.prog Try.f3 false true false false) := by
  refine returnsInHanded_of_change_sized (C := Try.checked) RCol.own started (by kernel_rfl) Try.func3
    (ChangeSpec.witness6 (enc := enc) (C := Try.checked) false ⟨#[], #[.int .i64 0, .agg #[.slice none 0 0, .slice none 0 0, .slice none 0 0], .int .i64 0, .int .i64 0], []⟩ 8 (by kernel_rfl) (by kernel_rfl) (by kernel_rfl) (by kernel_rfl)) ?_
  intro W base args ds gs before hval0 hW hcnd hsz0 _
  have hval : ∀ (j : Nat) t v, Try.f3.params[j]? = some t → args[j]? = some v → Value.okWide Try.prog W .any base t v := hval0
  have hsz : (DataW.weightsEach Try.prog (Try.f3.params.toList ++ Rows.columnSpaceSpec.plain.varTypes Try.prog) (ds ++ gs)).all (· ≤ reachBytes) = true := hsz0
  have hW' := hW
  obtain ⟨p, q, hA0, hV, rfl, hfz, hnd⟩ := hW
  have hA : DataW.TrodAll enc Try.prog W 0 (fun _ => true) true Try.f3.params.toList args.toList ds p := hA0
  rw [Try.params3] at hA hval hsz
  obtain ⟨v0, vs0, d0, ds0, p0, q0, hargs, rfl, rfl, h0, r0⟩ := trodAll_cons hA
  obtain ⟨v1, vs1, d1, ds1, p1, q1, rfl, rfl, rfl, h1, r1⟩ := trodAll_cons r0
  obtain ⟨v2, vs2, d2, ds2, p2, q2, rfl, rfl, rfl, h2, r2⟩ := trodAll_cons r1
  obtain ⟨v3, vs3, d3, ds3, p3, q3, rfl, rfl, rfl, h3, r3⟩ := trodAll_cons r2
  obtain ⟨rfl, rfl, rfl⟩ := trodAll_nil r3
  obtain rfl : args = #[v0, v1, v2, v3] := by cases args; simp_all
  obtain ⟨rfl, rfl⟩ := trodVars_none hV
  have k0 := h0
  have k1 := h1
  have k2 := h2
  have k3 := h3
  have lt0 : ∀ x ∈ p0, x.block < W.heap.size := by obtain ⟨m, hm⟩ := k0; exact DataW.trod_lt m _ _ _ hm
  have lt1 : ∀ x ∈ p1, x.block < W.heap.size := by obtain ⟨m, hm⟩ := k1; exact DataW.trod_lt m _ _ _ hm
  have lt2 : ∀ x ∈ p2, x.block < W.heap.size := by obtain ⟨m, hm⟩ := k2; exact DataW.trod_lt m _ _ _ hm
  have lt3 : ∀ x ∈ p3, x.block < W.heap.size := by obtain ⟨m, hm⟩ := k3; exact DataW.trod_lt m _ _ _ hm
  have hw1 : ∀ n ∈ d1.weights Try.prog 23, n ≤ reachBytes := fun n hn => by
    have := List.all_eq_true.1 hsz _ (DataW.weights_mem_each (j := 1) (t := 23) (d := d1) rfl rfl n hn)
    simpa using this
  obtain ⟨a0, rfl, _, _, x0⟩ := open_int Try.underlying3 (hval 0 3 v0 rfl rfl) h0
  obtain ⟨A1_0, A1_1, A1_2, c1_0, c1_1, c1_2, l1_0, l1_1, l1_2, rfl, ⟨hc1_0, hr1_0, hm1_0⟩, ⟨hc1_1, hr1_1, hm1_1⟩, ⟨hc1_2, hr1_2, hm1_2⟩⟩ := RCol.open_three (hval 1 23 v1 rfl rfl) h1 hw1
  obtain ⟨a2, rfl, _, _, x2⟩ := open_int Try.underlying3 (hval 2 3 v2 rfl rfl) h2
  obtain ⟨a3, rfl, _, _, x3⟩ := open_int Try.underlying3 (hval 3 3 v3 rfl rfl) h3
  clear hA0 hval0 hsz0 hsz
  refine (walk W a0 A1_0 c1_0 l1_0 hc1_0 hr1_0 hm1_0 A1_1 c1_1 l1_1 hc1_1 hr1_1 hm1_1 A1_2 c1_2 l1_2 hc1_2 hr1_2 hm1_2 a2 a3).mono fun e W' ⟨he, bel⟩ => ?_
  subst he
  exact ⟨_, rfl, _, _, _, [], _, [], hW', trodAll_mk1 (shut_bool Try.underlying4 _), (trodAll_cons_mk (Below.trod RCol.laidOut (by kernel_rfl) (of_decide_eq_true (by kernel_rfl)) k0 bel lt0) (trodAll_cons_mk (Below.trod RCol.laidOut (by kernel_rfl) (of_decide_eq_true (by kernel_rfl)) k1 bel lt1) (trodAll_cons_mk (Below.trod RCol.laidOut (by kernel_rfl) (of_decide_eq_true (by kernel_rfl)) k2 bel lt2) (trodAll_cons_mk (Below.trod RCol.laidOut (by kernel_rfl) (of_decide_eq_true (by kernel_rfl)) k3 bel lt3) trodAll_mk0)))), rfl, bel.frame _, fun h => by cases h⟩
theorem over : Rows.columnSpaceRow.holds Try.pinned (OpenSpec.ofChange Rows.columnSpaceSpec) :=
  OpenClaim.holds_of_wide 3 Try.f3 rfl rfl rfl rfl rfl rfl rfl ⟨rfl, rfl, rfl, rfl, rfl⟩ rfl rfl rfl rfl rfl (by kernel_rfl) Try.func3 (by kernel_rfl)
    (of_decide_eq_true (by kernel_rfl)) (by unfold Func.isWrapper; first | (rw [if_pos (by decide +kernel)]; kernel_rfl) | (rw [if_neg (by decide +kernel)]; exact ⟨rfl, rfl⟩))
    (fun os started H enc _ => lifted os started H enc)
theorem proved : Rows.ColumnSpaceSaid := over
end Go.Proofs.Ytojnnfhalpefmaa.columnSpace
namespace Go.Proofs.Ytojnnfhalpefmaa
/-- The law holds. -/
theorem columnSpace_holds : Rows.ColumnSpaceSaid := columnSpace.proved
end Go.Proofs.Ytojnnfhalpefmaa
