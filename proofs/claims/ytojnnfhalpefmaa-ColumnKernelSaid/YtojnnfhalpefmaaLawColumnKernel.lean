/- The law ColumnKernel: whatever the input, it returns true and the input reads as it did. No conditions. -/
import Derived.Test.YtojnnfhalpefmaaRows
import Derived.Test.YtojnnfhalpefmaaMx24
import Derived.Test.YtojnnfhalpefmaaPKernel
import Derived.Test.YtojnnfhalpefmaaRCol
namespace Go.Proofs.Ytojnnfhalpefmaa.columnKernel
open Go.ChangeShapes Go.WideShapes Go.ChangeAt Go.RowKit Go.Proofs.YtojnnfhalpefmaaW.PrintWords
set_option linter.unusedVariables false
theorem walk (w : World) (a0 : Int) (A1 : Option Addr) (c1 : Nat) (l1 : List (List M.S45)) (hc1 : l1.length ≤ c1) (hr1 : Kd.C (Kd.slice 45 M.k45) w A1 l1.length l1) (hm1 : l1.length < 5864062014806) (hi1 : ∀ l ∈ l1, l.length < 8796093022208) :
    Calls Try.prog 8 #[.int .i64 a0, .slice A1 l1.length c1] w fun e w' => e = .returned (.bool true) ∧ Below w.heap.size w w' := by
  obtain ⟨k, hk⟩ := P.kernel_true a0 l1 (by omega) hi1
  exact M.toruslaw04_ColumnKernel.calls k a0 A1 c1 l1 true w hr1 hc1 hk rfl
set_option maxRecDepth 100000 in
theorem lifted (os : Os) (started : os.Started) (H : Type) (enc : TypeId × Value → H) :
    ReturnsInHanded {} Try.checked os 8 .any (Rows.columnKernelSpec.pre6 enc Try.prog Try.f8 Rows.columnKernelRow.domain false) (Rows.columnKernelSpec.post enc Try.prog Try.f8 false true false false) := by
  refine returnsInHanded_of_change_sized (C := Try.checked) RCol.own started (by kernel_rfl) Try.func8
    (ChangeSpec.witness6 (enc := enc) (C := Try.checked) false ⟨#[], #[.int .i64 0, .slice none 0 0], []⟩ 8 (by kernel_rfl) (by kernel_rfl) (by kernel_rfl) (by kernel_rfl)) ?_
  intro W base args ds gs before hval0 hW hcnd hsz0 _
  have hval : ∀ (j : Nat) t v, Try.f8.params[j]? = some t → args[j]? = some v → Value.okWide Try.prog W .any base t v := hval0
  have hsz : (DataW.weightsEach Try.prog (Try.f8.params.toList ++ Rows.columnKernelSpec.plain.varTypes Try.prog) (ds ++ gs)).all (· ≤ reachBytes) = true := hsz0
  have hW' := hW
  obtain ⟨p, q, hA0, hV, rfl, hfz, hnd⟩ := hW
  have hA : DataW.TrodAll enc Try.prog W 0 (fun _ => true) true Try.f8.params.toList args.toList ds p := hA0
  rw [Try.params8] at hA hval hsz
  obtain ⟨v0, vs0, d0, ds0, p0, q0, hargs, rfl, rfl, h0, r0⟩ := trodAll_cons hA
  obtain ⟨v1, vs1, d1, ds1, p1, q1, rfl, rfl, rfl, h1, r1⟩ := trodAll_cons r0
  obtain ⟨rfl, rfl, rfl⟩ := trodAll_nil r1
  obtain rfl : args = #[v0, v1] := by cases args; simp_all
  obtain ⟨rfl, rfl⟩ := trodVars_none hV
  have k0 := h0
  have k1 := h1
  have lt0 : ∀ x ∈ p0, x.block < W.heap.size := by obtain ⟨m, hm⟩ := k0; exact DataW.trod_lt m _ _ _ hm
  have lt1 : ∀ x ∈ p1, x.block < W.heap.size := by obtain ⟨m, hm⟩ := k1; exact DataW.trod_lt m _ _ _ hm
  have hw1 : ∀ n ∈ d1.weights Try.prog 37, n ≤ reachBytes := fun n hn => by
    have := List.all_eq_true.1 hsz _ (DataW.weights_mem_each (j := 1) (t := 37) (d := d1) rfl rfl n hn)
    simpa using this
  obtain ⟨a0, rfl, _, _, x0⟩ := open_int Try.underlying3 (hval 0 3 v0 rfl rfl) h0
  obtain ⟨A1, c1, l1, rfl, hc1, hr1, hm1, hi1⟩ := RCol.open_columns (hval 1 37 v1 rfl rfl) h1 hw1
  clear hA0 hval0 hsz0 hsz
  refine (walk W a0 A1 c1 l1 hc1 hr1 hm1 hi1).mono fun e W' ⟨he, bel⟩ => ?_
  subst he
  exact ⟨_, rfl, _, _, _, [], _, [], hW', trodAll_mk1 (shut_bool Try.underlying4 _), (trodAll_cons_mk (Below.trod RCol.laidOut (by kernel_rfl) (of_decide_eq_true (by kernel_rfl)) k0 bel lt0) (trodAll_cons_mk (Below.trod RCol.laidOut (by kernel_rfl) (of_decide_eq_true (by kernel_rfl)) k1 bel lt1) trodAll_mk0)), rfl, bel.frame _, fun h => by cases h⟩
theorem over : Rows.columnKernelRow.holds Try.pinned (OpenSpec.ofChange Rows.columnKernelSpec) :=
  OpenClaim.holds_of_wide 8 Try.f8 rfl rfl rfl rfl rfl rfl rfl ⟨rfl, rfl, rfl, rfl, rfl⟩ rfl rfl rfl rfl rfl (by kernel_rfl) Try.func8 (by kernel_rfl)
    (of_decide_eq_true (by kernel_rfl)) (by unfold Func.isWrapper; first | (rw [if_pos (by decide +kernel)]; kernel_rfl) | (rw [if_neg (by decide +kernel)]; exact ⟨rfl, rfl⟩))
    (fun os started H enc _ => lifted os started H enc)
theorem proved : Rows.ColumnKernelSaid := over
end Go.Proofs.Ytojnnfhalpefmaa.columnKernel
namespace Go.Proofs.Ytojnnfhalpefmaa
/-- The law holds. -/
theorem columnKernel_holds : Rows.ColumnKernelSaid := columnKernel.proved
end Go.Proofs.Ytojnnfhalpefmaa
