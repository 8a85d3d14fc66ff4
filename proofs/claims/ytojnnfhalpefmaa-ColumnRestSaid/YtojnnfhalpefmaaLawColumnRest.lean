/- The law ColumnRest: whatever the input, it returns true and the input reads as it did. No conditions. -/
import Derived.Test.YtojnnfhalpefmaaRows
import Derived.Test.YtojnnfhalpefmaaMx27
import Derived.Test.YtojnnfhalpefmaaPRestL
import Derived.Test.YtojnnfhalpefmaaRCol
namespace Go.Proofs.Ytojnnfhalpefmaa.columnRest
open Go.ChangeShapes Go.WideShapes Go.ChangeAt Go.RowKit Go.Proofs.YtojnnfhalpefmaaW.PrintWords
set_option linter.unusedVariables false
theorem walk (w : World) (a0 : Int) (A1 : Option Addr) (c1 : Nat) (l1 : List (List M.S45)) (hc1 : l1.length ≤ c1) (hr1 : Kd.C (Kd.slice 45 M.k45) w A1 l1.length l1) (hm1 : l1.length < 5864062014806) (hi1 : ∀ l ∈ l1, l.length < 8796093022208) (A2 : Option Addr) (c2 : Nat) (l2 : List M.S45) (hc2 : l2.length ≤ c2) (hr2 : Kd.C M.k45 w A2 l2.length l2) (hm2 : l2.length < 8796093022208) :
    Calls Try.prog 9 #[.int .i64 a0, .slice A1 l1.length c1, .slice A2 l2.length c2] w fun e w' => e = .returned (.bool true) ∧ Below w.heap.size w w' := by
  obtain ⟨k, hk⟩ := P.rest_true a0 l1 (by omega) hi1 l2 (by omega)
  exact M.toruslaw04_ColumnRest.calls k a0 A1 c1 l1 A2 c2 l2 true w hr1 hc1 hr2 hc2 hk rfl
set_option maxRecDepth 100000 in
theorem lifted (os : Os) (started : os.Started) (H : Type) (enc : TypeId × Value → H) :
    ReturnsInHanded {} Try.checked os 9 .any (Rows.columnRestSpec.pre6 enc Try.prog Try.f9 Rows.columnRestRow.domain false) (Rows.columnRestSpec.post enc Try.prog Try.f9 false true false false) := by
  refine returnsInHanded_of_change_sized (C := Try.checked) RCol.own started (by kernel_rfl) Try.func9
    (ChangeSpec.witness6 (enc := enc) (C := Try.checked) false ⟨#[], #[.int .i64 0, .slice none 0 0, .slice none 0 0], []⟩ 8 (by kernel_rfl) (by kernel_rfl) (by kernel_rfl) (by kernel_rfl)) ?_
  intro W base args ds gs before hval0 hW hcnd hsz0 _
  have hval : ∀ (j : Nat) t v, Try.f9.params[j]? = some t → args[j]? = some v → Value.okWide Try.prog W .any base t v := hval0
  have hsz : (DataW.weightsEach Try.prog (Try.f9.params.toList ++ Rows.columnRestSpec.plain.varTypes Try.prog) (ds ++ gs)).all (· ≤ reachBytes) = true := hsz0
  have hW' := hW
  obtain ⟨p, q, hA0, hV, rfl, hfz, hnd⟩ := hW
  have hA : DataW.TrodAll enc Try.prog W 0 (fun _ => true) true Try.f9.params.toList args.toList ds p := hA0
  rw [Try.params9] at hA hval hsz
  obtain ⟨v0, vs0, d0, ds0, p0, q0, hargs, rfl, rfl, h0, r0⟩ := trodAll_cons hA
  obtain ⟨v1, vs1, d1, ds1, p1, q1, rfl, rfl, rfl, h1, r1⟩ := trodAll_cons r0
  obtain ⟨v2, vs2, d2, ds2, p2, q2, rfl, rfl, rfl, h2, r2⟩ := trodAll_cons r1
  obtain ⟨rfl, rfl, rfl⟩ := trodAll_nil r2
  obtain rfl : args = #[v0, v1, v2] := by cases args; simp_all
  obtain ⟨rfl, rfl⟩ := trodVars_none hV
  have k0 := h0
  have k1 := h1
  have k2 := h2
  have lt0 : ∀ x ∈ p0, x.block < W.heap.size := by obtain ⟨m, hm⟩ := k0; exact DataW.trod_lt m _ _ _ hm
  have lt1 : ∀ x ∈ p1, x.block < W.heap.size := by obtain ⟨m, hm⟩ := k1; exact DataW.trod_lt m _ _ _ hm
  have lt2 : ∀ x ∈ p2, x.block < W.heap.size := by obtain ⟨m, hm⟩ := k2; exact DataW.trod_lt m _ _ _ hm
  have hw1 : ∀ n ∈ d1.weights Try.prog 37, n ≤ reachBytes := fun n hn => by
    have := List.all_eq_true.1 hsz _ (DataW.weights_mem_each (j := 1) (t := 37) (d := d1) rfl rfl n hn)
    simpa using this
  have hw2 : ∀ n ∈ d2.weights Try.prog 22, n ≤ reachBytes := fun n hn => by
    have := List.all_eq_true.1 hsz _ (DataW.weights_mem_each (j := 2) (t := 22) (d := d2) rfl rfl n hn)
    simpa using this
  obtain ⟨a0, rfl, _, _, x0⟩ := open_int Try.underlying3 (hval 0 3 v0 rfl rfl) h0
  obtain ⟨A1, c1, l1, rfl, hc1, hr1, hm1, hi1⟩ := RCol.open_columns (hval 1 37 v1 rfl rfl) h1 hw1
  obtain ⟨A2, c2, l2, rfl, hc2, hr2, hm2⟩ := RCol.open_column (hval 2 22 v2 rfl rfl) h2 hw2
  clear hA0 hval0 hsz0 hsz
  refine (walk W a0 A1 c1 l1 hc1 hr1 hm1 hi1 A2 c2 l2 hc2 hr2 hm2).mono fun e W' ⟨he, bel⟩ => ?_
  subst he
  exact ⟨_, rfl, _, _, _, [], _, [], hW', trodAll_mk1 (shut_bool Try.underlying4 _), (trodAll_cons_mk (Below.trod RCol.laidOut (by kernel_rfl) (of_decide_eq_true (by kernel_rfl)) k0 bel lt0) (trodAll_cons_mk (Below.trod RCol.laidOut (by kernel_rfl) (of_decide_eq_true (by kernel_rfl)) k1 bel lt1) (trodAll_cons_mk (Below.trod RCol.laidOut (by kernel_rfl) (of_decide_eq_true (by kernel_rfl)) k2 bel lt2) trodAll_mk0))), rfl, bel.frame _, fun h => by cases h⟩
theorem over : Rows.columnRestRow.holds Try.pinned (OpenSpec.ofChange Rows.columnRestSpec) :=
  OpenClaim.holds_of_wide 9 Try.f9 rfl rfl rfl rfl rfl rfl rfl ⟨rfl, rfl, rfl, rfl, rfl⟩ rfl rfl rfl rfl rfl (by kernel_rfl) Try.func9 (by kernel_rfl)
    (of_decide_eq_true (by kernel_rfl)) (by unfold Func.isWrapper; first | (rw [if_pos (by decide +kernel)]; kernel_rfl) | (rw [if_neg (by decide +kernel)]; exact ⟨rfl, rfl⟩))
    (fun os started H enc _ => lifted os started H enc)
theorem proved : Rows.ColumnRestSaid := over
end Go.Proofs.Ytojnnfhalpefmaa.columnRest
namespace Go.Proofs.Ytojnnfhalpefmaa
/-- The law holds. -/
theorem columnRest_holds : Rows.ColumnRestSaid := columnRest.proved
end Go.Proofs.Ytojnnfhalpefmaa
