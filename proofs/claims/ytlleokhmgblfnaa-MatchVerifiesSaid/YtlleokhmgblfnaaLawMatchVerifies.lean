/- The law MatchVerifies: whatever the input, it returns true and the input reads as it did. No conditions. -/
import Derived.Test.YtlleokhmgblfnaaRows
import Derived.Test.YtlleokhmgblfnaaMx30
import Derived.Test.YtlleokhmgblfnaaPVerifies
import Derived.Test.YtlleokhmgblfnaaRGraph
namespace Go.Proofs.Ytlleokhmgblfnaa.matchVerifies
open Go.ChangeShapes Go.WideShapes Go.ChangeAt Go.RowKit Go.Proofs.YtlleokhmgblfnaaW.PrintWords
set_option linter.unusedVariables false
theorem open_list {H : Type} {enc : TypeId × Value → H} {W : World} {r : Reach} {b0 : Nat} {v : Value} {d : DataW H} {p : List MemPlace}
    (hv : Value.okWide Try.prog W r b0 29 v) (h : DataW.Trod enc Try.prog W 0 (fun _ => true) true 29 v d p) :
    ∃ (A : Option Addr) (len cap : Nat) (zs : List Int), v = .slice A len cap ∧ RBits.IsRow .i64 W A len cap zs := by
  obtain ⟨A, len, cap, rfl⟩ := Go.WideShapes.okWide_slice Try.underlying29 hv
  obtain ⟨fuel, hf⟩ := h
  rcases open_ints Try.underlying29 Try.underlying3 (by kernel_rfl) hf with ⟨hcs, _⟩ | ⟨x, l, c, zs, hcs, _, hl, hm, hz, _, hcell, hwz⟩
  · simp [Value.cells] at hcs
    obtain ⟨rfl, rfl, rfl⟩ := hcs
    exact ⟨none, 0, 0, [], rfl, .inl ⟨rfl, rfl, rfl, rfl⟩⟩
  · simp [Value.cells] at hcs
    obtain ⟨rfl, rfl, rfl⟩ := hcs
    exact ⟨some x, len, cap, zs, rfl, .inr ⟨x, rfl, hl, hm, by simpa using hz, hcell, hwz⟩⟩
theorem walk (L R : Int) (A : Option Addr) (len cap : Nat) (E : List M.S40) (B : Option Addr) (ln cp : Nat) (zs : List Int) (w : World) (h0 : E.length = len) (h1 : len ≤ cap) (hr : Kd.C M.k40 w A E.length E) (h2 : len < 8796093022208) (hz : RBits.IsRow .i64 w B ln cp zs) :
    Calls Try.prog 7 #[.agg #[.int .i64 L, .int .i64 R, .slice A len cap], .slice B ln cp] w fun e w' => e = .returned (.bool true) ∧ Below w.heap.size w w' := by
  subst h0
  obtain ⟨l, rfl, hrz, hm, hw, hc⟩ := ReadsInt.ofRowC hz
  obtain ⟨k, hk⟩ := P.Ver.verifies_true L R E l h2 hw
  exact M.toruslaw30_MatchVerifies.calls k L R A cap E B cp l true w hr h1 (Kd.C_of_reads (d := (0 : Int)) (h1 := fun _ => rfl) hrz) hc hk rfl
set_option maxRecDepth 100000 in
theorem lifted (os : Os) (started : os.Started) (H : Type) (enc : TypeId × Value → H) :
    ReturnsInHanded {} Try.checked os 7 .any (Rows.matchVerifiesSpec.pre6 enc Try.prog Try.f7 Rows.matchVerifiesRow.domain false) (Rows.matchVerifiesSpec.post enc Try.prog Try.f7 false true false false) := by
  refine returnsInHanded_of_change_sized (C := Try.checked) RBits.own started (by kernel_rfl) Try.func7
    (ChangeSpec.witness6 (enc := enc) (C := Try.checked) false ⟨#[], #[.agg #[.int .i64 0, .int .i64 0, .slice none 0 0], .slice none 0 0], []⟩ 8 (by kernel_rfl) (by kernel_rfl) (by kernel_rfl) (by kernel_rfl)) ?_
  intro W base args ds gs before hval0 hW hcnd hsz0 _
  have hval : ∀ (j : Nat) t v, Try.f7.params[j]? = some t → args[j]? = some v → Value.okWide Try.prog W .any base t v := hval0
  have hsz : (DataW.weightsEach Try.prog (Try.f7.params.toList ++ Rows.matchVerifiesSpec.plain.varTypes Try.prog) (ds ++ gs)).all (· ≤ reachBytes) = true := hsz0
  have hW' := hW
  obtain ⟨p, q, hA0, hV, rfl, hfz, hnd⟩ := hW
  have hA : DataW.TrodAll enc Try.prog W 0 (fun _ => true) true Try.f7.params.toList args.toList ds p := hA0
  rw [Try.params7] at hA hval hsz
  obtain ⟨v0, vs0, d0, ds0, p0, q0, hargs, rfl, rfl, h0, r0⟩ := trodAll_cons hA
  obtain ⟨v1, vs1, d1, ds1, p1, q1, rfl, rfl, rfl, h1, r1⟩ := trodAll_cons r0
  obtain ⟨rfl, rfl, rfl⟩ := trodAll_nil r1
  obtain rfl : args = #[v0, v1] := by cases args; simp_all
  obtain ⟨rfl, rfl⟩ := trodVars_none hV
  have k0 := h0
  have k1 := h1
  have lt0 : ∀ x ∈ p0, x.block < W.heap.size := by obtain ⟨m, hm⟩ := k0; exact DataW.trod_lt m _ _ _ hm
  have lt1 : ∀ x ∈ p1, x.block < W.heap.size := by obtain ⟨m, hm⟩ := k1; exact DataW.trod_lt m _ _ _ hm
  have hw : ∀ n ∈ d0.weights Try.prog 27, n ≤ reachBytes := fun n hn => by
    have := List.all_eq_true.1 hsz _ (DataW.weights_mem_each (j := 0) (t := 27) (d := d0) rfl rfl n hn)
    simpa using this
  obtain ⟨L, R, A, len, cap, E, rfl, e1, e2, e3, e4⟩ := RGraph.open_graph (hval 0 27 v0 rfl rfl) h0 hw
  obtain ⟨B, ln, cp, zs, rfl, hz⟩ := open_list (hval 1 29 v1 rfl rfl) h1
  clear hA0 hval0 hsz0 hsz
  refine (walk L R A len cap E B ln cp zs W e1 e2 e3 e4 hz).mono fun e W' ⟨he, bel⟩ => ?_
  subst he
  exact ⟨_, rfl, _, _, _, [], _, [], hW', trodAll_mk1 (shut_bool Try.underlying4 _), (trodAll_cons_mk (Below.trod RBits.laidOut (by kernel_rfl) (of_decide_eq_true (by kernel_rfl)) k0 bel lt0) (trodAll_cons_mk (Below.trod RBits.laidOut (by kernel_rfl) (of_decide_eq_true (by kernel_rfl)) k1 bel lt1) trodAll_mk0)), rfl, bel.frame _, fun h => by cases h⟩
theorem over : Rows.matchVerifiesRow.holds Try.pinned (OpenSpec.ofChange Rows.matchVerifiesSpec) :=
  OpenClaim.holds_of_wide 7 Try.f7 rfl rfl rfl rfl rfl rfl rfl ⟨rfl, rfl, rfl, rfl, rfl⟩ rfl rfl rfl rfl rfl (by kernel_rfl) Try.func7 (by kernel_rfl)
    (of_decide_eq_true (by kernel_rfl)) (by unfold Func.isWrapper; first | (rw [if_pos (by decide +kernel)]; kernel_rfl) | (rw [if_neg (by decide +kernel)]; exact ⟨rfl, rfl⟩))
    (fun os started H enc _ => lifted os started H enc)
theorem proved : Rows.MatchVerifiesSaid := over
end Go.Proofs.Ytlleokhmgblfnaa.matchVerifies
namespace Go.Proofs.Ytlleokhmgblfnaa
/-- The law holds. -/
theorem matchVerifies_holds : Rows.MatchVerifiesSaid := matchVerifies.proved
end Go.Proofs.Ytlleokhmgblfnaa
