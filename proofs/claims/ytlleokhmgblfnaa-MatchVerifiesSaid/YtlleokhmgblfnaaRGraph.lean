/- A graph that comes in as a value of the type torusref30.Graph. -/
import Derived.Test.YtlleokhmgblfnaaRBits
import Derived.Test.YtlleokhmgblfnaaMx0
namespace Go.Proofs.Ytlleokhmgblfnaa.RGraph
open Go.ChangeShapes Go.WideShapes Go.ChangeAt Go.RowKit Go.Proofs.YtlleokhmgblfnaaW.PrintWords Go.Proofs.Ytlleokhmgblfnaa.M
set_option linter.unusedVariables false
theorem cells27 : Try.prog.cellsOf 27 = 3 := by kernel_rfl
theorem cells40 : Try.prog.cellsOf 40 = 2 := by kernel_rfl
theorem cells3 : Try.prog.cellsOf 3 = 1 := by kernel_rfl
theorem bytes40 : Try.prog.bytesOf 40 = 16 := by kernel_rfl
section
variable {H : Type} {enc : TypeId × Value → H} {W : World} {sp : Nat → Bool} {held : Bool}
theorem pair_of {m : Nat} {cs : List Value} {x : DataW H × List MemPlace} (h : DataW.trod enc Try.prog W 0 sp held m 40 cs = some x) (hl : cs.length = 2) : ∃ a b : Int, cs = [.int .i64 a, .int .i64 b] := by
  obtain ⟨xs, n, _, _, _, hx, hf⟩ := DataW.trod_array Try.underlying40 h
  match cs, hl with
  | [c0, c1], _ =>
    have h0 := hf 0 (by omega)
    have h1 := hf 1 (by omega)
    rw [cells3] at h0 h1
    obtain ⟨y0, e0⟩ : ∃ y, xs[0]? = some y := ⟨_, List.getElem?_eq_getElem (by omega)⟩
    obtain ⟨y1, e1⟩ : ∃ y, xs[1]? = some y := ⟨_, List.getElem?_eq_getElem (by omega)⟩
    rw [e0] at h0
    rw [e1] at h1
    obtain ⟨a, ea, _, _⟩ := DataW.trod_int Try.underlying3 h0
    obtain ⟨b, eb, _, _⟩ := DataW.trod_int Try.underlying3 h1
    simp at ea eb
    exact ⟨a, b, by rw [ea, eb]⟩
theorem open_edges {m : Nat} {c : Value} {y : DataW H × List MemPlace} (h : DataW.trod enc Try.prog W 0 sp held m 25 [c] = some y) (hw : ∀ n ∈ y.1.weights Try.prog 25, n ≤ reachBytes) :
    ∃ (A : Option Addr) (len cap : Nat) (E : List S40), c = .slice A len cap ∧ E.length = len ∧ len ≤ cap ∧ Kd.C k40 W A E.length E ∧ len < 8796093022208 := by
  rcases DataW.trod_slice Try.underlying25 h with ⟨hcs, _⟩ | ⟨a, len, cap, elems, rest, n, _, hcs, rfl, hb, hl, hm, hlen, hel, hsp, hns⟩
  · injection hcs with hcs _
    subst hcs
    exact ⟨none, 0, 0, [], rfl, rfl, Nat.le_refl _, ⟨rfl, by simp, fun h => absurd h (by simp)⟩, by omega⟩
  · injection hcs with hcs _
    subst hcs
    have hbytes : len < 8796093022208 := by
      have := hw ((elems.length + rest.length) * 16) (by simp [DataW.weights, Try.underlying25, bytes40])
      have : (elems.length + rest.length) * 16 ≤ 140737488351232 := this
      omega
    have each : ∀ i : Nat, i < len → ∃ e : S40, ∀ (j : Nat) u, [Value.int .i64 e.f0, .int .i64 e.f1][j]? = some u → W.cell? (a.add (i * 2 + j)) = some u := fun i hi => by
      have h1 := hel i hi
      rw [cells40, List.getElem?_eq_getElem (by omega), Option.bind_eq_some_iff] at h1
      obtain ⟨cs, hcs, ht⟩ := h1
      obtain ⟨_, hl2, hce⟩ := World.cells?_some hcs
      obtain ⟨x, y, rfl⟩ := pair_of ht hl2
      refine ⟨⟨x, y⟩, fun j u hj => ?_⟩
      have hj2 : j < 2 := by
        have := (List.getElem?_eq_some_iff.1 hj).1
        simpa using this
      have := hce j hj2
      rw [hj] at this
      rw [← this, Go.Deep.add_add]
    have ex : ∃ E : List S40, E.length = len ∧ ∀ (i : Nat) e, E[i]? = some e → ∀ (j : Nat) u, [Value.int .i64 e.f0, .int .i64 e.f1][j]? = some u → W.cell? (a.add (i * 2 + j)) = some u := by
      clear hlen hel hsp hns hbytes hl hw h
      induction len with
      | zero => exact ⟨[], rfl, fun i e h => by simp at h⟩
      | succ len ih =>
        obtain ⟨E, e1, e2⟩ := ih (fun i hi => each i (by omega))
        obtain ⟨x, hx⟩ := each len (by omega)
        refine ⟨E ++ [x], by simp [e1], fun i e h => ?_⟩
        by_cases hi : i < len
        · rw [List.getElem?_append_left (by omega)] at h; exact e2 i e h
        · have : i = len := by
            have := (List.getElem?_eq_some_iff.1 h).1
            simp at this
            omega
          subst this
          rw [← e1] at h
          simp at h
          subst h
          exact hx
    obtain ⟨E, e1, e2⟩ := ex
    refine ⟨some a, len, cap, E, rfl, e1, hl, ⟨rfl, by omega, fun _ => ⟨a, rfl, fun j p hp => ⟨_, rfl, k40_mk W p, fun i u hu => e2 j p hp i u hu⟩⟩⟩, hbytes⟩
theorem open_graph {r : Reach} {b0 : Nat} {v : Value} {d : DataW H} {p : List MemPlace}
    (hv : Value.okWide Try.prog W r b0 27 v) (h : DataW.Trod enc Try.prog W 0 (fun _ => true) true 27 v d p) (hw : ∀ n ∈ d.weights Try.prog 27, n ≤ reachBytes) :
    ∃ (L R : Int) (A : Option Addr) (len cap : Nat) (E : List S40), v = .agg #[.int .i64 L, .int .i64 R, .slice A len cap] ∧ E.length = len ∧ len ≤ cap ∧ Kd.C k40 W A E.length E ∧ len < 8796093022208 := by
  obtain ⟨v0, v1, v2, y0, y1, y2, n, rfl, hd, _, h0, h1, h2⟩ := Go.Joins.open_agg3 Try.underlying27 (by kernel_rfl) cells27 hv h
  obtain ⟨L, e0, _, w0⟩ := DataW.trod_int Try.underlying3 h0
  obtain ⟨R, e1, _, w1⟩ := DataW.trod_int Try.underlying3 h1
  injection e0 with e0 _
  injection e1 with e1 _
  subst e0 e1
  obtain ⟨A, len, cap, E, rfl, a1, a2, a3, a4⟩ := open_edges h2 (fun n hn => hw n (by
    rw [hd]
    simp [DataW.weights, DataW.weightsEach, Try.underlying27, hn]))
  exact ⟨L, R, A, len, cap, E, rfl, a1, a2, a3, a4⟩
end
end Go.Proofs.Ytlleokhmgblfnaa.RGraph
