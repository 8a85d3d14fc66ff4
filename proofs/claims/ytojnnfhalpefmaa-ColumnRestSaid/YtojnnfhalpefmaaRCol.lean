/- Columns, lists of columns and numbers that come in as arguments. -/
import Derived.Test.YtojnnfhalpefmaaRows
import Derived.WalkKit
import Derived.ProofKit
import Derived.OpenShut
import Derived.ChangeOld
import Derived.ChangeSame
import Derived.Below
import Derived.SizedLaws
import Derived.Lib.SmallJoins
import Derived.Test.YtojnnfhalpefmaaWJ
import Derived.Test.YtojnnfhalpefmaaMx0
namespace Go.Proofs.Ytojnnfhalpefmaa.RCol
open Go.ChangeShapes Go.WideShapes Go.ChangeAt Go.RowKit Go.Proofs.YtojnnfhalpefmaaW.PrintWords Go.Proofs.Ytojnnfhalpefmaa.M
set_option linter.unusedVariables false
set_option maxRecDepth 100000
theorem own : ownKnob Try.prog.godebug = none := by kernel_rfl
theorem laidOut : laidOutB Try.prog = true := by kernel_rfl
theorem cells45 : Try.prog.cellsOf 45 = 2 := by kernel_rfl
theorem cells22 : Try.prog.cellsOf 22 = 1 := by kernel_rfl
theorem cells3 : Try.prog.cellsOf 3 = 1 := by kernel_rfl
theorem bytes45 : Try.prog.bytesOf 45 = 16 := by kernel_rfl
theorem bytes22 : Try.prog.bytesOf 22 = 24 := by kernel_rfl
theorem bytes3 : Try.prog.bytesOf 3 = 8 := by kernel_rfl
theorem wf_u8 {a : Int} (h : (Lit.int .u8 a).wf = true) : 0 ≤ a ∧ a ≤ 255 := by
  have e1 : IntKind.u8.min = 0 := by decide
  have e2 : IntKind.u8.max = 255 := by decide
  simp only [Lit.wf, e1, e2, Bool.and_eq_true, decide_eq_true_eq] at h
  exact h
theorem collect {α : Type} (P : Nat → α → Prop) : ∀ (n : Nat), (∀ i, i < n → ∃ x, P i x) → ∃ l : List α, l.length = n ∧ ∀ (i : Nat) x, l[i]? = some x → P i x
  | 0, _ => ⟨[], rfl, fun i x h => by simp at h⟩
  | n + 1, h => by
    obtain ⟨l, e1, e2⟩ := collect P n (fun i hi => h i (by omega))
    obtain ⟨x, hx⟩ := h n (by omega)
    refine ⟨l ++ [x], by simp [e1], fun i y hy => ?_⟩
    by_cases hi : i < n
    · rw [List.getElem?_append_left (by omega)] at hy
      exact e2 i y hy
    · have : i = n := by
        have := (List.getElem?_eq_some_iff.1 hy).1
        simp at this
        omega
      subst this
      rw [← e1] at hy
      simp at hy
      subst hy
      exact hx
theorem weightsAll_mem {H : Type} {P : Program} {e : TypeId} {x : Nat} : ∀ {ds : List (DataW H)} {d : DataW H}, d ∈ ds → x ∈ d.weights P e → x ∈ DataW.weightsAll P e ds
  | [], _, h, _ => by cases h
  | a :: ds, d, h, hx => by
    simp only [DataW.weightsAll, List.mem_append]
    rcases List.mem_cons.1 h with rfl | h
    · exact .inl hx
    · exact .inr (weightsAll_mem h hx)
section
variable {H : Type} {enc : TypeId × Value → H} {W : World} {sp : Nat → Bool} {held : Bool}
theorem term_of {m : Nat} {cs : List Value} {x : DataW H × List MemPlace} (h : DataW.trod enc Try.prog W 0 sp held m 45 cs = some x) (hl : cs.length = 2) : ∃ t : S45, cs = [.int .i64 t.f0, .int .i64 t.f1] := by
  obtain ⟨y0, y1, n, _, _, h0, h1⟩ := trod_struct2 Try.underlying45 h
  match cs, hl with
  | [c0, c1], _ =>
    rw [cells3] at h0 h1
    obtain ⟨a, ea, _, _⟩ := DataW.trod_int Try.underlying3 h0
    obtain ⟨b, eb, _, _⟩ := DataW.trod_int Try.underlying3 h1
    simp at ea eb
    exact ⟨⟨a, b⟩, by rw [ea, eb]⟩
theorem open_terms {m : Nat} {c : Value} {y : DataW H × List MemPlace} (h : DataW.trod enc Try.prog W 0 sp held m 22 [c] = some y) (hw : ∀ n ∈ y.1.weights Try.prog 22, n ≤ reachBytes) :
    ∃ (A : Option Addr) (cap : Nat) (E : List S45), c = .slice A E.length cap ∧ E.length ≤ cap ∧ Kd.C k45 W A E.length E ∧ E.length < 8796093022208 := by
  rcases DataW.trod_slice Try.underlying22 h with ⟨hcs, _⟩ | ⟨a, len, cap, elems, rest, n, _, hcs, rfl, hb, hl, hm, hlen, hel, hsp, hns⟩
  · injection hcs with hcs _
    subst hcs
    exact ⟨none, 0, [], rfl, Nat.le_refl _, ⟨rfl, by simp, fun h => absurd h (by simp)⟩, by simp⟩
  · injection hcs with hcs _
    subst hcs
    have hbytes : len < 8796093022208 := by
      have := hw ((elems.length + rest.length) * 16) (by simp [DataW.weights, Try.underlying22, bytes45])
      have : (elems.length + rest.length) * 16 ≤ 140737488351232 := this
      omega
    obtain ⟨E, e1, e2⟩ := collect (fun i (e : S45) => ∀ (j : Nat) u, [Value.int .i64 e.f0, .int .i64 e.f1][j]? = some u → W.cell? (a.add (i * 2 + j)) = some u) len (fun i hi => by
      have h1 := hel i hi
      rw [cells45, List.getElem?_eq_getElem (by omega), Option.bind_eq_some_iff] at h1
      obtain ⟨cs, hcs, ht⟩ := h1
      obtain ⟨_, hl2, hce⟩ := World.cells?_some hcs
      obtain ⟨t, rfl⟩ := term_of ht hl2
      refine ⟨t, fun j u hj => ?_⟩
      have hj2 : j < 2 := by
        have := (List.getElem?_eq_some_iff.1 hj).1
        simpa using this
      have := hce j hj2
      rw [hj] at this
      rw [← this, Go.Deep.add_add])
    subst e1
    exact ⟨some a, cap, E, rfl, hl, ⟨rfl, Nat.le_trans hl hm, fun _ => ⟨a, rfl, fun j p hp => ⟨_, rfl, k45_mk W p, fun i u hu => e2 j p hp i u hu⟩⟩⟩, hbytes⟩
theorem open_lists {m : Nat} {c : Value} {y : DataW H × List MemPlace} (h : DataW.trod enc Try.prog W 0 sp held m 37 [c] = some y) (hw : ∀ n ∈ y.1.weights Try.prog 37, n ≤ reachBytes) :
    ∃ (A : Option Addr) (cap : Nat) (L : List (List S45)), c = .slice A L.length cap ∧ L.length ≤ cap ∧ Kd.C (Kd.slice 45 k45) W A L.length L ∧ L.length < 5864062014806 ∧ ∀ l ∈ L, l.length < 8796093022208 := by
  rcases DataW.trod_slice Try.underlying37 h with ⟨hcs, _⟩ | ⟨a, len, cap, elems, rest, n, _, hcs, rfl, hb, hl, hm, hlen, hel, hsp, hns⟩
  · injection hcs with hcs _
    subst hcs
    exact ⟨none, 0, [], rfl, Nat.le_refl _, ⟨rfl, by simp, fun h => absurd h (by simp)⟩, by simp, by simp⟩
  · injection hcs with hcs _
    subst hcs
    have hbytes : len < 5864062014806 := by
      have := hw ((elems.length + rest.length) * 24) (by simp [DataW.weights, Try.underlying37, bytes22])
      have : (elems.length + rest.length) * 24 ≤ 140737488351232 := this
      omega
    obtain ⟨L, e1, e2⟩ := collect (fun i (l : List S45) => l.length < 8796093022208 ∧ ∃ (A : Option Addr) (cp : Nat), l.length ≤ cp ∧ Kd.C k45 W A l.length l ∧ W.cell? (a.add i) = some (.slice A l.length cp)) len (fun i hi => by
      have h1 := hel i hi
      have hie : i < elems.length := by omega
      rw [cells22, List.getElem?_eq_getElem hie, Option.bind_eq_some_iff] at h1
      obtain ⟨cs, hcs, ht⟩ := h1
      obtain ⟨_, hl2, hce⟩ := World.cells?_some hcs
      match cs, hl2 with
      | [c0], _ =>
        obtain ⟨A, cp, E, rfl, q1, q2, q3⟩ := open_terms ht (fun x hx => hw x (by
          have hm2 : elems[i].1 ∈ elems.map (·.1) := List.mem_map_of_mem (List.getElem_mem hie)
          simp only [DataW.weights, Try.underlying37]
          exact List.mem_cons_of_mem _ (List.mem_append_left _ (weightsAll_mem hm2 hx))))
        refine ⟨E, q3, A, cp, q1, q2, ?_⟩
        have := hce 0 (by omega)
        rw [Nat.mul_one, Go.Deep.add_add, Nat.add_zero] at this
        exact this)
    subst e1
    refine ⟨some a, cap, L, rfl, hl, ⟨rfl, Nat.le_trans hl hm, fun _ => ⟨a, rfl, fun j p hp => ?_⟩⟩, hbytes, fun l hm2 => ?_⟩
    · obtain ⟨_, A, cp, q1, q2, q3⟩ := e2 j p hp
      refine ⟨_, rfl, ⟨A, cp, rfl, q1, q2⟩, fun i u hu => ?_⟩
      match i, hu with
      | 0, hu =>
        cases hu
        have e : j * (Kd.slice 45 k45).sz + 0 = j := by show j * 1 + 0 = j; omega
        rw [e]
        exact q3
    · obtain ⟨j, hj, rfl⟩ := List.mem_iff_getElem.1 hm2
      exact (e2 j _ (List.getElem?_eq_getElem hj)).1
/-- A list of whole numbers. -/
theorem open_list {r : Reach} {b0 : Nat} {v : Value} {d : DataW H} {p : List MemPlace}
    (hv : Value.okWide Try.prog W r b0 47 v) (h : DataW.Trod enc Try.prog W 0 sp held 47 v d p) (hw : ∀ n ∈ d.weights Try.prog 47, n ≤ reachBytes) :
    ∃ (A : Option Addr) (cap : Nat) (zs : List Int), v = .slice A zs.length cap ∧ zs.length ≤ cap ∧ Kd.C (Kd.int .i64) W A zs.length zs ∧ zs.length < 17592186044416 := by
  obtain ⟨A, len, cap, rfl⟩ := Go.WideShapes.okWide_slice Try.underlying47 hv
  obtain ⟨fuel, hf⟩ := h
  rcases DataW.trod_slice Try.underlying47 hf with ⟨hcs, _⟩ | ⟨a, len', cap', elems, rest, n, _, hcs, hx, hb, hl, hm, hlen, hel, hsp, hns⟩
  · simp [Value.cells] at hcs
    obtain ⟨rfl, rfl, rfl⟩ := hcs
    exact ⟨none, 0, [], rfl, Nat.le_refl _, ⟨rfl, by simp, fun h => absurd h (by simp)⟩, by simp⟩
  · simp [Value.cells] at hcs
    obtain ⟨rfl, rfl, rfl⟩ := hcs
    cases hx
    have hbytes : len < 17592186044416 := by
      have := hw ((elems.length + rest.length) * 8) (by simp [DataW.weights, Try.underlying47, bytes3])
      have : (elems.length + rest.length) * 8 ≤ 140737488351232 := this
      omega
    obtain ⟨zs, e1, e2⟩ := collect (fun i (z : Int) => W.cell? (a.add i) = some (.int .i64 z)) len (fun i hi => by
      have h1 := hel i hi
      rw [cells3, List.getElem?_eq_getElem (by omega), Option.bind_eq_some_iff] at h1
      obtain ⟨cs, hcs, ht⟩ := h1
      obtain ⟨_, hl2, hce⟩ := World.cells?_some hcs
      match cs, hl2 with
      | [c0], _ =>
        obtain ⟨z, ez, _, _⟩ := DataW.trod_int Try.underlying3 ht
        injection ez with ez _
        subst ez
        refine ⟨z, ?_⟩
        have := hce 0 (by omega)
        rw [Nat.mul_one, Go.Deep.add_add, Nat.add_zero] at this
        exact this)
    subst e1
    refine ⟨some a, cap, zs, rfl, hl, ⟨rfl, Nat.le_trans hl hm, fun _ => ⟨a, rfl, fun j p hp => ⟨_, rfl, rfl, fun i u hu => ?_⟩⟩⟩, hbytes⟩
    match i, hu with
    | 0, hu =>
      cases hu
      have e : j * (Kd.int .i64).sz + 0 = j := by show j * 1 + 0 = j; omega
      rw [e]
      exact e2 j p hp
/-- One column, one list of columns. -/
theorem open_column {r : Reach} {b0 : Nat} {v : Value} {d : DataW H} {p : List MemPlace}
    (hv : Value.okWide Try.prog W r b0 22 v) (h : DataW.Trod enc Try.prog W 0 sp held 22 v d p) (hw : ∀ n ∈ d.weights Try.prog 22, n ≤ reachBytes) :
    ∃ (A : Option Addr) (cap : Nat) (E : List S45), v = .slice A E.length cap ∧ E.length ≤ cap ∧ Kd.C k45 W A E.length E ∧ E.length < 8796093022208 := by
  obtain ⟨A, len, cap, rfl⟩ := Go.WideShapes.okWide_slice Try.underlying22 hv
  obtain ⟨fuel, hf⟩ := h
  exact open_terms (y := (d, p)) hf hw
theorem open_columns {r : Reach} {b0 : Nat} {v : Value} {d : DataW H} {p : List MemPlace}
    (hv : Value.okWide Try.prog W r b0 37 v) (h : DataW.Trod enc Try.prog W 0 sp held 37 v d p) (hw : ∀ n ∈ d.weights Try.prog 37, n ≤ reachBytes) :
    ∃ (A : Option Addr) (cap : Nat) (L : List (List S45)), v = .slice A L.length cap ∧ L.length ≤ cap ∧ Kd.C (Kd.slice 45 k45) W A L.length L ∧ L.length < 5864062014806 ∧ ∀ l ∈ L, l.length < 8796093022208 := by
  obtain ⟨A, len, cap, rfl⟩ := Go.WideShapes.okWide_slice Try.underlying37 hv
  obtain ⟨fuel, hf⟩ := h
  exact open_lists (y := (d, p)) hf hw
end
end Go.Proofs.Ytojnnfhalpefmaa.RCol
