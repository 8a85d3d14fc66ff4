/- slices.Clone of a list of columns; tidy of package column, walked by hand. -/
import Derived.Test.YtojnnfhalpefmaaKElim
import Derived.Test.YtojnnfhalpefmaaKBits
set_option linter.unusedVariables false
set_option linter.unusedSimpArgs false
namespace Go.Proofs.Ytojnnfhalpefmaa.H
open Go.RowKit Go.Proofs.YtojnnfhalpefmaaW.PrintWords Go.Proofs.YtojnnfhalpefmaaW.PrintLast Go.Proofs.YtojnnfhalpefmaaW.PrintMore Go.Proofs.Ytojnnfhalpefmaa.M
theorem C_blk {W : World} {A : Option Addr} {n : Nat} {xs : List S45} (h : k45.C W A n xs) : ∀ ad, A = some ad → 0 < xs.length → ad.block < W.heap.size := by
  intro ad e hp
  subst e
  have hn : xs.length = n := h.1
  obtain ⟨ad', e', x0, _⟩ := at_T45 h 0 (Int.le_refl _) (by omega)
  obtain rfl := Option.some.inj e'
  have := World.block_lt_of_cell? W _ x0
  rwa [add_blk] at this
/-- A column that came in is kept. -/
theorem RowV.of_K {w W : World} {xs : List S45} {cs : List Value} (h : (Kd.slice 45 k45).K w xs cs) (hb : Below w.heap.size w W) : colE false W w.heap.size xs cs := by
  obtain ⟨A, c, rfl, hl, hC⟩ := h
  exact ⟨_, rfl, A, c, rfl, hl, Kd.C_below hC hb, fun ad e hp => .inl (C_blk hC ad e hp), fun e => by cases e⟩
theorem own_C {o : Bool} {W : World} {base : Nat} {v : Value} {L : List (List S45)} (h : OwnRow (colE o W base) 22 1 W base v L) : ∃ A c, v = .slice A L.length c ∧ L.length ≤ c ∧ (Kd.slice 45 k45).C W A L.length L := by
  obtain ⟨A, c, rfl, hc, hA⟩ := h.reads
  refine ⟨A, c, rfl, hc, hA.1, hA.2.1, fun hp => ?_⟩
  obtain ⟨ad, e, hc⟩ := hA.2.2 hp
  refine ⟨ad, e, fun j q hj => ?_⟩
  obtain ⟨cs, h1, ⟨v, rfl, A', c', rfl, h4, h5, _⟩, h3⟩ := hc j q hj
  exact ⟨_, h1, ⟨A', c', rfl, h4, h5⟩, h3⟩
theorem SRow.of_own {W : World} {base g n cap : Nat} {L : List (List S45)} (hn : n = L.length) (h : OwnRow (colE false W base) 22 1 W base (.slice (some ⟨g, 0, none⟩) n cap) L) : ∃ vs, SRow W base g cap vs L := by
  subst hn
  obtain ⟨inner, ho, hr⟩ := h
  have hl : inner.length = L.length := by rw [hr.1, Nat.mul_one]
  obtain ⟨hb, _⟩ := ho.lt g rfl
  refine ⟨inner, hb, ho, hl, fun j hj => ?_⟩
  obtain ⟨v, e, hv⟩ := hr.2 j _ (List.getElem?_eq_getElem hj)
  have hj' : j < inner.length := by omega
  rw [Nat.mul_one, List.drop_eq_getElem_cons hj', List.take_succ_cons, List.take_zero] at e
  rw [getD_lt _ hj', getD_lt _ hj]
  rw [(List.cons.inj e).1]
  exact hv
theorem SRow.own {W : World} {base g cap : Nat} {vs : List Value} {L : List (List S45)} (h : SRow W base g cap vs L) : OwnRow (colE false W base) 22 1 W base (.slice (some ⟨g, 0, none⟩) L.length cap) L := by
  obtain ⟨hb, ho, hl, hr⟩ := h
  refine ⟨vs, ho, by rw [hl, Nat.mul_one], fun j p hj => ?_⟩
  obtain ⟨hj1, rfl⟩ := List.getElem?_eq_some_iff.1 hj
  have hj' : j < vs.length := by omega
  have := hr j hj1
  rw [getD_lt _ hj', getD_lt _ hj1] at this
  rw [Nat.mul_one, List.drop_eq_getElem_cons hj', List.take_succ_cons, List.take_zero]
  exact ⟨_, rfl, this⟩
set_option maxHeartbeats 8000000 in
set_option maxRecDepth 100000 in
/-- slices.Clone of a list: a row of its own with the same columns. -/
theorem clone2_calls (A : Option Addr) (c : Nat) (l : List (List S45)) (w : World) (hC : (Kd.slice 45 k45).C w A l.length l) (hc : l.length ≤ c) (hl : l.length < 1000000) :
    Calls Try.prog 79 #[.slice A l.length c] w fun e w' => ∃ v, e = .returned v ∧ OwnRow (colE false w' w.heap.size) 22 1 w' w.heap.size v l ∧ Below w.heap.size w w' := by
  cases A with
  | some ad =>
    have hq := fun W => Lib.run_eql_slice_nil (P := Try.prog) W 37 22 (some ad) l.length c 0 0 Try.underlying37
    have HC := Aside0.mk hC
    clear hC
    go_enter Try.func79, Try.ntmps79
    go_wp2_with (first | ((with_reducible refine gate_dst (N := 5) rfl ?_); refine Kd.R_lit (Kd.fixed (Kd.slice 45 k45) w) _ 22 ?hg (N := 5) ?hd (xs := ([] : List (List S45))) (inner := []) (ok := fun _ => True) (okp := fun _ => True) ?hr ?hp (fun _ hk => hk) trivial (Below.refl _ _) (Nat.le_refl _) (by simp) ?_; (case hd => rfl); (case hg => rfl); (case hr => first | (go_simp; done) | (go_simp; rfl)); (case hp => exact (Reps.none _ _)); intro v1 w1 ho1 hb1 hg1 hnew1) | ((with_reducible refine gate_builtin (b := .append) (xs := #[.tmp 5, .tmp 6]) rfl ?_); at_builtin; refine Kd.R_append_rows (Kd.fixed (Kd.slice 45 k45) w) (w0 := w) (Rr := (Kd.slice 45 k45).K w) w.heap.size rfl (.tmp 5) (.tmp 6) 37 22 (.slice none 0 0) 24 rfl Try.underlying37 info22 rfl Nat.zero_lt_one (by decide) v1 [] l _ _ _ (fun _ => True) (fun _ => False) rfl rfl ?aO ?aR (fun _ _ h => h) (fun _ h => h.elim) ?aF ?aB ?aS ?aL ?_; (case aR => exact ⟨HC.out.1, HC.out.2.1, fun hp => by obtain ⟨ad', e', hh⟩ := HC.out.2.2 hp; refine ⟨ad', e', fun j p hj => ?_⟩; obtain ⟨cs, h1, h2, h3⟩ := hh j p hj; refine ⟨cs, h1, h2, fun i u hu => ?_⟩; have h4 := h3 i u hu; exact (World.cell?_of_block (hb1.block _ (World.block_lt_of_cell? w _ h4))).trans h4⟩); (case aB => exact hb1); (case aF => exact (fun _ _ => trivial)); (case aO => exact ho1); (case aS => exact hb1.size); (case aL => (simp only [List.length_nil]; omega)); intro v2 w2 ho2 hb2 hg2 hat2))
    go_ret
    refine ⟨_, rfl, ?_, hb2⟩
    rw [List.nil_append] at ho2
    exact ho2.2.imp_ (fun xs cs h => RowV.of_K h hb2)
  | none =>
    have hl0 : l = [] := by
      cases l with
      | nil => rfl
      | cons x l => obtain ⟨_, e, _⟩ := hC.2.2 (by simp); cases e
    subst hl0
    have hq := fun W => Lib.run_eql_slice_nil (P := Try.prog) W 37 22 none 0 c 0 0 Try.underlying37
    go_enter Try.func79, Try.ntmps79
    go_wp2
    go_ret
    exact ⟨_, rfl, OwnRow.none_ _ _ _ _ _, Below.refl _ _⟩
theorem sortAny_calls (base : Nat) (A : Option Addr) (cap : Nat) (L : List (List S45)) (w : World) (hw : base ≤ w.heap.size) (hO : OwnRow (colE false w base) 22 1 w base (.slice A L.length cap) L) (hne : ∀ c ∈ L, 0 < c.length) (hL : L.length ≤ 12) :
    Calls Try.prog 80 #[.slice A L.length cap, .func (.func 81) #[] #[]] w fun e w' => (∃ v, e = .returned v) ∧ OwnRow (colE false w' base) 22 1 w' base (.slice A L.length cap) (sortL L) ∧ Stay base w w' ∧ w'.heap.size = w.heap.size := by
  rcases Nat.eq_zero_or_pos L.length with h0 | h0
  · obtain rfl : L = [] := List.eq_nil_of_length_eq_zero h0
    refine (sort_none A cap w).mono ?_
    rintro e w' ⟨hv, m, rfl⟩
    have st := (Stay.refl base w).drewN m
    exact ⟨hv, own_stay hO st (fun _ _ => rfl), st, rfl⟩
  · obtain ⟨inner, ho, hr⟩ := hO
    obtain ⟨g, c', e, _⟩ := ho.form h0
    obtain ⟨rfl, rfl⟩ : A = some ⟨g, 0, none⟩ ∧ cap = c' := by simpa using e
    obtain ⟨vs, hS⟩ := SRow.of_own rfl ⟨inner, ho, hr⟩
    refine (sort_calls base g cap vs L w hw hS hne hL).mono ?_
    rintro e w' ⟨hv, ⟨vs', hS'⟩, st, sz⟩
    have := hS'.own
    rw [sortL_len] at this
    exact ⟨hv, this, st, sz⟩
end Go.Proofs.Ytojnnfhalpefmaa.H
