/- slices.insertionSortCmpFunc at a row of columns, with the comparison of tidy. -/
import Derived.Test.YtojnnfhalpefmaaKCmp
set_option linter.unusedVariables false
set_option linter.unusedSimpArgs false
namespace Go.Proofs.Ytojnnfhalpefmaa.H
open Go.RowKit Go.Proofs.YtojnnfhalpefmaaW.PrintWords Go.Proofs.YtojnnfhalpefmaaW.PrintLast Go.Proofs.YtojnnfhalpefmaaW.PrintMore Go.Proofs.Ytojnnfhalpefmaa.M
theorem getD_lt {α : Type} {l : List α} {j : Nat} (d : α) (hj : j < l.length) : l.getD j d = l[j] := by rw [List.getD_eq_getElem?_getD, List.getElem?_eq_getElem hj]; rfl
/-- Two neighbours exchanged. -/
def swapL (L : List (List S45)) (j : Nat) : List (List S45) := (L.set j (L.getD (j - 1) [])).set (j - 1) (L.getD j [])
/-- The element at place j is brought down. -/
def insIn : Nat → List (List S45) → List (List S45)
  | 0, L => L
  | j + 1, L => if wrap64 (lastR (L.getD (j + 1) []) - lastR (L.getD j [])) < 0 then insIn j (swapL L (j + 1)) else L
def insOut : Nat → Nat → List (List S45) → List (List S45)
  | 0, _, L => L
  | k + 1, i, L => insOut k (i + 1) (insIn i L)
def sortL (L : List (List S45)) : List (List S45) := insOut (L.length - 1) 1 L
theorem swapL_len (L : List (List S45)) (j : Nat) : (swapL L j).length = L.length := by simp [swapL]
theorem insIn_len : ∀ (j : Nat) (L : List (List S45)), (insIn j L).length = L.length
  | 0, L => rfl
  | j + 1, L => by
    unfold insIn
    split
    · rw [insIn_len j, swapL_len]
    · rfl
theorem insOut_len : ∀ (k i : Nat) (L : List (List S45)), (insOut k i L).length = L.length
  | 0, _, L => rfl
  | k + 1, i, L => by unfold insOut; rw [insOut_len k, insIn_len]
theorem sortL_len (L : List (List S45)) : (sortL L).length = L.length := insOut_len _ _ _
theorem swapL_mem {L : List (List S45)} {j : Nat} (hj : j < L.length) {c : List S45} (h : c ∈ swapL L j) : c ∈ L := by
  unfold swapL at h
  rcases List.mem_or_eq_of_mem_set h with h | h
  · rcases List.mem_or_eq_of_mem_set h with h | h
    · exact h
    · subst h
      rw [getD_lt _ (show j - 1 < L.length by omega)]
      exact List.getElem_mem _
  · subst h
    rw [getD_lt _ hj]
    exact List.getElem_mem _
theorem insIn_mem : ∀ {j : Nat} {L : List (List S45)}, j < L.length → ∀ {c : List S45}, c ∈ insIn j L → c ∈ L
  | 0, _, _, _, h => h
  | j + 1, L, hj, c, h => by
    unfold insIn at h
    split at h
    · exact swapL_mem hj (insIn_mem (by rw [swapL_len]; omega) h)
    · exact h
/-- A row of columns that may be written: its cells. -/
def SRow (W : World) (base g cap : Nat) (vs : List Value) (L : List (List S45)) : Prop :=
  base ≤ g ∧ W.ownsRow base 22 1 (.slice (some ⟨g, 0, none⟩) L.length cap) L.length vs ∧ vs.length = L.length ∧ ∀ j, j < L.length → RowV false W base (vs.getD j (.slice none 0 0)) (L.getD j [])
def swapV (vs : List Value) (j : Nat) : List Value := (vs.set j (vs.getD (j - 1) (.slice none 0 0))).set (j - 1) (vs.getD j (.slice none 0 0))
def swapW (W : World) (g : Nat) (vs : List Value) (j : Nat) : World := (W.setCell ⟨g, j, none⟩ (vs.getD (j - 1) (.slice none 0 0))).setCell ⟨g, j - 1, none⟩ (vs.getD j (.slice none 0 0))
theorem getD_set {α : Type} (l : List α) (i j : Nat) (x d : α) (hj : j < l.length) : (l.set i x).getD j d = if i = j then x else l.getD j d := by
  rw [getD_lt _ (by simpa using hj), List.getElem_set, getD_lt _ hj]
theorem SRow.typed {W : World} {base g cap : Nat} {vs : List Value} {L : List (List S45)} (h : SRow W base g cap vs L) : ∃ cs, W.heap[g]? = some (.cells cs 22 (0, 0)) := own_typed h.2.1 g rfl
theorem SRow.stay {W W' : World} {base g cap : Nat} {vs : List Value} {L : List (List S45)} (h : SRow W base g cap vs L) (hs : Stay base W W') (hg : W'.heap[g]? = W.heap[g]?) : SRow W' base g cap vs L :=
  ⟨h.1, own_move h.2.1 (fun k hk => by obtain rfl : g = k := by simpa [Value.ownBlock] using hk
                                       exact hg), h.2.2.1, fun j hj => (h.2.2.2 j hj).stay hs⟩
theorem SRow.cell {W : World} {base g cap : Nat} {vs : List Value} {L : List (List S45)} (h : SRow W base g cap vs L) {j : Nat} (hj : j < L.length) : W.cell? ⟨g, j, none⟩ = some (vs.getD j (.slice none 0 0)) := by
  rw [h.2.1.cellAt j (by omega), List.getD_eq_getElem?_getD, List.getElem?_eq_getElem (by rw [h.2.2.1]; exact hj)]
  rfl
theorem SRow.swap {W : World} {base g cap : Nat} {vs : List Value} {L : List (List S45)} (h : SRow W base g cap vs L) {j : Nat} (h0 : 0 < j) (hj : j < L.length) :
    SRow (swapW W g vs j) base g cap (swapV vs j) (swapL L j) ∧ Stay base W (swapW W g vs j) ∧ (swapW W g vs j).heap.size = W.heap.size := by
  obtain ⟨hb, ho, hl, hr⟩ := h
  obtain ⟨cs, hcs⟩ := own_typed ho g rfl
  have o1 := ho.stored j (vs.getD (j - 1) (.slice none 0 0))
  have o2 := o1.1.stored (j - 1) (vs.getD j (.slice none 0 0))
  have st1 : Stay base W (W.setCell ⟨g, j, none⟩ (vs.getD (j - 1) (.slice none 0 0))) := stay_set hcs (by decide) hb _ _
  obtain ⟨cs1, hcs1⟩ := own_typed o1.1 g rfl
  have st2 : Stay base (W.setCell ⟨g, j, none⟩ (vs.getD (j - 1) (.slice none 0 0))) (swapW W g vs j) := stay_set hcs1 (by decide) hb _ _
  have st := st1.trans st2
  refine ⟨⟨hb, ?_, by simp [swapV, swapL, hl], fun i hi => ?_⟩, st, by simp [swapW]⟩
  · rw [swapL_len]; exact o2.1
  · rw [swapL_len] at hi
    unfold swapV swapL
    have q1 : i < vs.length := by omega
    rw [getD_set _ _ _ _ _ (by rw [List.length_set]; exact q1), getD_set _ _ _ _ _ q1, getD_set _ _ _ _ _ (by rw [List.length_set]; exact hi), getD_set _ _ _ _ _ hi]
    split
    · exact (hr j hj).stay st
    · split
      · exact (hr (j - 1) (by omega)).stay st
      · exact (hr i hi).stay st
theorem Stay.drewN {base : Nat} {W W' : World} (h : Stay base W W') (n : Nat) : Stay base W (W'.drewN n) := h.trans ⟨⟨rfl, rfl, rfl, Nat.le_refl _, fun _ _ => rfl⟩, fun _ _ => rfl⟩
theorem SRow.drewN {W : World} {base g cap : Nat} {vs : List Value} {L : List (List S45)} (h : SRow W base g cap vs L) (n : Nat) : SRow (W.drewN n) base g cap vs L := h.stay ((Stay.refl _ _).drewN n) rfl
theorem insIn_lt {j : Nat} {L : List (List S45)} (h : wrap64 (lastR (L.getD (j + 1) []) - lastR (L.getD j [])) < 0) : insIn (j + 1) L = insIn j (swapL L (j + 1)) := by rw [insIn, if_pos h]
theorem insIn_ge {j : Nat} {L : List (List S45)} (h : ¬ wrap64 (lastR (L.getD (j + 1) []) - lastR (L.getD j [])) < 0) : insIn (j + 1) L = L := by rw [insIn, if_neg h]
set_option maxHeartbeats 8000000 in
set_option maxRecDepth 100000 in
theorem ins_calls (base g cap : Nat) (vs : List Value) (L : List (List S45)) (w : World) (hw : base ≤ w.heap.size) (hS : SRow w base g cap vs L) (hne : ∀ c ∈ L, 0 < c.length) (hL : L.length ≤ 1000000) :
    Calls Try.prog 92 #[.slice (some ⟨g, 0, none⟩) L.length cap, .int .i64 0, .int .i64 L.length, .func (.func 81) #[] #[]] w fun e w' => (∃ v, e = .returned v) ∧ (∃ vs', SRow w' base g cap vs' (sortL L)) ∧ Stay base w w' ∧ w'.heap.size = w.heap.size := by
  go_enter Try.func92, Try.ntmps92
  go_wp2
  go_loopg [8] (L.length - 1) (fun kq v8 wr => ∃ (i : Nat) (vs' : List Value) (L' : List (List S45)), v8 = .int .i64 i ∧ 1 ≤ i ∧ kq = L.length - i ∧ L'.length = L.length ∧ Aside0 (∀ c ∈ L', 0 < c.length) ∧ Aside0 (insOut (L.length - i) i L' = sortL L) ∧ Aside0 (SRow wr base g cap vs' L') ∧ Aside0 (Stay base w wr) ∧ wr.heap.size = w.heap.size)
  case atStart => exact ⟨1, vs, L, rfl, Nat.le_refl _, rfl, rfl, ⟨hne⟩, ⟨rfl⟩, ⟨hS⟩, ⟨Stay.refl _ _⟩, rfl⟩
  case round =>
    clear hS hne
    obtain ⟨i, vs1, L1, rfl, h1, hk, hlen, HN, HI, HS, ST, hsz⟩ := hrel
    by_cases hlt : i < L.length
    · have hltb : decide ((i : Int) < (L.length : Int)) = true := decide_eq_true (by omega)
      have hd : L.length - i = (L.length - (i + 1)) + 1 := by omega
      have HJ := Aside0.mk HI.out
      go_wp2
      go_loopg [9] i (fun kq v9 wj => ∃ (j : Nat) (vs' : List Value) (L' : List (List S45)), v9 = .int .i64 j ∧ j ≤ i ∧ kq = j ∧ L'.length = L.length ∧ Aside0 (∀ c ∈ L', 0 < c.length) ∧ Aside0 (insIn j L' = insIn i L1) ∧ Aside0 (SRow wj base g cap vs' L') ∧ Aside0 (Stay base w wj) ∧ wj.heap.size = w.heap.size)
      case atStart => exact ⟨i, vs1, L1, rfl, Nat.le_refl _, rfl, hlen, HN, ⟨rfl⟩, HS, ST, hsz⟩
      case round =>
        clear HS HN HI ST
        obtain ⟨j, vs2, L2, rfl, hji, hkj, hlen2, HN, HI, HS, ST, hsz2⟩ := hrel
        by_cases hj : 0 < j
        · have hjb : decide ((0 : Int) < (j : Int)) = true := decide_eq_true (by omega)
          have hjl : j < L2.length := by omega
          have c1 := HS.out.cell hjl
          have c2 := HS.out.cell (show j - 1 < L2.length by omega)
          obtain ⟨A1, k1, e1, m1, r1, _⟩ := HS.out.2.2.2 j hjl
          obtain ⟨A2, k2, e2, m2, r2, _⟩ := HS.out.2.2.2 (j - 1) (by omega)
          have f1 := HS.out.2.1.frozenAt j
          have f2 := HS.out.2.1.frozenAt (j - 1)
          have p1 : 0 < (L2.getD j []).length := HN.out _ (by rw [getD_lt _ hjl]; exact List.getElem_mem _)
          have p2 : 0 < (L2.getD (j - 1) []).length := HN.out _ (by rw [getD_lt _ (show j - 1 < L2.length by omega)]; exact List.getElem_mem _)
          obtain ⟨a, ha⟩ : ∃ a, L2.getD j [] = a := ⟨_, rfl⟩
          obtain ⟨b, hb⟩ : ∃ b, L2.getD (j - 1) [] = b := ⟨_, rfl⟩
          rw [ha] at e1 m1 r1 p1
          rw [hb] at e2 m2 r2 p2
          rw [e1] at c1
          rw [e2] at c2
          have hj1 : (1 : Int) ≤ (j : Int) := by omega
          have hj2 : (j : Int) < (L.length : Int) := by omega
          by_cases hc : wrap64 (lastR a - lastR b) < 0
          · have hcb : decide (wrap64 (lastR a - lastR b) < 0) = true := decide_eq_true hc
            go_wp2
            go_quiet (first | (go_at_call 81; (with_reducible refine (cmp2_calls A1 A2 k1 k2 a b _ ?sa ?sb p1 p2).mono ?_); (case sa => repeat (first | exact r1 | (with_reducible refine Kd.C_drewN ?_ _) | (with_reducible refine Kd.C_drew ?_))); (case sb => repeat (first | exact r2 | (with_reducible refine Kd.C_drewN ?_ _) | (with_reducible refine Kd.C_drew ?_))); rintro e w' ⟨rfl, ⟨nd, rfl⟩⟩; (try first | exact ⟨rfl, _, World.drewN_drewN _ _ _⟩ | exact ⟨rfl, _, Eq.trans (World.drewN_drewN _ _ _) (congrArg (World.drewN _) (Nat.add_assoc _ _ _))⟩)))
            go_wp2
            go_region
            go_wp2
            go_roundg (j - 1)
            case measure => omega
            case rel =>
              obtain ⟨q1, q2, q3⟩ := (HS.out.drewN (nq + 1)).swap hj hjl
              have hwd : swapW (wr.drewN (nq + 1)) g vs2 j = ((wr.drewN (nq + 1)).setCell ⟨g, j, none⟩ (.slice A2 b.length k2)).setCell ⟨g, j - 1, none⟩ (.slice A1 a.length k1) := by rw [swapW, e1, e2]
              rw [hwd] at q1 q2 q3
              refine ⟨j - 1, swapV vs2 j, swapL L2 j, ?_, by omega, rfl, by rw [swapL_len]; exact hlen2, ⟨fun c hc' => HN.out c (swapL_mem hjl hc')⟩, ⟨?_⟩, ⟨q1⟩, ⟨(ST.out.drewN _).trans q2⟩, q3.trans hsz2⟩
              · rw [show ((j - 1 : Nat) : Int) = (j : Int) - 1 by omega]
              · obtain ⟨j0, rfl⟩ : ∃ j0, j = j0 + 1 := ⟨j - 1, by omega⟩
                rw [Nat.add_sub_cancel] at hb ⊢
                rw [← insIn_lt (by rw [ha, hb]; exact hc)]
                exact HI.out
          · have hcb : decide (wrap64 (lastR a - lastR b) < 0) = false := decide_eq_false hc
            have hlast : insIn j L2 = L2 := by
              obtain ⟨j0, rfl⟩ : ∃ j0, j = j0 + 1 := ⟨j - 1, by omega⟩
              rw [Nat.add_sub_cancel] at hb
              exact insIn_ge (by rw [ha, hb]; exact hc)
            have HL := Aside0.mk hlast
            clear hlast
            go_wp2
            go_quiet (first | (go_at_call 81; (with_reducible refine (cmp2_calls A1 A2 k1 k2 a b _ ?sa ?sb p1 p2).mono ?_); (case sa => repeat (first | exact r1 | (with_reducible refine Kd.C_drewN ?_ _) | (with_reducible refine Kd.C_drew ?_))); (case sb => repeat (first | exact r2 | (with_reducible refine Kd.C_drewN ?_ _) | (with_reducible refine Kd.C_drew ?_))); rintro e w' ⟨rfl, ⟨nd, rfl⟩⟩; (try first | exact ⟨rfl, _, World.drewN_drewN _ _ _⟩ | exact ⟨rfl, _, Eq.trans (World.drewN_drewN _ _ _) (congrArg (World.drewN _) (Nat.add_assoc _ _ _))⟩)))
            go_wp2
            go_roundg (L.length - (i + 1))
            case measure => omega
            case rel =>
              refine ⟨i + 1, vs2, L2, rfl, by omega, rfl, hlen2, HN, ⟨?_⟩, ⟨?_⟩, ⟨?_⟩, hsz2⟩
              · have h := HJ.out
                rw [hd, insOut, ← HI.out, HL.out] at h
                exact h
              · exact HS.out.drewN _
              · exact ST.out.drewN _
        · have hjb : decide ((0 : Int) < (j : Int)) = false := decide_eq_false (by omega)
          go_wp2
          go_quiet (fail)
          go_wp2
          go_roundg (L.length - (i + 1))
          case measure => omega
          case rel =>
            refine ⟨i + 1, vs2, L2, rfl, by omega, rfl, hlen2, HN, ⟨?_⟩, ⟨HS.out.drewN _⟩, ⟨ST.out.drewN _⟩, hsz2⟩
            have h := HJ.out
            obtain rfl : j = 0 := by omega
            rw [hd, insOut, ← HI.out] at h
            exact h
    · have hltb : decide ((i : Int) < (L.length : Int)) = false := decide_eq_false (by omega)
      obtain ⟨vs2, hS2⟩ : ∃ v, SRow wr base g cap v (sortL L) := ⟨vs1, by
        have h := HI.out
        rw [show L.length - i = 0 by omega, insOut] at h
        rw [← h]; exact HS.out⟩
      go_wp2
      go_end0
      exact ⟨⟨_, rfl⟩, ⟨vs2, hS2⟩, ST.out, hsz⟩
end Go.Proofs.Ytojnnfhalpefmaa.H
