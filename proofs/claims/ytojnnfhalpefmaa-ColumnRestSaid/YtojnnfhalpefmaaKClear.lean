/- (*pivots).clear of package column, walked by hand. -/
import Derived.Test.YtojnnfhalpefmaaEPlus
import Derived.Test.YtojnnfhalpefmaaKBs
import Derived.Test.YtojnnfhalpefmaaKMap
import Derived.Test.YtojnnfhalpefmaaMx4
import Derived.Deep.RegionWith
set_option linter.unusedVariables false
set_option linter.unusedSimpArgs false
namespace Go.Proofs.Ytojnnfhalpefmaa.H
open Go.RowKit Go.Proofs.YtojnnfhalpefmaaW.PrintWords Go.Proofs.YtojnnfhalpefmaaW.PrintLast Go.Proofs.YtojnnfhalpefmaaW.PrintMore Go.Proofs.Ytojnnfhalpefmaa.M
def rowOk (x : Int) : Prop := -9223372036854775808 ≤ x ∧ x ≤ 9223372036854775807
instance (x : Int) : Decidable (rowOk x) := inferInstanceAs (Decidable (_ ∧ _))
theorem rowOk.wf {x : Int} (h : rowOk x) : (Lit.int .i64 x).wf = true := by
  obtain ⟨h1, h2⟩ := h
  have e1 : IntKind.i64.min = -9223372036854775808 := by decide
  have e2 : IntKind.i64.max = 9223372036854775807 := by decide
  show (decide (IntKind.i64.min ≤ x) && decide (x ≤ IntKind.i64.max)) = true
  rw [e1, e2, decide_eq_true h1, decide_eq_true h2]
  rfl
/-- What clear does: a column, a combination, the place. -/
def clearL (p : Int) (mp : Int → Option Int) (L U : List (List S45)) : Nat → List S45 → List S45 → Int → Option (List S45 × List S45)
  | 0, _, _, _ => none
  | k + 1, c, x, i =>
    if 0 ≤ i then
      (if i < (c.length : Int) ∧ c.length < 8796093022208 ∧ rowOk (rd_T45 c i).f0 then
        (match mp (rd_T45 c i).f0 with
        | some j =>
          if 0 ≤ j ∧ j < (L.length : Int) ∧ j < (U.length : Int) ∧ 0 < (rd_L2 L j).length then
            (modp_Div.f k p (rd_T45 c i).f1 (rd_T45 (rd_L2 L j) (((rd_L2 L j).length : Int) - 1)).f1).bind fun t =>
              (column_plus.f p c (wrap64 (p - t.1)) (rd_L2 L j)).bind fun c' =>
                (column_plus.f p x (wrap64 (p - t.1)) (rd_L2 U j)).bind fun x' =>
                  if c'.length < 8796093022208 then clearL p mp L U k c' x' (wrap64 ((bsL c' (rd_T45 c i).f0 0 c'.length : Int) - 1)) else none
          else none
        | none => clearL p mp L U k c x (wrap64 ((bsL c (rd_T45 c i).f0 0 c.length : Int) - 1)))
      else none)
    else some (c, x)
/-- The pivots, read: block gv. -/
def PivR (W : World) (gv : Nat) (p : Int) (mp : Int → Option Int) (L U : List (List S45)) : Prop :=
  ∃ (gm n : Nat) (Al Au : Option Addr) (cl cu : Nat), W.heap[gv]? = some (.cells #[.int .i64 p, .map (some gm), .slice Al L.length cl, .slice Au U.length cu] 87 (0, 0)) ∧ IMap W gm n mp ∧
    (Kd.slice 45 k45).C W Al L.length L ∧ L.length ≤ cl ∧ (Kd.slice 45 k45).C W Au U.length U ∧ U.length ≤ cu
theorem PivR.below {W W' : World} {gv : Nat} {p : Int} {mp : Int → Option Int} {L U : List (List S45)} (h : PivR W gv p mp L U) (hb : Below W.heap.size W W') : PivR W' gv p mp L U := by
  obtain ⟨gm, n, Al, Au, cl, cu, h1, h2, h3, h4, h5, h6⟩ := h
  exact ⟨gm, n, Al, Au, cl, cu, blk_below h1 hb, h2.same (hb.block _ h2.lt), Kd.C_below h3 hb, h4, Kd.C_below h5 hb, h6⟩
set_option maxHeartbeats 8000000 in
set_option maxRecDepth 100000 in
theorem clear_calls (k : Nat) (gv : Nat) (p : Int) (mp : Int → Option Int) (L U : List (List S45)) (base : Nat) (vc vx : Value) (c x : List S45) (r : List S45 × List S45) (w : World) (hV : PivR w gv p mp L U) (hbase : base ≤ w.heap.size)
    (hc : Kd.R k45 45 w base (fun _ => True) vc c) (hx : Kd.R k45 45 w base (fun _ => True) vx x) (h : clearL p mp L U k c x (wrap64 ((c.length : Int) - 1)) = some r) :
    Calls Try.prog 71 #[.pointer (some ⟨gv, 0, none⟩), vc, vx] w fun e w' => ∃ v1 v2 : Value, e = .returned (.tuple #[v1, v2]) ∧ Kd.R k45 45 w' base (fun _ => True) v1 r.1 ∧ Kd.R k45 45 w' base (fun _ => True) v2 r.2 ∧ Below w.heap.size w w' := by
  obtain ⟨A0, c0, rfl⟩ := Kd.R_slice hc
  have H := Aside0.mk h
  clear h
  go_enter Try.func71, Try.ntmps71
  go_wp2
  go_loopg [1, 2, 8] k (fun kq v1 v2 v8 wr => ∃ (c x : List S45) (i : Int), v8 = .int .i64 i ∧ Aside0 (Kd.R k45 45 wr base (fun _ => True) v1 c) ∧ Aside0 (Kd.R k45 45 wr base (fun _ => True) v2 x) ∧ Aside0 (clearL p mp L U kq c x i = some r) ∧ Aside0 (Below w.heap.size w wr))
  case atStart => exact ⟨c, x, _, rfl, ⟨hc⟩, ⟨hx⟩, H, ⟨Below.refl _ _⟩⟩
  case round =>
    clear hc hx H
    obtain ⟨c, x, i, rfl, HC, HX, HA, HB⟩ := hrel
    cases gk with
    | zero => exact absurd HA.out (by simp [clearL])
    | succ k1 =>
      have H := HA.out
      clear HA
      unfold clearL at H
      by_cases h0 : 0 ≤ i
      · rw [if_pos h0] at H
        have h0b : decide (0 ≤ i) = true := decide_eq_true h0
        by_cases h1 : i < (c.length : Int) ∧ c.length < 8796093022208 ∧ rowOk (rd_T45 c i).f0
        · rw [if_pos h1] at H
          obtain ⟨h1, h2, h3⟩ := h1
          obtain ⟨gm, n, Al, Au, cl, cu, g1, g2, g3, g4, g5, g6⟩ := hV.below HB.out
          have q0 := blk_cell g1 0
          have q1 := blk_cell g1 1
          have q2 := blk_cell g1 2
          have q3 := blk_cell g1 3
          simp only [List.getElem?_toArray, List.getElem?_cons_zero, List.getElem?_cons_succ] at q0 q1 q2 q3
          obtain ⟨Ac, cc, rfl⟩ := Kd.R_slice HC.out
          obtain ⟨Ax, cx, rfl⟩ := Kd.R_slice HX.out
          have hrc := Kd.R_reads' HC.out
          obtain ⟨ad, eA, x0, x1⟩ := at_T45 hrc.2.2 i h0 h1
          subst eA
          obtain ⟨t, ht⟩ : ∃ t, rd_T45 c i = t := ⟨_, rfl⟩
          rw [ht] at H x0 x1 h3
          have hlk := g2.look h3.wf
          have h1b : decide (i < (c.length : Int)) = true := decide_eq_true h1
          cases hm : mp t.f0 with
          | none =>
            rw [hm] at H hlk
            have H' := Aside0.mk H
            clear H
            go_wp2_with (go_at_call 84; refine (bs_calls (some ad) cc c t.f0 _ hrc.2.2 hrc.2.1 h2).mono ?_; rintro e w' ⟨f, rfl, hb⟩)
            go_roundg k1
            case measure => omega
            case rel => exact ⟨c, x, _, rfl, ⟨Kd.R_below HC.out hb⟩, ⟨Kd.R_below HX.out hb⟩, H', ⟨HB.out.trans (hb.mono HB.out.size)⟩⟩
          | some j =>
            rw [hm] at H hlk
            by_cases hj : 0 ≤ j ∧ j < (L.length : Int) ∧ j < (U.length : Int) ∧ 0 < (rd_L2 L j).length
            · have H := (if_pos hj).symm.trans H
              obtain ⟨j0, j1, j2, j3⟩ := hj
              obtain ⟨al, Aj, cj, eL, yL, ljc, hCj⟩ := at_L2 g3 j j0 j1
              obtain ⟨au, Bj, bj, eU, yU, ujc, hUj⟩ := at_L2 g5 j j0 j2
              subst eL
              subst eU
              obtain ⟨low, hlow⟩ : ∃ low, rd_L2 L j = low := ⟨_, rfl⟩
              obtain ⟨uj, huj⟩ : ∃ uj, rd_L2 U j = uj := ⟨_, rfl⟩
              rw [hlow] at H yL ljc hCj j3
              rw [huj] at H yU ujc hUj
              obtain ⟨a1, e1, z0, z1⟩ := at_T45 hCj ((low.length : Int) - 1) (by omega) (by omega)
              subst e1
              obtain ⟨⟨d1, d2⟩, hD, H⟩ := Option.bind_eq_some_iff.1 H
              obtain ⟨c', hP1, H⟩ := Option.bind_eq_some_iff.1 H
              obtain ⟨x', hP2, H⟩ := Option.bind_eq_some_iff.1 H
              by_cases hcl : c'.length < 8796093022208
              · have H' := Aside0.mk ((if_pos hcl).symm.trans H)
                clear H
                obtain ⟨lw, hlw⟩ : ∃ lw, rd_T45 low ((low.length : Int) - 1) = lw := ⟨_, rfl⟩
                rw [hlw] at z0 z1 hD
                have hmx := Kd.C_max hCj
                rw [show ((low.length : Int) - 1).toNat = low.length - 1 by omega] at z0 z1
                have hw : wrap64 ((low.length : Int) - 1) = (low.length : Int) - 1 := by unfold wrap64; omega
                have hw' : IntKind.i64.wrap ((low.length : Int) - 1) = (low.length : Int) - 1 := by rw [i64_w]; exact hw
                have hj3 : (1 : Int) ≤ (low.length : Int) := by omega
                go_wp2
                go_quiet (first | (go_at_call 83; (with_reducible refine (modp_Div.calls k1 p t.f1 lw.f1 d1 d2 _ hD).mono ?_); rintro e w' ⟨rfl, ⟨nd, rfl⟩⟩; (try first | exact ⟨rfl, _, World.drewN_drewN _ _ _⟩ | exact ⟨rfl, _, Eq.trans (World.drewN_drewN _ _ _) (congrArg (World.drewN _) (Nat.add_assoc _ _ _))⟩)))
                go_wp2
                generalize hW2 : wr.drewN nq = W2
                have bw2 : Below wr.heap.size wr W2 := by rw [← hW2]; exact ⟨rfl, rfl, rfl, Nat.le_refl _, fun _ _ => rfl⟩
                have g1' := blk_below g1 bw2
                have q0' := blk_cell g1' 0
                have q3' := blk_cell g1' 3
                simp only [List.getElem?_toArray, List.getElem?_cons_zero, List.getElem?_cons_succ] at q0' q3'
                have HC2 := Aside0.mk (Kd.C_below hrc.2.2 bw2)
                have HL2 := Aside0.mk (Kd.C_below hCj bw2)
                rw [← i64_w] at hP1 hP2
                clear hlk q0 q1 q2 q3 x0 x1 yL yU z0 z1
                go_region_with (go_at_call 57; (with_reducible refine (column_plus.calls p (some ad) cc c (IntKind.i64.wrap (p - d1)) (some a1) cj low c' _ ?a1 ?a2 ?a3 ?a4 hP1).mono ?_); (case a1 => repeat (first | exact HC2.out | (with_reducible refine Kd.C_drewN ?_ _) | (with_reducible refine Kd.C_drew ?_))); (case a2 => exact hrc.2.1); (case a3 => repeat (first | exact HL2.out | (with_reducible refine Kd.C_drewN ?_ _) | (with_reducible refine Kd.C_drew ?_))); (case a4 => exact ljc); rintro e w3 ⟨v3, rfl, hR3, hb3⟩)
                all_goals
                  obtain ⟨A3, c3, rfl⟩ := Kd.R_slice hR3
                  have b3 : Below wr.heap.size wr w3 := (bw2.drew).trans (hb3.mono bw2.drew.size)
                  have g1'' := blk_below g1 b3
                  have q0 := blk_cell g1'' 0
                  have q3 := blk_cell g1'' 3
                  simp only [List.getElem?_toArray, List.getElem?_cons_zero, List.getElem?_cons_succ] at q0 q3
                  obtain ⟨au', Bj, bj, eU, yU, ujc, hUj⟩ := at_L2 (Kd.C_below g5 b3) j j0 j2
                  obtain rfl := Option.some.inj eU
                  rw [huj] at yU ujc hUj
                  have hrx := Kd.R_reads' (Kd.R_below HX.out b3)
                  clear q0' q3'
                  go_wp2
                  go_region_with (go_at_call 57; (with_reducible refine (column_plus.calls p Ax cx x (IntKind.i64.wrap (p - d1)) Bj bj uj x' _ ?a1 ?a2 ?a3 ?a4 hP2).mono ?_); (case a1 => repeat (first | exact hrx.2.2 | (with_reducible refine Kd.C_drewN ?_ _) | (with_reducible refine Kd.C_drew ?_))); (case a2 => exact hrx.2.1); (case a3 => repeat (first | exact hUj | (with_reducible refine Kd.C_drewN ?_ _) | (with_reducible refine Kd.C_drew ?_))); (case a4 => exact ujc); rintro e w5 ⟨v5, rfl, hR5, hb5⟩)
                  all_goals
                    have b5 : Below w3.heap.size w3 w5 := (below_drew1 (Below.refl _ w3)).trans hb5
                    have hR3' := Kd.R_below hR3 b5
                    have hr3 := Kd.R_reads' hR3'
                    go_wp2_with (go_at_call 84; refine (bs_calls A3 c3 c' t.f0 _ hr3.2.2 hr3.2.1 hcl).mono ?_; rintro e w6 ⟨f, rfl, hb6⟩)
                    go_roundg k1
                    case measure => omega
                    case rel =>
                      have bs : base ≤ W2.drew.heap.size := Nat.le_trans hbase (Nat.le_trans HB.out.size bw2.drew.size)
                      have b35 : Below wr.heap.size wr w5 := b3.trans (b5.mono b3.size)
                      exact ⟨c', x', _, rfl, ⟨Kd.R_lower (Kd.R_below hR3' hb6) bs⟩, ⟨Kd.R_lower (Kd.R_below hR5 hb6) (Nat.le_trans bs hb3.size)⟩, H', ⟨HB.out.trans ((b35.trans (hb6.mono b35.size)).mono HB.out.size)⟩⟩
              · rw [if_neg hcl] at H; cases H
            · exact absurd ((if_neg hj).symm.trans H) (by simp)
        · rw [if_neg h1] at H; cases H
      · rw [if_neg h0] at H
        have h0b : decide (0 ≤ i) = false := decide_eq_false h0
        cases H
        go_wp2
        go_ret2
        exact ⟨_, _, rfl, HC.out, HX.out, HB.out⟩
end Go.Proofs.Ytojnnfhalpefmaa.H
