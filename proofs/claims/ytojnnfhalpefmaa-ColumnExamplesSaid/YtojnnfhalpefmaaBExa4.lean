/- A part of the proof: texts of this seat joined (printed and by hand), without what is not used. -/
import Derived.Test.YtojnnfhalpefmaaBExa3
set_option linter.unusedVariables false
set_option linter.unusedSimpArgs false
set_option linter.unusedSectionVars false
section
namespace Go.Proofs.Ytojnnfhalpefmaa.H
open Go.RowKit Go.Proofs.YtojnnfhalpefmaaW.PrintWords Go.Proofs.YtojnnfhalpefmaaW.PrintLast Go.Proofs.YtojnnfhalpefmaaW.PrintMore Go.Proofs.Ytojnnfhalpefmaa.M
def rowOk (x : Int) : Prop := -9223372036854775808 ≤ x ∧ x ≤ 9223372036854775807
instance (x : Int) : Decidable (rowOk x) := inferInstanceAs (Decidable (_ ∧ _))
theorem rowOk.wf {x : Int} (h : rowOk x) : (Lit.int .i64 x).wf = true := by
 obtain ⟨h1, h2⟩ := h
 have e1 : IntKind.i64.min = -9223372036854775808 := by decide
 have e2 : IntKind.i64.max = 9223372036854775807 := by decide
 show (decide (IntKind.i64.min ≤ x) && decide (x ≤ IntKind.i64.max)) = true
 rw [e1, e2, decide_eq_true h1, decide_eq_true h2]
 rfl
def clearL (p : Int) (mp : Int → Option Int) (L U : List (List S45)) : Nat → List S45 → List S45 → Int → Option (List S45 × List S45)
 | 0, _, _, _ => none
 | k + 1, c, x, i =>
  if 0 ≤ i then
   (if i < (c.length : Int) ∧ c.length < 8796093022208 ∧ rowOk (rd_T45 c i).f0 then
    (match mp (rd_T45 c i).f0 with
    | some j =>
     if 0 ≤ j ∧ j < (L.length : Int) ∧ j < (U.length : Int) ∧ 0 < (rd_L2 L j).length then
      (modp_Div.f k p (rd_T45 c i).f1 (rd_T45 (rd_L2 L j) (((rd_L2 L j).length : Int) - 1)).f1).bind fun t =>
       (column_plus.f p c (wrap64 (p - t.1)) (rd_L2 L j)).bind fun c' =>
        (column_plus.f p x (wrap64 (p - t.1)) (rd_L2 U j)).bind fun x' =>
         if c'.length < 8796093022208 then clearL p mp L U k c' x' (wrap64 ((bsL c' (rd_T45 c i).f0 0 c'.length : Int) - 1)) else none
     else none
    | none => clearL p mp L U k c x (wrap64 ((bsL c (rd_T45 c i).f0 0 c.length : Int) - 1)))
   else none)
  else some (c, x)
def PivR (W : World) (gv : Nat) (p : Int) (mp : Int → Option Int) (L U : List (List S45)) : Prop :=
 ∃ (gm n : Nat) (Al Au : Option Addr) (cl cu : Nat), W.heap[gv]? = some (.cells #[.int .i64 p, .map (some gm), .slice Al L.length cl, .slice Au U.length cu] 87 (0, 0)) ∧ IMap W gm n mp ∧
  (Kd.slice 45 k45).C W Al L.length L ∧ L.length ≤ cl ∧ (Kd.slice 45 k45).C W Au U.length U ∧ U.length ≤ cu
theorem PivR.below {W W' : World} {gv : Nat} {p : Int} {mp : Int → Option Int} {L U : List (List S45)} (h : PivR W gv p mp L U) (hb : Below W.heap.size W W') : PivR W' gv p mp L U := by
 obtain ⟨gm, n, Al, Au, cl, cu, h1, h2, h3, h4, h5, h6⟩ := h
 exact ⟨gm, n, Al, Au, cl, cu, blk_below h1 hb, h2.same (hb.block _ h2.lt), Kd.C_below h3 hb, h4, Kd.C_below h5 hb, h6⟩
set_option maxHeartbeats 8000000 in
set_option maxRecDepth 100000 in
theorem clear_calls (k : Nat) (gv : Nat) (p : Int) (mp : Int → Option Int) (L U : List (List S45)) (base : Nat) (vc vx : Value) (c x : List S45) (r : List S45 × List S45) (w : World) (hV : PivR w gv p mp L U) (hbase : base ≤ w.heap.size)
  (hc : Kd.R k45 45 w base (fun _ => True) vc c) (hx : Kd.R k45 45 w base (fun _ => True) vx x) (h : clearL p mp L U k c x (wrap64 ((c.length : Int) - 1)) = some r) :
  Calls Try.prog 71 #[.pointer (some ⟨gv, 0, none⟩), vc, vx] w fun e w' => ∃ v1 v2 : Value, e = .returned (.tuple #[v1, v2]) ∧ Kd.R k45 45 w' base (fun _ => True) v1 r.1 ∧ Kd.R k45 45 w' base (fun _ => True) v2 r.2 ∧ Below w.heap.size w w' := by
 obtain ⟨A0, c0, rfl⟩ := Kd.R_slice hc
 have H := As.mk h
 clear h
 go_enter Try.func71, Try.ntmps71
 go_wp2
 go_loopg [1, 2, 8] k (fun kq v1 v2 v8 wr => ∃ (c x : List S45) (i : Int), v8 = .int .i64 i ∧ As (Kd.R k45 45 wr base (fun _ => True) v1 c) ∧ As (Kd.R k45 45 wr base (fun _ => True) v2 x) ∧ As (clearL p mp L U kq c x i = some r) ∧ As (Below w.heap.size w wr))
 case atStart => exact ⟨c, x, _, rfl, ⟨hc⟩, ⟨hx⟩, H, ⟨Below.refl _ _⟩⟩
 case round =>
  clear hc hx H
  obtain ⟨c, x, i, rfl, HC, HX, HA, HB⟩ := hrel
  cases gk with
  | zero => exact absurd HA.out (by simp [clearL])
  | succ k1 =>
   have H := HA.out
   clear HA
   unfold clearL at H
   by_cases h0 : 0 ≤ i
   ·rw [if_pos h0] at H
    have h0b : decide (0 ≤ i) = true := decide_eq_true h0
    by_cases h1 : i < (c.length : Int) ∧ c.length < 8796093022208 ∧ rowOk (rd_T45 c i).f0
    ·rw [if_pos h1] at H
     obtain ⟨h1, h2, h3⟩ := h1
     obtain ⟨gm, n, Al, Au, cl, cu, g1, g2, g3, g4, g5, g6⟩ := hV.below HB.out
     have q0 := blk_cell g1 0
     have q1 := blk_cell g1 1
     have q2 := blk_cell g1 2
     have q3 := blk_cell g1 3
     simp only [List.getElem?_toArray, List.getElem?_cons_zero, List.getElem?_cons_succ] at q0 q1 q2 q3
     obtain ⟨Ac, cc, rfl⟩ := Kd.R_slice HC.out
     obtain ⟨Ax, cx, rfl⟩ := Kd.R_slice HX.out
     have hrc := Kd.R_reads' HC.out
     obtain ⟨ad, eA, x0, x1⟩ := at_T45 hrc.2.2 i h0 h1
     subst eA
     obtain ⟨t, ht⟩ : ∃ t, rd_T45 c i = t := ⟨_, rfl⟩
     rw [ht] at H x0 x1 h3
     have hlk := g2.look h3.wf
     have h1b : decide (i < (c.length : Int)) = true := decide_eq_true h1
     cases hm : mp t.f0 with
     | none =>
      rw [hm] at H hlk
      have H' := As.mk H
      clear H
      go_wp2_with (go_at_call 84; refine (bs_calls (some ad) cc c t.f0 _ hrc.2.2 hrc.2.1 h2).mono ?_; rintro e w' ⟨f, rfl, hb⟩)
      go_roundg k1
      case measure => omega
      case rel => exact ⟨c, x, _, rfl, ⟨Kd.R_below HC.out hb⟩, ⟨Kd.R_below HX.out hb⟩, H', ⟨HB.out.trans (hb.mono HB.out.size)⟩⟩
     | some j =>
      rw [hm] at H hlk
      by_cases hj : 0 ≤ j ∧ j < (L.length : Int) ∧ j < (U.length : Int) ∧ 0 < (rd_L2 L j).length
      ·have H := (if_pos hj).symm.trans H
       obtain ⟨j0, j1, j2, j3⟩ := hj
       obtain ⟨al, Aj, cj, eL, yL, ljc, hCj⟩ := at_L2 g3 j j0 j1
       obtain ⟨au, Bj, bj, eU, yU, ujc, hUj⟩ := at_L2 g5 j j0 j2
       subst eL
       subst eU
       obtain ⟨low, hlow⟩ : ∃ low, rd_L2 L j = low := ⟨_, rfl⟩
       obtain ⟨uj, huj⟩ : ∃ uj, rd_L2 U j = uj := ⟨_, rfl⟩
       rw [hlow] at H yL ljc hCj j3
       rw [huj] at H yU ujc hUj
       obtain ⟨a1, e1, z0, z1⟩ := at_T45 hCj ((low.length : Int) - 1) (by omega) (by omega)
       subst e1
       obtain ⟨⟨d1, d2⟩, hD, H⟩ := Option.bind_eq_some_iff.1 H
       obtain ⟨c', hP1, H⟩ := Option.bind_eq_some_iff.1 H
       obtain ⟨x', hP2, H⟩ := Option.bind_eq_some_iff.1 H
       by_cases hcl : c'.length < 8796093022208
       ·have H' := As.mk ((if_pos hcl).symm.trans H)
        clear H
        obtain ⟨lw, hlw⟩ : ∃ lw, rd_T45 low ((low.length : Int) - 1) = lw := ⟨_, rfl⟩
        rw [hlw] at z0 z1 hD
        have hmx := Kd.C_max hCj
        rw [show ((low.length : Int) - 1).toNat = low.length - 1 by omega] at z0 z1
        have hw : wrap64 ((low.length : Int) - 1) = (low.length : Int) - 1 := by unfold wrap64; omega
        have hw' : IntKind.i64.wrap ((low.length : Int) - 1) = (low.length : Int) - 1 := by rw [i64_w]; exact hw
        have hj3 : (1 : Int) ≤ (low.length : Int) := by omega
        go_wp2
        go_quiet (first | (go_at_call 83; (with_reducible refine (modp_Div.calls k1 p t.f1 lw.f1 d1 d2 _ hD).mono ?_); rintro e w' ⟨rfl, ⟨nd, rfl⟩⟩; (try first | exact ⟨rfl, _, World.drewN_drewN _ _ _⟩ | exact ⟨rfl, _, Eq.trans (World.drewN_drewN _ _ _) (congrArg (World.drewN _) (Nat.add_assoc _ _ _))⟩)))
        go_wp2
        generalize hW2 : wr.drewN nq = W2
        have bw2 : Below wr.heap.size wr W2 := by rw [← hW2]; exact ⟨rfl, rfl, rfl, Nat.le_refl _, fun _ _ => rfl⟩
        have g1' := blk_below g1 bw2
        have q0' := blk_cell g1' 0
        have q3' := blk_cell g1' 3
        simp only [List.getElem?_toArray, List.getElem?_cons_zero, List.getElem?_cons_succ] at q0' q3'
        have HC2 := As.mk (Kd.C_below hrc.2.2 bw2)
        have HL2 := As.mk (Kd.C_below hCj bw2)
        rw [← i64_w] at hP1 hP2
        clear hlk q0 q1 q2 q3 x0 x1 yL yU z0 z1
        go_region_with (go_at_call 57; (with_reducible refine (column_plus.calls p (some ad) cc c (IntKind.i64.wrap (p - d1)) (some a1) cj low c' _ ?a1 ?a2 ?a3 ?a4 hP1).mono ?_); (case a1 => repeat (first | exact HC2.out | (with_reducible refine Kd.C_drewN ?_ _) | (with_reducible refine Kd.C_drew ?_))); (case a2 => exact hrc.2.1); (case a3 => repeat (first | exact HL2.out | (with_reducible refine Kd.C_drewN ?_ _) | (with_reducible refine Kd.C_drew ?_))); (case a4 => exact ljc); rintro e w3 ⟨v3, rfl, hR3, hb3⟩)
        all_goals
         obtain ⟨A3, c3, rfl⟩ := Kd.R_slice hR3
         have b3 : Below wr.heap.size wr w3 := (bw2.drew).trans (hb3.mono bw2.drew.size)
         have g1'' := blk_below g1 b3
         have q0 := blk_cell g1'' 0
         have q3 := blk_cell g1'' 3
         simp only [List.getElem?_toArray, List.getElem?_cons_zero, List.getElem?_cons_succ] at q0 q3
         obtain ⟨au', Bj, bj, eU, yU, ujc, hUj⟩ := at_L2 (Kd.C_below g5 b3) j j0 j2
         obtain rfl := Option.some.inj eU
         rw [huj] at yU ujc hUj
         have hrx := Kd.R_reads' (Kd.R_below HX.out b3)
         clear q0' q3'
         go_wp2
         go_region_with (go_at_call 57; (with_reducible refine (column_plus.calls p Ax cx x (IntKind.i64.wrap (p - d1)) Bj bj uj x' _ ?a1 ?a2 ?a3 ?a4 hP2).mono ?_); (case a1 => repeat (first | exact hrx.2.2 | (with_reducible refine Kd.C_drewN ?_ _) | (with_reducible refine Kd.C_drew ?_))); (case a2 => exact hrx.2.1); (case a3 => repeat (first | exact hUj | (with_reducible refine Kd.C_drewN ?_ _) | (with_reducible refine Kd.C_drew ?_))); (case a4 => exact ujc); rintro e w5 ⟨v5, rfl, hR5, hb5⟩)
         all_goals
          have b5 : Below w3.heap.size w3 w5 := (below_drew1 (Below.refl _ w3)).trans hb5
          have hR3' := Kd.R_below hR3 b5
          have hr3 := Kd.R_reads' hR3'
          go_wp2_with (go_at_call 84; refine (bs_calls A3 c3 c' t.f0 _ hr3.2.2 hr3.2.1 hcl).mono ?_; rintro e w6 ⟨f, rfl, hb6⟩)
          go_roundg k1
          case measure => omega
          case rel =>
           have bs : base ≤ W2.drew.heap.size := Nat.le_trans hbase (Nat.le_trans HB.out.size bw2.drew.size)
           have b35 : Below wr.heap.size wr w5 := b3.trans (b5.mono b3.size)
           exact ⟨c', x', _, rfl, ⟨Kd.R_lower (Kd.R_below hR3' hb6) bs⟩, ⟨Kd.R_lower (Kd.R_below hR5 hb6) (Nat.le_trans bs hb3.size)⟩, H', ⟨HB.out.trans ((b35.trans (hb6.mono b35.size)).mono HB.out.size)⟩⟩
       ·rw [if_neg hcl] at H; cases H
      ·exact absurd ((if_neg hj).symm.trans H) (by simp)
    ·rw [if_neg h1] at H; cases H
   ·rw [if_neg h0] at H
    have h0b : decide (0 ≤ i) = false := decide_eq_false h0
    cases H
    go_wp2
    go_ret2
    exact ⟨_, _, rfl, HC.out, HX.out, HB.out⟩
end Go.Proofs.Ytojnnfhalpefmaa.H
end

section
namespace Go.Proofs.Ytojnnfhalpefmaa.H
open Go.RowKit Go.Proofs.YtojnnfhalpefmaaW.PrintWords Go.Proofs.YtojnnfhalpefmaaW.PrintLast Go.Proofs.YtojnnfhalpefmaaW.PrintMore Go.Proofs.Ytojnnfhalpefmaa.M
def Safe (base : Nat) (W : World) (b : Nat) : Prop := b < base ∨ ∃ cs, W.heap[b]? = some (.cells cs 45 (0, 0))
structure Stay (base : Nat) (W W' : World) : Prop where
 below : Below base W W'
 same : ∀ b, Safe base W b → W'.heap[b]? = W.heap[b]?
theorem Stay.safe {base : Nat} {W W' : World} (h : Stay base W W') {b : Nat} (hb : Safe base W b) : Safe base W' b := by
 rcases hb with hb | ⟨cs, hb⟩
 ·exact .inl hb
 ·exact .inr ⟨cs, (h.same b (.inr ⟨cs, hb⟩)).trans hb⟩
theorem Stay.refl (base : Nat) (W : World) : Stay base W W := ⟨Below.refl _ _, fun _ _ => rfl⟩
theorem Stay.trans {base : Nat} {A B C : World} (h : Stay base A B) (k : Stay base B C) : Stay base A C :=
 ⟨h.below.trans k.below, fun b hb => (k.same b (h.safe hb)).trans (h.same b hb)⟩
theorem Stay.of_below {base : Nat} {W W' : World} (hb : base ≤ W.heap.size) (h : Below W.heap.size W W') : Stay base W W' :=
 ⟨h.mono hb, fun b hs => by
  rcases hs with hs | ⟨cs, hs⟩
  ·exact h.block b (by omega)
  ·exact h.block b (blk_lt hs)⟩
theorem add_blk (a : Addr) (k : Nat) : (a.add k).block = a.block := by
 unfold Addr.add
 by_cases h : k = 0 <;> simp [h]
theorem C_same {W W' : World} {A : Option Addr} {n : Nat} {xs : List S45} (h : k45.C W A n xs) (hb : ∀ ad, A = some ad → 0 < n → W'.heap[ad.block]? = W.heap[ad.block]?) : k45.C W' A n xs := by
 refine ⟨h.1, h.2.1, fun hp => ?_⟩
 obtain ⟨ad, e, hc⟩ := h.2.2 hp
 refine ⟨ad, e, fun j p hj => ?_⟩
 obtain ⟨c, h1, h2, h3⟩ := hc j p hj
 refine ⟨c, h1, ?_, fun i u hu => ?_⟩
 ·obtain rfl := k45_open h2
  exact k45_mk W' p
 ·have h4 := h3 i u hu
  have hbl : W'.heap[(ad.add (j * k45.sz + i)).block]? = W.heap[(ad.add (j * k45.sz + i)).block]? := by rw [add_blk]; exact hb ad e hp
  unfold World.cell? at h4 ⊢
  rw [hbl]
  exact h4
def RowV (o : Bool) (W : World) (base : Nat) (v : Value) (xs : List S45) : Prop :=
 ∃ (A : Option Addr) (c : Nat), v = .slice A xs.length c ∧ xs.length ≤ c ∧ k45.C W A xs.length xs ∧ (∀ ad, A = some ad → 0 < xs.length → Safe base W ad.block) ∧ (o = true → Kd.R k45 45 W base (fun _ => True) v xs)
theorem R45_stay {W W' : World} {base : Nat} {ok : Nat → Prop} {v : Value} {xs : List S45} (h : Kd.R k45 45 W base ok v xs) (hs : Stay base W W') : Kd.R k45 45 W' base ok v xs := by
 obtain ⟨h0, inner, ho, hr⟩ := h
 refine ⟨h0, inner, own_move ho (fun k hk => hs.same _ (.inr (own_typed ho k hk))), hr.imp_ (fun p c hM => ?_)⟩
 obtain rfl := k45_open (k45.K_of_M hM)
 exact k45_mkM W' base _ p
theorem RowV.stay {o : Bool} {W W' : World} {base : Nat} {v : Value} {xs : List S45} (h : RowV o W base v xs) (hs : Stay base W W') : RowV o W' base v xs := by
 obtain ⟨A, c, e, hl, hC, hS, hO⟩ := h
 exact ⟨A, c, e, hl, C_same hC (fun ad ea hp => hs.same _ (hS ad ea hp)), fun ad ea hp => hs.safe (hS ad ea hp), fun e => R45_stay (hO e) hs⟩
def colE (o : Bool) (W : World) (base : Nat) (xs : List S45) (cs : List Value) : Prop := ∃ v, cs = [v] ∧ RowV o W base v xs
theorem stay_grown {base : Nat} {W W' : World} {row : Option Nat} (hg : W.grownBy W' row) (hb : base ≤ W.heap.size) (hrow : ∀ g, row = some g → base ≤ g ∧ ∀ cs, W.heap[g]? ≠ some (.cells cs 45 (0, 0))) : Stay base W W' :=
 ⟨(Below.refl base W).grown hg hb (fun k e => (hrow k e).1), fun b hs => by
  refine hg.block b ?_ (fun e => ?_)
  ·rcases hs with hs | ⟨cs, hs⟩
   ·omega
   ·exact blk_lt hs
  ·obtain ⟨h1, h2⟩ := hrow b e.symm
   rcases hs with hs | ⟨cs, hs⟩
   ·omega
   ·exact h2 cs hs⟩
theorem stay_set {base : Nat} {W : World} {g : Nat} {t : TypeId} {cs : Array Value} (hg : W.heap[g]? = some (.cells cs t (0, 0))) (ht : t ≠ 45) (hb : base ≤ g) (i : Nat) (v : Value) : Stay base W (W.setCell ⟨g, i, none⟩ v) :=
 ⟨(Below.refl base W).setCell (p := ⟨g, i, none⟩) hb v, fun b hs => Below.heap_setCell W _ v b (by
  show b ≠ g
  rintro rfl
  rcases hs with hs | ⟨cs', hs⟩
  ·omega
  ·rw [hg] at hs; cases hs; exact ht rfl)⟩
theorem own_stay {o : Bool} {base : Nat} {W W' : World} {v : Value} {L : List (List S45)} (h : OwnRow (colE o W base) 22 1 W base v L) (hs : Stay base W W') (hv : ∀ g, v.ownBlock = some g → W'.heap[g]? = W.heap[g]?) : OwnRow (colE o W' base) 22 1 W' base v L := by
 obtain ⟨inner, ho, hr⟩ := h
 exact ⟨inner, own_move ho hv, hr.imp_ (fun p c ⟨v, e, hrow⟩ => ⟨v, e, hrow.stay hs⟩)⟩
theorem own_blk22 {α : Type} {base : Nat} {W : World} {v : Value} {R : α → List Value → Prop} {L : List α} (h : OwnRow R 22 1 W base v L) {g : Nat} (hg : v.ownBlock = some g) : (∃ cs, W.heap[g]? = some (.cells cs 22 (0, 0))) ∧ base ≤ g := by
 obtain ⟨inner, ho, hr⟩ := h
 refine ⟨own_typed ho g hg, ?_⟩
 rcases ho.2 with ⟨rfl, _⟩ | ⟨g', cap, cur, rfl, hb, _⟩
 ·simp [Value.ownBlock] at hg
 ·obtain rfl : g' = g := by simpa [Value.ownBlock] using hg
  exact hb
def lastR (c : List S45) : Int := (rd_T45 c ((c.length : Int) - 1)).f0
theorem RowV.of_R {o : Bool} {W : World} {base : Nat} {ok : Nat → Prop} {v : Value} {xs : List S45} (h : Kd.R k45 45 W base ok v xs) : RowV o W base v xs := by
 obtain ⟨A, c, rfl⟩ := Kd.R_slice h
 have hr := Kd.R_reads' h
 obtain ⟨inner, ho⟩ := Kd.R_own h
 refine ⟨A, c, rfl, hr.2.1, hr.2.2, fun ad e hp => ?_, fun _ => Kd.R_mono h (fun _ _ => trivial)⟩
 subst e
 exact .inr (own_typed ho ad.block (by simp [Value.ownBlock]))
end Go.Proofs.Ytojnnfhalpefmaa.H
end

section
namespace Go.Proofs.Ytojnnfhalpefmaa.H
open Go.RowKit Go.Proofs.YtojnnfhalpefmaaW.PrintWords Go.Proofs.YtojnnfhalpefmaaW.PrintLast Go.Proofs.YtojnnfhalpefmaaW.PrintMore Go.Proofs.Ytojnnfhalpefmaa.M
def colV (o : Bool) (W : World) (base : Nat) (a : List S45 × Value) (cs : List Value) : Prop := cs = [a.2] ∧ RowV o W base a.2 a.1
theorem own_stayV {o : Bool} {base : Nat} {W W' : World} {v : Value} {L : List (List S45 × Value)} (h : OwnRow (colV o W base) 22 1 W base v L) (hs : Stay base W W') (hv : ∀ g, v.ownBlock = some g → W'.heap[g]? = W.heap[g]?) : OwnRow (colV o W' base) 22 1 W' base v L := by
 obtain ⟨inner, ho, hr⟩ := h
 exact ⟨inner, own_move ho hv, hr.imp_ (fun p c ⟨e, hrow⟩ => ⟨e, hrow.stay hs⟩)⟩
theorem own_blkV {o : Bool} {base : Nat} {W : World} {v : Value} {L : List (List S45 × Value)} (h : OwnRow (colV o W base) 22 1 W base v L) {g : Nat} (hg : v.ownBlock = some g) : (∃ cs, W.heap[g]? = some (.cells cs 22 (0, 0))) ∧ base ≤ g := by
 obtain ⟨inner, ho, hr⟩ := h
 refine ⟨own_typed ho g hg, ?_⟩
 rcases ho.2 with ⟨rfl, _⟩ | ⟨g', cap, cur, rfl, hb, _⟩
 ·simp [Value.ownBlock] at hg
 ·obtain rfl : g' = g := by simpa [Value.ownBlock] using hg
  exact hb
theorem own_colE {o : Bool} {W : World} {base : Nat} {v : Value} {L : List (List S45 × Value)} (h : OwnRow (colV o W base) 22 1 W base v L) : OwnRow (colE o W base) 22 1 W base v (L.map Prod.fst) := by
 obtain ⟨inner, ho, hl, hr⟩ := h
 refine ⟨inner, by rw [List.length_map]; exact ho, by rw [List.length_map]; exact hl, fun j p hj => ?_⟩
 rw [List.getElem?_map] at hj
 obtain ⟨a, ha, rfl⟩ := Option.map_eq_some_iff.1 hj
 obtain ⟨e, hrow⟩ := hr j a ha
 exact ⟨a.2, e, hrow⟩
def PivV (o : Bool) (W : World) (base gv : Nat) (p : Int) (mp : Int → Option Int) (L : List (List S45 × Value)) (U : List (List S45)) (S : Nat → Prop) : Prop :=
 ∃ (gm : Nat) (vl vu : Value), W.heap[gv]? = some (.cells #[.int .i64 p, .map (some gm), vl, vu] 87 (0, 0)) ∧ base ≤ gv ∧ IMap W gm L.length mp ∧ base ≤ gm ∧
  OwnRow (colV o W base) 22 1 W base vl L ∧ OwnRow (colE o W base) 22 1 W base vu U ∧ (∀ g, vl.ownBlock = some g → vu.ownBlock ≠ some g) ∧ ∀ b, b = gv ∨ b = gm ∨ vl.ownBlock = some b ∨ vu.ownBlock = some b → S b
def PivO (o : Bool) (W : World) (base gv : Nat) (p : Int) (mp : Int → Option Int) (L U : List (List S45)) (S : Nat → Prop) : Prop :=
 ∃ LV : List (List S45 × Value), LV.map Prod.fst = L ∧ PivV o W base gv p mp LV U S
set_option maxHeartbeats 8000000 in
set_option maxRecDepth 100000 in
theorem putV_calls {o : Bool} (base gv : Nat) (p : Int) (mp : Int → Option Int) (L : List (List S45 × Value)) (U : List (List S45)) (S : Nat → Prop) (vc vx : Value) (c x : List S45) (w : World) (hbase : base ≤ w.heap.size) (hP : PivV o w base gv p mp L U S) (hc : RowV o w base vc c) (hx : RowV o w base vx x)
  (hne : 0 < c.length) (hok : rowOk (rd_T45 c ((c.length : Int) - 1)).f0) (hL : L.length < 1000000) (hUL : U.length < 1000000) :
  Calls Try.prog 70 #[.pointer (some ⟨gv, 0, none⟩), vc, vx] w fun e w' => (∃ v, e = .returned v) ∧ PivV o w' base gv p (fun y => if y = (rd_T45 c ((c.length : Int) - 1)).f0 then some (L.length : Int) else mp y) (L ++ [(c, vc)]) (U ++ [x]) (fun b => S b ∨ (w.heap.size ≤ b ∧ b < w'.heap.size)) ∧ Stay base w w' ∧ ∀ b, b < w.heap.size → ¬ S b → w'.heap[b]? = w.heap[b]? := by
 obtain ⟨gm, vl, vu, g1, gb, g2, gmb, hl, hu, hlu, hS'⟩ := hP
 obtain ⟨A, cc, rfl, hcc, hC, hS⟩ := hc
 obtain ⟨Ax, cx, rfl, hcx, hCx, hSx⟩ := hx
 have q1 := blk_cell g1 1
 have q2 := blk_cell g1 2
 simp only [List.getElem?_toArray, List.getElem?_cons_zero, List.getElem?_cons_succ] at q1 q2
 obtain ⟨Al, cl, rfl, hlc⟩ := hl.slice_
 obtain ⟨Au, cu, rfl, huc⟩ := hu.slice_
 obtain ⟨ad, eA, z0, z1⟩ := at_T45 hC ((c.length : Int) - 1) (by omega) (by omega)
 subst eA
 have hmx := Kd.C_max hC
 rw [show ((c.length : Int) - 1).toNat = c.length - 1 by omega] at z0 z1
 have hw : wrap64 ((c.length : Int) - 1) = (c.length : Int) - 1 := by unfold wrap64; omega
 obtain ⟨t, ht⟩ : ∃ t, rd_T45 c ((c.length : Int) - 1) = t := ⟨_, rfl⟩
 rw [ht] at z0 z1 hok ⊢
 have g2' : IMap w.drew gm L.length mp := g2.same rfl
 obtain ⟨w1, hst, hM1, hG1⟩ := g2'.store (by simp only [maxLen]; omega) hok.wf (v := (L.length : Int)) (by rw [show (L.length : Int) = ((L.length : Nat) : Int) from rfl]; exact (show rowOk (L.length : Int) from ⟨by omega, by omega⟩).wf)
 go_enter Try.func70, Try.ntmps70
 obtain ⟨mo, hmo, hmc⟩ : ∃ o, w.heap[gm]? = some o ∧ o.isCells = false := by
  obtain ⟨D, ⟨es, clock, hb, _⟩, _⟩ := g2
  exact ⟨_, hb, rfl⟩
 have hnc : ∀ cs t, w.heap[gm]? ≠ some (.cells cs t (0, 0)) := fun cs t e => by rw [hmo] at e; cases e; cases hmc
 have st0 : Stay base w w.drew := ⟨(Below.refl base w).drew, fun _ _ => rfl⟩
 have st1 : Stay base w w1 := st0.trans <| stay_grown (W := w.drew) hG1 hbase (fun g e => by cases e; exact ⟨gmb, fun cs e' => hnc cs 45 e'⟩)
 have g11 : w1.heap[gv]? = _ := (hG1.block gv (blk_lt g1) (fun e => by cases e; exact hnc _ _ g1)).trans g1
 have keep1 : ∀ {v : Value} {α : Type} {R : α → List Value → Prop} {K : List α}, OwnRow R 22 1 w base v K → ∀ g, v.ownBlock = some g → w1.heap[g]? = w.heap[g]? := fun h g hg => by
  obtain ⟨⟨cs, hcs⟩, _⟩ := own_blk22 h hg
  exact hG1.block g (blk_lt hcs) (fun e => by cases e; exact hnc _ _ hcs)
 have hl1 := own_stayV hl st1 (keep1 hl)
 have hu1 := own_stay hu st1 (keep1 hu)
 have hrc1 : RowV o w1 base (.slice (some ad) c.length cc) c := RowV.stay ⟨_, _, rfl, hcc, hC, hS⟩ st1
 have hrx1 : RowV o w1 base (.slice Ax x.length cx) x := RowV.stay ⟨_, _, rfl, hcx, hCx, hSx⟩ st1
 have hb1 : base ≤ w1.heap.size := Nat.le_trans hbase st1.below.size
 have nel : some gv ≠ (Value.slice Al L.length cl).ownBlock := OwnRow.ne_block hl1 g11 (by decide)
 have neu : some gv ≠ (Value.slice Au U.length cu).ownBlock := OwnRow.ne_block hu1 g11 (by decide)
 go_wp2
 go_region
 have k0 := blk_cell g11 2
 simp only [List.getElem?_toArray, List.getElem?_cons_zero, List.getElem?_cons_succ] at k0
 clear q1 q2 z0 z1
 go_upto_region 2 with (first | (at_builtin; refine OwnRow.append (R := colV o w1 base) (w0 := w1) base rfl _ _ 37 22 (.slice none 0 0) 1 24 rfl Try.underlying37 info22 rfl (by decide) (by omega) (.slice Al L.length cl) L (c, .slice (some ad) c.length cc) [.slice (some ad) c.length cc] rfl rfl ⟨rfl, hrc1⟩ rfl (by simp [Value.oneCell']) hl1 (Below.refl _ _) hb1 (by omega) ?_; intro v1 w2 ho2 hb2 hg2 hat2; obtain ⟨A1, c1, rfl, hlc1⟩ := ho2.slice_; have g12 := (hg2.block gv (blk_lt g11) nel).trans g11; have k2 := blk_cell g12 2; have f2 := blk_frozen g12 2; simp only [List.getElem?_toArray, List.getElem?_cons_zero, List.getElem?_cons_succ] at k2))
 obtain ⟨w3, hw3⟩ : ∃ w3, w2.setCell ⟨gv, 2, none⟩ (.slice A1 (L.length + 1) c1) = w3 := ⟨_, rfl⟩
 rw [hw3]
 rw [show (L ++ [(c, Value.slice (some ad) c.length cc)]).length = L.length + 1 by simp] at ho2 hat2
 have hmo1 : ∃ o, w1.heap[gm]? = some o ∧ o.isCells = false := by
  obtain ⟨D, ⟨es, clock, hb, _⟩, _⟩ := hM1
  exact ⟨_, hb, rfl⟩
 obtain ⟨mo1, hmo1, hmc1⟩ := hmo1
 have hnc1 : ∀ cs t, w1.heap[gm]? ≠ some (.cells cs t (0, 0)) := fun cs t e => by rw [hmo1] at e; cases e; cases hmc1
 have st12 : Stay base w1 w2 := stay_grown hg2 hb1 (fun g e => by
  obtain ⟨⟨cs, hcs⟩, hbg⟩ := own_blk22 hl1 e
  exact ⟨hbg, fun cs' e' => by rw [hcs] at e'; cases e'⟩)
 have st23 : Stay base w2 w3 := by rw [← hw3]; exact stay_set g12 (by decide) gb 2 _
 have g13 : w3.heap[gv]? = some (.cells #[.int .i64 p, .map (some gm), .slice A1 (L.length + 1) c1, .slice Au U.length cu] 87 (0, 0)) := by rw [← hw3]; exact blk_put g12 2 _ rfl
 have far3 : ∀ b, b ≠ gv → w3.heap[b]? = w2.heap[b]? := fun b hb => by rw [← hw3]; exact Below.heap_setCell w2 _ _ b hb
 have n22 : ∀ {W : World} {α : Type} {R : α → List Value → Prop} {K : List α} {v : Value}, W.heap[gv]? = w2.heap[gv]? → OwnRow R 22 1 W base v K → ∀ g, v.ownBlock = some g → g ≠ gv := fun hW h g hg e => by
  obtain ⟨⟨cs, hcs⟩, _⟩ := own_blk22 h hg
  rw [e, hW, g12] at hcs
  cases hcs
 have hl2 : OwnRow (colV o w2 base) 22 1 w2 base (.slice A1 (L.length + 1) c1) (L ++ [(c, Value.slice (some ad) c.length cc)]) := ho2.imp_ (fun p cs ⟨e, h⟩ => ⟨e, h.stay st12⟩)
 have hl3 := own_stayV hl2 st23 (fun g hg => far3 g (n22 rfl hl2 g hg))
 have hu2 := own_stay hu1 st12 (fun g hg => by
  obtain ⟨⟨cs, hcs⟩, _⟩ := own_blk22 hu1 hg
  exact hg2.block g (blk_lt hcs) (fun e => hlu g e.symm hg))
 have hu3 := own_stay hu2 st23 (fun g hg => far3 g (n22 rfl hu2 g hg))
 have hlu1 : ∀ g, (Value.slice A1 (L.length + 1) c1).ownBlock = some g → (Value.slice Au U.length cu).ownBlock ≠ some g := fun g hg hg' => by
  rcases hat2 with e | ⟨b, e, hle⟩
  ·exact hlu g (e ▸ hg) hg'
  ·rw [hg] at e
   cases e
   obtain ⟨⟨cs, hcs⟩, _⟩ := own_blk22 hu1 hg'
   have := blk_lt hcs
   omega
 have hgm2 : gm ≠ gv := fun e => hnc1 _ 87 (by rw [e]; exact g11)
 have m12 : w2.heap[gm]? = w1.heap[gm]? := hg2.block gm (hM1.lt) (fun e => by
  obtain ⟨⟨cs, hcs⟩, _⟩ := own_blk22 hl1 e.symm
  exact hnc1 _ _ hcs)
 have m13 : w3.heap[gm]? = w1.heap[gm]? := (far3 gm hgm2).trans m12
 have st13 := st12.trans st23
 have hrx3 := hrx1.stay st13
 have hb3 : base ≤ w3.heap.size := Nat.le_trans hb1 st13.below.size
 have neu3 : some gv ≠ (Value.slice Au U.length cu).ownBlock := OwnRow.ne_block hu3 g13 (by decide)
 have k3 := blk_cell g13 3
 simp only [List.getElem?_toArray, List.getElem?_cons_zero, List.getElem?_cons_succ] at k3
 clear k0 k2 f2
 go_wp2_with (first | (at_builtin; refine OwnRow.append (R := colE o w3 base) (w0 := w3) base rfl _ _ 37 22 (.slice none 0 0) 1 24 rfl Try.underlying37 info22 rfl (by decide) (by omega) (.slice Au U.length cu) U x [.slice Ax x.length cx] rfl rfl ⟨_, rfl, hrx3⟩ rfl (by simp [Value.oneCell']) hu3 (Below.refl _ _) hb3 (by omega) ?_; intro v4 w4 ho4 hb4 hg4 hat4; obtain ⟨A4, c4, rfl, hlc4⟩ := ho4.slice_; have g14 := (hg4.block gv (blk_lt g13) neu3).trans g13; have k4 := blk_cell g14 3; have f4 := blk_frozen g14 3; simp only [List.getElem?_toArray, List.getElem?_cons_zero, List.getElem?_cons_succ] at k4))
 obtain ⟨w5, hw5⟩ : ∃ w5, w4.setCell ⟨gv, 3, none⟩ (.slice A4 (U.length + 1) c4) = w5 := ⟨_, rfl⟩
 rw [show (U ++ [x]).length = U.length + 1 by simp] at ho4 hat4
 rw [hw5]
 have st34 : Stay base w3 w4 := stay_grown hg4 hb3 (fun g e => by
  obtain ⟨⟨cs, hcs⟩, hbg⟩ := own_blk22 hu3 e
  exact ⟨hbg, fun cs' e' => by rw [hcs] at e'; cases e'⟩)
 have st45 : Stay base w4 w5 := by rw [← hw5]; exact stay_set g14 (by decide) gb 3 _
 have g15 : w5.heap[gv]? = some (.cells #[.int .i64 p, .map (some gm), .slice A1 (L.length + 1) c1, .slice A4 (U.length + 1) c4] 87 (0, 0)) := by rw [← hw5]; exact blk_put g14 3 _ rfl
 have far5 : ∀ b, b ≠ gv → w5.heap[b]? = w4.heap[b]? := fun b hb => by rw [← hw5]; exact Below.heap_setCell w4 _ _ b hb
 have n24 : ∀ {α : Type} {R : α → List Value → Prop} {K : List α} {v : Value}, OwnRow R 22 1 w4 base v K → ∀ g, v.ownBlock = some g → g ≠ gv := fun h g hg e => by
  obtain ⟨⟨cs, hcs⟩, _⟩ := own_blk22 h hg
  rw [e, g14] at hcs
  cases hcs
 have hu4 : OwnRow (colE o w4 base) 22 1 w4 base (.slice A4 (U.length + 1) c4) (U ++ [x]) := ho4.imp_ (fun p cs ⟨v, e, h⟩ => ⟨v, e, h.stay st34⟩)
 have hu5 := own_stay hu4 st45 (fun g hg => far5 g (n24 hu4 g hg))
 have hl4 := own_stayV hl3 st34 (fun g hg => by
  obtain ⟨⟨cs, hcs⟩, _⟩ := own_blk22 hl3 hg
  exact hg4.block g (blk_lt hcs) (fun e => hlu1 g hg e.symm))
 have hl5 := own_stayV hl4 st45 (fun g hg => far5 g (n24 hl4 g hg))
 have m35 : w5.heap[gm]? = w1.heap[gm]? := (far5 gm hgm2).trans ((hg4.block gm (blk_lt (m13.trans hmo1)) (fun e => by
  obtain ⟨⟨cs, hcs⟩, _⟩ := own_blk22 hu3 e.symm
  exact hnc1 _ _ (m13.symm.trans hcs))).trans m13)
 go_end0
 refine ⟨⟨_, rfl⟩, ⟨gm, _, _, g15, gb, ?_, gmb, hl5, hu5, fun g hg hg' => ?_, fun b hb => ?_⟩, st1.trans (st13.trans (st34.trans st45)), fun b hb hnb => ?_⟩
 ·rw [show (L ++ [(c, Value.slice (some ad) c.length cc)]).length = L.length + 1 by simp]
  exact hM1.same m35
 ·rcases hat4 with e | ⟨b, e, hle⟩
  ·exact hlu1 g hg (e ▸ hg')
  ·rw [hg'] at e
   cases e
   obtain ⟨⟨cs, hcs⟩, _⟩ := own_blk22 hl3 hg
   have := blk_lt hcs
   omega
 ·have hle1 := st1.below.size
  have hle3 := st13.below.size
  rcases hb with hb | hb | hb | hb
  ·exact .inl (hS' b (.inl hb))
  ·exact .inl (hS' b (.inr (.inl hb)))
  ·rcases hat2 with e | ⟨b', e, hle⟩
   ·exact .inl (hS' b (.inr (.inr (.inl (e ▸ hb)))))
   ·obtain ⟨⟨cs, hcs⟩, _⟩ := own_blk22 hl5 hb
    rw [hb] at e
    cases e
    exact .inr ⟨by omega, blk_lt hcs⟩
  ·rcases hat4 with e | ⟨b', e, hle⟩
   ·exact .inl (hS' b (.inr (.inr (.inr (e ▸ hb)))))
   ·obtain ⟨⟨cs, hcs⟩, _⟩ := own_blk22 hu5 hb
    rw [hb] at e
    cases e
    exact .inr ⟨by omega, blk_lt hcs⟩
 ·have hle1 := st1.below.size
  have hle3 := st13.below.size
  have n1 : b ≠ gv := fun e => hnb (hS' b (.inl e))
  have n2 : some b ≠ some gm := fun e => hnb (hS' b (.inr (.inl (by cases e; rfl))))
  have n3 : some b ≠ (Value.slice Al L.length cl).ownBlock := fun e => hnb (hS' b (.inr (.inr (.inl e.symm))))
  have n4 : some b ≠ (Value.slice Au U.length cu).ownBlock := fun e => hnb (hS' b (.inr (.inr (.inr e.symm))))
  exact (far5 b n1).trans ((hg4.block b (by omega) n4).trans ((far3 b n1).trans ((hg2.block b (by omega) n3).trans (hG1.block b hb n2))))
theorem put_calls {o : Bool} (base gv : Nat) (p : Int) (mp : Int → Option Int) (L U : List (List S45)) (S : Nat → Prop) (vc vx : Value) (c x : List S45) (w : World) (hbase : base ≤ w.heap.size) (hP : PivO o w base gv p mp L U S) (hc : RowV o w base vc c) (hx : RowV o w base vx x)
  (hne : 0 < c.length) (hok : rowOk (rd_T45 c ((c.length : Int) - 1)).f0) (hL : L.length < 1000000) (hUL : U.length < 1000000) :
  Calls Try.prog 70 #[.pointer (some ⟨gv, 0, none⟩), vc, vx] w fun e w' => (∃ v, e = .returned v) ∧ PivO o w' base gv p (fun y => if y = (rd_T45 c ((c.length : Int) - 1)).f0 then some (L.length : Int) else mp y) (L ++ [c]) (U ++ [x]) (fun b => S b ∨ (w.heap.size ≤ b ∧ b < w'.heap.size)) ∧ Stay base w w' ∧ ∀ b, b < w.heap.size → ¬ S b → w'.heap[b]? = w.heap[b]? := by
 obtain ⟨LV, rfl, hP⟩ := hP
 rw [List.length_map] at hL
 refine (putV_calls base gv p mp LV U S vc vx c x w hbase hP hc hx hne hok hL hUL).mono ?_
 rintro e w' ⟨hv, hP', st, fr⟩
 rw [List.length_map]
 exact ⟨hv, ⟨_, by simp, hP'⟩, st, fr⟩
theorem PivV.read {o : Bool} {W : World} {base gv : Nat} {p : Int} {mp : Int → Option Int} {L : List (List S45 × Value)} {U : List (List S45)} {S : Nat → Prop} (h : PivV o W base gv p mp L U S) : PivR W gv p mp (L.map Prod.fst) U := by
 obtain ⟨gm, vl, vu, g1, gb, g2, gmb, hl, hu, hlu, hS⟩ := h
 obtain ⟨A, c, rfl, hc, hA⟩ := (own_colE hl).reads
 obtain ⟨B, d, rfl, hd, hB⟩ := hu.reads
 have conv : ∀ {A : Option Addr} {n : Nat} {K : List (List S45)}, ReadsRow (colE o W base) 1 W A n K → (Kd.slice 45 k45).C W A n K := fun h => by
  refine ⟨h.1, h.2.1, fun hp => ?_⟩
  obtain ⟨ad, e, hc⟩ := h.2.2 hp
  refine ⟨ad, e, fun j q hj => ?_⟩
  obtain ⟨cs, h1, ⟨v, rfl, A', c', rfl, h4, h5, _⟩, h3⟩ := hc j q hj
  exact ⟨_, h1, ⟨A', c', rfl, h4, h5⟩, h3⟩
 exact ⟨gm, _, A, B, c, d, g1, g2, conv hA, hc, conv hB, hd⟩
theorem PivV.lt {o : Bool} {W : World} {base gv : Nat} {p : Int} {mp : Int → Option Int} {L : List (List S45 × Value)} {U : List (List S45)} {S : Nat → Prop} (h : PivV o W base gv p mp L U S) : gv < W.heap.size := by
 obtain ⟨gm, vl, vu, g1, _⟩ := h
 exact blk_lt g1
theorem PivV.stay {o : Bool} {W W' : World} {base gv : Nat} {p : Int} {mp : Int → Option Int} {L : List (List S45 × Value)} {U : List (List S45)} {S : Nat → Prop} (h : PivV o W base gv p mp L U S) (st : Stay base W W') (hb : ∀ b, S b → b < W.heap.size → W'.heap[b]? = W.heap[b]?) : PivV o W' base gv p mp L U S := by
 obtain ⟨gm, vl, vu, g1, gb, g2, gmb, hl, hu, hlu, hS⟩ := h
 refine ⟨gm, vl, vu, (hb gv (hS gv (.inl rfl)) (blk_lt g1)).trans g1, gb, g2.same (hb gm (hS gm (.inr (.inl rfl))) g2.lt), gmb, own_stayV hl st (fun g hg => ?_), own_stay hu st (fun g hg => ?_), hlu, hS⟩
 ·obtain ⟨⟨cs, hcs⟩, _⟩ := own_blkV hl hg
  exact hb g (hS g (.inr (.inr (.inl hg)))) (blk_lt hcs)
 ·obtain ⟨⟨cs, hcs⟩, _⟩ := own_blk22 hu hg
  exact hb g (hS g (.inr (.inr (.inr hg)))) (blk_lt hcs)
theorem PivV.below {o : Bool} {W W' : World} {base gv : Nat} {p : Int} {mp : Int → Option Int} {L : List (List S45 × Value)} {U : List (List S45)} {S : Nat → Prop} (h : PivV o W base gv p mp L U S) (hbase : base ≤ W.heap.size) (hb : Below W.heap.size W W') : PivV o W' base gv p mp L U S :=
 h.stay (Stay.of_below hbase hb) (fun b _ hlt => hb.block b hlt)
theorem PivO.read {o : Bool} {W : World} {base gv : Nat} {p : Int} {mp : Int → Option Int} {L U : List (List S45)} {S : Nat → Prop} (h : PivO o W base gv p mp L U S) : PivR W gv p mp L U := by
 obtain ⟨LV, rfl, h⟩ := h
 exact h.read
theorem PivO.lt {o : Bool} {W : World} {base gv : Nat} {p : Int} {mp : Int → Option Int} {L U : List (List S45)} {S : Nat → Prop} (h : PivO o W base gv p mp L U S) : gv < W.heap.size := by
 obtain ⟨LV, rfl, h⟩ := h
 exact h.lt
theorem PivO.below {o : Bool} {W W' : World} {base gv : Nat} {p : Int} {mp : Int → Option Int} {L U : List (List S45)} {S : Nat → Prop} (h : PivO o W base gv p mp L U S) (hbase : base ≤ W.heap.size) (hb : Below W.heap.size W W') : PivO o W' base gv p mp L U S := by
 obtain ⟨LV, e, h⟩ := h
 exact ⟨LV, e, h.below hbase hb⟩
theorem PivO.stay {o : Bool} {W W' : World} {base gv : Nat} {p : Int} {mp : Int → Option Int} {L U : List (List S45)} {S : Nat → Prop} (h : PivO o W base gv p mp L U S) (st : Stay base W W') (hb : ∀ b, S b → b < W.heap.size → W'.heap[b]? = W.heap[b]?) : PivO o W' base gv p mp L U S := by
 obtain ⟨LV, e, h⟩ := h
 exact ⟨LV, e, h.stay st hb⟩
theorem PivO.open {o : Bool} {W : World} {base gv : Nat} {p : Int} {mp : Int → Option Int} {L U : List (List S45)} {S : Nat → Prop} (h : PivO o W base gv p mp L U S) :
  ∃ (gm : Nat) (vl vu : Value), W.heap[gv]? = some (.cells #[.int .i64 p, .map (some gm), vl, vu] 87 (0, 0)) ∧ OwnRow (colE o W base) 22 1 W base vl L := by
 obtain ⟨LV, rfl, gm, vl, vu, g1, gb, g2, gmb, hl, _⟩ := h
 exact ⟨gm, vl, vu, g1, own_colE hl⟩
theorem PivO.made {o : Bool} (W : World) (base : Nat) (p : Int) (hb : base ≤ W.heap.size) : PivV o ((W.alloc (.map #[] 0)).alloc (.cells #[.int .i64 p, .map (some W.heap.size), .slice none 0 0, .slice none 0 0] 87)) base (W.heap.size + 1) p (fun _ => none) [] [] (fun b => b = W.heap.size ∨ b = W.heap.size + 1) := by
 refine ⟨W.heap.size, .slice none 0 0, .slice none 0 0, ?_, by omega, ?_, hb, OwnRow.none_ _ _ _ _ _, OwnRow.none_ _ _ _ _ _, by simp [Value.ownBlock], ?_⟩
 ·have := World.alloc_heap_new (W.alloc (.map #[] 0)) (.cells #[.int .i64 p, .map (some W.heap.size), .slice none 0 0, .slice none 0 0] 87)
  rwa [World.size_alloc] at this
 ·exact (IMap.made W).same (Below.heap_alloc _ _ _ (by simp))
 ·simp [Value.ownBlock]
end Go.Proofs.Ytojnnfhalpefmaa.H
end

section
namespace Go.Proofs.Ytojnnfhalpefmaa.M
open Go.RowKit Go.Proofs.YtojnnfhalpefmaaW.PrintWords Go.Proofs.YtojnnfhalpefmaaW.PrintLast Go.Proofs.YtojnnfhalpefmaaW.PrintMore
attribute [local go_sem] max2_int min2_int max_two min_two max_three min_three max_four min_four
def cloneF (l0 : List (S45)) : Option ((List (S45))) := (some (([] : List (S45)) : List (S45))).bind fun y197 => (if y197.length + l0.length < 8796093022208 then (some (y197 ++ l0)) else (none))
set_option maxHeartbeats 8000000 in
set_option maxRecDepth 100000 in
theorem clone_some (A0 : Addr) (c0 : Nat) (l0 : List (S45)) (r : List (S45)) (w : World) (hr0 : Kd.C k45 w (some A0) l0.length l0) (hc0 : l0.length ≤ c0) (h : cloneF l0 = some r) :
  Calls Try.prog 72 #[.slice (some A0) l0.length c0] w fun e w' => ∃ v0_ : Value, e = .returned (v0_) ∧ Kd.R k45 45 w' w.heap.size (fun _ => True) v0_ r ∧ Below w.heap.size w w' := by
 have HR0 := As.mk hr0
 have HC0 := As.mk hc0
 clear hr0 hc0
 have HB := As.mk (Below.refl w.heap.size w)
 have H : ((some (([] : List (S45)) : List (S45))).bind fun y197 => (if y197.length + l0.length < 8796093022208 then (some (y197 ++ l0)) else (none))) = some r := h
 clear h
 obtain ⟨y197, hy197⟩ : ∃ y_ : List (S45), y_ = (([] : List (S45))) := ⟨_, rfl⟩
 replace H : (if y197.length + l0.length < 8796093022208 then (some (y197 ++ l0)) else (none)) = some r := by first | (rw [hy197]; with_reducible exact H) | (have H2_ := (Option.bind_some _ _).symm.trans H; rw [hy197]; with_reducible exact H2_) | (have H2_ := (Option.bind_some _ _).symm.trans H; with_reducible exact H2_) | with_reducible exact H | (rw [hy197]; exact H) | exact H
 have Ny197 := As.mk hy197
 clear hy197
 by_cases c2 : y197.length + l0.length < 8796093022208
 ·rw [if_pos c2] at H
  have LMc2 := As.mk c2
  clear c2
  obtain ⟨y200, hy200⟩ : ∃ y_ : List (S45), y_ = (y197 ++ l0) := ⟨_, rfl⟩
  replace H : (some y200) = some r := by first | (rw [hy200]; with_reducible exact H) | (have H2_ := (Option.bind_some _ _).symm.trans H; rw [hy200]; with_reducible exact H2_) | (have H2_ := (Option.bind_some _ _).symm.trans H; with_reducible exact H2_) | with_reducible exact H | (rw [hy200]; exact H) | exact H
  have Ny200 := As.mk hy200
  clear hy200
  obtain rfl := Option.some.inj H
  have hq := fun W => Lib.run_eql_slice_nil (P := Try.prog) W 22 45 (some A0) l0.length c0 0 0 Try.underlying22
  go_enter Try.func72, Try.ntmps72
  go_wp2_with (first | ((with_reducible refine gate_dst (N := 5) rfl ?_); refine Kd.R_lit k45 _ 45 ?hg (N := 5) ?hd (xs := ([] : List (S45))) (inner := []) (ok := fun _ => True) (okp := fun _ => True) ?hr ?hp (fun _ hk => hk) trivial (Below.refl _ _) (Nat.le_refl _) (by simp) ?_; (case hd => rfl); (case hg => rfl); (case hr => first | (go_simp; done) | (go_simp; rfl)); (case hp => exact (Reps.none _ _)); intro v198 w3 ho4 hb hg_ hnew_; clear hg_ hnew_; (first | rw [← Ny197.out] at ho4 | (simp only [Int.reduceToNat] at ho4; rw [← Ny197.out] at ho4)); have n0_ := As.mk (Kd.R_lower ho4 (below_size (by repeat (first | (with_reducible first | exact HB.out | apply below_alloc | apply pw_below_drewN | apply below_drew1) | exact HB.out)))); have n1_ := As.mk (below_step (by repeat (first | (with_reducible first | exact HB.out | apply below_alloc | apply pw_below_drewN | apply below_drew1) | exact HB.out)) hb); clear HB; have HO199 := n0_; have HB := n1_; clear n0_ n1_; clear hb ho4) | ((with_reducible refine gate_builtin (b := .append) (xs := #[.tmp 5, .tmp 6]) rfl ?_); at_builtin; refine Kd.R_append_rows k45 (w0 := w) w.heap.size rfl (.tmp 5) (.tmp 6) 22 45 (.agg #[(.int .i64 0), (.int .i64 0)]) 16 rfl Try.underlying22 info45 rfl (by decide) (by omega) v198 y197 l0 _ _ _ (fun _ => True) (fun _ => False) rfl rfl ?aO ?aR (fun _ _ h => h) (fun _ h => h.elim) ?aF ?aB ?aS ?aL ?_; (case aR => repeat (first | exact (Kd.C_below HR0.out HB.out) | (with_reducible refine Kd.C_alloc ?_ _) | (with_reducible refine Kd.C_drewN ?_ _) | (with_reducible refine Kd.C_drew ?_))); (case aB => exact (by repeat (first | (with_reducible first | exact HB.out | apply below_alloc | apply pw_below_drewN | apply below_drew1) | exact HB.out))); (case aF => exact (fun _ _ => trivial)); (case aO => exact (by (with_reducible repeat (first | apply Kd.R_alloc | apply Kd.R_drewN | apply Kd.R_drew)); exact HO199.out)); (case aS => exact (below_size (by repeat (first | (with_reducible first | exact HB.out | apply below_alloc | apply pw_below_drewN | apply below_drew1) | exact HB.out)))); (case aL => have := LMc2.out; omega); intro v201 w5 ho hb hg hat; rw [← Ny200.out] at ho; have n0_ := As.mk (hb); have n1_ := As.mk (ho); clear HB; clear HO199; have HB := n0_; have HO202 := n1_; clear n0_ n1_; clear ho hb hg hat))
  go_ret
  exact ⟨_, by first | rfl | (simp [errW_none, errW_some] <;> rfl) | (simp [*, errW_none, errW_some] <;> rfl), by (with_reducible repeat (first | apply Kd.R_alloc | apply Kd.R_drewN | apply Kd.R_drew)); exact HO202.out, by repeat (first | (with_reducible first | exact HB.out | apply below_alloc | apply pw_below_drewN | apply below_drew1) | exact HB.out)⟩
 ·rw [if_neg c2] at H
  exact absurd H (by simp)
set_option maxHeartbeats 8000000 in
set_option maxRecDepth 100000 in
theorem clone_calls (A : Option Addr) (c : Nat) (l : List S45) (w : World) (hr : Kd.C k45 w A l.length l) (hc : l.length ≤ c) (hl : l.length < 8796093022208) :
  Calls Try.prog 72 #[.slice A l.length c] w fun e w' => ∃ v0_ : Value, e = .returned (v0_) ∧ Kd.R k45 45 w' w.heap.size (fun _ => True) v0_ l ∧ Below w.heap.size w w' := by
 cases A with
 | some ad => exact clone_some ad c l l w hr hc (by simp [cloneF, hl])
 | none =>
  have hl0 : l = [] := by
   cases l with
   | nil => rfl
   | cons x l => obtain ⟨_, e, _⟩ := hr.2.2 (by simp); cases e
  subst hl0
  have hq := fun W => Lib.run_eql_slice_nil (P := Try.prog) W 22 45 none 0 c 0 0 Try.underlying22
  go_enter Try.func72, Try.ntmps72
  go_wp2
  go_ret
  exact ⟨_, rfl, ⟨fun _ _ => trivial, OwnRow.none_ _ _ _ _ _⟩, Below.refl _ _⟩
end Go.Proofs.Ytojnnfhalpefmaa.M
end

section
namespace Go.Proofs.Ytojnnfhalpefmaa.H
open Go.RowKit Go.Proofs.YtojnnfhalpefmaaW.PrintWords Go.Proofs.YtojnnfhalpefmaaW.PrintLast Go.Proofs.YtojnnfhalpefmaaW.PrintMore Go.Proofs.Ytojnnfhalpefmaa.M
structure St where
 mp : Int → Option Int
 L : List (List S45)
 U : List (List S45)
 Z : List (List S45)
def St.put (s : St) (c x : List S45) : St := { mp := fun y => if y = lastR c then some (s.L.length : Int) else s.mp y, L := s.L ++ [c], U := s.U ++ [x], Z := s.Z }
def St.zero (s : St) (x : List S45) : St := { s with Z := s.Z ++ [x] }
def St.small (s : St) : Prop := s.L.length < 1000000 ∧ s.U.length < 1000000 ∧ s.Z.length < 1000000
instance (s : St) : Decidable s.small := inferInstanceAs (Decidable (_ ∧ _))
def elimL (p : Int) (k : Nat) : List (List S45) → Int → St → Option St
 | [], _, s => some s
 | c :: l, j, s =>
  if c.length < 8796093022208 ∧ s.small then
   (clearL p s.mp s.L s.U k c [⟨j, 1⟩] (wrap64 ((c.length : Int) - 1))).bind fun r =>
    if r.1.length = 0 then elimL p k l (j + 1) (s.zero r.2)
    else if rowOk (lastR r.1) then elimL p k l (j + 1) (s.put r.1 r.2) else none
  else none
theorem lit_R (W : World) (base : Nat) (hb : base ≤ W.heap.size) (i : Int) : Kd.R k45 45 (W.alloc (.cells #[.int .i64 i, .int .i64 1] 45)) base (fun _ => True) (.slice (some ⟨W.heap.size, 0, none⟩) 1 1) [⟨i, 1⟩] :=
 ⟨fun _ _ => trivial, OwnRow.lit W base (inner := [.int .i64 i, .int .i64 1]) ((Reps.none _ _).snoc (p := (⟨i, 1⟩ : S45)) (k45_mkM _ _ _ _) rfl) hb (by simp)⟩
theorem wrap_succ {i n : Nat} (h : i < n) (hn : n ≤ 9223372036854775807) : wrap64 ((i : Int) + 1) = ((i + 1 : Nat) : Int) := by
 unfold wrap64
 omega
theorem step_down {g n i : Nat} (h : i < n) (hk : g = n - i) : n - (i + 1) < g := by omega
theorem cast_succ (i : Nat) : ((i + 1 : Nat) : Int) = (i : Int) + 1 := by omega
set_option maxHeartbeats 8000000 in
set_option maxRecDepth 100000 in
theorem elim_calls (k : Nat) (p : Int) (A : Option Addr) (cl : Nat) (l : List (List S45)) (r : St) (w : World) (hC : (Kd.slice 45 k45).C w A l.length l) (hcl : l.length ≤ cl) (h : elimL p k l 0 ⟨fun _ => none, [], [], []⟩ = some r) :
  Calls Try.prog 66 #[.int .i64 p, .slice A l.length cl] w fun e w' => ∃ (gv : Nat) (vz : Value) (S : Nat → Prop), e = .returned (.tuple #[.pointer (some ⟨gv, 0, none⟩), vz]) ∧ PivO false w' w.heap.size gv p r.mp r.L r.U S ∧
   OwnRow (colE false w' w.heap.size) 22 1 w' w.heap.size vz r.Z ∧ Stay w.heap.size w w' := by
 have hmm := @run_makeMap Try.prog
 go_enter Try.func66, Try.ntmps66
 go_wp2
 obtain ⟨base, hbs⟩ : ∃ b, w.heap.size = b := ⟨_, rfl⟩
 obtain ⟨w1, hw1⟩ : ∃ w1, (w.alloc (.map #[] 0)).alloc (.cells #[.int .i64 p, .map (some w.heap.size), .slice none 0 0, .slice none 0 0] 87) = w1 := ⟨_, rfl⟩
 have hP1 : PivO false w1 base (base + 1) p (fun _ => none) [] [] (fun b => b = base ∨ b = base + 1) := by
  have h := PivO.made (o := false) w w.heap.size p (Nat.le_refl _)
  rw [hw1, hbs] at h
  exact ⟨[], rfl, h⟩
 have st1 : Stay base w w1 := by
  rw [← hw1]
  exact Stay.of_below (by omega) (((Below.refl _ w).alloc (Nat.le_refl _) _).alloc (by simp) _)
 rw [hbs]
 simp only [hbs] at hw1 ⊢
 rw [hw1]
 have H0 := As.mk h
 have HP1 := As.mk hP1
 have ST1 := As.mk st1
 clear h hP1 st1 hw1
 go_loopg [5, 16] l.length (fun kq v5 v16 wr => ∃ (i : Nat) (s : St) (S : Nat → Prop), v16 = .int .i64 i ∧ i ≤ l.length ∧ kq = l.length - i ∧ As (elimL p k (l.drop i) i s = some r) ∧ As (PivO false wr base (base + 1) p s.mp s.L s.U S) ∧ As (OwnRow (colE false wr base) 22 1 wr base v5 s.Z) ∧ As ((∀ g, v5.ownBlock = some g → ¬ S g) ∧ ∀ b, S b → b < wr.heap.size) ∧ As (Stay base w wr))
 case atStart => exact ⟨0, ⟨fun _ => none, [], [], []⟩, _, rfl, Nat.zero_le _, by omega, H0, HP1, ⟨OwnRow.none_ _ _ _ _ _⟩, ⟨by simp [Value.ownBlock], fun b hb => by have := HP1.out.lt; omega⟩, ST1⟩
 case round =>
  clear H0 HP1 ST1
  obtain ⟨i, s, S, rfl, hi, hk, HA, HP, HZ, HS, ST⟩ := hrel
  by_cases hlt : i < l.length
  ·obtain ⟨c, hc⟩ : ∃ c, rd_L2 l (i : Int) = c := ⟨_, rfl⟩
   have hdr : l.drop i = c :: l.drop (i + 1) := by
    rw [List.drop_eq_getElem_cons hlt, ← hc]
    simp [rd_L2, hlt]
   have H := HA.out
   rw [hdr, elimL] at H
   by_cases hsm : c.length < 8796093022208 ∧ s.small
   ·rw [if_pos hsm] at H
    obtain ⟨hcl1, hs1, hs2, hs3⟩ := hsm
    obtain ⟨r1, hr1, H⟩ := Option.bind_eq_some_iff.1 H
    have hbr : base ≤ wr.heap.size := by have := ST.out.below.size; omega
    have hBw : Below w.heap.size w wr := by rw [hbs]; exact ST.out.below
    obtain ⟨al, Aj, cj, eL, yL, ljc, hCj⟩ := at_L2 (Kd.C_below hC hBw) (i : Int) (by omega) (by omega)
    subst eL
    rw [hc] at yL ljc hCj
    rw [Int.toNat_natCast] at yL
    by_cases hz : r1.1.length = 0
    ·rw [if_pos hz] at H
     have hzb : ((r1.1.length : Int) == 0) = true := by simp [hz]
     have H' := As.mk H
     clear H
     go_wp2_with (first | (go_at_call 72; refine (clone_calls Aj cj c _ hCj ljc hcl1).mono ?_; rintro e w2 ⟨v2, rfl, hR2, hb2⟩; have b23 : Below wr.heap.size wr (w2.alloc (.cells #[.int .i64 i, .int .i64 1] 45)) := hb2.alloc hb2.size _; have hPV := (HP.out.below hbr b23).read; have hRc := Kd.R_lower (Kd.R_alloc hR2 (.cells #[.int .i64 i, .int .i64 1] 45)) hbr; have hRx := lit_R w2 base (Nat.le_trans hbr hb2.size) i) | (go_at_call 71; refine (clear_calls k (base + 1) p s.mp s.L s.U base _ _ c [⟨i, 1⟩] r1 _ hPV (Nat.le_trans hbr b23.size) hRc hRx hr1).mono ?_; rintro e w4 ⟨v8, v9, rfl, hR8, hR9, hb4⟩; have b4 : Below wr.heap.size wr w4 := b23.trans (hb4.mono b23.size); obtain ⟨A8, c8, rfl⟩ := Kd.R_slice hR8; obtain ⟨A9, c9, rfl⟩ := Kd.R_slice hR9; have HZ4 := own_stay HZ.out (Stay.of_below hbr b4) (fun g hg => b4.block g (by obtain ⟨⟨cs, hcs⟩, _⟩ := own_blk22 HZ.out hg; exact blk_lt hcs)); have hw9 := RowV.of_R (o := false) hR9) | (at_builtin; refine OwnRow.append (R := colE false w4 base) (w0 := w4) base rfl _ _ 37 22 (.slice none 0 0) 1 24 rfl Try.underlying37 info22 rfl (by decide) (by omega) u5 s.Z r1.2 [.slice A9 r1.2.length c9] rfl rfl ⟨_, rfl, hw9⟩ rfl (by simp [Value.oneCell']) HZ4 (Below.refl _ _) (Nat.le_trans hbr b4.size) (by omega) ?_; intro v5 w5 ho5 hb5 hg5 hat5))
     have hwi : wrap64 ((i : Int) + 1) = ((i + 1 : Nat) : Int) := wrap_succ hlt (Kd.C_max hC)
     go_roundg (l.length - (i + 1))
     case measure => exact step_down hlt hk
     case rel =>
      have sz4 := b4.size
      have st45 : Stay base w4 w5 := stay_grown hg5 (Nat.le_trans hbr sz4) (fun g e => by
       obtain ⟨⟨cs, hcs⟩, hbg⟩ := own_blk22 HZ4 e
       exact ⟨hbg, fun cs' e' => by rw [hcs] at e'; cases e'⟩)
      have HZ5 : OwnRow (colE false w5 base) 22 1 w5 base v5 (s.Z ++ [r1.2]) := ho5.imp_ (fun p cs ⟨v, e, h⟩ => ⟨v, e, h.stay st45⟩)
      have hP5 := (HP.out.below hbr b4).stay st45 (fun b hS hb => hg5.block b hb (fun e => HS.out.1 b e.symm hS))
      refine ⟨i + 1, s.zero r1.2, S, by rw [hwi], hlt, rfl, ⟨by rw [cast_succ]; exact H'.out⟩, ⟨hP5⟩, ⟨HZ5⟩, ⟨fun g hg hS => ?_, fun b hb => ?_⟩, ⟨ST.out.trans ((Stay.of_below hbr b4).trans st45)⟩⟩
      ·rcases hat5 with e | ⟨b, e, hle⟩
       ·exact HS.out.1 g (e ▸ hg) hS
       ·rw [hg] at e
        cases e
        exact absurd (Nat.lt_of_lt_of_le (HS.out.2 g hS) sz4) (Nat.not_lt.mpr hle)
      ·exact Nat.lt_of_lt_of_le (HS.out.2 b hb) (Nat.le_trans sz4 st45.below.size)
    ·rw [if_neg hz] at H
     by_cases hrk : rowOk (lastR r1.1)
     ·rw [if_pos hrk] at H
      have hzb : ((r1.1.length : Int) == 0) = false := by simp [hz]
      have H' := As.mk H
      clear H
      go_wp2_with (first | (go_at_call 72; refine (clone_calls Aj cj c _ hCj ljc hcl1).mono ?_; rintro e w2 ⟨v2, rfl, hR2, hb2⟩; have b23 : Below wr.heap.size wr (w2.alloc (.cells #[.int .i64 i, .int .i64 1] 45)) := hb2.alloc hb2.size _; have hPV := (HP.out.below hbr b23).read; have hRc := Kd.R_lower (Kd.R_alloc hR2 (.cells #[.int .i64 i, .int .i64 1] 45)) hbr; have hRx := lit_R w2 base (Nat.le_trans hbr hb2.size) i) | (go_at_call 71; refine (clear_calls k (base + 1) p s.mp s.L s.U base _ _ c [⟨i, 1⟩] r1 _ hPV (Nat.le_trans hbr b23.size) hRc hRx hr1).mono ?_; rintro e w4 ⟨v8, v9, rfl, hR8, hR9, hb4⟩; have b4 : Below wr.heap.size wr w4 := b23.trans (hb4.mono b23.size); obtain ⟨A8, c8, rfl⟩ := Kd.R_slice hR8; obtain ⟨A9, c9, rfl⟩ := Kd.R_slice hR9) | (go_at_call 70; refine (put_calls base (base + 1) p s.mp s.L s.U S _ _ r1.1 r1.2 _ (Nat.le_trans hbr b4.size) (HP.out.below hbr b4) (RowV.of_R hR8) (RowV.of_R hR9) (by omega) hrk hs1 hs2).mono ?_; rintro e w5 ⟨⟨v, rfl⟩, hP5, st5, fr5⟩))
      have hwi : wrap64 ((i : Int) + 1) = ((i + 1 : Nat) : Int) := wrap_succ hlt (Kd.C_max hC)
      go_roundg (l.length - (i + 1))
      case measure => exact step_down hlt hk
      case rel =>
       have sz4 := b4.size
       have ltz : ∀ g, u5.ownBlock = some g → g < wr.heap.size := fun g hg => by
        obtain ⟨⟨cs, hcs⟩, _⟩ := own_blk22 HZ.out hg
        exact blk_lt hcs
       have HZ4 := own_stay HZ.out (Stay.of_below hbr b4) (fun g hg => b4.block g (ltz g hg))
       have HZ5 := own_stay HZ4 st5 (fun g hg => fr5 g (Nat.lt_of_lt_of_le (ltz g hg) sz4) (HS.out.1 g hg))
       refine ⟨i + 1, s.put r1.1 r1.2, _, by rw [hwi], hlt, rfl, ⟨by rw [cast_succ]; exact H'.out⟩, ⟨hP5⟩, ⟨HZ5⟩, ⟨fun g hg hS => ?_, fun b hb => ?_⟩, ⟨ST.out.trans ((Stay.of_below hbr b4).trans st5)⟩⟩
       ·rcases hS with hS | ⟨h1, _⟩
        ·exact HS.out.1 g hg hS
        ·exact absurd h1 (Nat.not_le_of_lt (Nat.lt_of_lt_of_le (ltz g hg) sz4))
       ·rcases hb with hb | ⟨_, h2⟩
        ·exact Nat.lt_of_lt_of_le (HS.out.2 b hb) (Nat.le_trans sz4 st5.below.size)
        ·exact h2
     ·rw [if_neg hrk] at H; cases H
   ·rw [if_neg hsm] at H; cases H
  ·obtain rfl : i = l.length := by omega
   have H := HA.out
   rw [List.drop_length] at H
   cases H
   go_wp2
   go_ret2
   exact ⟨base + 1, _, S, rfl, by rw [hbs]; exact HP.out, by rw [hbs]; exact HZ.out, by rw [hbs]; exact ST.out⟩
end Go.Proofs.Ytojnnfhalpefmaa.H
end

section
namespace Go.Proofs.Ytojnnfhalpefmaa.H
open Go.RowKit Go.Proofs.YtojnnfhalpefmaaW.PrintWords Go.Proofs.YtojnnfhalpefmaaW.PrintLast Go.Proofs.YtojnnfhalpefmaaW.PrintMore Go.Proofs.Ytojnnfhalpefmaa.M
theorem wrap_pred {n : Nat} (h : 0 < n) (hn : n ≤ 9223372036854775807) : IntKind.i64.wrap ((n : Int) - 1) = (n : Int) - 1 := by
 rw [i64_w]
 unfold wrap64
 omega
theorem pred_toNat {n : Nat} (h : 0 < n) : ((n : Int) - 1).toNat = n - 1 := by omega
set_option maxHeartbeats 4000000 in
set_option maxRecDepth 100000 in
theorem cmp2_calls (A B : Option Addr) (ca cb : Nat) (a b : List S45) (w : World) (hA : k45.C w A a.length a) (hB : k45.C w B b.length b) (ha : 0 < a.length) (hb : 0 < b.length) :
  Calls Try.prog 81 #[.slice A a.length ca, .slice B b.length cb] w fun e w' => e = .returned (.int .i64 (wrap64 (lastR a - lastR b))) ∧ ∃ m, w' = w.drewN m := by
 obtain ⟨d1, e1, x0, x1⟩ := at_T45 hA ((a.length : Int) - 1) (by omega) (by omega)
 obtain ⟨d2, e2, y0, y1⟩ := at_T45 hB ((b.length : Int) - 1) (by omega) (by omega)
 subst e1
 subst e2
 rw [pred_toNat ha] at x0 x1
 rw [pred_toNat hb] at y0 y1
 have ma := Kd.C_max hA
 have mb := Kd.C_max hB
 have wa := wrap_pred ha ma
 have wb := wrap_pred hb mb
 have ja : (1 : Int) ≤ (a.length : Int) := by omega
 have jb : (1 : Int) ≤ (b.length : Int) := by omega
 unfold lastR
 obtain ⟨s, hs⟩ : ∃ s, rd_T45 a ((a.length : Int) - 1) = s := ⟨_, rfl⟩
 obtain ⟨t, ht⟩ : ∃ t, rd_T45 b ((b.length : Int) - 1) = t := ⟨_, rfl⟩
 rw [hs] at x0 x1 ⊢
 rw [ht] at y0 y1 ⊢
 go_enter Try.func81, Try.ntmps81
 go_wp2
 go_quiet (fail)
 go_wp2
 go_ret
 exact ⟨by first | rfl | (rw [i64_w]) | (simp only [i64_w]; done) | (congr 2; done), _, rfl⟩
end Go.Proofs.Ytojnnfhalpefmaa.H
end

section
namespace Go.Proofs.Ytojnnfhalpefmaa.H
open Go.RowKit Go.Proofs.YtojnnfhalpefmaaW.PrintWords Go.Proofs.YtojnnfhalpefmaaW.PrintLast Go.Proofs.YtojnnfhalpefmaaW.PrintMore Go.Proofs.Ytojnnfhalpefmaa.M
theorem getD_lt {α : Type} {l : List α} {j : Nat} (d : α) (hj : j < l.length) : l.getD j d = l[j] := by rw [List.getD_eq_getElem?_getD, List.getElem?_eq_getElem hj]; rfl
def swapL (L : List (List S45)) (j : Nat) : List (List S45) := (L.set j (L.getD (j - 1) [])).set (j - 1) (L.getD j [])
def insIn : Nat → List (List S45) → List (List S45)
  | 0, L => L
  | j + 1, L => if wrap64 (lastR (L.getD (j + 1) []) - lastR (L.getD j [])) < 0 then insIn j (swapL L (j + 1)) else L
def insOut : Nat → Nat → List (List S45) → List (List S45)
  | 0, _, L => L
  | k + 1, i, L => insOut k (i + 1) (insIn i L)
def sortL (L : List (List S45)) : List (List S45) := insOut (L.length - 1) 1 L
theorem swapL_len (L : List (List S45)) (j : Nat) : (swapL L j).length = L.length := by simp [swapL]
theorem insIn_len : ∀ (j : Nat) (L : List (List S45)), (insIn j L).length = L.length
  | 0, L => rfl
  | j + 1, L => by
    unfold insIn
    split
    · rw [insIn_len j, swapL_len]
    · rfl
theorem insOut_len : ∀ (k i : Nat) (L : List (List S45)), (insOut k i L).length = L.length
  | 0, _, L => rfl
  | k + 1, i, L => by unfold insOut; rw [insOut_len k, insIn_len]
theorem sortL_len (L : List (List S45)) : (sortL L).length = L.length := insOut_len _ _ _
theorem swapL_mem {L : List (List S45)} {j : Nat} (hj : j < L.length) {c : List S45} (h : c ∈ swapL L j) : c ∈ L := by
  unfold swapL at h
  rcases List.mem_or_eq_of_mem_set h with h | h
  · rcases List.mem_or_eq_of_mem_set h with h | h
    · exact h
    · subst h
      rw [getD_lt _ (show j - 1 < L.length by omega)]
      exact List.getElem_mem _
  · subst h
    rw [getD_lt _ hj]
    exact List.getElem_mem _
def SRow (W : World) (base g cap : Nat) (vs : List Value) (L : List (List S45)) : Prop :=
  base ≤ g ∧ W.ownsRow base 22 1 (.slice (some ⟨g, 0, none⟩) L.length cap) L.length vs ∧ vs.length = L.length ∧ ∀ j, j < L.length → RowV false W base (vs.getD j (.slice none 0 0)) (L.getD j [])
def swapV (vs : List Value) (j : Nat) : List Value := (vs.set j (vs.getD (j - 1) (.slice none 0 0))).set (j - 1) (vs.getD j (.slice none 0 0))
def swapW (W : World) (g : Nat) (vs : List Value) (j : Nat) : World := (W.setCell ⟨g, j, none⟩ (vs.getD (j - 1) (.slice none 0 0))).setCell ⟨g, j - 1, none⟩ (vs.getD j (.slice none 0 0))
theorem getD_set {α : Type} (l : List α) (i j : Nat) (x d : α) (hj : j < l.length) : (l.set i x).getD j d = if i = j then x else l.getD j d := by
  rw [getD_lt _ (by simpa using hj), List.getElem_set, getD_lt _ hj]
theorem SRow.typed {W : World} {base g cap : Nat} {vs : List Value} {L : List (List S45)} (h : SRow W base g cap vs L) : ∃ cs, W.heap[g]? = some (.cells cs 22 (0, 0)) := own_typed h.2.1 g rfl
theorem SRow.stay {W W' : World} {base g cap : Nat} {vs : List Value} {L : List (List S45)} (h : SRow W base g cap vs L) (hs : Stay base W W') (hg : W'.heap[g]? = W.heap[g]?) : SRow W' base g cap vs L :=
  ⟨h.1, own_move h.2.1 (fun k hk => by obtain rfl : g = k := by simpa [Value.ownBlock] using hk
                                       exact hg), h.2.2.1, fun j hj => (h.2.2.2 j hj).stay hs⟩
theorem SRow.cell {W : World} {base g cap : Nat} {vs : List Value} {L : List (List S45)} (h : SRow W base g cap vs L) {j : Nat} (hj : j < L.length) : W.cell? ⟨g, j, none⟩ = some (vs.getD j (.slice none 0 0)) := by
  rw [h.2.1.cellAt j (by omega), List.getD_eq_getElem?_getD, List.getElem?_eq_getElem (by rw [h.2.2.1]; exact hj)]
  rfl
theorem SRow.swap {W : World} {base g cap : Nat} {vs : List Value} {L : List (List S45)} (h : SRow W base g cap vs L) {j : Nat} (h0 : 0 < j) (hj : j < L.length) :
    SRow (swapW W g vs j) base g cap (swapV vs j) (swapL L j) ∧ Stay base W (swapW W g vs j) ∧ (swapW W g vs j).heap.size = W.heap.size := by
  obtain ⟨hb, ho, hl, hr⟩ := h
  obtain ⟨cs, hcs⟩ := own_typed ho g rfl
  have o1 := ho.stored j (vs.getD (j - 1) (.slice none 0 0))
  have o2 := o1.1.stored (j - 1) (vs.getD j (.slice none 0 0))
  have st1 : Stay base W (W.setCell ⟨g, j, none⟩ (vs.getD (j - 1) (.slice none 0 0))) := stay_set hcs (by decide) hb _ _
  obtain ⟨cs1, hcs1⟩ := own_typed o1.1 g rfl
  have st2 : Stay base (W.setCell ⟨g, j, none⟩ (vs.getD (j - 1) (.slice none 0 0))) (swapW W g vs j) := stay_set hcs1 (by decide) hb _ _
  have st := st1.trans st2
  refine ⟨⟨hb, ?_, by simp [swapV, swapL, hl], fun i hi => ?_⟩, st, by simp [swapW]⟩
  · rw [swapL_len]; exact o2.1
  · rw [swapL_len] at hi
    unfold swapV swapL
    have q1 : i < vs.length := by omega
    rw [getD_set _ _ _ _ _ (by rw [List.length_set]; exact q1), getD_set _ _ _ _ _ q1, getD_set _ _ _ _ _ (by rw [List.length_set]; exact hi), getD_set _ _ _ _ _ hi]
    split
    · exact (hr j hj).stay st
    · split
      · exact (hr (j - 1) (by omega)).stay st
      · exact (hr i hi).stay st
theorem Stay.drewN {base : Nat} {W W' : World} (h : Stay base W W') (n : Nat) : Stay base W (W'.drewN n) := h.trans ⟨⟨rfl, rfl, rfl, Nat.le_refl _, fun _ _ => rfl⟩, fun _ _ => rfl⟩
theorem SRow.drewN {W : World} {base g cap : Nat} {vs : List Value} {L : List (List S45)} (h : SRow W base g cap vs L) (n : Nat) : SRow (W.drewN n) base g cap vs L := h.stay ((Stay.refl _ _).drewN n) rfl
theorem insIn_lt {j : Nat} {L : List (List S45)} (h : wrap64 (lastR (L.getD (j + 1) []) - lastR (L.getD j [])) < 0) : insIn (j + 1) L = insIn j (swapL L (j + 1)) := by rw [insIn, if_pos h]
theorem insIn_ge {j : Nat} {L : List (List S45)} (h : ¬ wrap64 (lastR (L.getD (j + 1) []) - lastR (L.getD j [])) < 0) : insIn (j + 1) L = L := by rw [insIn, if_neg h]
set_option maxHeartbeats 8000000 in
set_option maxRecDepth 100000 in
theorem ins_calls (base g cap : Nat) (vs : List Value) (L : List (List S45)) (w : World) (hw : base ≤ w.heap.size) (hS : SRow w base g cap vs L) (hne : ∀ c ∈ L, 0 < c.length) (hL : L.length ≤ 1000000) :
    Calls Try.prog 92 #[.slice (some ⟨g, 0, none⟩) L.length cap, .int .i64 0, .int .i64 L.length, .func (.func 81) #[] #[]] w fun e w' => (∃ v, e = .returned v) ∧ (∃ vs', SRow w' base g cap vs' (sortL L)) ∧ Stay base w w' ∧ w'.heap.size = w.heap.size := by
  go_enter Try.func92, Try.ntmps92
  go_wp2
  go_loopg [8] (L.length - 1) (fun kq v8 wr => ∃ (i : Nat) (vs' : List Value) (L' : List (List S45)), v8 = .int .i64 i ∧ 1 ≤ i ∧ kq = L.length - i ∧ L'.length = L.length ∧ As (∀ c ∈ L', 0 < c.length) ∧ As (insOut (L.length - i) i L' = sortL L) ∧ As (SRow wr base g cap vs' L') ∧ As (Stay base w wr) ∧ wr.heap.size = w.heap.size)
  case atStart => exact ⟨1, vs, L, rfl, Nat.le_refl _, rfl, rfl, ⟨hne⟩, ⟨rfl⟩, ⟨hS⟩, ⟨Stay.refl _ _⟩, rfl⟩
  case round =>
    clear hS hne
    obtain ⟨i, vs1, L1, rfl, h1, hk, hlen, HN, HI, HS, ST, hsz⟩ := hrel
    by_cases hlt : i < L.length
    · have hltb : decide ((i : Int) < (L.length : Int)) = true := decide_eq_true (by omega)
      have hd : L.length - i = (L.length - (i + 1)) + 1 := by omega
      have HJ := As.mk HI.out
      go_wp2
      go_loopg [9] i (fun kq v9 wj => ∃ (j : Nat) (vs' : List Value) (L' : List (List S45)), v9 = .int .i64 j ∧ j ≤ i ∧ kq = j ∧ L'.length = L.length ∧ As (∀ c ∈ L', 0 < c.length) ∧ As (insIn j L' = insIn i L1) ∧ As (SRow wj base g cap vs' L') ∧ As (Stay base w wj) ∧ wj.heap.size = w.heap.size)
      case atStart => exact ⟨i, vs1, L1, rfl, Nat.le_refl _, rfl, hlen, HN, ⟨rfl⟩, HS, ST, hsz⟩
      case round =>
        clear HS HN HI ST
        obtain ⟨j, vs2, L2, rfl, hji, hkj, hlen2, HN, HI, HS, ST, hsz2⟩ := hrel
        by_cases hj : 0 < j
        · have hjb : decide ((0 : Int) < (j : Int)) = true := decide_eq_true (by omega)
          have hjl : j < L2.length := by omega
          have c1 := HS.out.cell hjl
          have c2 := HS.out.cell (show j - 1 < L2.length by omega)
          obtain ⟨A1, k1, e1, m1, r1, _⟩ := HS.out.2.2.2 j hjl
          obtain ⟨A2, k2, e2, m2, r2, _⟩ := HS.out.2.2.2 (j - 1) (by omega)
          have f1 := HS.out.2.1.frozenAt j
          have f2 := HS.out.2.1.frozenAt (j - 1)
          have p1 : 0 < (L2.getD j []).length := HN.out _ (by rw [getD_lt _ hjl]; exact List.getElem_mem _)
          have p2 : 0 < (L2.getD (j - 1) []).length := HN.out _ (by rw [getD_lt _ (show j - 1 < L2.length by omega)]; exact List.getElem_mem _)
          obtain ⟨a, ha⟩ : ∃ a, L2.getD j [] = a := ⟨_, rfl⟩
          obtain ⟨b, hb⟩ : ∃ b, L2.getD (j - 1) [] = b := ⟨_, rfl⟩
          rw [ha] at e1 m1 r1 p1
          rw [hb] at e2 m2 r2 p2
          rw [e1] at c1
          rw [e2] at c2
          have hj1 : (1 : Int) ≤ (j : Int) := by omega
          have hj2 : (j : Int) < (L.length : Int) := by omega
          by_cases hc : wrap64 (lastR a - lastR b) < 0
          · have hcb : decide (wrap64 (lastR a - lastR b) < 0) = true := decide_eq_true hc
            go_wp2
            go_quiet (first | (go_at_call 81; (with_reducible refine (cmp2_calls A1 A2 k1 k2 a b _ ?sa ?sb p1 p2).mono ?_); (case sa => repeat (first | exact r1 | (with_reducible refine Kd.C_drewN ?_ _) | (with_reducible refine Kd.C_drew ?_))); (case sb => repeat (first | exact r2 | (with_reducible refine Kd.C_drewN ?_ _) | (with_reducible refine Kd.C_drew ?_))); rintro e w' ⟨rfl, ⟨nd, rfl⟩⟩; (try first | exact ⟨rfl, _, World.drewN_drewN _ _ _⟩ | exact ⟨rfl, _, Eq.trans (World.drewN_drewN _ _ _) (congrArg (World.drewN _) (Nat.add_assoc _ _ _))⟩)))
            go_wp2
            go_region
            go_wp2
            go_roundg (j - 1)
            case measure => omega
            case rel =>
              obtain ⟨q1, q2, q3⟩ := (HS.out.drewN (nq + 1)).swap hj hjl
              have hwd : swapW (wr.drewN (nq + 1)) g vs2 j = ((wr.drewN (nq + 1)).setCell ⟨g, j, none⟩ (.slice A2 b.length k2)).setCell ⟨g, j - 1, none⟩ (.slice A1 a.length k1) := by rw [swapW, e1, e2]
              rw [hwd] at q1 q2 q3
              refine ⟨j - 1, swapV vs2 j, swapL L2 j, ?_, by omega, rfl, by rw [swapL_len]; exact hlen2, ⟨fun c hc' => HN.out c (swapL_mem hjl hc')⟩, ⟨?_⟩, ⟨q1⟩, ⟨(ST.out.drewN _).trans q2⟩, q3.trans hsz2⟩
              · rw [show ((j - 1 : Nat) : Int) = (j : Int) - 1 by omega]
              · obtain ⟨j0, rfl⟩ : ∃ j0, j = j0 + 1 := ⟨j - 1, by omega⟩
                rw [Nat.add_sub_cancel] at hb ⊢
                rw [← insIn_lt (by rw [ha, hb]; exact hc)]
                exact HI.out
          · have hcb : decide (wrap64 (lastR a - lastR b) < 0) = false := decide_eq_false hc
            have hlast : insIn j L2 = L2 := by
              obtain ⟨j0, rfl⟩ : ∃ j0, j = j0 + 1 := ⟨j - 1, by omega⟩
              rw [Nat.add_sub_cancel] at hb
              exact insIn_ge (by rw [ha, hb]; exact hc)
            have HL := As.mk hlast
            clear hlast
            go_wp2
            go_quiet (first | (go_at_call 81; (with_reducible refine (cmp2_calls A1 A2 k1 k2 a b _ ?sa ?sb p1 p2).mono ?_); (case sa => repeat (first | exact r1 | (with_reducible refine Kd.C_drewN ?_ _) | (with_reducible refine Kd.C_drew ?_))); (case sb => repeat (first | exact r2 | (with_reducible refine Kd.C_drewN ?_ _) | (with_reducible refine Kd.C_drew ?_))); rintro e w' ⟨rfl, ⟨nd, rfl⟩⟩; (try first | exact ⟨rfl, _, World.drewN_drewN _ _ _⟩ | exact ⟨rfl, _, Eq.trans (World.drewN_drewN _ _ _) (congrArg (World.drewN _) (Nat.add_assoc _ _ _))⟩)))
            go_wp2
            go_roundg (L.length - (i + 1))
            case measure => omega
            case rel =>
              refine ⟨i + 1, vs2, L2, rfl, by omega, rfl, hlen2, HN, ⟨?_⟩, ⟨?_⟩, ⟨?_⟩, hsz2⟩
              · have h := HJ.out
                rw [hd, insOut, ← HI.out, HL.out] at h
                exact h
              · exact HS.out.drewN _
              · exact ST.out.drewN _
        · have hjb : decide ((0 : Int) < (j : Int)) = false := decide_eq_false (by omega)
          go_wp2
          go_quiet (fail)
          go_wp2
          go_roundg (L.length - (i + 1))
          case measure => omega
          case rel =>
            refine ⟨i + 1, vs2, L2, rfl, by omega, rfl, hlen2, HN, ⟨?_⟩, ⟨HS.out.drewN _⟩, ⟨ST.out.drewN _⟩, hsz2⟩
            have h := HJ.out
            obtain rfl : j = 0 := by omega
            rw [hd, insOut, ← HI.out] at h
            exact h
    · have hltb : decide ((i : Int) < (L.length : Int)) = false := decide_eq_false (by omega)
      obtain ⟨vs2, hS2⟩ : ∃ v, SRow wr base g cap v (sortL L) := ⟨vs1, by
        have h := HI.out
        rw [show L.length - i = 0 by omega, insOut] at h
        rw [← h]; exact HS.out⟩
      go_wp2
      go_end0
      exact ⟨⟨_, rfl⟩, ⟨vs2, hS2⟩, ST.out, hsz⟩
end Go.Proofs.Ytojnnfhalpefmaa.H
end

section
namespace Go.Proofs.Ytojnnfhalpefmaa.H
open Go.RowKit Go.Proofs.YtojnnfhalpefmaaW.PrintWords Go.Proofs.YtojnnfhalpefmaaW.PrintLast Go.Proofs.YtojnnfhalpefmaaW.PrintMore Go.Proofs.Ytojnnfhalpefmaa.M
def tab101 : ByteArray := ⟨List.toArray (List.append (List.append [0, 1, 2, 2, 3, 3, 3, 3, 4, 4, 4, 4, 4, 4, 4, 4, 5, 5, 5, 5, 5, 5, 5, 5, 5, 5, 5, 5, 5, 5, 5, 5, 6, 6, 6, 6, 6, 6, 6, 6, 6, 6, 6, 6, 6, 6, 6, 6, 6, 6, 6, 6, 6, 6, 6, 6, 6, 6, 6, 6, 6, 6, 6, 6] [7, 7, 7, 7, 7, 7, 7, 7, 7, 7, 7, 7, 7, 7, 7, 7, 7, 7, 7, 7, 7, 7, 7, 7, 7, 7, 7, 7, 7, 7, 7, 7, 7, 7, 7, 7, 7, 7, 7, 7, 7, 7, 7, 7, 7, 7, 7, 7, 7, 7, 7, 7, 7, 7, 7, 7, 7, 7, 7, 7, 7, 7, 7, 7]) (List.append [8, 8, 8, 8, 8, 8, 8, 8, 8, 8, 8, 8, 8, 8, 8, 8, 8, 8, 8, 8, 8, 8, 8, 8, 8, 8, 8, 8, 8, 8, 8, 8, 8, 8, 8, 8, 8, 8, 8, 8, 8, 8, 8, 8, 8, 8, 8, 8, 8, 8, 8, 8, 8, 8, 8, 8, 8, 8, 8, 8, 8, 8, 8, 8] [8, 8, 8, 8, 8, 8, 8, 8, 8, 8, 8, 8, 8, 8, 8, 8, 8, 8, 8, 8, 8, 8, 8, 8, 8, 8, 8, 8, 8, 8, 8, 8, 8, 8, 8, 8, 8, 8, 8, 8, 8, 8, 8, 8, 8, 8, 8, 8, 8, 8, 8, 8, 8, 8, 8, 8, 8, 8, 8, 8, 8, 8, 8, 8]))⟩
theorem tab101_size : tab101.size = 256 := by kernel_rfl
def code101 (tab : Operand) : Code := (Code.seq (Code.region 0 #[{ dst := some 2, op := Op.assign (Operand.const (Value.int IntKind.i64 0)), type := 3, pos := "bits.go:337", after := #[], guard := none }] false) (Code.seq (Code.seq (Code.region 1 #[{ dst := some 3, op := Op.move (Operand.tmp 0), type := 119, pos := "bits.go:338", after := #[], guard := none }, { dst := some 4, op := Op.binOp BinOp.geq 119 (Operand.tmp 3) (Operand.const (Value.int IntKind.u64 4294967296)) 119, type := 4, pos := "bits.go:338", after := #[{ on := 0, ground := Ground.data }], guard := none }] false) (Code.cond (Operand.tmp 4) (Code.seq (Code.region 2 #[{ dst := some 5, op := Op.move (Operand.tmp 0), type := 119, pos := "bits.go:339", after := #[], guard := none }, { dst := some 6, op := Op.binOp BinOp.shr 119 (Operand.tmp 5) (Operand.const (Value.int IntKind.u64 32)) 108, type := 119, pos := "bits.go:339", after := #[{ on := 0, ground := Ground.data }], guard := none }, { dst := some 0, op := Op.assign (Operand.tmp 6), type := 119, pos := "bits.go:339", after := #[{ on := 1, ground := Ground.data }, { on := 0, ground := Ground.phase }, { on := 1, ground := Ground.phase }], guard := none }] false) (Code.region 3 #[{ dst := some 2, op := Op.assign (Operand.const (Value.int IntKind.i64 32)), type := 3, pos := "bits.go:340", after := #[], guard := none }] false)) Code.skip)) (Code.seq (Code.seq (Code.region 4 #[{ dst := some 7, op := Op.move (Operand.tmp 0), type := 119, pos := "bits.go:342", after := #[], guard := none }, { dst := some 8, op := Op.binOp BinOp.geq 119 (Operand.tmp 7) (Operand.const (Value.int IntKind.u64 65536)) 119, type := 4, pos := "bits.go:342", after := #[{ on := 0, ground := Ground.data }], guard := none }] false) (Code.cond (Operand.tmp 8) (Code.seq (Code.region 5 #[{ dst := some 9, op := Op.move (Operand.tmp 0), type := 119, pos := "bits.go:343", after := #[], guard := none }, { dst := some 10, op := Op.binOp BinOp.shr 119 (Operand.tmp 9) (Operand.const (Value.int IntKind.u64 16)) 108, type := 119, pos := "bits.go:343", after := #[{ on := 0, ground := Ground.data }], guard := none }, { dst := some 0, op := Op.assign (Operand.tmp 10), type := 119, pos := "bits.go:343", after := #[{ on := 1, ground := Ground.data }, { on := 0, ground := Ground.phase }, { on := 1, ground := Ground.phase }], guard := none }] false) (Code.region 6 #[{ dst := some 11, op := Op.move (Operand.tmp 2), type := 3, pos := "bits.go:344", after := #[], guard := none }, { dst := some 12, op := Op.binOp BinOp.add 3 (Operand.tmp 11) (Operand.const (Value.int IntKind.i64 16)) 3, type := 3, pos := "bits.go:344", after := #[{ on := 0, ground := Ground.data }], guard := none }, { dst := some 2, op := Op.assign (Operand.tmp 12), type := 3, pos := "bits.go:344", after := #[{ on := 1, ground := Ground.data }, { on := 0, ground := Ground.phase }, { on := 1, ground := Ground.phase }], guard := none }] false)) Code.skip)) (Code.seq (Code.seq (Code.region 7 #[{ dst := some 13, op := Op.move (Operand.tmp 0), type := 119, pos := "bits.go:346", after := #[], guard := none }, { dst := some 14, op := Op.binOp BinOp.geq 119 (Operand.tmp 13) (Operand.const (Value.int IntKind.u64 256)) 119, type := 4, pos := "bits.go:346", after := #[{ on := 0, ground := Ground.data }], guard := none }] false) (Code.cond (Operand.tmp 14) (Code.seq (Code.region 8 #[{ dst := some 15, op := Op.move (Operand.tmp 0), type := 119, pos := "bits.go:347", after := #[], guard := none }, { dst := some 16, op := Op.binOp BinOp.shr 119 (Operand.tmp 15) (Operand.const (Value.int IntKind.u64 8)) 108, type := 119, pos := "bits.go:347", after := #[{ on := 0, ground := Ground.data }], guard := none }, { dst := some 0, op := Op.assign (Operand.tmp 16), type := 119, pos := "bits.go:347", after := #[{ on := 1, ground := Ground.data }, { on := 0, ground := Ground.phase }, { on := 1, ground := Ground.phase }], guard := none }] false) (Code.region 9 #[{ dst := some 17, op := Op.move (Operand.tmp 2), type := 3, pos := "bits.go:348", after := #[], guard := none }, { dst := some 18, op := Op.binOp BinOp.add 3 (Operand.tmp 17) (Operand.const (Value.int IntKind.i64 8)) 3, type := 3, pos := "bits.go:348", after := #[{ on := 0, ground := Ground.data }], guard := none }, { dst := some 2, op := Op.assign (Operand.tmp 18), type := 3, pos := "bits.go:348", after := #[{ on := 1, ground := Ground.data }, { on := 0, ground := Ground.phase }, { on := 1, ground := Ground.phase }], guard := none }] false)) Code.skip)) (Code.seq (Code.region 10 #[{ dst := some 19, op := Op.move (Operand.tmp 2), type := 3, pos := "bits.go:350", after := #[], guard := none }, { dst := some 20, op := Op.move (Operand.tmp 0), type := 119, pos := "bits.go:350", after := #[], guard := none }, { dst := some 21, op := Op.convert 119 5 (Operand.tmp 20), type := 5, pos := "bits.go:350", after := #[{ on := 1, ground := Ground.data }], guard := none }, { dst := some 22, op := Op.index 9 tab (Operand.tmp 21), type := 5, pos := "bits.go:350", after := #[{ on := 2, ground := Ground.data }], guard := none }, { dst := some 23, op := Op.convert 5 3 (Operand.tmp 22), type := 3, pos := "bits.go:350", after := #[{ on := 3, ground := Ground.data }], guard := none }, { dst := some 24, op := Op.binOp BinOp.add 3 (Operand.tmp 19) (Operand.tmp 23) 3, type := 3, pos := "bits.go:350", after := #[{ on := 0, ground := Ground.data }, { on := 4, ground := Ground.data }], guard := none }, { dst := some 2, op := Op.assign (Operand.tmp 24), type := 3, pos := "bits.go:350", after := #[{ on := 5, ground := Ground.data }, { on := 0, ground := Ground.phase }, { on := 1, ground := Ground.phase }, { on := 2, ground := Ground.phase }, { on := 3, ground := Ground.phase }, { on := 4, ground := Ground.phase }, { on := 5, ground := Ground.phase }], guard := none }] false) Code.ret)))))
set_option maxHeartbeats 4000000 in
set_option maxRecDepth 100000 in
theorem len64_aux (s : ByteArray) (hs : s.size = 256) (hf : Try.prog.funcs[101]? = some { Try.f101 with body := some (code101 (.const (.string s))) }) (n : Nat) (hn : n < 256) (w : World) : Calls Try.prog 101 #[.int .u64 n] w fun e w' => ∃ r : Int, e = .returned (.int .i64 r) ∧ ∃ m, w' = w.drewN m := by
  have h1 : decide ((4294967296 : Int) ≤ (n : Int)) = false := decide_eq_false (by omega)
  have h2 : decide ((65536 : Int) ≤ (n : Int)) = false := decide_eq_false (by omega)
  have h3 : decide ((256 : Int) ≤ (n : Int)) = false := decide_eq_false (by omega)
  have h4 : ((n : Int) % 256) = (n : Int) := by omega
  refine calls_of_wp hf rfl ?_
  dsimp only [code101]
  simp only [Try.ntmps101, List.size_toArray, List.length_cons, List.length_nil, Nat.reduceAdd, Nat.reduceSub, Array.replicate_succ,
     Array.replicate_zero, List.push_toArray, List.append_toArray, List.nil_append, List.cons_append]
  clear hf
  go_wp2
  go_ret
  exact ⟨_, rfl, 0, rfl⟩
theorem len64_calls (n : Nat) (hn : n < 256) (w : World) : Calls Try.prog 101 #[.int .u64 n] w fun e w' => ∃ r : Int, e = .returned (.int .i64 r) ∧ ∃ m, w' = w.drewN m :=
  len64_aux tab101 tab101_size (by have h := Try.func101; exact h.trans (by kernel_rfl)) n hn w
set_option maxHeartbeats 4000000 in
set_option maxRecDepth 100000 in
theorem len_calls (n : Nat) (hn : n < 256) (w : World) : Calls Try.prog 89 #[.int .u64 n] w fun e w' => ∃ r : Int, e = .returned (.int .i64 r) ∧ ∃ m, w' = w.drewN m := by
  go_enter Try.func89, Try.ntmps89
  go_wp2_with (go_at_call 101; refine (len64_calls n hn _).mono ?_; rintro e w' ⟨r, rfl, m, rfl⟩)
  go_ret
  exact ⟨_, rfl, m, rfl⟩
set_option maxHeartbeats 8000000 in
set_option maxRecDepth 100000 in
theorem pdq_calls (base g cap : Nat) (vs : List Value) (L : List (List S45)) (lim : Int) (w : World) (hw : base ≤ w.heap.size) (hS : SRow w base g cap vs L) (hne : ∀ c ∈ L, 0 < c.length) (hL : L.length ≤ 12) :
    Calls Try.prog 88 #[.slice (some ⟨g, 0, none⟩) L.length cap, .int .i64 0, .int .i64 L.length, .int .i64 lim, .func (.func 81) #[] #[]] w fun e w' => (∃ v, e = .returned v) ∧ (∃ vs', SRow w' base g cap vs' (sortL L)) ∧ Stay base w w' ∧ w'.heap.size = w.heap.size := by
  have hS' := As.mk hS
  have hne' := As.mk hne
  clear hS hne
  go_enter Try.func88, Try.ntmps88
  go_wp2
  go_loopg [1, 2] 1 (fun k v1 v2 wr => v1 = .int .i64 0 ∧ v2 = .int .i64 L.length ∧ wr = w)
  case atStart => exact ⟨rfl, rfl, rfl⟩
  case round =>
    obtain ⟨rfl, rfl, rfl⟩ := hrel
    have hlb : decide ((L.length : Int) ≤ 12) = true := decide_eq_true (by omega)
    go_wp2_with (go_at_call 92; refine (ins_calls base g cap vs L _ hw hS'.out hne'.out (by omega)).mono ?_; rintro e w' ⟨⟨v, rfl⟩, hS2, st2, sz2⟩)
    refine bodyPost_ret (results_none rfl _ _ _) rfl ?_
    exact ⟨⟨_, rfl⟩, hS2, st2, sz2⟩
set_option maxHeartbeats 8000000 in
set_option maxRecDepth 100000 in
theorem sort_calls (base g cap : Nat) (vs : List Value) (L : List (List S45)) (w : World) (hw : base ≤ w.heap.size) (hS : SRow w base g cap vs L) (hne : ∀ c ∈ L, 0 < c.length) (hL : L.length ≤ 12) :
    Calls Try.prog 80 #[.slice (some ⟨g, 0, none⟩) L.length cap, .func (.func 81) #[] #[]] w fun e w' => (∃ v, e = .returned v) ∧ (∃ vs', SRow w' base g cap vs' (sortL L)) ∧ Stay base w w' ∧ w'.heap.size = w.heap.size := by
  have hS' := As.mk hS
  have hne' := As.mk hne
  clear hS hne
  go_enter Try.func80, Try.ntmps80
  go_wp2_with (first | (go_at_call 89; refine (len_calls L.length (by omega) _).mono ?_; rintro e w' ⟨r, rfl, m, rfl⟩) | (go_at_call 88; refine (pdq_calls base g cap vs L r (w.drewN m) hw (hS'.out.drewN m) hne'.out hL).mono ?_; rintro e w' ⟨⟨v, rfl⟩, hS2, st2, sz2⟩))
  go_end0
  exact ⟨⟨_, rfl⟩, hS2, ((Stay.refl _ _).drewN _).trans st2, sz2⟩
set_option maxHeartbeats 4000000 in
set_option maxRecDepth 100000 in
theorem ins_none (A : Option Addr) (cap : Nat) (w : World) :
    Calls Try.prog 92 #[.slice A 0 cap, .int .i64 0, .int .i64 0, .func (.func 81) #[] #[]] w fun e w' => (∃ v, e = .returned v) ∧ w' = w := by
  go_enter Try.func92, Try.ntmps92
  go_wp2
  go_loopg [8] 1 (fun k v8 wr => v8 = .int .i64 1 ∧ wr = w)
  case atStart => exact ⟨rfl, rfl⟩
  case round =>
    obtain ⟨rfl, rfl⟩ := hrel
    go_wp2
    go_end0
    exact ⟨⟨_, rfl⟩, rfl⟩
set_option maxHeartbeats 4000000 in
set_option maxRecDepth 100000 in
theorem pdq_none (A : Option Addr) (cap : Nat) (lim : Int) (w : World) :
    Calls Try.prog 88 #[.slice A 0 cap, .int .i64 0, .int .i64 0, .int .i64 lim, .func (.func 81) #[] #[]] w fun e w' => (∃ v, e = .returned v) ∧ w' = w := by
  go_enter Try.func88, Try.ntmps88
  go_wp2
  go_loopg [1, 2] 1 (fun k v1 v2 wr => v1 = .int .i64 0 ∧ v2 = .int .i64 0 ∧ wr = w)
  case atStart => exact ⟨rfl, rfl, rfl⟩
  case round =>
    obtain ⟨rfl, rfl, rfl⟩ := hrel
    go_wp2_with (go_at_call 92; refine (ins_none A cap _).mono ?_; rintro e w' ⟨⟨v, rfl⟩, rfl⟩)
    refine bodyPost_ret (results_none rfl _ _ _) rfl ?_
    exact ⟨⟨_, rfl⟩, rfl⟩
set_option maxHeartbeats 4000000 in
set_option maxRecDepth 100000 in
theorem sort_none (A : Option Addr) (cap : Nat) (w : World) :
    Calls Try.prog 80 #[.slice A 0 cap, .func (.func 81) #[] #[]] w fun e w' => (∃ v, e = .returned v) ∧ ∃ m, w' = w.drewN m := by
  go_enter Try.func80, Try.ntmps80
  go_wp2_with (first | (go_at_call 89; refine (len_calls 0 (by omega) _).mono ?_; rintro e w' ⟨r, rfl, m, rfl⟩) | (go_at_call 88; refine (pdq_none A cap r _).mono ?_; rintro e w' ⟨⟨v, rfl⟩, rfl⟩))
  go_end0
  exact ⟨⟨_, rfl⟩, _, rfl⟩
end Go.Proofs.Ytojnnfhalpefmaa.H
end

section
namespace Go.Proofs.Ytojnnfhalpefmaa.H
open Go.RowKit Go.Proofs.YtojnnfhalpefmaaW.PrintWords Go.Proofs.YtojnnfhalpefmaaW.PrintLast Go.Proofs.YtojnnfhalpefmaaW.PrintMore Go.Proofs.Ytojnnfhalpefmaa.M
theorem C_blk {W : World} {A : Option Addr} {n : Nat} {xs : List S45} (h : k45.C W A n xs) : ∀ ad, A = some ad → 0 < xs.length → ad.block < W.heap.size := by
 intro ad e hp
 subst e
 have hn : xs.length = n := h.1
 obtain ⟨ad', e', x0, _⟩ := at_T45 h 0 (Int.le_refl _) (by omega)
 obtain rfl := Option.some.inj e'
 have := World.block_lt_of_cell? W _ x0
 rwa [add_blk] at this
theorem RowV.of_K {w W : World} {xs : List S45} {cs : List Value} (h : (Kd.slice 45 k45).K w xs cs) (hb : Below w.heap.size w W) : colE false W w.heap.size xs cs := by
 obtain ⟨A, c, rfl, hl, hC⟩ := h
 exact ⟨_, rfl, A, c, rfl, hl, Kd.C_below hC hb, fun ad e hp => .inl (C_blk hC ad e hp), fun e => by cases e⟩
theorem own_C {o : Bool} {W : World} {base : Nat} {v : Value} {L : List (List S45)} (h : OwnRow (colE o W base) 22 1 W base v L) : ∃ A c, v = .slice A L.length c ∧ L.length ≤ c ∧ (Kd.slice 45 k45).C W A L.length L := by
 obtain ⟨A, c, rfl, hc, hA⟩ := h.reads
 refine ⟨A, c, rfl, hc, hA.1, hA.2.1, fun hp => ?_⟩
 obtain ⟨ad, e, hc⟩ := hA.2.2 hp
 refine ⟨ad, e, fun j q hj => ?_⟩
 obtain ⟨cs, h1, ⟨v, rfl, A', c', rfl, h4, h5, _⟩, h3⟩ := hc j q hj
 exact ⟨_, h1, ⟨A', c', rfl, h4, h5⟩, h3⟩
theorem SRow.of_own {W : World} {base g n cap : Nat} {L : List (List S45)} (hn : n = L.length) (h : OwnRow (colE false W base) 22 1 W base (.slice (some ⟨g, 0, none⟩) n cap) L) : ∃ vs, SRow W base g cap vs L := by
 subst hn
 obtain ⟨inner, ho, hr⟩ := h
 have hl : inner.length = L.length := by rw [hr.1, Nat.mul_one]
 obtain ⟨hb, _⟩ := ho.lt g rfl
 refine ⟨inner, hb, ho, hl, fun j hj => ?_⟩
 obtain ⟨v, e, hv⟩ := hr.2 j _ (List.getElem?_eq_getElem hj)
 have hj' : j < inner.length := by omega
 rw [Nat.mul_one, List.drop_eq_getElem_cons hj', List.take_succ_cons, List.take_zero] at e
 rw [getD_lt _ hj', getD_lt _ hj]
 rw [(List.cons.inj e).1]
 exact hv
theorem SRow.own {W : World} {base g cap : Nat} {vs : List Value} {L : List (List S45)} (h : SRow W base g cap vs L) : OwnRow (colE false W base) 22 1 W base (.slice (some ⟨g, 0, none⟩) L.length cap) L := by
 obtain ⟨hb, ho, hl, hr⟩ := h
 refine ⟨vs, ho, by rw [hl, Nat.mul_one], fun j p hj => ?_⟩
 obtain ⟨hj1, rfl⟩ := List.getElem?_eq_some_iff.1 hj
 have hj' : j < vs.length := by omega
 have := hr j hj1
 rw [getD_lt _ hj', getD_lt _ hj1] at this
 rw [Nat.mul_one, List.drop_eq_getElem_cons hj', List.take_succ_cons, List.take_zero]
 exact ⟨_, rfl, this⟩
set_option maxHeartbeats 8000000 in
set_option maxRecDepth 100000 in
theorem clone2_calls (A : Option Addr) (c : Nat) (l : List (List S45)) (w : World) (hC : (Kd.slice 45 k45).C w A l.length l) (hc : l.length ≤ c) (hl : l.length < 1000000) :
  Calls Try.prog 79 #[.slice A l.length c] w fun e w' => ∃ v, e = .returned v ∧ OwnRow (colE false w' w.heap.size) 22 1 w' w.heap.size v l ∧ Below w.heap.size w w' := by
 cases A with
 | some ad =>
  have hq := fun W => Lib.run_eql_slice_nil (P := Try.prog) W 37 22 (some ad) l.length c 0 0 Try.underlying37
  have HC := As.mk hC
  clear hC
  go_enter Try.func79, Try.ntmps79
  go_wp2_with (first | ((with_reducible refine gate_dst (N := 5) rfl ?_); refine Kd.R_lit (Kd.fixed (Kd.slice 45 k45) w) _ 22 ?hg (N := 5) ?hd (xs := ([] : List (List S45))) (inner := []) (ok := fun _ => True) (okp := fun _ => True) ?hr ?hp (fun _ hk => hk) trivial (Below.refl _ _) (Nat.le_refl _) (by simp) ?_; (case hd => rfl); (case hg => rfl); (case hr => first | (go_simp; done) | (go_simp; rfl)); (case hp => exact (Reps.none _ _)); intro v1 w1 ho1 hb1 hg1 hnew1) | ((with_reducible refine gate_builtin (b := .append) (xs := #[.tmp 5, .tmp 6]) rfl ?_); at_builtin; refine Kd.R_append_rows (Kd.fixed (Kd.slice 45 k45) w) (w0 := w) (Rr := (Kd.slice 45 k45).K w) w.heap.size rfl (.tmp 5) (.tmp 6) 37 22 (.slice none 0 0) 24 rfl Try.underlying37 info22 rfl Nat.zero_lt_one (by decide) v1 [] l _ _ _ (fun _ => True) (fun _ => False) rfl rfl ?aO ?aR (fun _ _ h => h) (fun _ h => h.elim) ?aF ?aB ?aS ?aL ?_; (case aR => exact ⟨HC.out.1, HC.out.2.1, fun hp => by obtain ⟨ad', e', hh⟩ := HC.out.2.2 hp; refine ⟨ad', e', fun j p hj => ?_⟩; obtain ⟨cs, h1, h2, h3⟩ := hh j p hj; refine ⟨cs, h1, h2, fun i u hu => ?_⟩; have h4 := h3 i u hu; exact (World.cell?_of_block (hb1.block _ (World.block_lt_of_cell? w _ h4))).trans h4⟩); (case aB => exact hb1); (case aF => exact (fun _ _ => trivial)); (case aO => exact ho1); (case aS => exact hb1.size); (case aL => (simp only [List.length_nil]; omega)); intro v2 w2 ho2 hb2 hg2 hat2))
  go_ret
  refine ⟨_, rfl, ?_, hb2⟩
  rw [List.nil_append] at ho2
  exact ho2.2.imp_ (fun xs cs h => RowV.of_K h hb2)
 | none =>
  have hl0 : l = [] := by
   cases l with
   | nil => rfl
   | cons x l => obtain ⟨_, e, _⟩ := hC.2.2 (by simp); cases e
  subst hl0
  have hq := fun W => Lib.run_eql_slice_nil (P := Try.prog) W 37 22 none 0 c 0 0 Try.underlying37
  go_enter Try.func79, Try.ntmps79
  go_wp2
  go_ret
  exact ⟨_, rfl, OwnRow.none_ _ _ _ _ _, Below.refl _ _⟩
theorem sortAny_calls (base : Nat) (A : Option Addr) (cap : Nat) (L : List (List S45)) (w : World) (hw : base ≤ w.heap.size) (hO : OwnRow (colE false w base) 22 1 w base (.slice A L.length cap) L) (hne : ∀ c ∈ L, 0 < c.length) (hL : L.length ≤ 12) :
  Calls Try.prog 80 #[.slice A L.length cap, .func (.func 81) #[] #[]] w fun e w' => (∃ v, e = .returned v) ∧ OwnRow (colE false w' base) 22 1 w' base (.slice A L.length cap) (sortL L) ∧ Stay base w w' ∧ w'.heap.size = w.heap.size := by
 rcases Nat.eq_zero_or_pos L.length with h0 | h0
 ·obtain rfl : L = [] := List.eq_nil_of_length_eq_zero h0
  refine (sort_none A cap w).mono ?_
  rintro e w' ⟨hv, m, rfl⟩
  have st := (Stay.refl base w).drewN m
  exact ⟨hv, own_stay hO st (fun _ _ => rfl), st, rfl⟩
 ·obtain ⟨inner, ho, hr⟩ := hO
  obtain ⟨g, c', e, _⟩ := ho.form h0
  obtain ⟨rfl, rfl⟩ : A = some ⟨g, 0, none⟩ ∧ cap = c' := by simpa using e
  obtain ⟨vs, hS⟩ := SRow.of_own rfl ⟨inner, ho, hr⟩
  refine (sort_calls base g cap vs L w hw hS hne hL).mono ?_
  rintro e w' ⟨hv, ⟨vs', hS'⟩, st, sz⟩
  have := hS'.own
  rw [sortL_len] at this
  exact ⟨hv, this, st, sz⟩
end Go.Proofs.Ytojnnfhalpefmaa.H
end

section
namespace Go.Proofs.Ytojnnfhalpefmaa.H
open Go.RowKit Go.Proofs.YtojnnfhalpefmaaW.PrintWords Go.Proofs.YtojnnfhalpefmaaW.PrintLast Go.Proofs.YtojnnfhalpefmaaW.PrintMore Go.Proofs.Ytojnnfhalpefmaa.M
def tidyL (p : Int) (k : Nat) : List (List S45) → St → Option (List (List S45))
 | [], s => some s.L
 | c :: l, s =>
  if c.length < 8796093022208 ∧ s.small then
   (clearL p s.mp s.L s.U k c [] (wrap64 ((c.length : Int) - 1))).bind fun r =>
    if 0 < r.1.length then
     (modp_Inv.f k p (rd_T45 r.1 ((r.1.length : Int) - 1)).f1).bind fun t =>
      (column_plus.f p [] t.1 r.1).bind fun d =>
       if 0 < d.length ∧ rowOk (lastR d) then tidyL p k l (s.put d []) else none
    else none
  else none
def tidyF (p : Int) (k : Nat) (l : List (List S45)) : Option (List (List S45)) :=
 if l.length ≤ 12 ∧ ∀ c ∈ l, 0 < c.length then tidyL p k (sortL l) ⟨fun _ => none, [], [], []⟩ else none
theorem R45_nil (W : World) (base : Nat) : Kd.R k45 45 W base (fun _ => True) (.slice none 0 0) [] := Kd.R_nil _ _ _ _ _
theorem C45_nil (W : World) : k45.C W none ([] : List S45).length [] := ⟨rfl, Nat.zero_le _, fun h => absurd h (Nat.lt_irrefl _)⟩
def Grow (n : Nat) (LV : List (List S45 × Value)) : Prop := (∀ a ∈ LV, ∃ g, a.2.ownBlock = some g ∧ g < n) ∧ LV.Pairwise (fun a b => a.2.ownBlock ≠ b.2.ownBlock)
theorem Grow.push {n n' g : Nat} {LV : List (List S45 × Value)} (h : Grow n LV) {d : List S45} {v : Value} (hv : v.ownBlock = some g) (h1 : n ≤ g) (h2 : g < n') : Grow n' (LV ++ [(d, v)]) := by
 refine ⟨fun a ha => ?_, ?_⟩
 ·rcases List.mem_append.1 ha with ha | ha
  ·obtain ⟨g', e, hlt⟩ := h.1 a ha
   exact ⟨g', e, by omega⟩
  ·rw [List.mem_singleton.1 ha]
   exact ⟨g, hv, h2⟩
 ·rw [List.pairwise_append]
  refine ⟨h.2, List.pairwise_singleton _ _, fun a ha b hb => ?_⟩
  rw [List.mem_singleton.1 hb]
  obtain ⟨g', e, hlt⟩ := h.1 a ha
  show a.2.ownBlock ≠ v.ownBlock
  rw [e, hv]
  intro e2
  cases e2
  omega
theorem own_S {W : World} {base n : Nat} {v : Value} {L : List (List S45 × Value)} (h : OwnRow (colV true W base) 22 1 W base v L) (hg : Grow n L) : Kd.S (Kd.slice 45 k45) 22 W base (fun _ => True) v (L.map Prod.fst) := by
 refine ⟨fun k => L.findIdx (fun a => a.2.ownBlock == some k), fun _ _ => trivial, ?_⟩
 obtain ⟨inner, ho, hl, hr⟩ := h
 refine ⟨inner, by rw [List.length_zipIdx, List.length_map]; exact ho, by rw [List.length_zipIdx, List.length_map]; exact hl, fun j p hj => ?_⟩
 rw [List.getElem?_zipIdx, Nat.zero_add, List.getElem?_map, Option.map_map] at hj
 obtain ⟨a, ha, rfl⟩ := Option.map_eq_some_iff.1 hj
 obtain ⟨hjl, hja⟩ := List.getElem?_eq_some_iff.1 ha
 obtain ⟨e, A, c, e2, hlc, hC, hS, hO⟩ := hr j a ha
 refine ⟨a.2, e, ?_⟩
 have hk : ∀ k, a.2.ownBlock = some k → (L.findIdx (fun a => a.2.ownBlock == some k)) = j := fun k hk => by
  rw [List.findIdx_eq hjl]
  refine ⟨by rw [hja, hk]; exact beq_self_eq_true _, fun i hi => ?_⟩
  have := List.pairwise_iff_getElem.1 hg.2 i j (by omega) hjl hi
  rw [hja, hk] at this
  exact beq_eq_false_iff_ne.2 this
 have hR := hO rfl
 refine ⟨fun k hk' => ⟨⟨trivial, fun e3 => ?_⟩, hk k hk'⟩, ?_⟩
 ·obtain ⟨cs, hcs⟩ := own_typed hR.2.choose_spec.1 k hk'
  obtain ⟨cs2, hcs2⟩ := own_typed ho k e3.symm
  rw [hcs] at hcs2
  cases hcs2
 ·obtain ⟨inner2, ho2, hr2⟩ := hR.2
  exact ⟨inner2, ho2, hr2.imp_ (fun p c hM => by
   obtain rfl := k45_open (k45.K_of_M hM)
   exact k45_mkM W base _ p)⟩
set_option maxHeartbeats 8000000 in
set_option maxRecDepth 100000 in
theorem tidy_rows (k : Nat) (p : Int) (A : Option Addr) (cl : Nat) (l : List (List S45)) (r : List (List S45)) (w : World) (hC : (Kd.slice 45 k45).C w A l.length l) (hcl : l.length ≤ cl) (h : tidyF p k l = some r) :
  Calls Try.prog 67 #[.int .i64 p, .slice A l.length cl] w fun e w' => ∃ v, e = .returned v ∧ Kd.S (Kd.slice 45 k45) 22 w' w.heap.size (fun _ => True) v r ∧ Below w.heap.size w w' := by
 unfold tidyF at h
 by_cases hs : l.length ≤ 12 ∧ ∀ c ∈ l, 0 < c.length
 ·rw [if_pos hs] at h
  obtain ⟨hl, hne⟩ := hs
  have H := As.mk h
  have HN := As.mk hne
  clear h hne
  have hmm := @run_makeMap Try.prog
  obtain ⟨base, hbs⟩ : ∃ b, w.heap.size = b := ⟨_, rfl⟩
  go_enter Try.func67, Try.ntmps67
  go_wp2_with (first | (go_at_call 79; refine (clone2_calls A cl l _ hC hcl (by omega)).mono ?_; rintro e w1 ⟨v1, rfl, hO1, hb1⟩; obtain ⟨A1, c1, rfl, hc1⟩ := hO1.slice_) | (go_at_call 80; refine (sortAny_calls base A1 c1 l w1 (by rw [← hbs]; exact hb1.size) (by rw [← hbs]; exact hO1) HN.out hl).mono ?_; rintro e w2 ⟨⟨v2, rfl⟩, hO2, st2, sz2⟩; have SZ2 := As.mk sz2; clear sz2))
  obtain ⟨n2, hn2⟩ : ∃ n, w2.heap.size = n := ⟨_, rfl⟩
  obtain ⟨w3, hw3⟩ : ∃ w3, (w2.alloc (.map #[] 0)).alloc (.cells #[.int .i64 p, .map (some w2.heap.size), .slice none 0 0, .slice none 0 0] 87) = w3 := ⟨_, rfl⟩
  have hbn : base ≤ n2 := by have := hb1.size; have := SZ2.out; omega
  have hP3 : PivV true w3 base (n2 + 1) p (fun _ => none) [] [] (fun b => b = n2 ∨ b = n2 + 1) := by
   have h := PivO.made (o := true) w2 base p (by omega)
   rw [hw3, hn2] at h
   exact h
  have b23 : Below w2.heap.size w2 w3 := by
   rw [← hw3]
   exact ((Below.refl _ w2).alloc (Nat.le_refl _) _).alloc (by simp) _
  have st3 : Stay base w w3 := (Stay.of_below (Nat.le_of_eq hbs.symm) hb1).trans (st2.trans (Stay.of_below (by omega) b23))
  have hO3 : OwnRow (colE false w3 base) 22 1 w3 base (.slice A1 l.length c1) (sortL l) := own_stay hO2 (Stay.of_below (by omega) b23) (fun g hg => b23.block g (by
   obtain ⟨⟨cs, hcs⟩, _⟩ := own_blk22 hO2 hg
   exact blk_lt hcs))
  have lt3 : n2 + 1 < w3.heap.size := hP3.lt
  have HS3 : ∀ g, (Value.slice A1 l.length c1).ownBlock = some g → ¬ (g = n2 ∨ g = n2 + 1) := fun g hg => by
   obtain ⟨⟨cs, hcs⟩, _⟩ := own_blk22 hO2 hg
   have := blk_lt hcs
   omega
  rw [hn2] at hw3
  simp only [hn2]
  rw [hw3]
  have HP3 := As.mk hP3
  have HO3 := As.mk hO3
  have HSS := As.mk HS3
  have ST3 := As.mk st3
  have hln := sortL_len l
  have hsz2 := SZ2.out
  clear hP3 b23 st3 hO3 HS3 hw3 hO2 st2 hO1 hb1 hmm hsz2 SZ2 hn2
  go_loopg [20] l.length (fun kq v20 wr => ∃ (i : Nat) (s : St) (S : Nat → Prop) (LV : List (List S45 × Value)), v20 = .int .i64 i ∧ i ≤ l.length ∧ kq = l.length - i ∧ As (tidyL p k ((sortL l).drop i) s = some r) ∧ As (PivV true wr base (n2 + 1) p s.mp LV s.U S) ∧ As (LV.map Prod.fst = s.L ∧ Grow wr.heap.size LV) ∧ As (OwnRow (colE false wr base) 22 1 wr base (.slice A1 l.length c1) (sortL l)) ∧ As ((∀ g, (Value.slice A1 l.length c1).ownBlock = some g → ¬ S g) ∧ ∀ b, S b → b < wr.heap.size) ∧ As (Stay base w wr))
  case atStart => exact ⟨0, ⟨fun _ => none, [], [], []⟩, _, [], rfl, Nat.zero_le _, by omega, H, HP3, ⟨rfl, by simp [Grow]⟩, HO3, ⟨HSS.out, fun b hb => by omega⟩, ST3⟩
  case round =>
   clear H HP3 HO3 HSS ST3
   obtain ⟨i, s, S, LV, rfl, hi, hk, HA, HP, HG, HZ, HS, ST⟩ := hrel
   by_cases hlt : i < l.length
   ·obtain ⟨c, hc⟩ : ∃ c, rd_L2 (sortL l) (i : Int) = c := ⟨_, rfl⟩
    have hdr : (sortL l).drop i = c :: (sortL l).drop (i + 1) := by
     rw [List.drop_eq_getElem_cons (by omega), ← hc]
     simp [rd_L2, hln, hlt]
    have H := HA.out
    rw [hdr, tidyL] at H
    by_cases hsm : c.length < 8796093022208 ∧ s.small
    ·rw [if_pos hsm] at H
     obtain ⟨hcl1, hs1, hs2, hs3⟩ := hsm
     obtain ⟨r1, hr1, H⟩ := Option.bind_eq_some_iff.1 H
     by_cases hz : 0 < r1.1.length
     ·rw [if_pos hz] at H
      obtain ⟨⟨t1, t2⟩, ht, H⟩ := Option.bind_eq_some_iff.1 H
      obtain ⟨d, hd, H⟩ := Option.bind_eq_some_iff.1 H
      by_cases hdk : 0 < d.length ∧ rowOk (lastR d)
      ·rw [if_pos hdk] at H
       obtain ⟨hd0, hdr2⟩ := hdk
       have H' := As.mk H
       clear H
       have hbr : base ≤ wr.heap.size := by have := ST.out.below.size; omega
       obtain ⟨A1', c1', e1', _, hCs⟩ := own_C HZ.out
       obtain ⟨rfl, rfl⟩ : A1 = A1' ∧ c1 = c1' := by simpa [hln] using e1'
       clear e1'
       obtain ⟨al, Aj, cj, eL, yL, ljc, hCj⟩ := at_L2 hCs (i : Int) (by omega) (by omega)
       subst eL
       rw [hc] at yL ljc hCj
       rw [Int.toNat_natCast] at yL
       obtain ⟨lw, hlw⟩ : ∃ lw, rd_T45 r1.1 ((r1.1.length : Int) - 1) = lw := ⟨_, rfl⟩
       rw [hlw] at ht
       have ja : (1 : Int) ≤ (r1.1.length : Int) := by omega
       have hlv : LV.length = s.L.length := by rw [← HG.out.1, List.length_map]
       have hlvs : LV.length < 1000000 := by omega
       have HLV := As.mk hlv
       clear hlv
       have hp1 := pred_toNat hz
       go_wp2_with (first | (go_at_call 72; refine (clone_calls Aj cj c _ hCj ljc hcl1).mono ?_; rintro e w4 ⟨v4, rfl, hR4, hb4⟩; have hPV := (HP.out.below hbr hb4).read; rw [HG.out.1] at hPV; have hRc := Kd.R_lower hR4 hbr) | (go_at_call 71; refine (clear_calls k (n2 + 1) p s.mp s.L s.U base _ _ c [] r1 _ hPV (Nat.le_trans hbr hb4.size) hRc (R45_nil _ _) hr1).mono ?_; rintro e w5 ⟨v5, v6, rfl, hR5, hR6, hb5⟩; have b5 : Below wr.heap.size wr w5 := hb4.trans (hb5.mono hb4.size); obtain ⟨A5, c5, rfl⟩ := Kd.R_slice hR5; have hr5 := Kd.R_reads' hR5; obtain ⟨a5, e5, z0, z1⟩ := at_T45 hr5.2.2 ((r1.1.length : Int) - 1) (by omega) (by omega); subst e5; rw [hp1, hlw] at z0 z1; have hmx := Kd.C_max hr5.2.2) | (go_at_call 82; refine (modp_Inv.calls k p lw.f1 t1 t2 _ ht).mono ?_; rintro e w6 ⟨rfl, ⟨nd, rfl⟩⟩; have b6 : Below wr.heap.size wr (w5.drewN nd) := pw_below_drewN b5 nd; have hR5' := Kd.R_drewN hR5 nd; have hr5' := Kd.R_reads' hR5') | (go_at_call 57; refine (column_plus.calls p none 0 [] t1 (some a5) c5 r1.1 d _ (C45_nil _) (Nat.le_refl _) hr5'.2.2 hr5'.2.1 hd).mono ?_; rintro e w7 ⟨v7, rfl, hR7, hb7⟩; have b7 : Below wr.heap.size wr w7 := b6.trans (hb7.mono b6.size); obtain ⟨A7, c7, rfl⟩ := Kd.R_slice hR7; have hw7 := RowV.of_R (o := true) (Kd.R_lower hR7 (Nat.le_trans hbr b6.size))) | (go_at_call 70; refine (putV_calls (o := true) base (n2 + 1) p s.mp LV s.U S _ _ d [] _ (Nat.le_trans hbr b7.size) (HP.out.below hbr b7) hw7 (RowV.of_R (R45_nil _ _)) hd0 hdr2 hlvs hs2).mono ?_; rintro e w8 ⟨⟨v, rfl⟩, hP8, st8, fr8⟩))
       go_roundg (l.length - (i + 1))
       case measure => exact step_down hlt hk
       case rel =>
        have sz7 := b7.size
        obtain ⟨g7, cap7, hform, hg0, hg2, _⟩ := Kd.R_form hR7 hd0
        have hg1 : wr.heap.size ≤ g7 := Nat.le_trans b6.size hg0
        have ltz : ∀ g, (Value.slice (some al) l.length c1).ownBlock = some g → g < wr.heap.size := fun g hg => by
         obtain ⟨⟨cs, hcs⟩, _⟩ := own_blk22 HZ.out hg
         exact blk_lt hcs
        have HZ7 := own_stay HZ.out (Stay.of_below hbr b7) (fun g hg => b7.block g (ltz g hg))
        have HZ8 := own_stay HZ7 st8 (fun g hg => fr8 g (Nat.lt_of_lt_of_le (ltz g hg) sz7) (HS.out.1 g hg))
        refine ⟨i + 1, s.put d [], _, _, by rw [cast_succ], hlt, rfl, H', ⟨by rw [HLV.out] at hP8; exact hP8⟩, ⟨by rw [List.map_append, HG.out.1]; rfl, HG.out.2.push (by rw [hform]; rfl) hg1 (Nat.lt_of_lt_of_le hg2 st8.below.size)⟩, ⟨HZ8⟩, ⟨fun g hg hS => ?_, fun b hb => ?_⟩, ⟨ST.out.trans ((Stay.of_below hbr b7).trans st8)⟩⟩
        ·rcases hS with hS | ⟨h1, _⟩
         ·exact HS.out.1 g hg hS
         ·exact absurd h1 (Nat.not_le_of_lt (Nat.lt_of_lt_of_le (ltz g hg) sz7))
        ·rcases hb with hb | ⟨_, h2⟩
         ·exact Nat.lt_of_lt_of_le (HS.out.2 b hb) (Nat.le_trans sz7 st8.below.size)
         ·exact h2
      ·rw [if_neg hdk] at H; cases H
     ·rw [if_neg hz] at H; cases H
    ·rw [if_neg hsm] at H; cases H
   ·obtain rfl : i = l.length := by omega
    have H := HA.out
    rw [List.drop_of_length_le (by omega), tidyL] at H
    cases H
    obtain ⟨hmap, hgr⟩ := HG.out
    obtain ⟨gm, vl, vu, g1, gb, g2, gmb, hl1, hu1, _, _⟩ := HP.out
    have q2 := blk_cell g1 2
    simp only [List.getElem?_toArray, List.getElem?_cons_zero, List.getElem?_cons_succ] at q2
    clear g2 hu1
    go_wp2
    go_ret
    exact ⟨_, rfl, by rw [hbs, ← hmap]; exact own_S hl1 hgr, by rw [hbs]; exact ST.out.below⟩
 ·rw [if_neg hs] at h; cases h
end Go.Proofs.Ytojnnfhalpefmaa.H
end

section
namespace Go.Proofs.Ytojnnfhalpefmaa.H
open Go.RowKit Go.Proofs.YtojnnfhalpefmaaW.PrintWords Go.Proofs.YtojnnfhalpefmaaW.PrintLast Go.Proofs.YtojnnfhalpefmaaW.PrintMore Go.Proofs.Ytojnnfhalpefmaa.M
def st0 : St := ⟨fun _ => none, [], [], []⟩
def basisF (k : Nat) (p : Int) (l : List (List S45)) : Option (List (List S45) × Int) :=
 (column_begin.f k p l).bind fun e => if e = 0 then (elimL p k l 0 st0).bind fun s => (tidyF p k s.L).bind fun r => some (r, 0) else some ([], e)
def kernelF (k : Nat) (p : Int) (l : List (List S45)) : Option (List (List S45) × Int) :=
 (column_begin.f k p l).bind fun e => if e = 0 then (elimL p k l 0 st0).bind fun s => (tidyF p k s.Z).bind fun r => some (r, 0) else some ([], e)
def rankF (k : Nat) (p : Int) (l : List (List S45)) : Option (Int × Int) :=
 (column_begin.f k p l).bind fun e => if e = 0 then (elimL p k l 0 st0).bind fun s => some ((s.L.length : Int), 0) else some (0, e)
theorem L2_nil (W : World) (base : Nat) : Kd.S (Kd.slice 45 k45) 22 W base (fun _ => True) (.slice none 0 0) [] := Kd.S_nil _ _ _ _ _
set_option maxHeartbeats 8000000 in
set_option maxRecDepth 100000 in
theorem basis_calls (k : Nat) (p : Int) (A : Option Addr) (cl : Nat) (l : List (List S45)) (r1 : List (List S45)) (r2 : Int) (w : World) (hC : (Kd.slice 45 k45).C w A l.length l) (hcl : l.length ≤ cl) (h : basisF k p l = some (r1, r2)) :
  Calls Try.prog 38 #[.int .i64 p, .slice A l.length cl] w fun e w' => ∃ v, e = .returned (.tuple #[v, .int .i64 r2]) ∧ Kd.S (Kd.slice 45 k45) 22 w' w.heap.size (fun _ => True) v r1 ∧ Below w.heap.size w w' := by
 unfold basisF at h
 obtain ⟨eb, hb, h⟩ := Option.bind_eq_some_iff.1 h
 by_cases he : eb = 0
 ·rw [if_pos he] at h
  subst he
  obtain ⟨s, hs, h⟩ := Option.bind_eq_some_iff.1 h
  obtain ⟨t, ht, h⟩ := Option.bind_eq_some_iff.1 h
  cases h
  go_enter Try.func38, Try.ntmps38
  go_wp2_with (first | (go_at_call 65; refine (column_begin.calls k p A cl l 0 _ hC hcl hb).mono ?_; rintro e w1 ⟨rfl, hb1⟩) | (go_at_call 66; refine (elim_calls k p A cl l s _ (Kd.C_below hC hb1) hcl hs).mono ?_; rintro e w2 ⟨gv, vz, S, rfl, hP, hZ, st2⟩; obtain ⟨gm, vl, vu, g1, hl1⟩ := hP.open; have q2 := blk_cell g1 2; simp only [List.getElem?_toArray, List.getElem?_cons_zero, List.getElem?_cons_succ] at q2; obtain ⟨A2, c2, rfl, hc2, hC2⟩ := own_C hl1) | (go_at_call 67; refine (tidy_rows k p A2 c2 s.L r1 _ hC2 hc2 ht).mono ?_; rintro e w3 ⟨v, rfl, hR, hb3⟩))
  go_ret2
  have b2 : Below w.heap.size w w2 := hb1.trans (st2.below.mono hb1.size)
  exact ⟨_, rfl, Kd.S_lower hR b2.size, b2.trans (hb3.mono b2.size)⟩
 ·rw [if_neg he] at h
  have heb : (eb != 0) = true := by simp [he]
  cases h
  clear he
  go_enter Try.func38, Try.ntmps38
  go_wp2_with (first | (go_at_call 65; refine (column_begin.calls k p A cl l r2 _ hC hcl hb).mono ?_; rintro e w1 ⟨rfl, hb1⟩))
  go_ret2
  exact ⟨_, rfl, L2_nil _ _, hb1⟩
set_option maxHeartbeats 8000000 in
set_option maxRecDepth 100000 in
theorem kernel_calls (k : Nat) (p : Int) (A : Option Addr) (cl : Nat) (l : List (List S45)) (r1 : List (List S45)) (r2 : Int) (w : World) (hC : (Kd.slice 45 k45).C w A l.length l) (hcl : l.length ≤ cl) (h : kernelF k p l = some (r1, r2)) :
  Calls Try.prog 48 #[.int .i64 p, .slice A l.length cl] w fun e w' => ∃ v, e = .returned (.tuple #[v, .int .i64 r2]) ∧ Kd.S (Kd.slice 45 k45) 22 w' w.heap.size (fun _ => True) v r1 ∧ Below w.heap.size w w' := by
 unfold kernelF at h
 obtain ⟨eb, hb, h⟩ := Option.bind_eq_some_iff.1 h
 by_cases he : eb = 0
 ·rw [if_pos he] at h
  subst he
  obtain ⟨s, hs, h⟩ := Option.bind_eq_some_iff.1 h
  obtain ⟨t, ht, h⟩ := Option.bind_eq_some_iff.1 h
  cases h
  go_enter Try.func48, Try.ntmps48
  go_wp2_with (first | (go_at_call 65; refine (column_begin.calls k p A cl l 0 _ hC hcl hb).mono ?_; rintro e w1 ⟨rfl, hb1⟩) | (go_at_call 66; refine (elim_calls k p A cl l s _ (Kd.C_below hC hb1) hcl hs).mono ?_; rintro e w2 ⟨gv, vz, S, rfl, hP, hZ, st2⟩; clear hP; obtain ⟨A2, c2, rfl, hc2, hC2⟩ := own_C hZ) | (go_at_call 67; refine (tidy_rows k p A2 c2 s.Z r1 _ hC2 hc2 ht).mono ?_; rintro e w3 ⟨v, rfl, hR, hb3⟩))
  go_ret2
  have b2 : Below w.heap.size w w2 := hb1.trans (st2.below.mono hb1.size)
  exact ⟨_, rfl, Kd.S_lower hR b2.size, b2.trans (hb3.mono b2.size)⟩
 ·rw [if_neg he] at h
  have heb : (eb != 0) = true := by simp [he]
  cases h
  clear he
  go_enter Try.func48, Try.ntmps48
  go_wp2_with (first | (go_at_call 65; refine (column_begin.calls k p A cl l r2 _ hC hcl hb).mono ?_; rintro e w1 ⟨rfl, hb1⟩))
  go_ret2
  exact ⟨_, rfl, L2_nil _ _, hb1⟩
set_option maxHeartbeats 8000000 in
set_option maxRecDepth 100000 in
theorem rank_calls (k : Nat) (p : Int) (A : Option Addr) (cl : Nat) (l : List (List S45)) (r1 : Int) (r2 : Int) (w : World) (hC : (Kd.slice 45 k45).C w A l.length l) (hcl : l.length ≤ cl) (h : rankF k p l = some (r1, r2)) :
  Calls Try.prog 39 #[.int .i64 p, .slice A l.length cl] w fun e w' => e = .returned (.tuple #[.int .i64 r1, .int .i64 r2]) ∧ Below w.heap.size w w' := by
 unfold rankF at h
 obtain ⟨eb, hb, h⟩ := Option.bind_eq_some_iff.1 h
 by_cases he : eb = 0
 ·rw [if_pos he] at h
  subst he
  obtain ⟨s, hs, h⟩ := Option.bind_eq_some_iff.1 h
  cases h
  go_enter Try.func39, Try.ntmps39
  go_wp2_with (first | (go_at_call 65; refine (column_begin.calls k p A cl l 0 _ hC hcl hb).mono ?_; rintro e w1 ⟨rfl, hb1⟩) | (go_at_call 66; refine (elim_calls k p A cl l s _ (Kd.C_below hC hb1) hcl hs).mono ?_; rintro e w2 ⟨gv, vz, S, rfl, hP, hZ, st2⟩; obtain ⟨gm, vl, vu, g1, hl1⟩ := hP.open; have q2 := blk_cell g1 2; simp only [List.getElem?_toArray, List.getElem?_cons_zero, List.getElem?_cons_succ] at q2; obtain ⟨A2, c2, rfl, hc2, hC2⟩ := own_C hl1))
  go_ret2
  exact ⟨rfl, hb1.trans (st2.below.mono hb1.size)⟩
 ·rw [if_neg he] at h
  have heb : (eb != 0) = true := by simp [he]
  cases h
  clear he
  go_enter Try.func39, Try.ntmps39
  go_wp2_with (first | (go_at_call 65; refine (column_begin.calls k p A cl l r2 _ hC hcl hb).mono ?_; rintro e w1 ⟨rfl, hb1⟩))
  go_ret2
  exact ⟨rfl, hb1⟩
end Go.Proofs.Ytojnnfhalpefmaa.H
end

section
namespace Go.Proofs.Ytojnnfhalpefmaa.H
open Go.RowKit Go.Proofs.YtojnnfhalpefmaaW.PrintWords Go.Proofs.YtojnnfhalpefmaaW.PrintLast Go.Proofs.YtojnnfhalpefmaaW.PrintMore Go.Proofs.Ytojnnfhalpefmaa.M
def restPut : List (List S45) → Int → St → Option (Int × St)
 | [], _, s => some (0, s)
 | a :: l, j, s =>
  if a.length = 0 then some (9, s)
  else if s.small ∧ rowOk (lastR a) then
   (if (s.mp (lastR a)).isSome then some (5, s) else restPut l (j + 1) (s.put a [⟨j, 1⟩]))
  else none
def restEnd (k : Nat) (p : Int) (c : List S45) (s : St) : Option (List S45 × List S45 × Int) :=
 if c.length < 8796093022208 then
  (clearL p s.mp s.L s.U k c [] (wrap64 ((c.length : Int) - 1))).bind fun r =>
   (column_plus.f p [] (wrap64 (p - 1)) r.2).bind fun u => some (r.1, u, 0)
 else none
def restF (k : Nat) (p : Int) (l : List (List S45)) (c : List S45) : Option (List S45 × List S45 × Int) :=
 if (l.length : Int) > 1024 then some ([], [], 3)
 else (column_checkAll.f k p l).bind fun e1 =>
  if e1 = 0 then (column_Check.f k p c).bind fun e2 =>
   if e2 = 0 then (restPut l 0 st0).bind fun q => if q.1 = 0 then restEnd k p c q.2 else some ([], [], q.1)
   else some ([], [], e2)
  else some ([], [], e1)
theorem mp_none {M : Int → Option Int} {x : Int} (h : ¬ (M x).isSome) : M x = none := by
 cases hm : M x with
 | none => rfl
 | some y => rw [hm] at h; exact absurd rfl h
theorem R45n (W : World) (base : Nat) (ok : Nat → Prop) : Kd.R k45 45 W base ok (.slice none 0 0) [] := Kd.R_nil _ _ _ _ _
theorem RowV.of_arg {w W : World} {A : Option Addr} {c : Nat} {a : List S45} (h : k45.C w A a.length a) (hl : a.length ≤ c) (hb : Below w.heap.size w W) : RowV false W w.heap.size (.slice A a.length c) a :=
 ⟨A, c, rfl, hl, Kd.C_below h hb, fun ad e hp => .inl (C_blk h ad e hp), fun e => by cases e⟩
theorem apart_old {w5 w7 : World} {base : Nat} {v5 v7 : Value} {x y : List S45} (h5 : Kd.R k45 45 w5 base (fun _ => True) v5 x) (hb : Below w5.heap.size w5 w7) (h7 : Kd.R k45 45 w7 w5.heap.size (fun _ => True) v7 y) : Kd.R k45 45 w7 base (fun k => some k ≠ v7.ownBlock) v5 x :=
 Kd.R_below (Kd.R_mono (Kd.R_bound h5) (fun k hk e => absurd hk.2.2.1 (Nat.not_lt.mpr ((Kd.R_bound h7).1 k e.symm).2.1))) hb
theorem apart_new {w5 w7 : World} {base : Nat} {v5 v7 : Value} {x y : List S45} (hle : base ≤ w5.heap.size) (h5 : Kd.R k45 45 w5 base (fun _ => True) v5 x) (h7 : Kd.R k45 45 w7 w5.heap.size (fun _ => True) v7 y) : Kd.R k45 45 w7 base (fun k => some k ≠ v5.ownBlock) v7 y :=
 Kd.R_lower (Kd.R_mono (Kd.R_bound h7) (fun k hk e => absurd ((Kd.R_bound h5).1 k e.symm).2.2.1 (Nat.not_lt.mpr hk.2.1))) hle
set_option maxHeartbeats 3000000 in
set_option maxRecDepth 100000 in
theorem rest_calls (k : Nat) (p : Int) (A : Option Addr) (cl : Nat) (l : List (List S45)) (Ac : Option Addr) (cc : Nat) (c : List S45) (r1 r2 : List S45) (r3 : Int) (w : World) (hC : (Kd.slice 45 k45).C w A l.length l) (hcl : l.length ≤ cl) (hCc : k45.C w Ac c.length c) (hcc : c.length ≤ cc)
  (h : restF k p l c = some (r1, r2, r3)) :
  Calls Try.prog 45 #[.int .i64 p, .slice A l.length cl, .slice Ac c.length cc] w fun e w' => ∃ v1 v2, e = .returned (.tuple #[v1, v2, .int .i64 r3]) ∧ Kd.R k45 45 w' w.heap.size (fun k_ => some k_ ≠ (v2 : Value).ownBlock) v1 r1 ∧ Kd.R k45 45 w' w.heap.size (fun k_ => some k_ ≠ (v1 : Value).ownBlock) v2 r2 ∧ Below w.heap.size w w' := by
 unfold restF at h
 by_cases h0 : (l.length : Int) > 1024
 ·rw [if_pos h0] at h
  cases h
  have h0b : decide ((1024 : Int) < (l.length : Int)) = true := decide_eq_true h0
  go_enter Try.func45, Try.ntmps45
  go_wp2
  refine bodyPost_ret (results_tmp3 rfl _ _ _) rfl ?_
  exact ⟨_, _, rfl, R45n _ _ _, R45n _ _ _, Below.refl _ _⟩
 ·rw [if_neg h0] at h
  have h0b : decide ((1024 : Int) < (l.length : Int)) = false := decide_eq_false h0
  obtain ⟨e1, h1, h⟩ := Option.bind_eq_some_iff.1 h
  by_cases he1 : e1 = 0
  ·rw [if_pos he1] at h
   subst he1
   obtain ⟨e2, h2, h⟩ := Option.bind_eq_some_iff.1 h
   by_cases he2 : e2 = 0
   ·rw [if_pos he2] at h
    subst he2
    obtain ⟨⟨q1, q2⟩, h3, h⟩ := Option.bind_eq_some_iff.1 h
    have H3 := As.mk h3
    have H := As.mk h
    clear h3 h
    have hmm := @run_makeMap Try.prog
    obtain ⟨base, hbs⟩ : ∃ b, w.heap.size = b := ⟨_, rfl⟩
    go_enter Try.func45, Try.ntmps45
    go_wp2_with (first | (go_at_call 59; refine (column_checkAll.calls k p A cl l 0 _ hC hcl h1).mono ?_; rintro e w1 ⟨rfl, hb1⟩) | (go_at_call 24; refine (column_Check.calls k p Ac cc c 0 _ (Kd.C_below hCc hb1) hcc h2).mono ?_; rintro e w2 ⟨rfl, hb2⟩))
    obtain ⟨n2, hn2⟩ : ∃ n, w2.heap.size = n := ⟨_, rfl⟩
    obtain ⟨w3, hw3⟩ : ∃ w3, (w2.alloc (.map #[] 0)).alloc (.cells #[.int .i64 p, .map (some w2.heap.size), .slice none 0 0, .slice none 0 0] 87) = w3 := ⟨_, rfl⟩
    have b2 : Below w.heap.size w w2 := hb1.trans (hb2.mono hb1.size)
    have hbn : base ≤ n2 := by rw [← hbs, ← hn2]; exact b2.size
    have hP3 : PivO false w3 base (n2 + 1) p (fun _ => none) [] [] (fun b => b = n2 ∨ b = n2 + 1) := by
     have h := PivO.made (o := false) w2 base p (by omega)
     rw [hw3, hn2] at h
     exact ⟨[], rfl, h⟩
    have b23 : Below w2.heap.size w2 w3 := by
     rw [← hw3]
     exact ((Below.refl _ w2).alloc (Nat.le_refl _) _).alloc (by simp) _
    have st3 : Stay base w w3 := (Stay.of_below (Nat.le_of_eq hbs.symm) b2).trans (Stay.of_below (by omega) b23)
    rw [hn2] at hw3
    simp only [hn2]
    rw [hw3]
    have HP3 := As.mk hP3
    have ST3 := As.mk st3
    clear hP3 b23 st3 hw3 hb1 hb2 hmm hn2 b2
    go_loopg [39] l.length (fun kq v39 wr => ∃ (i : Nat) (s : St) (S : Nat → Prop), v39 = .int .i64 i ∧ i ≤ l.length ∧ kq = l.length - i ∧ As (restPut (l.drop i) i s = some (q1, q2)) ∧ As (PivO false wr base (n2 + 1) p s.mp s.L s.U S) ∧ As (Stay base w wr))
    case atStart => exact ⟨0, st0, _, rfl, Nat.zero_le _, by omega, H3, HP3, ST3⟩
    case round =>
     clear H3 HP3 ST3
     obtain ⟨i, s, S, rfl, hi, hk, HA, HP, ST⟩ := hrel
     have hbr : base ≤ wr.heap.size := by have := ST.out.below.size; omega
     have hBw : Below w.heap.size w wr := by rw [hbs]; exact ST.out.below
     by_cases hlt : i < l.length
     ·obtain ⟨a, ha⟩ : ∃ a, rd_L2 l (i : Int) = a := ⟨_, rfl⟩
      have hdr : l.drop i = a :: l.drop (i + 1) := by
       rw [List.drop_eq_getElem_cons hlt, ← ha]
       simp [rd_L2, hlt]
      have H1 := HA.out
      rw [hdr, restPut] at H1
      obtain ⟨al, Aj, cj, eL, yL0, ljc, hCj0⟩ := at_L2 hC (i : Int) (by omega) (by omega)
      subst eL
      rw [ha] at yL0 ljc hCj0
      rw [Int.toNat_natCast] at yL0
      have yL := (World.cell?_of_block (hBw.block _ (World.block_lt_of_cell? w _ yL0))).trans yL0
      have hCj := Kd.C_below hCj0 hBw
      clear yL0
      by_cases hz : a.length = 0
      ·rw [if_pos hz] at H1
       cases H1
       have hlow : column_Low.f a = some (0, false) := by unfold column_Low.f; rw [if_pos (by omega)]
       have h := H.out
       rw [if_neg (by decide)] at h
       cases h
       clear hz
       go_wp2_with (go_at_call 22; refine (column_Low.calls Aj cj a 0 false _ hCj ljc hlow).mono ?_; rintro e w4 ⟨rfl, ⟨nd, rfl⟩⟩)
       refine bodyPost_ret (results_tmp3 rfl _ _ _) rfl ?_
       exact ⟨_, _, rfl, R45n _ _ _, R45n _ _ _, pw_below_drewN hBw nd⟩
      ·rw [if_neg hz] at H1
       have hmx := Kd.C_max hCj
       have hlow : column_Low.f a = some (lastR a, true) := by
        unfold column_Low.f
        have hw : wrap64 ((a.length : Int) - 1) = (a.length : Int) - 1 := by unfold wrap64; omega
        rw [if_neg (by omega), hw, if_pos (by omega), if_pos (by omega)]
        rfl
       by_cases hsm : s.small ∧ rowOk (lastR a)
       ·rw [if_pos hsm] at H1
        obtain ⟨⟨hs1, hs2, hs3⟩, hrk⟩ := hsm
        obtain ⟨lw, hlw⟩ : ∃ lw, lastR a = lw := ⟨_, rfl⟩
        rw [hlw] at hlow
        by_cases hm : (s.mp (lastR a)).isSome
        ·rw [if_pos hm] at H1
         cases H1
         have h := H.out
         rw [if_neg (by decide)] at h
         cases h
         rw [hlw] at hm hrk
         obtain ⟨gm, n, Al, Au, kl, ku, g1, g2, g3, g4, g5, g6⟩ := (HP.out.below hbr (pw_below_drewN (Below.refl _ wr) 0)).read
         have hlk : ∀ nd, _ := fun nd => (g2.same (w' := wr.drewN nd) rfl).look hrk.wf
         have q1 : ∀ nd, _ := fun nd => blk_cell (show (wr.drewN nd).heap[n2 + 1]? = _ from g1) 1
         simp only [List.getElem?_toArray, List.getElem?_cons_zero, List.getElem?_cons_succ, hm] at q1 hlk
         clear g3 g5 g2 g1 hz hlw
         go_wp2_with (go_at_call 22; refine (column_Low.calls Aj cj a lw true _ hCj ljc hlow).mono ?_; rintro e w4 ⟨rfl, ⟨nd, rfl⟩⟩; have hlk' := hlk nd; have q1' := q1 nd; clear hlk q1)
         refine bodyPost_ret (results_tmp3 rfl _ _ _) rfl ?_
         exact ⟨_, _, rfl, R45n _ _ _, R45n _ _ _, pw_below_drewN hBw nd⟩
        ·rw [if_neg hm] at H1
         have hmn := mp_none hm
         rw [hlw] at hmn
         have hms : (s.mp lw).isSome = false := by rw [hmn]; rfl
         have H1' := As.mk H1
         have hrk' : rowOk (rd_T45 a ((a.length : Int) - 1)).f0 := hrk
         rw [hlw] at hrk
         obtain ⟨gm, n, Al, Au, kl, ku, g1, g2, g3, g4, g5, g6⟩ := (HP.out.below hbr (pw_below_drewN (Below.refl _ wr) 0)).read
         have hlk : ∀ nd, _ := fun nd => (g2.same (w' := wr.drewN nd) rfl).look hrk.wf
         have q1 : ∀ nd, _ := fun nd => blk_cell (show (wr.drewN nd).heap[n2 + 1]? = _ from g1) 1
         simp only [List.getElem?_toArray, List.getElem?_cons_zero, List.getElem?_cons_succ, hms] at q1 hlk
         have hal : 0 < a.length := Nat.pos_of_ne_zero hz
         clear g3 g5 g2 g1 hz hlw hm hmn H1
         have HC0 := As.mk hCj0
         clear hCj0
         go_wp2_with (first | (go_at_call 22; refine (column_Low.calls Aj cj a lw true _ hCj ljc hlow).mono ?_; rintro e w4 ⟨rfl, ⟨nd, rfl⟩⟩; have hlk' := hlk nd; have q1' := q1 nd; clear hlk q1; have hws : base ≤ ((wr.drewN nd).alloc (.cells #[.int .i64 i, .int .i64 1] 45)).heap.size := Nat.le_trans hbr (by simp); have b4 : Below wr.heap.size wr ((wr.drewN nd).alloc (.cells #[.int .i64 i, .int .i64 1] 45)) := (pw_below_drewN (Below.refl _ wr) nd).alloc (Nat.le_refl _) _; have hRa : RowV false ((wr.drewN nd).alloc (.cells #[.int .i64 i, .int .i64 1] 45)) base (.slice Aj a.length cj) a := (by rw [← hbs]; exact RowV.of_arg HC0.out ljc (hBw.trans (b4.mono (by rw [hbs]; exact hbr)))); have hRx : RowV false ((wr.drewN nd).alloc (.cells #[.int .i64 i, .int .i64 1] 45)) base (.slice (some ⟨wr.heap.size, 0, none⟩) 1 1) [⟨i, 1⟩] := RowV.of_R (lit_R (wr.drewN nd) base hbr i); have hPP := HP.out.below hbr b4; have hWS := As.mk hws; clear hws) | (go_at_call 70; refine (put_calls (o := false) base (n2 + 1) p s.mp s.L s.U S _ _ a [⟨i, 1⟩] _ hWS.out hPP hRa hRx hal hrk' hs1 hs2).mono ?_; rintro e w5 ⟨⟨v, rfl⟩, hP5, st5, fr5⟩))
         go_roundg (l.length - (i + 1))
         case measure => exact step_down hlt hk
         case rel =>
          refine ⟨i + 1, s.put a [⟨i, 1⟩], _, by rw [cast_succ], hlt, rfl, ⟨?_⟩, ⟨hP5⟩, ⟨ST.out.trans ((Stay.of_below hbr b4).trans st5)⟩⟩
          rw [cast_succ]
          exact H1'.out
       ·rw [if_neg hsm] at H1; cases H1
     ·obtain rfl : i = l.length := by omega
      have H1 := HA.out
      rw [List.drop_length, restPut] at H1
      cases H1
      have h := H.out
      rw [if_pos rfl] at h
      unfold restEnd at h
      by_cases hcl : c.length < 8796093022208
      ·rw [if_pos hcl] at h
       obtain ⟨r, hr1, h⟩ := Option.bind_eq_some_iff.1 h
       obtain ⟨u, hu, h⟩ := Option.bind_eq_some_iff.1 h
       cases h
       go_wp2_with (first | (go_at_call 72; refine (clone_calls Ac cc c _ (Kd.C_below hCc hBw) hcc hcl).mono ?_; rintro e w4 ⟨v4, rfl, hR4, hb4⟩; have hPV := (HP.out.below hbr hb4).read; have hRc := Kd.R_lower hR4 hbr) | (go_at_call 71; refine (clear_calls k (n2 + 1) p q2.mp q2.L q2.U base _ _ c [] r _ hPV (Nat.le_trans hbr hb4.size) hRc (R45_nil _ _) hr1).mono ?_; rintro e w5 ⟨v5, v6, rfl, hR5, hR6, hb5⟩; have b5 : Below wr.heap.size wr w5 := hb4.trans (hb5.mono hb4.size); obtain ⟨A6, c6, rfl⟩ := Kd.R_slice hR6; have hr6 := Kd.R_reads' hR6) | (go_at_call 57; refine (column_plus.calls p none 0 [] (wrap64 (p - 1)) A6 c6 r.2 r2 _ (C45_nil _) (Nat.le_refl _) hr6.2.2 hr6.2.1 hu).mono ?_; rintro e w7 ⟨v7, rfl, hR7, hb7⟩))
       refine bodyPost_ret (results_tmp3 rfl _ _ _) rfl ?_
       rw [hbs]
       exact ⟨_, _, rfl, apart_old hR5 hb7 hR7, apart_new (Nat.le_trans hbr b5.size) hR5 hR7, ST.out.below.trans ((b5.trans (hb7.mono b5.size)).mono hbr)⟩
      ·rw [if_neg hcl] at h; cases h
   ·rw [if_neg he2] at h
    have heb : (e2 != 0) = true := by simp [he2]
    cases h
    clear he2
    go_enter Try.func45, Try.ntmps45
    go_wp2_with (first | (go_at_call 59; refine (column_checkAll.calls k p A cl l 0 _ hC hcl h1).mono ?_; rintro e w1 ⟨rfl, hb1⟩) | (go_at_call 24; refine (column_Check.calls k p Ac cc c r3 _ (Kd.C_below hCc hb1) hcc h2).mono ?_; rintro e w2 ⟨rfl, hb2⟩))
    refine bodyPost_ret (results_tmp3 rfl _ _ _) rfl ?_
    exact ⟨_, _, rfl, R45n _ _ _, R45n _ _ _, hb1.trans (hb2.mono hb1.size)⟩
  ·rw [if_neg he1] at h
   have heb : (e1 != 0) = true := by simp [he1]
   cases h
   clear he1
   go_enter Try.func45, Try.ntmps45
   go_wp2_with (first | (go_at_call 59; refine (column_checkAll.calls k p A cl l r3 _ hC hcl h1).mono ?_; rintro e w1 ⟨rfl, hb1⟩))
   refine bodyPost_ret (results_tmp3 rfl _ _ _) rfl ?_
   exact ⟨_, _, rfl, R45n _ _ _, R45n _ _ _, hb1⟩
end Go.Proofs.Ytojnnfhalpefmaa.H
end
