/- (*pivots).put of package column, walked by hand. -/
import Derived.Test.YtojnnfhalpefmaaKClear
import Derived.Test.YtojnnfhalpefmaaKStay
set_option linter.unusedVariables false
set_option linter.unusedSimpArgs false
namespace Go.Proofs.Ytojnnfhalpefmaa.H
open Go.RowKit Go.Proofs.YtojnnfhalpefmaaW.PrintWords Go.Proofs.YtojnnfhalpefmaaW.PrintLast Go.Proofs.YtojnnfhalpefmaaW.PrintMore Go.Proofs.Ytojnnfhalpefmaa.M
/-- Columns with the values that lead to them. -/
def colV (o : Bool) (W : World) (base : Nat) (a : List S45 × Value) (cs : List Value) : Prop := cs = [a.2] ∧ RowV o W base a.2 a.1
theorem own_stayV {o : Bool} {base : Nat} {W W' : World} {v : Value} {L : List (List S45 × Value)} (h : OwnRow (colV o W base) 22 1 W base v L) (hs : Stay base W W') (hv : ∀ g, v.ownBlock = some g → W'.heap[g]? = W.heap[g]?) : OwnRow (colV o W' base) 22 1 W' base v L := by
  obtain ⟨inner, ho, hr⟩ := h
  exact ⟨inner, own_move ho hv, hr.imp_ (fun p c ⟨e, hrow⟩ => ⟨e, hrow.stay hs⟩)⟩
theorem own_blkV {o : Bool} {base : Nat} {W : World} {v : Value} {L : List (List S45 × Value)} (h : OwnRow (colV o W base) 22 1 W base v L) {g : Nat} (hg : v.ownBlock = some g) : (∃ cs, W.heap[g]? = some (.cells cs 22 (0, 0))) ∧ base ≤ g := by
  obtain ⟨inner, ho, hr⟩ := h
  refine ⟨own_typed ho g hg, ?_⟩
  rcases ho.2 with ⟨rfl, _⟩ | ⟨g', cap, cur, rfl, hb, _⟩
  · simp [Value.ownBlock] at hg
  · obtain rfl : g' = g := by simpa [Value.ownBlock] using hg
    exact hb
theorem own_colE {o : Bool} {W : World} {base : Nat} {v : Value} {L : List (List S45 × Value)} (h : OwnRow (colV o W base) 22 1 W base v L) : OwnRow (colE o W base) 22 1 W base v (L.map Prod.fst) := by
  obtain ⟨inner, ho, hl, hr⟩ := h
  refine ⟨inner, by rw [List.length_map]; exact ho, by rw [List.length_map]; exact hl, fun j p hj => ?_⟩
  rw [List.getElem?_map] at hj
  obtain ⟨a, ha, rfl⟩ := Option.map_eq_some_iff.1 hj
  obtain ⟨e, hrow⟩ := hr j a ha
  exact ⟨a.2, e, hrow⟩
/-- The pivots, owned, with their columns' values. -/
def PivV (o : Bool) (W : World) (base gv : Nat) (p : Int) (mp : Int → Option Int) (L : List (List S45 × Value)) (U : List (List S45)) (S : Nat → Prop) : Prop :=
  ∃ (gm : Nat) (vl vu : Value), W.heap[gv]? = some (.cells #[.int .i64 p, .map (some gm), vl, vu] 87 (0, 0)) ∧ base ≤ gv ∧ IMap W gm L.length mp ∧ base ≤ gm ∧
    OwnRow (colV o W base) 22 1 W base vl L ∧ OwnRow (colE o W base) 22 1 W base vu U ∧ (∀ g, vl.ownBlock = some g → vu.ownBlock ≠ some g) ∧ ∀ b, b = gv ∨ b = gm ∨ vl.ownBlock = some b ∨ vu.ownBlock = some b → S b
/-- The pivots, owned. -/
def PivO (o : Bool) (W : World) (base gv : Nat) (p : Int) (mp : Int → Option Int) (L U : List (List S45)) (S : Nat → Prop) : Prop :=
  ∃ LV : List (List S45 × Value), LV.map Prod.fst = L ∧ PivV o W base gv p mp LV U S
set_option maxHeartbeats 8000000 in
set_option maxRecDepth 100000 in
theorem putV_calls {o : Bool} (base gv : Nat) (p : Int) (mp : Int → Option Int) (L : List (List S45 × Value)) (U : List (List S45)) (S : Nat → Prop) (vc vx : Value) (c x : List S45) (w : World) (hbase : base ≤ w.heap.size) (hP : PivV o w base gv p mp L U S) (hc : RowV o w base vc c) (hx : RowV o w base vx x)
    (hne : 0 < c.length) (hok : rowOk (rd_T45 c ((c.length : Int) - 1)).f0) (hL : L.length < 1000000) (hUL : U.length < 1000000) :
    Calls Try.prog 70 #[.pointer (some ⟨gv, 0, none⟩), vc, vx] w fun e w' => (∃ v, e = .returned v) ∧ PivV o w' base gv p (fun y => if y = (rd_T45 c ((c.length : Int) - 1)).f0 then some (L.length : Int) else mp y) (L ++ [(c, vc)]) (U ++ [x]) (fun b => S b ∨ (w.heap.size ≤ b ∧ b < w'.heap.size)) ∧ Stay base w w' ∧ ∀ b, b < w.heap.size → ¬ S b → w'.heap[b]? = w.heap[b]? := by
  obtain ⟨gm, vl, vu, g1, gb, g2, gmb, hl, hu, hlu, hS'⟩ := hP
  obtain ⟨A, cc, rfl, hcc, hC, hS⟩ := hc
  obtain ⟨Ax, cx, rfl, hcx, hCx, hSx⟩ := hx
  have q1 := blk_cell g1 1
  have q2 := blk_cell g1 2
  simp only [List.getElem?_toArray, List.getElem?_cons_zero, List.getElem?_cons_succ] at q1 q2
  obtain ⟨Al, cl, rfl, hlc⟩ := hl.slice_
  obtain ⟨Au, cu, rfl, huc⟩ := hu.slice_
  obtain ⟨ad, eA, z0, z1⟩ := at_T45 hC ((c.length : Int) - 1) (by omega) (by omega)
  subst eA
  have hmx := Kd.C_max hC
  rw [show ((c.length : Int) - 1).toNat = c.length - 1 by omega] at z0 z1
  have hw : wrap64 ((c.length : Int) - 1) = (c.length : Int) - 1 := by unfold wrap64; omega
  obtain ⟨t, ht⟩ : ∃ t, rd_T45 c ((c.length : Int) - 1) = t := ⟨_, rfl⟩
  rw [ht] at z0 z1 hok ⊢
  have g2' : IMap w.drew gm L.length mp := g2.same rfl
  obtain ⟨w1, hst, hM1, hG1⟩ := g2'.store (by simp only [maxLen]; omega) hok.wf (v := (L.length : Int)) (by rw [show (L.length : Int) = ((L.length : Nat) : Int) from rfl]; exact (show rowOk (L.length : Int) from ⟨by omega, by omega⟩).wf)
  go_enter Try.func70, Try.ntmps70
  obtain ⟨mo, hmo, hmc⟩ : ∃ o, w.heap[gm]? = some o ∧ o.isCells = false := by
    obtain ⟨D, ⟨es, clock, hb, _⟩, _⟩ := g2
    exact ⟨_, hb, rfl⟩
  have hnc : ∀ cs t, w.heap[gm]? ≠ some (.cells cs t (0, 0)) := fun cs t e => by rw [hmo] at e; cases e; cases hmc
  have st0 : Stay base w w.drew := ⟨(Below.refl base w).drew, fun _ _ => rfl⟩
  have st1 : Stay base w w1 := st0.trans <| stay_grown (W := w.drew) hG1 hbase (fun g e => by cases e; exact ⟨gmb, fun cs e' => hnc cs 45 e'⟩)
  have g11 : w1.heap[gv]? = _ := (hG1.block gv (blk_lt g1) (fun e => by cases e; exact hnc _ _ g1)).trans g1
  have keep1 : ∀ {v : Value} {α : Type} {R : α → List Value → Prop} {K : List α}, OwnRow R 22 1 w base v K → ∀ g, v.ownBlock = some g → w1.heap[g]? = w.heap[g]? := fun h g hg => by
    obtain ⟨⟨cs, hcs⟩, _⟩ := own_blk22 h hg
    exact hG1.block g (blk_lt hcs) (fun e => by cases e; exact hnc _ _ hcs)
  have hl1 := own_stayV hl st1 (keep1 hl)
  have hu1 := own_stay hu st1 (keep1 hu)
  have hrc1 : RowV o w1 base (.slice (some ad) c.length cc) c := RowV.stay ⟨_, _, rfl, hcc, hC, hS⟩ st1
  have hrx1 : RowV o w1 base (.slice Ax x.length cx) x := RowV.stay ⟨_, _, rfl, hcx, hCx, hSx⟩ st1
  have hb1 : base ≤ w1.heap.size := Nat.le_trans hbase st1.below.size
  have nel : some gv ≠ (Value.slice Al L.length cl).ownBlock := OwnRow.ne_block hl1 g11 (by decide)
  have neu : some gv ≠ (Value.slice Au U.length cu).ownBlock := OwnRow.ne_block hu1 g11 (by decide)
  go_wp2
  go_region
  have k0 := blk_cell g11 2
  simp only [List.getElem?_toArray, List.getElem?_cons_zero, List.getElem?_cons_succ] at k0
  clear q1 q2 z0 z1
  go_upto_region 2 with (first | (at_builtin; refine OwnRow.append (R := colV o w1 base) (w0 := w1) base rfl _ _ 37 22 (.slice none 0 0) 1 24 rfl Try.underlying37 info22 rfl (by decide) (by omega) (.slice Al L.length cl) L (c, .slice (some ad) c.length cc) [.slice (some ad) c.length cc] rfl rfl ⟨rfl, hrc1⟩ rfl (by simp [Value.oneCell']) hl1 (Below.refl _ _) hb1 (by omega) ?_; intro v1 w2 ho2 hb2 hg2 hat2; obtain ⟨A1, c1, rfl, hlc1⟩ := ho2.slice_; have g12 := (hg2.block gv (blk_lt g11) nel).trans g11; have k2 := blk_cell g12 2; have f2 := blk_frozen g12 2; simp only [List.getElem?_toArray, List.getElem?_cons_zero, List.getElem?_cons_succ] at k2))
  obtain ⟨w3, hw3⟩ : ∃ w3, w2.setCell ⟨gv, 2, none⟩ (.slice A1 (L.length + 1) c1) = w3 := ⟨_, rfl⟩
  rw [hw3]
  rw [show (L ++ [(c, Value.slice (some ad) c.length cc)]).length = L.length + 1 by simp] at ho2 hat2
  have hmo1 : ∃ o, w1.heap[gm]? = some o ∧ o.isCells = false := by
    obtain ⟨D, ⟨es, clock, hb, _⟩, _⟩ := hM1
    exact ⟨_, hb, rfl⟩
  obtain ⟨mo1, hmo1, hmc1⟩ := hmo1
  have hnc1 : ∀ cs t, w1.heap[gm]? ≠ some (.cells cs t (0, 0)) := fun cs t e => by rw [hmo1] at e; cases e; cases hmc1
  have st12 : Stay base w1 w2 := stay_grown hg2 hb1 (fun g e => by
    obtain ⟨⟨cs, hcs⟩, hbg⟩ := own_blk22 hl1 e
    exact ⟨hbg, fun cs' e' => by rw [hcs] at e'; cases e'⟩)
  have st23 : Stay base w2 w3 := by rw [← hw3]; exact stay_set g12 (by decide) gb 2 _
  have g13 : w3.heap[gv]? = some (.cells #[.int .i64 p, .map (some gm), .slice A1 (L.length + 1) c1, .slice Au U.length cu] 87 (0, 0)) := by rw [← hw3]; exact blk_put g12 2 _ rfl
  have far3 : ∀ b, b ≠ gv → w3.heap[b]? = w2.heap[b]? := fun b hb => by rw [← hw3]; exact Below.heap_setCell w2 _ _ b hb
  have n22 : ∀ {W : World} {α : Type} {R : α → List Value → Prop} {K : List α} {v : Value}, W.heap[gv]? = w2.heap[gv]? → OwnRow R 22 1 W base v K → ∀ g, v.ownBlock = some g → g ≠ gv := fun hW h g hg e => by
    obtain ⟨⟨cs, hcs⟩, _⟩ := own_blk22 h hg
    rw [e, hW, g12] at hcs
    cases hcs
  have hl2 : OwnRow (colV o w2 base) 22 1 w2 base (.slice A1 (L.length + 1) c1) (L ++ [(c, Value.slice (some ad) c.length cc)]) := ho2.imp_ (fun p cs ⟨e, h⟩ => ⟨e, h.stay st12⟩)
  have hl3 := own_stayV hl2 st23 (fun g hg => far3 g (n22 rfl hl2 g hg))
  have hu2 := own_stay hu1 st12 (fun g hg => by
    obtain ⟨⟨cs, hcs⟩, _⟩ := own_blk22 hu1 hg
    exact hg2.block g (blk_lt hcs) (fun e => hlu g e.symm hg))
  have hu3 := own_stay hu2 st23 (fun g hg => far3 g (n22 rfl hu2 g hg))
  have hlu1 : ∀ g, (Value.slice A1 (L.length + 1) c1).ownBlock = some g → (Value.slice Au U.length cu).ownBlock ≠ some g := fun g hg hg' => by
    rcases hat2 with e | ⟨b, e, hle⟩
    · exact hlu g (e ▸ hg) hg'
    · rw [hg] at e
      cases e
      obtain ⟨⟨cs, hcs⟩, _⟩ := own_blk22 hu1 hg'
      have := blk_lt hcs
      omega
  have hgm2 : gm ≠ gv := fun e => hnc1 _ 87 (by rw [e]; exact g11)
  have m12 : w2.heap[gm]? = w1.heap[gm]? := hg2.block gm (hM1.lt) (fun e => by
    obtain ⟨⟨cs, hcs⟩, _⟩ := own_blk22 hl1 e.symm
    exact hnc1 _ _ hcs)
  have m13 : w3.heap[gm]? = w1.heap[gm]? := (far3 gm hgm2).trans m12
  have st13 := st12.trans st23
  have hrx3 := hrx1.stay st13
  have hb3 : base ≤ w3.heap.size := Nat.le_trans hb1 st13.below.size
  have neu3 : some gv ≠ (Value.slice Au U.length cu).ownBlock := OwnRow.ne_block hu3 g13 (by decide)
  have k3 := blk_cell g13 3
  simp only [List.getElem?_toArray, List.getElem?_cons_zero, List.getElem?_cons_succ] at k3
  clear k0 k2 f2
  go_wp2_with (first | (at_builtin; refine OwnRow.append (R := colE o w3 base) (w0 := w3) base rfl _ _ 37 22 (.slice none 0 0) 1 24 rfl Try.underlying37 info22 rfl (by decide) (by omega) (.slice Au U.length cu) U x [.slice Ax x.length cx] rfl rfl ⟨_, rfl, hrx3⟩ rfl (by simp [Value.oneCell']) hu3 (Below.refl _ _) hb3 (by omega) ?_; intro v4 w4 ho4 hb4 hg4 hat4; obtain ⟨A4, c4, rfl, hlc4⟩ := ho4.slice_; have g14 := (hg4.block gv (blk_lt g13) neu3).trans g13; have k4 := blk_cell g14 3; have f4 := blk_frozen g14 3; simp only [List.getElem?_toArray, List.getElem?_cons_zero, List.getElem?_cons_succ] at k4))
  obtain ⟨w5, hw5⟩ : ∃ w5, w4.setCell ⟨gv, 3, none⟩ (.slice A4 (U.length + 1) c4) = w5 := ⟨_, rfl⟩
  rw [show (U ++ [x]).length = U.length + 1 by simp] at ho4 hat4
  rw [hw5]
  have st34 : Stay base w3 w4 := stay_grown hg4 hb3 (fun g e => by
    obtain ⟨⟨cs, hcs⟩, hbg⟩ := own_blk22 hu3 e
    exact ⟨hbg, fun cs' e' => by rw [hcs] at e'; cases e'⟩)
  have st45 : Stay base w4 w5 := by rw [← hw5]; exact stay_set g14 (by decide) gb 3 _
  have g15 : w5.heap[gv]? = some (.cells #[.int .i64 p, .map (some gm), .slice A1 (L.length + 1) c1, .slice A4 (U.length + 1) c4] 87 (0, 0)) := by rw [← hw5]; exact blk_put g14 3 _ rfl
  have far5 : ∀ b, b ≠ gv → w5.heap[b]? = w4.heap[b]? := fun b hb => by rw [← hw5]; exact Below.heap_setCell w4 _ _ b hb
  have n24 : ∀ {α : Type} {R : α → List Value → Prop} {K : List α} {v : Value}, OwnRow R 22 1 w4 base v K → ∀ g, v.ownBlock = some g → g ≠ gv := fun h g hg e => by
    obtain ⟨⟨cs, hcs⟩, _⟩ := own_blk22 h hg
    rw [e, g14] at hcs
    cases hcs
  have hu4 : OwnRow (colE o w4 base) 22 1 w4 base (.slice A4 (U.length + 1) c4) (U ++ [x]) := ho4.imp_ (fun p cs ⟨v, e, h⟩ => ⟨v, e, h.stay st34⟩)
  have hu5 := own_stay hu4 st45 (fun g hg => far5 g (n24 hu4 g hg))
  have hl4 := own_stayV hl3 st34 (fun g hg => by
    obtain ⟨⟨cs, hcs⟩, _⟩ := own_blk22 hl3 hg
    exact hg4.block g (blk_lt hcs) (fun e => hlu1 g hg e.symm))
  have hl5 := own_stayV hl4 st45 (fun g hg => far5 g (n24 hl4 g hg))
  have m35 : w5.heap[gm]? = w1.heap[gm]? := (far5 gm hgm2).trans ((hg4.block gm (blk_lt (m13.trans hmo1)) (fun e => by
    obtain ⟨⟨cs, hcs⟩, _⟩ := own_blk22 hu3 e.symm
    exact hnc1 _ _ (m13.symm.trans hcs))).trans m13)
  go_end0
  refine ⟨⟨_, rfl⟩, ⟨gm, _, _, g15, gb, ?_, gmb, hl5, hu5, fun g hg hg' => ?_, fun b hb => ?_⟩, st1.trans (st13.trans (st34.trans st45)), fun b hb hnb => ?_⟩
  · rw [show (L ++ [(c, Value.slice (some ad) c.length cc)]).length = L.length + 1 by simp]
    exact hM1.same m35
  · rcases hat4 with e | ⟨b, e, hle⟩
    · exact hlu1 g hg (e ▸ hg')
    · rw [hg'] at e
      cases e
      obtain ⟨⟨cs, hcs⟩, _⟩ := own_blk22 hl3 hg
      have := blk_lt hcs
      omega
  · have hle1 := st1.below.size
    have hle3 := st13.below.size
    rcases hb with hb | hb | hb | hb
    · exact .inl (hS' b (.inl hb))
    · exact .inl (hS' b (.inr (.inl hb)))
    · rcases hat2 with e | ⟨b', e, hle⟩
      · exact .inl (hS' b (.inr (.inr (.inl (e ▸ hb)))))
      · obtain ⟨⟨cs, hcs⟩, _⟩ := own_blk22 hl5 hb
        rw [hb] at e
        cases e
        exact .inr ⟨by omega, blk_lt hcs⟩
    · rcases hat4 with e | ⟨b', e, hle⟩
      · exact .inl (hS' b (.inr (.inr (.inr (e ▸ hb)))))
      · obtain ⟨⟨cs, hcs⟩, _⟩ := own_blk22 hu5 hb
        rw [hb] at e
        cases e
        exact .inr ⟨by omega, blk_lt hcs⟩
  · have hle1 := st1.below.size
    have hle3 := st13.below.size
    have n1 : b ≠ gv := fun e => hnb (hS' b (.inl e))
    have n2 : some b ≠ some gm := fun e => hnb (hS' b (.inr (.inl (by cases e; rfl))))
    have n3 : some b ≠ (Value.slice Al L.length cl).ownBlock := fun e => hnb (hS' b (.inr (.inr (.inl e.symm))))
    have n4 : some b ≠ (Value.slice Au U.length cu).ownBlock := fun e => hnb (hS' b (.inr (.inr (.inr e.symm))))
    exact (far5 b n1).trans ((hg4.block b (by omega) n4).trans ((far3 b n1).trans ((hg2.block b (by omega) n3).trans (hG1.block b hb n2))))
theorem put_calls {o : Bool} (base gv : Nat) (p : Int) (mp : Int → Option Int) (L U : List (List S45)) (S : Nat → Prop) (vc vx : Value) (c x : List S45) (w : World) (hbase : base ≤ w.heap.size) (hP : PivO o w base gv p mp L U S) (hc : RowV o w base vc c) (hx : RowV o w base vx x)
    (hne : 0 < c.length) (hok : rowOk (rd_T45 c ((c.length : Int) - 1)).f0) (hL : L.length < 1000000) (hUL : U.length < 1000000) :
    Calls Try.prog 70 #[.pointer (some ⟨gv, 0, none⟩), vc, vx] w fun e w' => (∃ v, e = .returned v) ∧ PivO o w' base gv p (fun y => if y = (rd_T45 c ((c.length : Int) - 1)).f0 then some (L.length : Int) else mp y) (L ++ [c]) (U ++ [x]) (fun b => S b ∨ (w.heap.size ≤ b ∧ b < w'.heap.size)) ∧ Stay base w w' ∧ ∀ b, b < w.heap.size → ¬ S b → w'.heap[b]? = w.heap[b]? := by
  obtain ⟨LV, rfl, hP⟩ := hP
  rw [List.length_map] at hL
  refine (putV_calls base gv p mp LV U S vc vx c x w hbase hP hc hx hne hok hL hUL).mono ?_
  rintro e w' ⟨hv, hP', st, fr⟩
  rw [List.length_map]
  exact ⟨hv, ⟨_, by simp, hP'⟩, st, fr⟩
/-- The pivots as they are read. -/
theorem PivV.read {o : Bool} {W : World} {base gv : Nat} {p : Int} {mp : Int → Option Int} {L : List (List S45 × Value)} {U : List (List S45)} {S : Nat → Prop} (h : PivV o W base gv p mp L U S) : PivR W gv p mp (L.map Prod.fst) U := by
  obtain ⟨gm, vl, vu, g1, gb, g2, gmb, hl, hu, hlu, hS⟩ := h
  obtain ⟨A, c, rfl, hc, hA⟩ := (own_colE hl).reads
  obtain ⟨B, d, rfl, hd, hB⟩ := hu.reads
  have conv : ∀ {A : Option Addr} {n : Nat} {K : List (List S45)}, ReadsRow (colE o W base) 1 W A n K → (Kd.slice 45 k45).C W A n K := fun h => by
    refine ⟨h.1, h.2.1, fun hp => ?_⟩
    obtain ⟨ad, e, hc⟩ := h.2.2 hp
    refine ⟨ad, e, fun j q hj => ?_⟩
    obtain ⟨cs, h1, ⟨v, rfl, A', c', rfl, h4, h5, _⟩, h3⟩ := hc j q hj
    exact ⟨_, h1, ⟨A', c', rfl, h4, h5⟩, h3⟩
  exact ⟨gm, _, A, B, c, d, g1, g2, conv hA, hc, conv hB, hd⟩
theorem PivV.lt {o : Bool} {W : World} {base gv : Nat} {p : Int} {mp : Int → Option Int} {L : List (List S45 × Value)} {U : List (List S45)} {S : Nat → Prop} (h : PivV o W base gv p mp L U S) : gv < W.heap.size := by
  obtain ⟨gm, vl, vu, g1, _⟩ := h
  exact blk_lt g1
/-- The pivots stay where the columns stay, and the pivots' own blocks. -/
theorem PivV.stay {o : Bool} {W W' : World} {base gv : Nat} {p : Int} {mp : Int → Option Int} {L : List (List S45 × Value)} {U : List (List S45)} {S : Nat → Prop} (h : PivV o W base gv p mp L U S) (st : Stay base W W') (hb : ∀ b, S b → b < W.heap.size → W'.heap[b]? = W.heap[b]?) : PivV o W' base gv p mp L U S := by
  obtain ⟨gm, vl, vu, g1, gb, g2, gmb, hl, hu, hlu, hS⟩ := h
  refine ⟨gm, vl, vu, (hb gv (hS gv (.inl rfl)) (blk_lt g1)).trans g1, gb, g2.same (hb gm (hS gm (.inr (.inl rfl))) g2.lt), gmb, own_stayV hl st (fun g hg => ?_), own_stay hu st (fun g hg => ?_), hlu, hS⟩
  · obtain ⟨⟨cs, hcs⟩, _⟩ := own_blkV hl hg
    exact hb g (hS g (.inr (.inr (.inl hg)))) (blk_lt hcs)
  · obtain ⟨⟨cs, hcs⟩, _⟩ := own_blk22 hu hg
    exact hb g (hS g (.inr (.inr (.inr hg)))) (blk_lt hcs)
theorem PivV.below {o : Bool} {W W' : World} {base gv : Nat} {p : Int} {mp : Int → Option Int} {L : List (List S45 × Value)} {U : List (List S45)} {S : Nat → Prop} (h : PivV o W base gv p mp L U S) (hbase : base ≤ W.heap.size) (hb : Below W.heap.size W W') : PivV o W' base gv p mp L U S :=
  h.stay (Stay.of_below hbase hb) (fun b _ hlt => hb.block b hlt)
theorem PivO.read {o : Bool} {W : World} {base gv : Nat} {p : Int} {mp : Int → Option Int} {L U : List (List S45)} {S : Nat → Prop} (h : PivO o W base gv p mp L U S) : PivR W gv p mp L U := by
  obtain ⟨LV, rfl, h⟩ := h
  exact h.read
theorem PivO.lt {o : Bool} {W : World} {base gv : Nat} {p : Int} {mp : Int → Option Int} {L U : List (List S45)} {S : Nat → Prop} (h : PivO o W base gv p mp L U S) : gv < W.heap.size := by
  obtain ⟨LV, rfl, h⟩ := h
  exact h.lt
theorem PivO.below {o : Bool} {W W' : World} {base gv : Nat} {p : Int} {mp : Int → Option Int} {L U : List (List S45)} {S : Nat → Prop} (h : PivO o W base gv p mp L U S) (hbase : base ≤ W.heap.size) (hb : Below W.heap.size W W') : PivO o W' base gv p mp L U S := by
  obtain ⟨LV, e, h⟩ := h
  exact ⟨LV, e, h.below hbase hb⟩
theorem PivO.stay {o : Bool} {W W' : World} {base gv : Nat} {p : Int} {mp : Int → Option Int} {L U : List (List S45)} {S : Nat → Prop} (h : PivO o W base gv p mp L U S) (st : Stay base W W') (hb : ∀ b, S b → b < W.heap.size → W'.heap[b]? = W.heap[b]?) : PivO o W' base gv p mp L U S := by
  obtain ⟨LV, e, h⟩ := h
  exact ⟨LV, e, h.stay st hb⟩
/-- What is known of the pivots' block. -/
theorem PivO.open {o : Bool} {W : World} {base gv : Nat} {p : Int} {mp : Int → Option Int} {L U : List (List S45)} {S : Nat → Prop} (h : PivO o W base gv p mp L U S) :
    ∃ (gm : Nat) (vl vu : Value), W.heap[gv]? = some (.cells #[.int .i64 p, .map (some gm), vl, vu] 87 (0, 0)) ∧ OwnRow (colE o W base) 22 1 W base vl L := by
  obtain ⟨LV, rfl, gm, vl, vu, g1, gb, g2, gmb, hl, _⟩ := h
  exact ⟨gm, vl, vu, g1, own_colE hl⟩
theorem PivO.made {o : Bool} (W : World) (base : Nat) (p : Int) (hb : base ≤ W.heap.size) : PivV o ((W.alloc (.map #[] 0)).alloc (.cells #[.int .i64 p, .map (some W.heap.size), .slice none 0 0, .slice none 0 0] 87)) base (W.heap.size + 1) p (fun _ => none) [] [] (fun b => b = W.heap.size ∨ b = W.heap.size + 1) := by
  refine ⟨W.heap.size, .slice none 0 0, .slice none 0 0, ?_, by omega, ?_, hb, OwnRow.none_ _ _ _ _ _, OwnRow.none_ _ _ _ _ _, by simp [Value.ownBlock], ?_⟩
  · have := World.alloc_heap_new (W.alloc (.map #[] 0)) (.cells #[.int .i64 p, .map (some W.heap.size), .slice none 0 0, .slice none 0 0] 87)
    rwa [World.size_alloc] at this
  · exact (IMap.made W).same (Below.heap_alloc _ _ _ (by simp))
  · simp [Value.ownBlock]
end Go.Proofs.Ytojnnfhalpefmaa.H
