/- pairing.Greatest does what greatF says. -/
import Derived.Test.YtlleokhmgblfnaaALev
import Derived.Laws.EntriesVeiled
set_option linter.unusedVariables false
set_option linter.unusedSimpArgs false
namespace Go.Proofs.Ytlleokhmgblfnaa.H
open Go.RowKit Go.Proofs.YtlleokhmgblfnaaW.PrintWords

def nones (n : Nat) : List Int := List.replicate n (-1)
theorem made_row (w : World) (n : Nat) : Row (w.alloc (.cells (madeCells #[.int .i64 0] n) 3)) w.heap.size (List.replicate n 0) := by
  unfold Row
  rw [blk_new]
  congr 2
  apply Array.ext
  · simp [size_madeCells]
  · intro i h1 h2
    simp [madeCells, Nat.mod_one]

theorem rep_cons (a : Nat) (x : Int) (l : List Int) : List.replicate a x ++ x :: l = x :: (List.replicate a x ++ l) := by
  induction a with
  | zero => rfl
  | succ a ih => simp only [List.replicate_succ, List.cons_append, ih]
theorem Row.R {w : World} {g base : Nat} {xs : List Int} {ok : Nat → Prop} (h : Row w g xs) (hb : base ≤ g) (hm : xs.length ≤ 9223372036854775807) (hok : ok g) : Kd.R (Kd.int .i64) 3 w base ok (.slice (some ⟨g, 0, none⟩) xs.length xs.length) xs := by
  refine Kd.R_of_own ⟨by simp [encs], .inr ⟨g, xs.length, _, rfl, hb, h, Nat.le_refl _, hm, by simp, ?_⟩⟩ (fun k hk => ?_)
  · simp [encs]
    exact List.take_of_length_le (by simp)
  · have : g = k := by simpa [Value.ownBlock] using hk
    exact this ▸ hok

/-- One phase: from the left vertex v on. -/
def phase (next : List (List Int)) : Nat → Int → List Int → List Int → List Int → Option (List Int × List Int × List Int)
  | 0, _, _, _, _ => none
  | k + 1, v, m, b, l =>
    if v < next.length then
      if rd m v < 0 then (extG next k v 0 m b l).bind fun q => phase next k (v + 1) q.2.1 q.2.2.1 q.2.2.2
      else phase next k (v + 1) m b l
    else some (m, b, l)
def great (next : List (List Int)) : Nat → List Int → List Int → List Int → Option (List Int × List Int)
  | 0, _, _, _ => none
  | k + 1, m, b, l => (levF next m b k l).bind fun s => if s.1 then (phase next k 0 m b s.2).bind fun t => great next k t.1 t.2.1 t.2.2 else some (m, b)
def greatF (k : Nat) (next : List (List Int)) (R : Int) : Option (List Int × List Int) :=
  if 0 ≤ R then if R.toNat ≤ 35184372088832 then if next.length ≤ 35184372088832 then great next k (nones next.length) (nones R.toNat) (List.replicate next.length 0) else none else none else none

def NonePost (n : Nat) (w : World) (e : Ending) (w' : World) : Prop :=
  ∃ g, e = .returned (.slice (some ⟨g, 0, none⟩) n n) ∧ w.heap.size ≤ g ∧ Row w' g (nones n) ∧ Below w.heap.size w w'
set_option maxHeartbeats 1000000 in
set_option maxRecDepth 100000 in
theorem none_calls (n : Nat) (hn : n ≤ 35184372088832) (w : World) : Calls Try.prog 52 #[.int .i64 n] w (NonePost n w) := by
  have hmk := run_make_row' (P := Try.prog) 29 3 (.int .i64 0) 8 Try.underlying29 info3 rfl .i64 .i64 n (by omega) (by omega)
  have HR := Aside0.mk (made_row w n)
  go_enter Try.func52, Try.ntmps52
  go_wp2_with fail
  go_loopg [9] (n + 1) (fun kq v9 wr => ∃ i : Int, v9 = .int .i64 i ∧ Aside0 (0 ≤ i ∧ i ≤ n ∧ (n : Int) < i + kq) ∧ Aside0 (Row wr w.heap.size (List.replicate i.toNat (-1) ++ List.replicate (n - i.toNat) 0)) ∧ Aside0 (Below w.heap.size w wr))
  case atStart => exact ⟨0, rfl, ⟨by omega, by omega, by omega⟩, ⟨by simpa using HR.out⟩, ⟨below_alloc (Below.refl _ _) _⟩⟩
  case round =>
    clear HR hmk
    obtain ⟨i, rfl, HA, HR, HB⟩ := hrel
    have hi0 : 0 ≤ i := HA.out.1
    by_cases hlt : i < n
    · have ci := HR.out.cell i hi0 (by simp; omega)
      have fi := HR.out.frozen i
      go_wp2
      go_roundg (gk - 1)
      case measure => have := HA.out; omega
      case rel =>
        have := HA.out
        refine ⟨i + 1, by go_num, ⟨by omega, by omega, by omega⟩, ⟨?_⟩, ⟨below_set HB.out (Nat.le_refl _)⟩⟩
        have h := HR.out.set i (-1)
        have e : (List.replicate i.toNat (-1 : Int) ++ List.replicate (n - i.toNat) 0).set i.toNat (-1) = List.replicate (i + 1).toNat (-1) ++ List.replicate (n - (i + 1).toNat) 0 := by
          rw [List.set_append_right _ _ (by simp)]
          obtain ⟨m, hm⟩ : ∃ m, n - i.toNat = m + 1 := ⟨n - i.toNat - 1, by omega⟩
          rw [hm, show (i + 1).toNat = i.toNat + 1 by omega, show n - (i.toNat + 1) = m by omega]
          simp [List.replicate_succ, rep_cons]
        rw [e] at h
        exact h
    · have hi : i.toNat = n := by have := HA.out; omega
      have HI := Aside0.mk hi
      clear hi
      go_wp2
      go_ret
      exact ⟨_, rfl, Nat.le_refl _, by have := HR.out; rw [HI.out] at this; simpa [nones] using this, HB.out⟩

theorem ExtW.lev {w0 wr w1 : World} {next : List (List Int)} {R : Nat} {A0 : Option Addr} {c0 Bn Bm Bb Bl Bx gm gb gl : Nat} {m b l l' : List Int} (h : ExtW w0 next R A0 c0 Bn Bm Bb Bl Bx gm gb gl m b l wr) (k : LevW w0 wr gm gb gl m b l' w1) (hl : l'.length = next.length) : ExtW w0 next R A0 c0 Bn Bm Bb Bl Bx gm gb gl m b l' w1 :=
  ⟨k.below, k.keep.blk h.hn (h.rl.ne h.hn (by decide)) (by simp), k.keep.blk h.hm (h.rl.ne h.hm (by decide)) (by simp), k.keep.blk h.hb (h.rl.ne h.hb (by decide)) (by simp), k.keep.blk h.hl (h.rl.ne h.hl (by decide)) (by simp), k.keep.blk h.hx (h.rl.ne h.hx (by decide)) (by simp),
    k.rm, k.rb, k.rl, h.lm, h.lb, hl, h.gmb, h.gml, h.gbl, h.om, h.ob, h.ol⟩
theorem levA_len (mate : List Int) (n : Int) : ∀ k i l q s, levA mate n k i l q = some s → s.1.length = l.length := by
  intro k
  induction k with
  | zero => intro i l q s h; exact absurd h (by simp [levA])
  | succ k ih =>
    intro i l q s h
    simp only [levA] at h
    repeat' split at h
    all_goals first
      | (have := ih _ _ _ _ h; simpa using this)
      | (cases h; rfl)
      | cases h
theorem levC_len (back ws : List Int) (v : Int) : ∀ k j f l q s, levC back ws v k j f l q = some s → s.2.1.length = l.length := by
  intro k
  induction k with
  | zero => intro j f l q s h; exact absurd h (by simp [levC])
  | succ k ih =>
    intro j f l q s h
    simp only [levC] at h
    repeat' split at h
    all_goals first
      | (have := ih _ _ _ _ _ h; simpa using this)
      | (cases h; rfl)
      | cases h
theorem levB_len (next : List (List Int)) (back : List Int) : ∀ k f l q s, levB next back k f l q = some s → s.2.length = l.length := by
  intro k
  induction k with
  | zero => intro f l q s h; exact absurd h (by simp [levB])
  | succ k ih =>
    intro f l q s h
    cases q with
    | nil => cases h; rfl
    | cons v q =>
      simp only [levB] at h
      repeat' split at h
      · cases hc : levC back (rdL next v) v k 0 f l q with
        | none => rw [hc] at h; exact absurd h (by simp)
        | some t =>
          rw [hc] at h
          have h1 := ih _ _ _ _ h
          have h2 := levC_len _ _ _ _ _ _ _ _ _ hc
          exact h1.trans h2
      all_goals exact absurd h (by simp)
theorem levF_len {next : List (List Int)} {mate back : List Int} {k : Nat} {l : List Int} {s : Bool × List Int} (h : levF next mate back k l = some s) : s.2.length = l.length := by
  unfold levF at h
  cases ha : levA mate next.length k 0 l [] with
  | none => rw [ha] at h; exact absurd h (by simp)
  | some t =>
    rw [ha] at h
    exact (levB_len _ _ _ _ _ _ _ h).trans (levA_len _ _ _ _ _ _ _ ha)

def GreatPost (w : World) (r : List Int × List Int) (e : Ending) (w' : World) : Prop :=
  ∃ v0 v1 : Value, e = .returned (.tuple #[v0, v1]) ∧ Kd.R (Kd.int .i64) 3 w' w.heap.size (fun k => some k ≠ v1.ownBlock) v0 r.1 ∧ Kd.R (Kd.int .i64) 3 w' w.heap.size (fun k => some k ≠ v0.ownBlock) v1 r.2 ∧ Below w.heap.size w w'
set_option maxHeartbeats 4000000 in
set_option maxRecDepth 100000 in
theorem great_calls (k : Nat) (A0 : Option Addr) (c0 : Nat) (next : List (List Int)) (R : Int) (r : List Int × List Int) (w : World) (hN : Kd.C (Kd.slice 3 (Kd.int .i64)) w A0 next.length next) (hc : next.length ≤ c0) (h : greatF k next R = some r) :
    Calls Try.prog 46 #[.slice A0 next.length c0, .int .i64 R] w (GreatPost w r) := by
  unfold greatF at h
  by_cases h1 : 0 ≤ R
  case neg => rw [if_neg h1] at h; exact absurd h (by simp)
  rw [if_pos h1] at h
  by_cases h2 : R.toNat ≤ 35184372088832
  case neg => rw [if_neg h2] at h; exact absurd h (by simp)
  rw [if_pos h2] at h
  by_cases h3 : next.length ≤ 35184372088832
  case neg => rw [if_neg h3] at h; exact absurd h (by simp)
  rw [if_pos h3] at h
  obtain ⟨n, rfl⟩ := Int.eq_ofNat_of_zero_le h1
  rw [Int.toNat_natCast] at h h2
  have HN := Aside0.mk hN
  have H := Aside0.mk h
  clear hN h h1
  have hmk := run_make_row' (P := Try.prog) 29 3 (.int .i64 0) 8 Try.underlying29 info3 rfl .i64 .i64 next.length (by omega) (by omega)
  go_enter Try.func46, Try.ntmps46
  go_wp2_with fail
  have hW : ∃ W : World, W = (((w.alloc (Obj.cells #[Value.slice A0 next.length c0] 69)).alloc (Obj.cells #[Value.slice none 0 0] 29)).alloc (Obj.cells #[Value.slice none 0 0] 29)) := ⟨_, rfl⟩
  obtain ⟨W, hW⟩ := hW
  rw [← hW]
  have kn : W.heap[w.heap.size]? = some (.cells #[.slice A0 next.length c0] 69 (0, 0)) := by rw [hW]; exact blk_alloc (blk_alloc (blk_new _ _) _) _
  have km : W.heap[w.heap.size + 1]? = some (.cells #[.slice none 0 0] 29 (0, 0)) := by rw [hW]; have := blk_alloc (blk_new (w.alloc (Obj.cells #[Value.slice A0 next.length c0] 69)) (Obj.cells #[Value.slice none 0 0] 29)) (Obj.cells #[Value.slice none 0 0] 29); simpa using this
  have kb : W.heap[w.heap.size + 1 + 1]? = some (.cells #[.slice none 0 0] 29 (0, 0)) := by rw [hW]; have := blk_new ((w.alloc (Obj.cells #[Value.slice A0 next.length c0] 69)).alloc (Obj.cells #[Value.slice none 0 0] 29)) (Obj.cells #[Value.slice none 0 0] 29); simpa using this
  have kB : Below w.heap.size w W := by rw [hW]; exact below_alloc (below_alloc (below_alloc (Below.refl _ _) _) _) _
  have ks : W.heap.size = w.heap.size + 3 := by rw [hW]; simp
  clear hW
  refine (none_calls next.length h3 _).mono ?_
  rintro e w1 ⟨gm, rfl, hg1, hr1, hb1⟩
  replace kn := blk_below kn hb1
  replace km := blk_below km hb1
  replace kb := blk_below kb hb1
  have ks1 := hb1.size
  replace kB := below_step kB hb1
  clear hb1
  have KN := Aside0.mk kn
  have KM := Aside0.mk km
  have KB := Aside0.mk kb
  have KBe := Aside0.mk kB
  have HR1 := Aside0.mk hr1
  have HG1 := Aside0.mk (show w.heap.size + 3 ≤ gm by omega)
  have KS := Aside0.mk (show w.heap.size + 3 ≤ w1.heap.size by omega)
  clear kn km kb kB hr1 hg1 ks ks1 W
  go_wp2_with fail
  refine (none_calls n h2 _).mono ?_
  rintro e w2 ⟨gb, rfl, hg2, hr2, hb2⟩
  have KN2 := Aside0.mk (blk_below KN.out hb2)
  have KM2 := Aside0.mk (blk_below KM.out hb2)
  have KB2 := Aside0.mk (blk_below KB.out hb2)
  have KBe2 := Aside0.mk (below_step KBe.out hb2)
  have HR12 := Aside0.mk (HR1.out.move (hb2.block gm HR1.out.lt))
  have HR2 := Aside0.mk hr2
  have hgne : gm ≠ gb := by have := HR1.out.lt; omega
  have HNE := Aside0.mk hgne
  have HG2 := Aside0.mk (show w.heap.size + 3 ≤ gb by have := KS.out; omega)
  have KS2 := Aside0.mk (show w.heap.size + 3 ≤ w2.heap.size by have := KS.out; have := hb2.size; omega)
  clear hr2 hb2 hgne hg2 KN KM KB KBe HR1 KS
  have cn := blk_cell KN2.out 0
  have cm := blk_cell KM2.out 0
  have cb := blk_cell KB2.out 0
  have fm := blk_frozen KM2.out 0
  have fb := blk_frozen KB2.out 0
  simp only [List.getElem?_toArray, List.getElem?_cons_zero] at cn cm cb
  go_wp2_with fail
  generalize hW : (((((w2.setCell { block := w.heap.size + 1, off := 0 } (Value.slice (some { block := gm, off := 0 }) next.length next.length)).setCell { block := w.heap.size + 1 + 1, off := 0 } (Value.slice (some { block := gb, off := 0 }) n n)).alloc (Obj.cells (madeCells #[Value.int IntKind.i64 0] next.length) 3)).alloc (Obj.cells #[Value.slice (some { block := w2.heap.size, off := 0 }) next.length next.length] 29)).alloc (Obj.cells #[Value.func (Fn.func 53) #[] #[Value.pointer (some { block := w.heap.size, off := 0 }), Value.pointer (some { block := w.heap.size + 1 + 1, off := 0 }), Value.pointer (some { block := w2.heap.size + 1, off := 0 }), Value.pointer (some { block := w2.heap.size + 1 + 1, off := 0 }), Value.pointer (some { block := w.heap.size + 1, off := 0 })]] 84)) = W
  have HX : Aside0 (ExtW w next n A0 c0 w.heap.size (w.heap.size + 1) (w.heap.size + 1 + 1) (w2.heap.size + 1) (w2.heap.size + 1 + 1) gm gb w2.heap.size (nones next.length) (nones n) (List.replicate next.length 0) W) := by
    have ns := KS2.out
    have e1 : ∀ (X : World) (o : Obj), (X.alloc o).heap.size = X.heap.size + 1 := fun X o => by simp
    have hN1 : w.heap.size ≠ w.heap.size + 1 := by omega
    have hN2 : w.heap.size ≠ w.heap.size + 1 + 1 := by omega
    have hN3 : w.heap.size + 1 ≠ w.heap.size + 1 + 1 := by omega
    have hM1 : gm ≠ w.heap.size + 1 := by have := HG1.out; omega
    have hM2 : gm ≠ w.heap.size + 1 + 1 := by have := HG1.out; omega
    have hG1 : gb ≠ w.heap.size + 1 := by have := HG2.out; omega
    have hG2 : gb ≠ w.heap.size + 1 + 1 := by have := HG2.out; omega
    obtain ⟨Wa, hWa⟩ : ∃ X, X = w2.setCell { block := w.heap.size + 1, off := 0 } (Value.slice (some { block := gm, off := 0 }) next.length next.length) := ⟨_, rfl⟩
    obtain ⟨Wb, hWb⟩ : ∃ X, X = Wa.setCell { block := w.heap.size + 1 + 1, off := 0 } (Value.slice (some { block := gb, off := 0 }) n n) := ⟨_, rfl⟩
    have sb : Wb.heap.size = w2.heap.size := by rw [hWb, hWa]; simp
    have a1 : Wb.heap[w.heap.size]? = some (.cells #[.slice A0 next.length c0] 69 (0, 0)) := by rw [hWb, hWa]; exact blk_far (blk_far KN2.out hN1 _) hN2 _
    have a2 : Wb.heap[w.heap.size + 1]? = some (.cells #[.slice (some ⟨gm, 0, none⟩) next.length next.length] 29 (0, 0)) := by rw [hWb, hWa]; exact blk_far (by have := blk_set KM2.out 0 (Value.slice (some { block := gm, off := 0 }) next.length next.length); simpa using this) hN3 _
    have a3 : Wb.heap[w.heap.size + 1 + 1]? = some (.cells #[.slice (some ⟨gb, 0, none⟩) n n] 29 (0, 0)) := by
      rw [hWb]
      have h1 : Wa.heap[w.heap.size + 1 + 1]? = some (.cells #[.slice none 0 0] 29 (0, 0)) := by rw [hWa]; exact blk_far KB2.out hN3.symm _
      have := blk_set h1 0 (Value.slice (some { block := gb, off := 0 }) n n)
      simpa using this
    have a4 : Row Wb gm (nones next.length) := by rw [hWb, hWa]; exact (HR12.out.far hM1 _).far hM2 _
    have a5 : Row Wb gb (nones n) := by rw [hWb, hWa]; exact (HR2.out.far hG1 _).far hG2 _
    have a6 : Below w.heap.size w Wb := by rw [hWb, hWa]; exact below_set (below_set KBe2.out (by omega)) (by omega)
    rw [← hWa, ← hWb] at hW
    clear hWa hWb
    subst hW
    refine ⟨⟨below_alloc (below_alloc (below_alloc a6 _) _) _, blk_alloc (blk_alloc (blk_alloc a1 _) _) _, blk_alloc (blk_alloc (blk_alloc a2 _) _) _, blk_alloc (blk_alloc (blk_alloc a3 _) _) _, ?_, ?_, ((a4.alloc _).alloc _).alloc _, ((a5.alloc _).alloc _).alloc _, ?_, by simp [nones], by simp [nones], by simp, HNE.out, ?_, ?_, by have := HG1.out; omega, by have := HG2.out; omega, by omega⟩⟩
    · refine blk_alloc ?_ _
      have := blk_new (Wb.alloc (Obj.cells (madeCells #[Value.int IntKind.i64 0] next.length) 3)) (Obj.cells #[Value.slice (some { block := w2.heap.size, off := 0 }) next.length next.length] 29)
      rw [e1, sb] at this
      exact this
    · have := blk_new ((Wb.alloc (Obj.cells (madeCells #[Value.int IntKind.i64 0] next.length) 3)).alloc (Obj.cells #[Value.slice (some { block := w2.heap.size, off := 0 }) next.length next.length] 29)) (Obj.cells #[Value.func (Fn.func 53) #[] #[Value.pointer (some { block := w.heap.size, off := 0 }), Value.pointer (some { block := w.heap.size + 1 + 1, off := 0 }), Value.pointer (some { block := w2.heap.size + 1, off := 0 }), Value.pointer (some { block := w2.heap.size + 1 + 1, off := 0 }), Value.pointer (some { block := w.heap.size + 1, off := 0 })]] 84)
      rw [e1, e1, sb] at this
      exact this
    · have := made_row Wb next.length
      rw [sb] at this
      exact (this.alloc _).alloc _
    · have := HR12.out.lt; omega
    · have := HR2.out.lt; omega
  clear hW cn cm cb fm fb KN2 KM2 KB2 KBe2 HR12 HR2 HNE HG1 HG2 hmk
  have hmn : next.length ≤ 9223372036854775807 := by omega
  go_loopg [25] k (fun kq v25 wr => ∃ (m b l : List Int), Aside0 (great next kq m b l = some r ∧ kq ≤ k) ∧ Aside0 (ExtW w next n A0 c0 w.heap.size (w.heap.size + 1) (w.heap.size + 1 + 1) (w2.heap.size + 1) (w2.heap.size + 1 + 1) gm gb w2.heap.size m b l wr))
  case atStart => exact ⟨_, _, _, ⟨H.out, Nat.le_refl _⟩, HX⟩
  case round =>
    clear HX H
    obtain ⟨m, b, l, HA, HX⟩ := hrel
    cases gk with
    | zero => exact absurd HA.out.1 (by simp [great])
    | succ k1 =>
      have H0 := HA.out.1
      have HK := Aside0.mk HA.out.2
      clear HA
      simp only [great] at H0
      cases hs : levF next m b k1 l with
      | none => rw [hs] at H0; exact absurd H0 (by simp)
      | some s =>
        rw [hs] at H0
        have HS := Aside0.mk hs
        have HL := Aside0.mk ((levF_len hs).trans HX.out.ll)
        have H := Aside0.mk (show (if s.1 then (phase next k1 0 m b s.2).bind fun t => great next k1 t.1 t.2.1 t.2.2 else some (m, b)) = some r from H0)
        clear H0 hs
        have cn := blk_cell HX.out.hn 0
        have cm := blk_cell HX.out.hm 0
        have cb := blk_cell HX.out.hb 0
        have cl := blk_cell HX.out.hl 0
        simp only [List.getElem?_toArray, List.getElem?_cons_zero] at cn cm cb cl
        go_wp2_with fail
        refine (levels_calls w _ next A0 c0 gm gb w2.heap.size next.length n m b l k1 s HN.out hc HX.out.below HX.out.rm HX.out.rb HX.out.rl HX.out.gml HX.out.gbl HX.out.ol HX.out.lm HX.out.lb HX.out.ll HS.out).mono ?_
        rintro e w3 ⟨rfl, hw3⟩
        have HX2 := Aside0.mk (HX.out.lev hw3 HL.out)
        clear hw3 HX HS HL cn cm cb cl
        obtain ⟨s1, s2⟩ := s
        cases s1 with
        | false =>
          have hr := Option.some.inj (show some (m, b) = some r from H.out)
          have HR := Aside0.mk hr
          clear hr H
          have cm := blk_cell HX2.out.hm 0
          have cb := blk_cell HX2.out.hb 0
          have fm := blk_frozen HX2.out.hm 0
          have fb := blk_frozen HX2.out.hb 0
          simp only [List.getElem?_toArray, List.getElem?_cons_zero] at cm cb
          go_wp2
          go_region
          all_goals go_wp2
          have n1 : w.heap.size + 1 ≠ w.heap.size + 1 + 1 := by omega
          have m1 : gm ≠ w.heap.size + 1 := HX2.out.rm.ne HX2.out.hm (by decide) |>.symm
          have m2 : gm ≠ w.heap.size + 1 + 1 := HX2.out.rm.ne HX2.out.hb (by decide) |>.symm
          have g1 : gb ≠ w.heap.size + 1 := HX2.out.rb.ne HX2.out.hm (by decide) |>.symm
          have g2 : gb ≠ w.heap.size + 1 + 1 := HX2.out.rb.ne HX2.out.hb (by decide) |>.symm
          obtain ⟨W4, hW4⟩ : ∃ X, X = ((w3.setCell { block := w.heap.size + 1, off := 0 } (Value.slice (some { block := gm, off := 0 }) next.length next.length)).setCell { block := w.heap.size + 1 + 1, off := 0 } (Value.slice (some { block := gb, off := 0 }) n n)).drew := ⟨_, rfl⟩
          have k1 : W4.heap[w.heap.size + 1]? = some (.cells #[.slice (some ⟨gm, 0, none⟩) next.length next.length] 29 (0, 0)) := by
            rw [hW4]; exact blk_drew (blk_far (by have := blk_set HX2.out.hm 0 (Value.slice (some { block := gm, off := 0 }) next.length next.length); simpa using this) n1 _)
          have k2 : W4.heap[w.heap.size + 1 + 1]? = some (.cells #[.slice (some ⟨gb, 0, none⟩) n n] 29 (0, 0)) := by
            rw [hW4]
            refine blk_drew ?_
            have h1 : (w3.setCell { block := w.heap.size + 1, off := 0 } (Value.slice (some { block := gm, off := 0 }) next.length next.length)).heap[w.heap.size + 1 + 1]? = some (.cells #[.slice (some ⟨gb, 0, none⟩) n n] 29 (0, 0)) := blk_far HX2.out.hb n1.symm _
            have := blk_set h1 0 (Value.slice (some { block := gb, off := 0 }) n n)
            simpa using this
          have r1 : Row W4 gm m := by rw [hW4]; exact (HX2.out.rm.far m1 _).far m2 _
          have r2 : Row W4 gb b := by rw [hW4]; exact (HX2.out.rb.far g1 _).far g2 _
          have bl : Below w.heap.size w W4 := by rw [hW4]; exact below_drew1 (below_set (below_set HX2.out.below (by omega)) (by omega))
          rw [← hW4]
          have q1 := blk_cell k1 0
          have q2 := blk_cell k2 0
          simp only [List.getElem?_toArray, List.getElem?_cons_zero] at q1 q2
          clear hW4
          refine bodyPost_ret (v := .tuple #[.slice (some ⟨gm, 0, none⟩) next.length next.length, .slice (some ⟨gb, 0, none⟩) n n]) (by simp [results, Try.results46, go_sem, q1, q2]) rfl ⟨_, _, rfl, ?_, ?_, bl⟩
          · have := r1.R (base := w.heap.size) (ok := fun k => some k ≠ (Value.slice (some ⟨gb, 0, none⟩) n n).ownBlock) HX2.out.om (by rw [HX2.out.lm]; exact hmn) (by simp [Value.ownBlock]; exact HX2.out.gmb)
            rw [← HR.out]
            rw [HX2.out.lm] at this
            exact this
          · have := r2.R (base := w.heap.size) (ok := fun k => some k ≠ (Value.slice (some ⟨gm, 0, none⟩) next.length next.length).ownBlock) HX2.out.ob (by rw [HX2.out.lb]; omega) (by simp [Value.ownBlock]; exact HX2.out.gmb.symm)
            rw [← HR.out]
            rw [HX2.out.lb] at this
            exact this
        | true =>
          have H2 := Aside0.mk (show ((phase next k1 0 m b s2).bind fun t => great next k1 t.1 t.2.1 t.2.2) = some r from H.out)
          clear H
          have cn := blk_cell HX2.out.hn 0
          simp only [List.getElem?_toArray, List.getElem?_cons_zero] at cn
          go_wp2_with fail
          clear cn
          go_loopg [25] k1 (fun kq v25 wr => ∃ (v : Int) (m b l : List Int), v25 = .int .i64 v ∧ Aside0 (0 ≤ v ∧ (phase next kq v m b l).bind (fun t => great next k1 t.1 t.2.1 t.2.2) = some r ∧ kq ≤ k1) ∧ Aside0 (ExtW w next n A0 c0 w.heap.size (w.heap.size + 1) (w.heap.size + 1 + 1) (w2.heap.size + 1) (w2.heap.size + 1 + 1) gm gb w2.heap.size m b l wr))
          case atStart => exact ⟨0, m, b, s2, rfl, ⟨by omega, H2.out, Nat.le_refl _⟩, HX2⟩
          case round =>
            clear HX2 H2
            obtain ⟨v, m, b, l, rfl, HA, HX⟩ := hrel
            have hv0 : 0 ≤ v := HA.out.1
            cases gk with
            | zero => exact absurd HA.out.2.1 (by simp [phase])
            | succ k2 =>
              have H0 := HA.out.2.1
              have HK2 := Aside0.mk HA.out.2.2
              clear HA
              simp only [phase] at H0
              by_cases hlt : v < next.length
              · rw [if_pos hlt] at H0
                have cm := blk_cell HX.out.hm 0
                have cx := blk_cell HX.out.hx 0
                simp only [List.getElem?_toArray, List.getElem?_cons_zero] at cm cx
                have cv := HX.out.rm.cell v hv0 (by rw [HX.out.lm]; exact hlt)
                by_cases hneg : rd m v < 0
                · rw [if_pos hneg] at H0
                  cases hq : extG next k2 v 0 m b l with
                  | none => rw [hq] at H0; exact absurd H0 (by simp)
                  | some q =>
                    rw [hq] at H0
                    have HQ := Aside0.mk hq
                    have H := Aside0.mk (show ((phase next k2 (v + 1) q.2.1 q.2.2.1 q.2.2.2).bind fun t => great next k1 t.1 t.2.1 t.2.2) = some r from H0)
                    clear H0 hq
                    go_wp2_with fail
                    refine (ext_calls w next n A0 c0 w.heap.size (w.heap.size + 1) (w.heap.size + 1 + 1) (w2.heap.size + 1) (w2.heap.size + 1 + 1) gm gb w2.heap.size HN.out hc k2 v m b l q _ hv0 hlt HX.out HQ.out).mono ?_
                    rintro e w4 ⟨rfl, hw4⟩
                    have HX4 := Aside0.mk hw4
                    clear hw4 HX cm cx cv HQ
                    go_wp2_with fail
                    go_roundg k2
                    case measure => omega
                    case rel => exact ⟨v + 1, _, _, _, by go_num, ⟨by omega, H.out, by have := HK2.out; omega⟩, HX4⟩
                · rw [if_neg hneg] at H0
                  have H := Aside0.mk H0
                  clear H0
                  go_wp2_with fail
                  go_roundg k2
                  case measure => omega
                  case rel => exact ⟨v + 1, _, _, _, by go_num, ⟨by omega, H.out, by have := HK2.out; omega⟩, HX⟩
              · rw [if_neg hlt] at H0
                have H := Aside0.mk (show great next k1 m b l = some r from H0)
                clear H0
                go_wp2_with fail
                go_roundg k1
                case measure => omega
                case rel => exact ⟨m, b, l, ⟨H.out, by have := HK.out; omega⟩, HX⟩
end Go.Proofs.Ytlleokhmgblfnaa.H
