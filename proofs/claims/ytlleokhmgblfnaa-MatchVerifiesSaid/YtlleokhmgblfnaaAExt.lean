/- The closure 'extend' inside pairing.Greatest does what extG says. -/
import Derived.Test.YtlleokhmgblfnaaABase
import Derived.Deep.RegionWith
import Derived.StillTailTactics
set_option linter.unusedVariables false
namespace Go.Proofs.Ytlleokhmgblfnaa.H
open Go.RowKit Go.Proofs.YtlleokhmgblfnaaW.PrintWords

/-- Block g holds the numbers xs. -/
def Row (w : World) (g : Nat) (xs : List Int) : Prop := w.heap[g]? = some (.cells (xs.map (Value.int .i64)).toArray 3 (0, 0))
section
variable {w w1 : World} {g : Nat} {xs : List Int}
theorem Row.lt (h : Row w g xs) : g < w.heap.size := blk_lt h
theorem Row.cell (h : Row w g xs) (i : Int) (h0 : 0 ≤ i) (h1 : i < xs.length) : w.cell? ⟨g, i.toNat, none⟩ = some (.int .i64 (rd xs i)) := by
  rw [blk_cell h]
  simp [rd, show i.toNat < xs.length by omega]
theorem Row.frozen (h : Row w g xs) (i : Int) : w.frozen? ⟨g, i.toNat, none⟩ = false := blk_frozen h _
theorem Row.set (h : Row w g xs) (i x : Int) : Row (w.setCell ⟨g, i.toNat, none⟩ (.int .i64 x)) g (xs.set i.toNat x) := by
  have := blk_set h i.toNat (.int .i64 x)
  unfold Row
  rw [this]
  simp [List.map_set]
theorem Row.ne (h : Row w g xs) {g' t : Nat} {cs : Array Value} (hb : w.heap[g']? = some (.cells cs t (0, 0))) (ht : t ≠ 3) : g' ≠ g := blk_ne hb h ht
theorem Row.far (h : Row w g xs) {p : Addr} (hp : g ≠ p.block) (u : Value) : Row (w.setCell p u) g xs := blk_far h hp u
theorem Row.move (h : Row w g xs) (hm : w1.heap[g]? = w.heap[g]?) : Row w1 g xs := hm.trans h
theorem Row.alloc (h : Row w g xs) (o : Obj) : Row (w.alloc o) g xs := blk_alloc h o
theorem Row.drewN (h : Row w g xs) (n : Nat) : Row (w.drewN n) g xs := h
/-- It reads as a slice of numbers. -/
theorem Row.reads (h : Row w g xs) (hm : xs.length ≤ 9223372036854775807) : Kd.C (Kd.int .i64) w (some ⟨g, 0, none⟩) xs.length xs := by
  refine Kd.C_of_reads (d := (0 : Int)) ⟨rfl, hm, fun _ => ⟨_, rfl, fun j hj => ?_⟩⟩
  rw [add_plain]
  have := h.cell j (by omega) (by omega)
  simpa [rd, rdOf] using this
end
end Go.Proofs.Ytlleokhmgblfnaa.H

set_option linter.unusedVariables false
set_option linter.unusedSimpArgs false
namespace Go.Proofs.Ytlleokhmgblfnaa.H
open Go.RowKit Go.Proofs.YtlleokhmgblfnaaW.PrintWords

def rdL (xs : List (List Int)) (i : Int) : List Int := xs.getD i.toNat []
theorem at_L {w : World} {A : Option Addr} {n : Nat} {xs : List (List Int)} (h : Kd.C (Kd.slice 3 (Kd.int .i64)) w A n xs) (i : Int) (h0 : 0 ≤ i) (h1 : i < n) :
    ∃ ad A0 c0, A = some ad ∧ w.cell? (ad.add i.toNat) = some (.slice A0 (rdL xs i).length c0) ∧ (rdL xs i).length ≤ c0 ∧ (Kd.int .i64).C w A0 (rdL xs i).length (rdL xs i) := by
  obtain ⟨ad, c, e, _, hK, hc0⟩ := Kd.C_get h ([] : List Int) i h0 h1
  have hc : ∀ j u, c[j]? = some u → w.cell? (ad.add (i.toNat * 1 + j)) = some u := hc0
  obtain ⟨A0, c0, rfl, l0, g0⟩ := hK
  exact ⟨ad, A0, c0, e, by have hq := hc 0 _ rfl; rwa [Nat.mul_one, Nat.add_zero] at hq, l0, g0⟩

/-- From the j-th neighbour of v on: whether v has been matched, and the mates and levels then. -/
def extG (next : List (List Int)) : Nat → Int → Int → List Int → List Int → List Int → Option (Bool × List Int × List Int × List Int)
  | 0, _, _, _, _, _ => none
  | k + 1, v, j, m, b, l =>
    if j < (rdL next v).length then
      if 0 ≤ rd (rdL next v) j then
        if rd (rdL next v) j < b.length then
          if rd b (rd (rdL next v) j) < 0 then some (true, m.set v.toNat (rd (rdL next v) j), b.set (rd (rdL next v) j).toNat v, l)
          else if rd b (rd (rdL next v) j) < l.length then
            if rd b (rd (rdL next v) j) < next.length then
              if rd l (rd b (rd (rdL next v) j)) = wrap64 (rd l v + 1) then
                match extG next k (rd b (rd (rdL next v) j)) 0 m b l with
                | none => none
                | some (true, m1, b1, l1) => some (true, m1.set v.toNat (rd (rdL next v) j), b1.set (rd (rdL next v) j).toNat v, l1)
                | some (false, m1, b1, l1) => extG next k v (j + 1) m1 b1 l1
              else extG next k v (j + 1) m b l
            else none
          else none
        else none
      else none
    else some (false, m, b, l.set v.toNat (-1))

/-- The memory of the call. -/
structure ExtW (w0 : World) (next : List (List Int)) (R : Nat) (A0 : Option Addr) (c0 Bn Bm Bb Bl Bx gm gb gl : Nat) (m b l : List Int) (w : World) : Prop where
  below : Below w0.heap.size w0 w
  hn : w.heap[Bn]? = some (.cells #[.slice A0 next.length c0] 69 (0, 0))
  hm : w.heap[Bm]? = some (.cells #[.slice (some ⟨gm, 0, none⟩) next.length next.length] 29 (0, 0))
  hb : w.heap[Bb]? = some (.cells #[.slice (some ⟨gb, 0, none⟩) R R] 29 (0, 0))
  hl : w.heap[Bl]? = some (.cells #[.slice (some ⟨gl, 0, none⟩) next.length next.length] 29 (0, 0))
  hx : w.heap[Bx]? = some (.cells #[.func (.func 53) #[] #[.pointer (some ⟨Bn, 0, none⟩), .pointer (some ⟨Bb, 0, none⟩), .pointer (some ⟨Bl, 0, none⟩), .pointer (some ⟨Bx, 0, none⟩), .pointer (some ⟨Bm, 0, none⟩)]] 84 (0, 0))
  rm : Row w gm m
  rb : Row w gb b
  rl : Row w gl l
  lm : m.length = next.length
  lb : b.length = R
  ll : l.length = next.length
  gmb : gm ≠ gb
  gml : gm ≠ gl
  gbl : gb ≠ gl
  om : w0.heap.size ≤ gm
  ob : w0.heap.size ≤ gb
  ol : w0.heap.size ≤ gl
section
variable {w0 w : World} {next : List (List Int)} {R : Nat} {A0 : Option Addr} {c0 Bn Bm Bb Bl Bx gm gb gl : Nat} {m b l : List Int}
theorem ExtW.drewN (h : ExtW w0 next R A0 c0 Bn Bm Bb Bl Bx gm gb gl m b l w) (n : Nat) : ExtW w0 next R A0 c0 Bn Bm Bb Bl Bx gm gb gl m b l (w.drewN n) :=
  ⟨pw_below_drewN h.below n, h.hn, h.hm, h.hb, h.hl, h.hx, h.rm, h.rb, h.rl, h.lm, h.lb, h.ll, h.gmb, h.gml, h.gbl, h.om, h.ob, h.ol⟩
theorem ExtW.drew (h : ExtW w0 next R A0 c0 Bn Bm Bb Bl Bx gm gb gl m b l w) : ExtW w0 next R A0 c0 Bn Bm Bb Bl Bx gm gb gl m b l w.drew :=
  ⟨h.below.drew, h.hn, h.hm, h.hb, h.hl, h.hx, h.rm, h.rb, h.rl, h.lm, h.lb, h.ll, h.gmb, h.gml, h.gbl, h.om, h.ob, h.ol⟩
theorem ExtW.setM (h : ExtW w0 next R A0 c0 Bn Bm Bb Bl Bx gm gb gl m b l w) (v x : Int) : ExtW w0 next R A0 c0 Bn Bm Bb Bl Bx gm gb gl (m.set v.toNat x) b l (w.setCell ⟨gm, v.toNat, none⟩ (.int .i64 x)) :=
  ⟨below_set h.below h.om, blk_far h.hn (h.rm.ne h.hn (by decide)) _, blk_far h.hm (h.rm.ne h.hm (by decide)) _, blk_far h.hb (h.rm.ne h.hb (by decide)) _, blk_far h.hl (h.rm.ne h.hl (by decide)) _, blk_far h.hx (h.rm.ne h.hx (by decide)) _,
    h.rm.set v x, h.rb.far h.gmb.symm _, h.rl.far h.gml.symm _, by rw [List.length_set]; exact h.lm, h.lb, h.ll, h.gmb, h.gml, h.gbl, h.om, h.ob, h.ol⟩
theorem ExtW.setB (h : ExtW w0 next R A0 c0 Bn Bm Bb Bl Bx gm gb gl m b l w) (v x : Int) : ExtW w0 next R A0 c0 Bn Bm Bb Bl Bx gm gb gl m (b.set v.toNat x) l (w.setCell ⟨gb, v.toNat, none⟩ (.int .i64 x)) :=
  ⟨below_set h.below h.ob, blk_far h.hn (h.rb.ne h.hn (by decide)) _, blk_far h.hm (h.rb.ne h.hm (by decide)) _, blk_far h.hb (h.rb.ne h.hb (by decide)) _, blk_far h.hl (h.rb.ne h.hl (by decide)) _, blk_far h.hx (h.rb.ne h.hx (by decide)) _,
    h.rm.far h.gmb _, h.rb.set v x, h.rl.far h.gbl.symm _, h.lm, by rw [List.length_set]; exact h.lb, h.ll, h.gmb, h.gml, h.gbl, h.om, h.ob, h.ol⟩
theorem ExtW.setL (h : ExtW w0 next R A0 c0 Bn Bm Bb Bl Bx gm gb gl m b l w) (v x : Int) : ExtW w0 next R A0 c0 Bn Bm Bb Bl Bx gm gb gl m b (l.set v.toNat x) (w.setCell ⟨gl, v.toNat, none⟩ (.int .i64 x)) :=
  ⟨below_set h.below h.ol, blk_far h.hn (h.rl.ne h.hn (by decide)) _, blk_far h.hm (h.rl.ne h.hm (by decide)) _, blk_far h.hb (h.rl.ne h.hb (by decide)) _, blk_far h.hl (h.rl.ne h.hl (by decide)) _, blk_far h.hx (h.rl.ne h.hx (by decide)) _,
    h.rm.far h.gml _, h.rb.far h.gbl _, h.rl.set v x, h.lm, h.lb, by rw [List.length_set]; exact h.ll, h.gmb, h.gml, h.gbl, h.om, h.ob, h.ol⟩
end
def ExtPost (w0 : World) (next : List (List Int)) (R : Nat) (A0 : Option Addr) (c0 Bn Bm Bb Bl Bx gm gb gl : Nat) (r : Bool × List Int × List Int × List Int) (e : Ending) (w' : World) : Prop :=
  e = .returned (.bool r.1) ∧ ExtW w0 next R A0 c0 Bn Bm Bb Bl Bx gm gb gl r.2.1 r.2.2.1 r.2.2.2 w'

set_option maxHeartbeats 4000000 in
set_option maxRecDepth 100000 in
theorem ext_calls (w0 : World) (next : List (List Int)) (R : Nat) (A0 : Option Addr) (c0 Bn Bm Bb Bl Bx gm gb gl : Nat) (hN : Kd.C (Kd.slice 3 (Kd.int .i64)) w0 A0 next.length next) (hc : next.length ≤ c0) :
    ∀ (k : Nat) (v : Int) (m b l : List Int) (r : Bool × List Int × List Int × List Int) (w : World), 0 ≤ v → v < next.length → ExtW w0 next R A0 c0 Bn Bm Bb Bl Bx gm gb gl m b l w → extG next k v 0 m b l = some r →
      Calls Try.prog 53 #[.int .i64 v, .pointer (some ⟨Bn, 0, none⟩), .pointer (some ⟨Bb, 0, none⟩), .pointer (some ⟨Bl, 0, none⟩), .pointer (some ⟨Bx, 0, none⟩), .pointer (some ⟨Bm, 0, none⟩)] w (ExtPost w0 next R A0 c0 Bn Bm Bb Bl Bx gm gb gl r) := by
  have hmax := Kd.C_max hN
  have HN := Aside0.mk hN
  clear hN
  intro k
  induction k using Nat.strongRecOn with
  | ind k ih =>
  have IH := Aside0.mk ih
  clear ih
  intro v m b l r w hv0 hv1 hw hr
  have HW := Aside0.mk hw
  have HR := Aside0.mk hr
  clear hw hr
  obtain ⟨ad, A1, c1, eA, hx0, hl0, hI⟩ := at_L HN.out v hv0 hv1
  subst eA
  have HI := Aside0.mk hI
  have HL := Aside0.mk hl0
  have hmaxI := Kd.C_max hI
  clear hI hl0
  replace hx0 := pw_cell_below HW.out.below hx0
  have cn := blk_cell HW.out.hn 0
  simp only [List.getElem?_toArray, List.getElem?_cons_zero, List.getElem?_cons_succ] at cn
  go_enter Try.func53, Try.ntmps53
  go_wp2_with fail
  clear hx0 cn
  go_loopg [16] k (fun kq v16 wr => ∃ (j : Int) (m' b' l' : List Int), v16 = .int .i64 j ∧ Aside0 (0 ≤ j ∧ kq ≤ k ∧ extG next kq v j m' b' l' = some r) ∧ Aside0 (ExtW w0 next R (some ad) c0 Bn Bm Bb Bl Bx gm gb gl m' b' l' wr))
  case atStart => exact ⟨0, m, b, l, rfl, ⟨by omega, Nat.le_refl _, HR.out⟩, HW⟩
  case round =>
    clear HW HR
    obtain ⟨j, m', b', l', rfl, HA, HW⟩ := hrel
    have hj0 : 0 ≤ j := HA.out.1
    cases gk with
    | zero => exact absurd HA.out.2.2 (by simp [extG])
    | succ k1 =>
      have H := HA.out.2.2
      have HK := Aside0.mk HA.out.2.1
      clear HA
      simp only [extG] at H
      have dm := blk_cell HW.out.hm 0
      have db := blk_cell HW.out.hb 0
      have dl := blk_cell HW.out.hl 0
      have dx := blk_cell HW.out.hx 0
      simp only [List.getElem?_toArray, List.getElem?_cons_zero, List.getElem?_cons_succ] at dm db dl dx
      by_cases hlt : j < (rdL next v).length
      · rw [if_pos hlt] at H
        obtain ⟨ad1, eA, hy⟩ := Kd.at_int HI.out j hj0 hlt
        subst eA
        replace hy := pw_cell_below HW.out.below hy
        obtain ⟨x, hX⟩ : ∃ x, rd (rdL next v) j = x := ⟨_, rfl⟩
        rw [hX] at hy H
        have HX := Aside0.mk hX
        clear hX
        by_cases hx0 : 0 ≤ x
        · rw [if_pos hx0] at H
          by_cases hx1 : x < b'.length
          · rw [if_pos hx1, HW.out.lb] at *
            have hz := HW.out.rb.cell x hx0 (by rw [HW.out.lb]; exact hx1)
            obtain ⟨u, hU⟩ : ∃ u, rd b' x = u := ⟨_, rfl⟩
            rw [hU] at hz H
            have HU := Aside0.mk hU
            clear hU
            by_cases hu : u < 0
            · rw [if_pos hu] at H
              have hr := Option.some.inj H
              have HR := Aside0.mk hr
              clear H hr
              have hd : decide (u < 0) = true := decide_eq_true hu
              have fm := HW.out.rm.frozen v
              have cm := HW.out.rm.cell v hv0 (by rw [HW.out.lm]; exact hv1)
              have fb := HW.out.rb.frozen x
              have n1 := HW.out.gmb
              have n2 := n1.symm
              have n3 := HW.out.rm.ne HW.out.hb (by decide)
              have n4 := HW.out.rb.ne HW.out.hm (by decide)
              have n5 := n3.symm
              have n6 := n4.symm
              go_wp2
              go_quiet (fail)
              go_wp2
              go_region
              all_goals go_wp2
              all_goals go_ret
              all_goals exact ⟨by rw [← HR.out]; rfl, by rw [← HR.out]; exact (((HW.out.drewN _).setM v x).setB x v)⟩
            · rw [if_neg hu] at H
              have hu0 : 0 ≤ u := by omega
              by_cases hu1 : u < l'.length
              · rw [if_pos hu1] at H
                by_cases hu2 : u < next.length
                · rw [if_pos hu2] at H
                  have ll := HW.out.ll
                  have cu := HW.out.rl.cell u hu0 hu1
                  have cv := HW.out.rl.cell v hv0 (by rw [ll]; exact hv1)
                  have hd : decide (u < 0) = false := decide_eq_false hu
                  clear hu hu1 ll
                  by_cases he : rd l' u = wrap64 (rd l' v + 1)
                  · rw [if_pos he] at H
                    have heb : (rd l' u == wrap64 (rd l' v + 1)) = true := beq_iff_eq.2 he
                    clear he
                    cases hq : extG next k1 u 0 m' b' l' with
                    | none => rw [hq] at H; exact absurd H (by simp)
                    | some q =>
                      rw [hq] at H
                      obtain ⟨q0, q1, q2, q3⟩ := q
                      have hq' := Aside0.mk hq
                      have HH := Aside0.mk H
                      clear hq H
                      have hk1 : k1 < k := HK.out
                      have hk2 := Aside0.mk hk1
                      clear hk1
                      have heb2 : (rd l' u == IntKind.i64.wrap (rd l' v + 1)) = true := by rw [IntWalk.i64_left]; exact heb
                      go_wp2
                      go_still_tail 16, (by kernel_rfl)
                      change wpList _ _ _ _ _ wr.drew
                      go_wp2_with (go_at_call 53; refine (IH.out k1 hk2.out u m' b' l' (q0, q1, q2, q3) _ hu0 hu2 (HW.out.drew) hq'.out).mono ?_; rintro e w1 ⟨rfl, hw1⟩; have HW1 := Aside0.mk hw1; clear hw1)
                      · have hq0 : q0 = true := by assumption
                        subst hq0
                        have hr := Option.some.inj HH.out
                        have HR := Aside0.mk hr
                        clear hr HH HW
                        have dm := blk_cell HW1.out.hm 0
                        have db := blk_cell HW1.out.hb 0
                        simp only [List.getElem?_toArray, List.getElem?_cons_zero] at dm db
                        have fm := HW1.out.rm.frozen v
                        have cm := HW1.out.rm.cell v hv0 (by rw [HW1.out.lm]; exact hv1)
                        have fb := HW1.out.rb.frozen x
                        have cb := HW1.out.rb.cell x hx0 (by rw [HW1.out.lb]; exact hx1)
                        have n1 := HW1.out.gmb
                        have n2 := n1.symm
                        have n3 := HW1.out.rm.ne HW1.out.hb (by decide)
                        have n4 := HW1.out.rb.ne HW1.out.hm (by decide)
                        have n5 := n3.symm
                        have n6 := n4.symm
                        go_wp2
                        go_region
                        all_goals go_wp2
                        all_goals go_ret
                        all_goals exact ⟨by rw [← HR.out]; rfl, by rw [← HR.out]; exact (((HW1.out.drew).setM v x).setB x v)⟩
                      · have hq0 : q0 = false := by assumption
                        subst hq0
                        have HH2 := Aside0.mk (show extG next k1 v (j + 1) q1 q2 q3 = some r from HH.out)
                        clear HH
                        go_roundg k1
                        case measure => omega
                        case rel => exact ⟨j + 1, q1, q2, q3, by go_num, ⟨by omega, by have := HK.out; omega, HH2.out⟩, HW1⟩
                  · rw [if_neg he] at H
                    have heb : (rd l' u == wrap64 (rd l' v + 1)) = false := beq_eq_false_iff_ne.2 he
                    have HH := Aside0.mk H
                    clear he H
                    go_wp2
                    go_quiet (fail)
                    go_wp2
                    go_roundg k1
                    case measure => omega
                    case rel => exact ⟨j + 1, m', b', l', by go_num, ⟨by omega, by have := HK.out; omega, HH.out⟩, ⟨HW.out.drewN _⟩⟩
                · rw [if_neg hu2] at H
                  exact absurd H (by simp)
              · rw [if_neg hu1] at H
                exact absurd H (by simp)
          · rw [if_neg hx1] at H
            exact absurd H (by simp)
        · rw [if_neg hx0] at H
          exact absurd H (by simp)
      · rw [if_neg hlt] at H
        have hr := Option.some.inj H
        have HR := Aside0.mk hr
        clear H hr
        have cv := HW.out.rl.cell v hv0 (by rw [HW.out.ll]; exact hv1)
        have fv := HW.out.rl.frozen v
        go_wp2
        go_ret
        exact ⟨by rw [← HR.out]; rfl, by rw [← HR.out]; exact HW.out.setL v (-1)⟩
end Go.Proofs.Ytlleokhmgblfnaa.H
