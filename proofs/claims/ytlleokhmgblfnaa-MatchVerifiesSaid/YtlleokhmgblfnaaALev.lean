/- pairing.levels does what levF says: the level list is written, all else stays. -/
import Derived.Test.YtlleokhmgblfnaaAExt
set_option linter.unusedVariables false
set_option linter.unusedSimpArgs false
namespace Go.Proofs.Ytlleokhmgblfnaa.H
open Go.RowKit Go.Proofs.YtlleokhmgblfnaaW.PrintWords

def levA (mate : List Int) (n : Int) : Nat → Int → List Int → List Int → Option (List Int × List Int)
  | 0, _, _, _ => none
  | k + 1, i, l, q =>
    if i < n then
      if i < l.length then
        if i < mate.length then
          if rd mate i < 0 then
            if q.length < 17592186044416 then levA mate n k (i + 1) ((l.set i.toNat (-1)).set i.toNat 0) (q ++ [i]) else none
          else levA mate n k (i + 1) (l.set i.toNat (-1)) q
        else none
      else none
    else some (l, q)
def levC (back ws : List Int) (v : Int) : Nat → Int → Bool → List Int → List Int → Option (Bool × List Int × List Int)
  | 0, _, _, _, _ => none
  | k + 1, j, f, l, q =>
    if j < ws.length then
      if 0 ≤ rd ws j then
        if rd ws j < back.length then
          if rd back (rd ws j) < 0 then levC back ws v k (j + 1) true l q
          else if rd back (rd ws j) < l.length then
            if rd l (rd back (rd ws j)) < 0 then
              if v < l.length then
                if q.length < 17592186044416 then levC back ws v k (j + 1) f (l.set (rd back (rd ws j)).toNat (wrap64 (rd l v + 1))) (q ++ [rd back (rd ws j)]) else none
              else none
            else levC back ws v k (j + 1) f l q
          else none
        else none
      else none
    else some (f, l, q)
def levB (next : List (List Int)) (back : List Int) : Nat → Bool → List Int → List Int → Option (Bool × List Int)
  | 0, _, _, _ => none
  | k + 1, f, l, [] => some (f, l)
  | k + 1, f, l, v :: q =>
    if 0 ≤ v then
      if v < next.length then (levC back (rdL next v) v k 0 f l q).bind fun s => levB next back k s.1 s.2.1 s.2.2
      else none
    else none
def levF (next : List (List Int)) (mate back : List Int) (k : Nat) (l : List Int) : Option (Bool × List Int) :=
  (levA mate next.length k 0 l []).bind fun s => levB next back k false s.1 s.2

structure LevW (w0 w : World) (gm gb gl : Nat) (mate back l : List Int) (wr : World) : Prop where
  below : Below w0.heap.size w0 wr
  keep : KeepBut w wr gl none
  rm : Row wr gm mate
  rb : Row wr gb back
  rl : Row wr gl l
theorem Q_put {w : World} {base g : Nat} {v : Value} {xs : List Int} (h : Kd.Q (Kd.int .i64) 3 w base (fun _ => True) v xs) (hg : g < base) (i : Nat) (u : Value) : Kd.Q (Kd.int .i64) 3 (w.setCell ⟨g, i, none⟩ u) base (fun _ => True) v xs :=
  Kd.Q_mono (Kd.Q_far (p := ⟨g, i, none⟩) (Kd.Q_bound h) (fun k hk => by have := hk.2.1; show k ≠ g; omega) u) (fun _ _ => trivial)
section
variable {w0 w wr : World} {gm gb gl : Nat} {mate back l : List Int}
theorem LevW.put (h : LevW w0 w gm gb gl mate back l wr) (n1 : gm ≠ gl) (n2 : gb ≠ gl) (ol : w0.heap.size ≤ gl) (i x : Int) : LevW w0 w gm gb gl mate back (l.set i.toNat x) (wr.setCell ⟨gl, i.toNat, none⟩ (.int .i64 x)) :=
  ⟨below_set h.below ol, h.keep.set_ _ _, h.rm.far n1 _, h.rb.far n2 _, h.rl.set i x⟩
theorem LevW.alloc (h : LevW w0 w gm gb gl mate back l wr) (o : Obj) : LevW w0 w gm gb gl mate back l (wr.alloc o) :=
  ⟨below_alloc h.below o, keep_alloc h.keep o, h.rm.alloc o, h.rb.alloc o, h.rl.alloc o⟩
theorem LevW.grown {w1 : World} {row : Option Nat} (h : LevW w0 w gm gb gl mate back l wr) (ow : w0.heap.size ≤ w.heap.size) (hg : wr.grownBy w1 row) (hr : ∀ k, row = some k → w.heap.size ≤ k) (b1 : gm < w.heap.size) (b2 : gb < w.heap.size) (b3 : gl < w.heap.size) : LevW w0 w gm gb gl mate back l w1 := by
  have ne : ∀ g, g < w.heap.size → some g ≠ row := fun g hg e => by have := hr g e.symm; omega
  refine ⟨pw_below_grown h.below row h.below.size hg (fun k hk => Nat.le_trans ow (hr k hk)), ?_, h.rm.move (hg.block gm h.rm.lt (ne _ b1)), h.rb.move (hg.block gb h.rb.lt (ne _ b2)), h.rl.move (hg.block gl h.rl.lt (ne _ b3))⟩
  refine ⟨Nat.le_trans h.keep.1 hg.size, fun i hi hne _ => ?_⟩
  exact (hg.block i (Nat.lt_of_lt_of_le hi h.keep.1) (ne i hi)).trans (h.keep.2 i hi hne (by simp))
end
def LevPost (w0 w : World) (gm gb gl : Nat) (mate back : List Int) (r : Bool × List Int) (e : Ending) (w' : World) : Prop :=
  e = .returned (.bool r.1) ∧ LevW w0 w gm gb gl mate back r.2 w'

set_option maxHeartbeats 4000000 in
set_option maxRecDepth 100000 in
theorem levels_calls (w0 w : World) (next : List (List Int)) (A0 : Option Addr) (c0 gm gb gl nm nb : Nat) (mate back l : List Int) (k : Nat) (r : Bool × List Int)
    (hN : Kd.C (Kd.slice 3 (Kd.int .i64)) w0 A0 next.length next) (hc : next.length ≤ c0) (hB : Below w0.heap.size w0 w) (hm : Row w gm mate) (hb : Row w gb back) (hl : Row w gl l)
    (n1 : gm ≠ gl) (n2 : gb ≠ gl) (ol : w0.heap.size ≤ gl) (em : mate.length = nm) (eb : back.length = nb) (el : l.length = next.length) (h : levF next mate back k l = some r) :
    Calls Try.prog 54 #[.slice A0 next.length c0, .slice (some ⟨gm, 0, none⟩) nm nm, .slice (some ⟨gb, 0, none⟩) nb nb, .slice (some ⟨gl, 0, none⟩) next.length next.length] w (LevPost w0 w gm gb gl mate back r) := by
  have hmax := Kd.C_max hN
  have HN := Aside0.mk hN
  have b1 := hm.lt
  have b2 := hb.lt
  have b3 := hl.lt
  have OW := Aside0.mk hB.size
  have B1 := Aside0.mk b1
  have B2 := Aside0.mk b2
  have B3 := Aside0.mk b3
  have N1 := Aside0.mk n1
  have N2 := Aside0.mk n2
  have OL := Aside0.mk ol
  have EM := Aside0.mk em
  have EB := Aside0.mk eb
  have EL := Aside0.mk el
  have HW : Aside0 (LevW w0 w gm gb gl mate back l w) := ⟨⟨hB, KeepBut.refl _ _ _, hm, hb, hl⟩⟩
  unfold levF at h
  have H := Aside0.mk h
  clear hN hB hm hb hl n1 n2 ol em eb el h b1 b2 b3
  go_enter Try.func54, Try.ntmps54
  go_wp2_with fail
  go_loopg [9, 18] k (fun kq v9 v18 wr => ∃ (i : Int) (l' q' : List Int), v18 = .int .i64 i ∧ Aside0 (0 ≤ i ∧ (levA mate next.length kq i l' q').bind (fun s => levB next back k false s.1 s.2) = some r) ∧ Aside0 (l'.length = next.length ∧ LevW w0 w gm gb gl mate back l' wr) ∧ Aside0 (Kd.Q (Kd.int .i64) 3 wr w.heap.size (fun _ => True) v9 q'))
  case atStart => exact ⟨0, l, [], rfl, ⟨by omega, H.out⟩, ⟨EL.out, HW.out⟩, ⟨Kd.Q_nil _ _ _ _ _⟩⟩
  case round =>
    clear HW H
    obtain ⟨i, l', q', rfl, HA, HL, HQ⟩ := hrel
    have hi0 : 0 ≤ i := HA.out.1
    have HW : Aside0 (LevW w0 w gm gb gl mate back l' wr) := ⟨HL.out.2⟩
    cases gk with
    | zero => exact absurd HA.out.2 (by simp [levA])
    | succ k1 =>
      have H := HA.out.2
      clear HA
      simp only [levA] at H
      by_cases hlt : i < next.length
      · rw [if_pos hlt, if_pos (by rw [HL.out.1]; exact hlt)] at H
        by_cases hi1 : i < mate.length
        · rw [if_pos hi1] at H
          have hi2 : i < nm := by have := EM.out; omega
          have cm := HW.out.rm.cell i hi0 hi1
          have cl := HW.out.rl.cell i hi0 (by rw [HL.out.1]; exact hlt)
          have fl := HW.out.rl.frozen i
          have n1 := N1.out
          by_cases hneg : rd mate i < 0
          · rw [if_pos hneg] at H
            by_cases hq : q'.length < 17592186044416
            · rw [if_pos hq] at H
              have HH := Aside0.mk H
              clear H
              go_wp2_with (first | ((with_reducible refine gate_store (t := 3) (p := 23) rfl ?_); refine store_event (t := 3) (p := 23) (v := ?vo1) (w1 := (wr.setCell ⟨gl, i.toNat, none⟩ (.int .i64 (-1)))) ?hg1 ?ho1 ?hn1 ?hr1 ?_; (case ho1 => rfl); (case hg1 => rfl); (case hn1 => rfl); (case hr1 => first | (go_simp; done) | (go_simp; rfl)); intro w2 hw; have HW2 : Aside0 (LevW w0 w gm gb gl mate back (l'.set i.toNat (-1)) w2) := ⟨by rw [hw]; exact HW.out.put N1.out N2.out OL.out i (-1)⟩; have HQ2 : Aside0 (Kd.Q (Kd.int .i64) 3 w2 w.heap.size (fun _ => True) u9 q') := ⟨by rw [hw]; exact Q_put HQ.out B3.out _ _⟩; clear hw cm cl fl; have cm := HW2.out.rm.cell i hi0 hi1; have cl := HW2.out.rl.cell i hi0 (by rw [List.length_set, HL.out.1]; exact hlt); have fl := HW2.out.rl.frozen i) | ((with_reducible refine gate_store (t := 3) (p := 31) rfl ?_); refine store_event (t := 3) (p := 31) (v := ?vo2) (w1 := (w2.setCell ⟨gl, i.toNat, none⟩ (.int .i64 0))) ?hg2 ?ho2 ?hn2 ?hr2 ?_; (case ho2 => rfl); (case hg2 => rfl); (case hn2 => rfl); (case hr2 => first | (go_simp; done) | (go_simp; rfl)); intro w3 hw; have HW3 : Aside0 (LevW w0 w gm gb gl mate back ((l'.set i.toNat (-1)).set i.toNat 0) w3) := ⟨by rw [hw]; exact HW2.out.put N1.out N2.out OL.out i 0⟩; have HQ3 : Aside0 (Kd.Q (Kd.int .i64) 3 w3 w.heap.size (fun _ => True) u9 q') := ⟨by rw [hw]; exact Q_put HQ2.out B3.out _ _⟩; clear hw cm cl fl) | ((with_reducible refine gate_builtin (b := .append) (xs := #[.tmp 32, .tmp 34]) rfl ?_); at_builtin; refine Kd.Q_append (Kd.int .i64) w.heap.size rfl (.tmp 32) (.tmp 34) 29 3 (.int .i64 0) 8 rfl Try.underlying29 info3 rfl (by decide) (by omega) u9 q' i [.int .i64 i] (fun _ => True) (fun _ => False) rfl rfl ?aP (fun _ hk => hk.elim) (fun _ _ => trivial) HQ3.out (Below.refl _ _) ?aS ?aL ?_; (case aP => exact rfl); (case aS => exact HW3.out.keep.1); (case aL => omega); intro v1 w1 ho hb hg hat; have HQ1 := Aside0.mk ho; have HG1 := Aside0.mk hg; clear ho hb hg hat))
              go_roundg k1
              case measure => omega
              case rel => exact ⟨i + 1, _, _, by go_num, ⟨by omega, HH.out⟩, ⟨by rw [List.length_set, List.length_set]; exact HL.out.1, HW3.out.grown OW.out HG1.out (Kd.Q_base HQ3.out) B1.out B2.out B3.out⟩, HQ1⟩
            · rw [if_neg hq] at H
              exact absurd H (by simp)
          · rw [if_neg hneg] at H
            have HH := Aside0.mk H
            clear H
            go_wp2
            go_roundg k1
            case measure => omega
            case rel => exact ⟨i + 1, _, q', by go_num, ⟨by omega, HH.out⟩, ⟨by rw [List.length_set]; exact HL.out.1, HW.out.put N1.out N2.out OL.out i (-1)⟩, ⟨Q_put HQ.out B3.out _ _⟩⟩
        · rw [if_neg hi1] at H
          exact absurd H (by simp)
      · rw [if_neg hlt] at H
        have HH := Aside0.mk (show levB next back k false l' q' = some r from H)
        have el := Aside0.mk HL.out.1
        clear H HL
        go_wp2_with fail
        go_loopg [9, 11] k (fun kq v9 v11 wr => ∃ (f : Bool) (l' q' : List Int), v11 = .bool f ∧ Aside0 (levB next back kq f l' q' = some r ∧ kq ≤ k) ∧ Aside0 (l'.length = next.length ∧ LevW w0 w gm gb gl mate back l' wr) ∧ Aside0 (Kd.Q (Kd.int .i64) 3 wr w.heap.size (fun _ => True) v9 q'))
        case atStart => exact ⟨false, l', q', rfl, ⟨HH.out, Nat.le_refl _⟩, ⟨el.out, HW.out⟩, HQ⟩
        case round =>
          clear HW HH el HQ
          obtain ⟨f, l', q', rfl, HA, HL, HQ⟩ := hrel
          have HW : Aside0 (LevW w0 w gm gb gl mate back l' wr) := ⟨HL.out.2⟩
          obtain ⟨A9, c9, rfl, hc9⟩ := Kd.Q_slice HQ.out
          cases gk with
          | zero => exact absurd HA.out.1 (by simp [levB])
          | succ k2 =>
            have H := HA.out.1
            have HK := Aside0.mk HA.out.2
            clear HA
            obtain hq | ⟨v, q2, hq⟩ : q' = [] ∨ ∃ v q2, q' = v :: q2 := by cases q' <;> simp
            · subst hq
              have hr := Option.some.inj (show some (f, l') = some r from H)
              have HR := Aside0.mk hr
              clear H hr
              go_wp2
              go_ret
              exact ⟨by rw [← HR.out]; rfl, by rw [← HR.out]; exact HW.out⟩
            · have hlen : 0 < q'.length := by rw [hq]; simp
              have hlen2 : (0 : Int) < q'.length := by omega
              have hlen3 : (1 : Int) ≤ q'.length := by omega
              rw [hq] at H
              simp only [levB] at H
              by_cases hv0 : 0 ≤ v
              · rw [if_pos hv0] at H
                by_cases hv1 : v < next.length
                · rw [if_pos hv1] at H
                  have HH := Aside0.mk H
                  clear H
                  obtain ⟨ad9, e9, hx9⟩ := Kd.at_int (Kd.Q_reads' HQ.out).2.2 0 (by omega) hlen2
                  subst e9
                  rw [show ((0 : Int)).toNat = 0 from rfl, Addr.add_zero', show rd q' 0 = v by rw [hq]; rfl] at hx9
                  obtain ⟨i0, hi0, _, hsz0, _⟩ := info_parts info3
                  have hcut := cut_from (P := Try.prog) 29 3 .i64 Try.underlying29 hi0 1 hsz0 (some ad9) q'.length c9 1 (by omega) hlen3
                  have hQ := Kd.Q_drop (k := (1 : Int).toNat) HQ.out (by omega)
                  obtain ⟨A2, hA2⟩ : ∃ A1, A1 = (if c9 = (1 : Int).toNat then (some ad9) else ((some ad9) : Option Addr).map (·.add ((1 : Int).toNat * 1))) := ⟨_, rfl⟩
                  obtain ⟨c2, hc2⟩ : ∃ c1, c1 = c9 - (1 : Int).toNat := ⟨_, rfl⟩
                  have hy2 : q2.length = q'.length - (1 : Int).toNat := by rw [hq]; simp
                  rw [← hy2, ← hA2, ← hc2] at hcut
                  replace hQ : Kd.Q (Kd.int .i64) 3 wr w.heap.size (fun _ => True) (.slice A2 q2.length c2) q2 := by
                    have e : q'.drop (1 : Int).toNat = q2 := by rw [hq]; rfl
                    rw [e] at hQ
                    rw [hA2, hc2, hy2]
                    exact hQ
                  clear hy2 hi0 hsz0 hA2 hc2 hq HQ
                  have HQ := Aside0.mk hQ
                  clear hQ
                  obtain ⟨ad, A1, c1, eA, hx1, hl1, hI⟩ := at_L HN.out v hv0 hv1
                  subst eA
                  have HI := Aside0.mk hI
                  have hmaxI := Kd.C_max hI
                  have HL1 := Aside0.mk hl1
                  replace hx1 := pw_cell_below HW.out.below hx1
                  clear hI hl1
                  go_wp2_with fail
                  have el := Aside0.mk HL.out.1
                  clear HL hx9 hx1 hcut hlen hlen2 hlen3
                  go_loopg [9, 11, 50] k2 (fun kq v9 v11 v50 wr => ∃ (f : Bool) (j : Int) (l' q' : List Int), v11 = .bool f ∧ v50 = .int .i64 j ∧ Aside0 (0 ≤ j ∧ (levC back (rdL next v) v kq j f l' q').bind (fun s => levB next back k2 s.1 s.2.1 s.2.2) = some r) ∧ Aside0 (l'.length = next.length ∧ LevW w0 w gm gb gl mate back l' wr) ∧ Aside0 (Kd.Q (Kd.int .i64) 3 wr w.heap.size (fun _ => True) v9 q'))
                  case atStart => exact ⟨f, 0, l', q2, rfl, rfl, ⟨by omega, HH.out⟩, ⟨el.out, HW.out⟩, HQ⟩
                  case round =>
                    clear HW HH el HQ
                    obtain ⟨f, j, l', q', rfl, rfl, HA, HL, HQ⟩ := hrel
                    have HW : Aside0 (LevW w0 w gm gb gl mate back l' wr) := ⟨HL.out.2⟩
                    have el := Aside0.mk HL.out.1
                    clear HL
                    have hj0 : 0 ≤ j := HA.out.1
                    cases gk with
                    | zero => exact absurd HA.out.2 (by simp [levC])
                    | succ k3 =>
                      have H := HA.out.2
                      clear HA
                      simp only [levC] at H
                      by_cases hlt : j < (rdL next v).length
                      · rw [if_pos hlt] at H
                        obtain ⟨ad1, eA, hy⟩ := Kd.at_int HI.out j hj0 hlt
                        subst eA
                        replace hy := pw_cell_below HW.out.below hy
                        obtain ⟨x, hX⟩ : ∃ x, rd (rdL next v) j = x := ⟨_, rfl⟩
                        rw [hX] at hy H
                        clear hX
                        by_cases hx0 : 0 ≤ x
                        · rw [if_pos hx0] at H
                          by_cases hx1 : x < back.length
                          · rw [if_pos hx1] at H
                            have hx2 : x < nb := by have := EB.out; omega
                            have hz := HW.out.rb.cell x hx0 hx1
                            obtain ⟨u, hU⟩ : ∃ u, rd back x = u := ⟨_, rfl⟩
                            rw [hU] at hz H
                            clear hU
                            by_cases hu : u < 0
                            · rw [if_pos hu] at H
                              have HH := Aside0.mk H
                              clear H
                              go_wp2
                              go_roundg k3
                              case measure => omega
                              case rel => exact ⟨true, j + 1, l', q', rfl, by go_num, ⟨by omega, HH.out⟩, ⟨el.out, HW.out⟩, HQ⟩
                            · rw [if_neg hu] at H
                              have hu0 : 0 ≤ u := by omega
                              by_cases hu1 : u < l'.length
                              · rw [if_pos hu1] at H
                                have hu2 : u < next.length := by have := el.out; omega
                                have cu := HW.out.rl.cell u hu0 hu1
                                have fu := HW.out.rl.frozen u
                                clear hu
                                by_cases hz0 : rd l' u < 0
                                · rw [if_pos hz0] at H
                                  by_cases hv2 : v < l'.length
                                  · rw [if_pos hv2] at H
                                    have cv := HW.out.rl.cell v hv0 hv2
                                    by_cases hq : q'.length < 17592186044416
                                    · rw [if_pos hq] at H
                                      have HH := Aside0.mk H
                                      have LQ := Aside0.mk hq
                                      clear H hq hx1 hu1 hv2
                                      go_wp2_with (first | ((with_reducible refine gate_store (t := 3) (p := 72) rfl ?_); refine store_event (t := 3) (p := 72) (v := ?vo3) (w1 := (wr.setCell ⟨gl, u.toNat, none⟩ (.int .i64 (wrap64 (rd l' v + 1))))) ?hg3 ?ho3 ?hn3 ?hr3 ?_; (case ho3 => rfl); (case hg3 => rfl); (case hn3 => rfl); (case hr3 => first | (go_simp; done) | (go_simp; rfl)); intro w2 hw; have HW2 : Aside0 (LevW w0 w gm gb gl mate back (l'.set u.toNat (wrap64 (rd l' v + 1))) w2) := ⟨by rw [hw]; exact HW.out.put N1.out N2.out OL.out u _⟩; have HQ2 : Aside0 (Kd.Q (Kd.int .i64) 3 w2 w.heap.size (fun _ => True) u9 q') := ⟨by rw [hw]; exact Q_put HQ.out B3.out _ _⟩; clear hw cu cv fu hy hz) | ((with_reducible refine gate_builtin (b := .append) (xs := #[.tmp 73, .tmp 75]) rfl ?_); at_builtin; refine Kd.Q_append (Kd.int .i64) w.heap.size rfl (.tmp 73) (.tmp 75) 29 3 (.int .i64 0) 8 rfl Try.underlying29 info3 rfl (by decide) (by omega) u9 q' u [.int .i64 u] (fun _ => True) (fun _ => False) rfl rfl ?aP (fun _ hk => hk.elim) (fun _ _ => trivial) HQ2.out (Below.refl _ _) ?aS ?aL ?_; (case aP => exact rfl); (case aS => exact HW2.out.keep.1); (case aL => have := LQ.out; omega); intro v1 w1 ho hb hg hat; have HQ1 := Aside0.mk ho; have HG1 := Aside0.mk hg; clear ho hb hg hat))
                                      go_roundg k3
                                      case measure => omega
                                      case rel => exact ⟨f, j + 1, _, _, rfl, by go_num, ⟨by omega, HH.out⟩, ⟨by rw [List.length_set]; exact el.out, HW2.out.grown OW.out HG1.out (Kd.Q_base HQ2.out) B1.out B2.out B3.out⟩, HQ1⟩
                                    · rw [if_neg hq] at H
                                      exact absurd H (by simp)
                                  · rw [if_neg hv2] at H
                                    exact absurd H (by simp)
                                · rw [if_neg hz0] at H
                                  have HH := Aside0.mk H
                                  clear H
                                  go_wp2
                                  go_roundg k3
                                  case measure => omega
                                  case rel => exact ⟨f, j + 1, l', q', rfl, by go_num, ⟨by omega, HH.out⟩, ⟨el.out, HW.out⟩, HQ⟩
                              · rw [if_neg hu1] at H
                                exact absurd H (by simp)
                          · rw [if_neg hx1] at H
                            exact absurd H (by simp)
                        · rw [if_neg hx0] at H
                          exact absurd H (by simp)
                      · rw [if_neg hlt] at H
                        have HH := Aside0.mk (show levB next back k2 f l' q' = some r from H)
                        clear H
                        go_wp2
                        go_roundg k2
                        case measure => omega
                        case rel => exact ⟨f, l', q', rfl, ⟨HH.out, by have := HK.out; omega⟩, ⟨el.out, HW.out⟩, HQ⟩
                · rw [if_neg hv1] at H
                  exact absurd H (by simp)
              · rw [if_neg hv0] at H
                exact absurd H (by simp)
end Go.Proofs.Ytlleokhmgblfnaa.H
