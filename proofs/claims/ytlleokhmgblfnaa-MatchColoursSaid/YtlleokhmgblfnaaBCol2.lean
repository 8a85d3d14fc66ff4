/- A part of the proof: texts of this seat joined (printed and by hand), without what is not used. -/
import Derived.Test.YtlleokhmgblfnaaBCol1
set_option linter.unusedVariables false
set_option linter.unusedSimpArgs false
set_option linter.unusedSectionVars false
section
namespace Go.Proofs.Ytlleokhmgblfnaa.H
open Go.RowKit Go.Proofs.YtlleokhmgblfnaaW.PrintWords
def levA (mate : List Int) (n : Int) : Nat → Int → List Int → List Int → Option (List Int × List Int)
  | 0, _, _, _ => none
  | k + 1, i, l, q =>
    if i < n then
      if i < l.length then
        if i < mate.length then
          if rd mate i < 0 then
            if q.length < 17592186044416 then levA mate n k (i + 1) ((l.set i.toNat (-1)).set i.toNat 0) (q ++ [i]) else none
          else levA mate n k (i + 1) (l.set i.toNat (-1)) q
        else none
      else none
    else some (l, q)
def levC (back ws : List Int) (v : Int) : Nat → Int → Bool → List Int → List Int → Option (Bool × List Int × List Int)
  | 0, _, _, _, _ => none
  | k + 1, j, f, l, q =>
    if j < ws.length then
      if 0 ≤ rd ws j then
        if rd ws j < back.length then
          if rd back (rd ws j) < 0 then levC back ws v k (j + 1) true l q
          else if rd back (rd ws j) < l.length then
            if rd l (rd back (rd ws j)) < 0 then
              if v < l.length then
                if q.length < 17592186044416 then levC back ws v k (j + 1) f (l.set (rd back (rd ws j)).toNat (wrap64 (rd l v + 1))) (q ++ [rd back (rd ws j)]) else none
              else none
            else levC back ws v k (j + 1) f l q
          else none
        else none
      else none
    else some (f, l, q)
def levB (next : List (List Int)) (back : List Int) : Nat → Bool → List Int → List Int → Option (Bool × List Int)
  | 0, _, _, _ => none
  | k + 1, f, l, [] => some (f, l)
  | k + 1, f, l, v :: q =>
    if 0 ≤ v then
      if v < next.length then (levC back (rdL next v) v k 0 f l q).bind fun s => levB next back k s.1 s.2.1 s.2.2
      else none
    else none
def levF (next : List (List Int)) (mate back : List Int) (k : Nat) (l : List Int) : Option (Bool × List Int) :=
  (levA mate next.length k 0 l []).bind fun s => levB next back k false s.1 s.2
structure LevW (w0 w : World) (gm gb gl : Nat) (mate back l : List Int) (wr : World) : Prop where
  below : Below w0.heap.size w0 wr
  keep : KeepBut w wr gl none
  rm : Row wr gm mate
  rb : Row wr gb back
  rl : Row wr gl l
theorem Q_put {w : World} {base g : Nat} {v : Value} {xs : List Int} (h : Kd.Q (Kd.int .i64) 3 w base (fun _ => True) v xs) (hg : g < base) (i : Nat) (u : Value) : Kd.Q (Kd.int .i64) 3 (w.setCell ⟨g, i, none⟩ u) base (fun _ => True) v xs :=
  Kd.Q_mono (Kd.Q_far (p := ⟨g, i, none⟩) (Kd.Q_bound h) (fun k hk => by have := hk.2.1; show k ≠ g; omega) u) (fun _ _ => trivial)
section
variable {w0 w wr : World} {gm gb gl : Nat} {mate back l : List Int}
theorem LevW.put (h : LevW w0 w gm gb gl mate back l wr) (n1 : gm ≠ gl) (n2 : gb ≠ gl) (ol : w0.heap.size ≤ gl) (i x : Int) : LevW w0 w gm gb gl mate back (l.set i.toNat x) (wr.setCell ⟨gl, i.toNat, none⟩ (.int .i64 x)) :=
  ⟨below_set h.below ol, h.keep.set_ _ _, h.rm.far n1 _, h.rb.far n2 _, h.rl.set i x⟩
theorem LevW.alloc (h : LevW w0 w gm gb gl mate back l wr) (o : Obj) : LevW w0 w gm gb gl mate back l (wr.alloc o) :=
  ⟨below_alloc h.below o, keep_alloc h.keep o, h.rm.alloc o, h.rb.alloc o, h.rl.alloc o⟩
theorem LevW.grown {w1 : World} {row : Option Nat} (h : LevW w0 w gm gb gl mate back l wr) (ow : w0.heap.size ≤ w.heap.size) (hg : wr.grownBy w1 row) (hr : ∀ k, row = some k → w.heap.size ≤ k) (b1 : gm < w.heap.size) (b2 : gb < w.heap.size) (b3 : gl < w.heap.size) : LevW w0 w gm gb gl mate back l w1 := by
  have ne : ∀ g, g < w.heap.size → some g ≠ row := fun g hg e => by have := hr g e.symm; omega
  refine ⟨pw_below_grown h.below row h.below.size hg (fun k hk => Nat.le_trans ow (hr k hk)), ?_, h.rm.move (hg.block gm h.rm.lt (ne _ b1)), h.rb.move (hg.block gb h.rb.lt (ne _ b2)), h.rl.move (hg.block gl h.rl.lt (ne _ b3))⟩
  refine ⟨Nat.le_trans h.keep.1 hg.size, fun i hi hne _ => ?_⟩
  exact (hg.block i (Nat.lt_of_lt_of_le hi h.keep.1) (ne i hi)).trans (h.keep.2 i hi hne (by simp))
end
def LevPost (w0 w : World) (gm gb gl : Nat) (mate back : List Int) (r : Bool × List Int) (e : Ending) (w' : World) : Prop :=
  e = .returned (.bool r.1) ∧ LevW w0 w gm gb gl mate back r.2 w'
set_option maxHeartbeats 4000000 in
set_option maxRecDepth 100000 in
theorem levels_calls (w0 w : World) (next : List (List Int)) (A0 : Option Addr) (c0 gm gb gl nm nb : Nat) (mate back l : List Int) (k : Nat) (r : Bool × List Int)
    (hN : Kd.C (Kd.slice 3 (Kd.int .i64)) w0 A0 next.length next) (hc : next.length ≤ c0) (hB : Below w0.heap.size w0 w) (hm : Row w gm mate) (hb : Row w gb back) (hl : Row w gl l)
    (n1 : gm ≠ gl) (n2 : gb ≠ gl) (ol : w0.heap.size ≤ gl) (em : mate.length = nm) (eb : back.length = nb) (el : l.length = next.length) (h : levF next mate back k l = some r) :
    Calls Try.prog 54 #[.slice A0 next.length c0, .slice (some ⟨gm, 0, none⟩) nm nm, .slice (some ⟨gb, 0, none⟩) nb nb, .slice (some ⟨gl, 0, none⟩) next.length next.length] w (LevPost w0 w gm gb gl mate back r) := by
  have hmax := Kd.C_max hN
  have HN := Aside0.mk hN
  have b1 := hm.lt
  have b2 := hb.lt
  have b3 := hl.lt
  have OW := Aside0.mk hB.size
  have B1 := Aside0.mk b1
  have B2 := Aside0.mk b2
  have B3 := Aside0.mk b3
  have N1 := Aside0.mk n1
  have N2 := Aside0.mk n2
  have OL := Aside0.mk ol
  have EM := Aside0.mk em
  have EB := Aside0.mk eb
  have EL := Aside0.mk el
  have HW : Aside0 (LevW w0 w gm gb gl mate back l w) := ⟨⟨hB, KeepBut.refl _ _ _, hm, hb, hl⟩⟩
  unfold levF at h
  have H := Aside0.mk h
  clear hN hB hm hb hl n1 n2 ol em eb el h b1 b2 b3
  go_enter Try.func54, Try.ntmps54
  go_wp2_with fail
  go_loopg [9, 18] k (fun kq v9 v18 wr => ∃ (i : Int) (l' q' : List Int), v18 = .int .i64 i ∧ Aside0 (0 ≤ i ∧ (levA mate next.length kq i l' q').bind (fun s => levB next back k false s.1 s.2) = some r) ∧ Aside0 (l'.length = next.length ∧ LevW w0 w gm gb gl mate back l' wr) ∧ Aside0 (Kd.Q (Kd.int .i64) 3 wr w.heap.size (fun _ => True) v9 q'))
  case atStart => exact ⟨0, l, [], rfl, ⟨by omega, H.out⟩, ⟨EL.out, HW.out⟩, ⟨Kd.Q_nil _ _ _ _ _⟩⟩
  case round =>
    clear HW H
    obtain ⟨i, l', q', rfl, HA, HL, HQ⟩ := hrel
    have hi0 : 0 ≤ i := HA.out.1
    have HW : Aside0 (LevW w0 w gm gb gl mate back l' wr) := ⟨HL.out.2⟩
    cases gk with
    | zero => exact absurd HA.out.2 (by simp [levA])
    | succ k1 =>
      have H := HA.out.2
      clear HA
      simp only [levA] at H
      by_cases hlt : i < next.length
      · rw [if_pos hlt, if_pos (by rw [HL.out.1]; exact hlt)] at H
        by_cases hi1 : i < mate.length
        · rw [if_pos hi1] at H
          have hi2 : i < nm := by have := EM.out; omega
          have cm := HW.out.rm.cell i hi0 hi1
          have cl := HW.out.rl.cell i hi0 (by rw [HL.out.1]; exact hlt)
          have fl := HW.out.rl.frozen i
          have n1 := N1.out
          by_cases hneg : rd mate i < 0
          · rw [if_pos hneg] at H
            by_cases hq : q'.length < 17592186044416
            · rw [if_pos hq] at H
              have HH := Aside0.mk H
              clear H
              go_wp2_with (first | ((with_reducible refine gate_store (t := 3) (p := 23) rfl ?_); refine store_event (t := 3) (p := 23) (v := ?vo1) (w1 := (wr.setCell ⟨gl, i.toNat, none⟩ (.int .i64 (-1)))) ?hg1 ?ho1 ?hn1 ?hr1 ?_; (case ho1 => rfl); (case hg1 => rfl); (case hn1 => rfl); (case hr1 => first | (go_simp; done) | (go_simp; rfl)); intro w2 hw; have HW2 : Aside0 (LevW w0 w gm gb gl mate back (l'.set i.toNat (-1)) w2) := ⟨by rw [hw]; exact HW.out.put N1.out N2.out OL.out i (-1)⟩; have HQ2 : Aside0 (Kd.Q (Kd.int .i64) 3 w2 w.heap.size (fun _ => True) u9 q') := ⟨by rw [hw]; exact Q_put HQ.out B3.out _ _⟩; clear hw cm cl fl; have cm := HW2.out.rm.cell i hi0 hi1; have cl := HW2.out.rl.cell i hi0 (by rw [List.length_set, HL.out.1]; exact hlt); have fl := HW2.out.rl.frozen i) | ((with_reducible refine gate_store (t := 3) (p := 31) rfl ?_); refine store_event (t := 3) (p := 31) (v := ?vo2) (w1 := (w2.setCell ⟨gl, i.toNat, none⟩ (.int .i64 0))) ?hg2 ?ho2 ?hn2 ?hr2 ?_; (case ho2 => rfl); (case hg2 => rfl); (case hn2 => rfl); (case hr2 => first | (go_simp; done) | (go_simp; rfl)); intro w3 hw; have HW3 : Aside0 (LevW w0 w gm gb gl mate back ((l'.set i.toNat (-1)).set i.toNat 0) w3) := ⟨by rw [hw]; exact HW2.out.put N1.out N2.out OL.out i 0⟩; have HQ3 : Aside0 (Kd.Q (Kd.int .i64) 3 w3 w.heap.size (fun _ => True) u9 q') := ⟨by rw [hw]; exact Q_put HQ2.out B3.out _ _⟩; clear hw cm cl fl) | ((with_reducible refine gate_builtin (b := .append) (xs := #[.tmp 32, .tmp 34]) rfl ?_); at_builtin; refine Kd.Q_append (Kd.int .i64) w.heap.size rfl (.tmp 32) (.tmp 34) 29 3 (.int .i64 0) 8 rfl Try.underlying29 info3 rfl (by decide) (by omega) u9 q' i [.int .i64 i] (fun _ => True) (fun _ => False) rfl rfl ?aP (fun _ hk => hk.elim) (fun _ _ => trivial) HQ3.out (Below.refl _ _) ?aS ?aL ?_; (case aP => exact rfl); (case aS => exact HW3.out.keep.1); (case aL => omega); intro v1 w1 ho hb hg hat; have HQ1 := Aside0.mk ho; have HG1 := Aside0.mk hg; clear ho hb hg hat))
              go_roundg k1
              case measure => omega
              case rel => exact ⟨i + 1, _, _, by go_num, ⟨by omega, HH.out⟩, ⟨by rw [List.length_set, List.length_set]; exact HL.out.1, HW3.out.grown OW.out HG1.out (Kd.Q_base HQ3.out) B1.out B2.out B3.out⟩, HQ1⟩
            · rw [if_neg hq] at H
              exact absurd H (by simp)
          · rw [if_neg hneg] at H
            have HH := Aside0.mk H
            clear H
            go_wp2
            go_roundg k1
            case measure => omega
            case rel => exact ⟨i + 1, _, q', by go_num, ⟨by omega, HH.out⟩, ⟨by rw [List.length_set]; exact HL.out.1, HW.out.put N1.out N2.out OL.out i (-1)⟩, ⟨Q_put HQ.out B3.out _ _⟩⟩
        · rw [if_neg hi1] at H
          exact absurd H (by simp)
      · rw [if_neg hlt] at H
        have HH := Aside0.mk (show levB next back k false l' q' = some r from H)
        have el := Aside0.mk HL.out.1
        clear H HL
        go_wp2_with fail
        go_loopg [9, 11] k (fun kq v9 v11 wr => ∃ (f : Bool) (l' q' : List Int), v11 = .bool f ∧ Aside0 (levB next back kq f l' q' = some r ∧ kq ≤ k) ∧ Aside0 (l'.length = next.length ∧ LevW w0 w gm gb gl mate back l' wr) ∧ Aside0 (Kd.Q (Kd.int .i64) 3 wr w.heap.size (fun _ => True) v9 q'))
        case atStart => exact ⟨false, l', q', rfl, ⟨HH.out, Nat.le_refl _⟩, ⟨el.out, HW.out⟩, HQ⟩
        case round =>
          clear HW HH el HQ
          obtain ⟨f, l', q', rfl, HA, HL, HQ⟩ := hrel
          have HW : Aside0 (LevW w0 w gm gb gl mate back l' wr) := ⟨HL.out.2⟩
          obtain ⟨A9, c9, rfl, hc9⟩ := Kd.Q_slice HQ.out
          cases gk with
          | zero => exact absurd HA.out.1 (by simp [levB])
          | succ k2 =>
            have H := HA.out.1
            have HK := Aside0.mk HA.out.2
            clear HA
            obtain hq | ⟨v, q2, hq⟩ : q' = [] ∨ ∃ v q2, q' = v :: q2 := by cases q' <;> simp
            · subst hq
              have hr := Option.some.inj (show some (f, l') = some r from H)
              have HR := Aside0.mk hr
              clear H hr
              go_wp2
              go_ret
              exact ⟨by rw [← HR.out]; rfl, by rw [← HR.out]; exact HW.out⟩
            · have hlen : 0 < q'.length := by rw [hq]; simp
              have hlen2 : (0 : Int) < q'.length := by omega
              have hlen3 : (1 : Int) ≤ q'.length := by omega
              rw [hq] at H
              simp only [levB] at H
              by_cases hv0 : 0 ≤ v
              · rw [if_pos hv0] at H
                by_cases hv1 : v < next.length
                · rw [if_pos hv1] at H
                  have HH := Aside0.mk H
                  clear H
                  obtain ⟨ad9, e9, hx9⟩ := Kd.at_int (Kd.Q_reads' HQ.out).2.2 0 (by omega) hlen2
                  subst e9
                  rw [show ((0 : Int)).toNat = 0 from rfl, Addr.add_zero', show rd q' 0 = v by rw [hq]; rfl] at hx9
                  obtain ⟨i0, hi0, _, hsz0, _⟩ := info_parts info3
                  have hcut := cut_from (P := Try.prog) 29 3 .i64 Try.underlying29 hi0 1 hsz0 (some ad9) q'.length c9 1 (by omega) hlen3
                  have hQ := Kd.Q_drop (k := (1 : Int).toNat) HQ.out (by omega)
                  obtain ⟨A2, hA2⟩ : ∃ A1, A1 = (if c9 = (1 : Int).toNat then (some ad9) else ((some ad9) : Option Addr).map (·.add ((1 : Int).toNat * 1))) := ⟨_, rfl⟩
                  obtain ⟨c2, hc2⟩ : ∃ c1, c1 = c9 - (1 : Int).toNat := ⟨_, rfl⟩
                  have hy2 : q2.length = q'.length - (1 : Int).toNat := by rw [hq]; simp
                  rw [← hy2, ← hA2, ← hc2] at hcut
                  replace hQ : Kd.Q (Kd.int .i64) 3 wr w.heap.size (fun _ => True) (.slice A2 q2.length c2) q2 := by
                    have e : q'.drop (1 : Int).toNat = q2 := by rw [hq]; rfl
                    rw [e] at hQ
                    rw [hA2, hc2, hy2]
                    exact hQ
                  clear hy2 hi0 hsz0 hA2 hc2 hq HQ
                  have HQ := Aside0.mk hQ
                  clear hQ
                  obtain ⟨ad, A1, c1, eA, hx1, hl1, hI⟩ := at_L HN.out v hv0 hv1
                  subst eA
                  have HI := Aside0.mk hI
                  have hmaxI := Kd.C_max hI
                  have HL1 := Aside0.mk hl1
                  replace hx1 := pw_cell_below HW.out.below hx1
                  clear hI hl1
                  go_wp2_with fail
                  have el := Aside0.mk HL.out.1
                  clear HL hx9 hx1 hcut hlen hlen2 hlen3
                  go_loopg [9, 11, 50] k2 (fun kq v9 v11 v50 wr => ∃ (f : Bool) (j : Int) (l' q' : List Int), v11 = .bool f ∧ v50 = .int .i64 j ∧ Aside0 (0 ≤ j ∧ (levC back (rdL next v) v kq j f l' q').bind (fun s => levB next back k2 s.1 s.2.1 s.2.2) = some r) ∧ Aside0 (l'.length = next.length ∧ LevW w0 w gm gb gl mate back l' wr) ∧ Aside0 (Kd.Q (Kd.int .i64) 3 wr w.heap.size (fun _ => True) v9 q'))
                  case atStart => exact ⟨f, 0, l', q2, rfl, rfl, ⟨by omega, HH.out⟩, ⟨el.out, HW.out⟩, HQ⟩
                  case round =>
                    clear HW HH el HQ
                    obtain ⟨f, j, l', q', rfl, rfl, HA, HL, HQ⟩ := hrel
                    have HW : Aside0 (LevW w0 w gm gb gl mate back l' wr) := ⟨HL.out.2⟩
                    have el := Aside0.mk HL.out.1
                    clear HL
                    have hj0 : 0 ≤ j := HA.out.1
                    cases gk with
                    | zero => exact absurd HA.out.2 (by simp [levC])
                    | succ k3 =>
                      have H := HA.out.2
                      clear HA
                      simp only [levC] at H
                      by_cases hlt : j < (rdL next v).length
                      · rw [if_pos hlt] at H
                        obtain ⟨ad1, eA, hy⟩ := Kd.at_int HI.out j hj0 hlt
                        subst eA
                        replace hy := pw_cell_below HW.out.below hy
                        obtain ⟨x, hX⟩ : ∃ x, rd (rdL next v) j = x := ⟨_, rfl⟩
                        rw [hX] at hy H
                        clear hX
                        by_cases hx0 : 0 ≤ x
                        · rw [if_pos hx0] at H
                          by_cases hx1 : x < back.length
                          · rw [if_pos hx1] at H
                            have hx2 : x < nb := by have := EB.out; omega
                            have hz := HW.out.rb.cell x hx0 hx1
                            obtain ⟨u, hU⟩ : ∃ u, rd back x = u := ⟨_, rfl⟩
                            rw [hU] at hz H
                            clear hU
                            by_cases hu : u < 0
                            · rw [if_pos hu] at H
                              have HH := Aside0.mk H
                              clear H
                              go_wp2
                              go_roundg k3
                              case measure => omega
                              case rel => exact ⟨true, j + 1, l', q', rfl, by go_num, ⟨by omega, HH.out⟩, ⟨el.out, HW.out⟩, HQ⟩
                            · rw [if_neg hu] at H
                              have hu0 : 0 ≤ u := by omega
                              by_cases hu1 : u < l'.length
                              · rw [if_pos hu1] at H
                                have hu2 : u < next.length := by have := el.out; omega
                                have cu := HW.out.rl.cell u hu0 hu1
                                have fu := HW.out.rl.frozen u
                                clear hu
                                by_cases hz0 : rd l' u < 0
                                · rw [if_pos hz0] at H
                                  by_cases hv2 : v < l'.length
                                  · rw [if_pos hv2] at H
                                    have cv := HW.out.rl.cell v hv0 hv2
                                    by_cases hq : q'.length < 17592186044416
                                    · rw [if_pos hq] at H
                                      have HH := Aside0.mk H
                                      have LQ := Aside0.mk hq
                                      clear H hq hx1 hu1 hv2
                                      go_wp2_with (first | ((with_reducible refine gate_store (t := 3) (p := 72) rfl ?_); refine store_event (t := 3) (p := 72) (v := ?vo3) (w1 := (wr.setCell ⟨gl, u.toNat, none⟩ (.int .i64 (wrap64 (rd l' v + 1))))) ?hg3 ?ho3 ?hn3 ?hr3 ?_; (case ho3 => rfl); (case hg3 => rfl); (case hn3 => rfl); (case hr3 => first | (go_simp; done) | (go_simp; rfl)); intro w2 hw; have HW2 : Aside0 (LevW w0 w gm gb gl mate back (l'.set u.toNat (wrap64 (rd l' v + 1))) w2) := ⟨by rw [hw]; exact HW.out.put N1.out N2.out OL.out u _⟩; have HQ2 : Aside0 (Kd.Q (Kd.int .i64) 3 w2 w.heap.size (fun _ => True) u9 q') := ⟨by rw [hw]; exact Q_put HQ.out B3.out _ _⟩; clear hw cu cv fu hy hz) | ((with_reducible refine gate_builtin (b := .append) (xs := #[.tmp 73, .tmp 75]) rfl ?_); at_builtin; refine Kd.Q_append (Kd.int .i64) w.heap.size rfl (.tmp 73) (.tmp 75) 29 3 (.int .i64 0) 8 rfl Try.underlying29 info3 rfl (by decide) (by omega) u9 q' u [.int .i64 u] (fun _ => True) (fun _ => False) rfl rfl ?aP (fun _ hk => hk.elim) (fun _ _ => trivial) HQ2.out (Below.refl _ _) ?aS ?aL ?_; (case aP => exact rfl); (case aS => exact HW2.out.keep.1); (case aL => have := LQ.out; omega); intro v1 w1 ho hb hg hat; have HQ1 := Aside0.mk ho; have HG1 := Aside0.mk hg; clear ho hb hg hat))
                                      go_roundg k3
                                      case measure => omega
                                      case rel => exact ⟨f, j + 1, _, _, rfl, by go_num, ⟨by omega, HH.out⟩, ⟨by rw [List.length_set]; exact el.out, HW2.out.grown OW.out HG1.out (Kd.Q_base HQ2.out) B1.out B2.out B3.out⟩, HQ1⟩
                                    · rw [if_neg hq] at H
                                      exact absurd H (by simp)
                                  · rw [if_neg hv2] at H
                                    exact absurd H (by simp)
                                · rw [if_neg hz0] at H
                                  have HH := Aside0.mk H
                                  clear H
                                  go_wp2
                                  go_roundg k3
                                  case measure => omega
                                  case rel => exact ⟨f, j + 1, l', q', rfl, by go_num, ⟨by omega, HH.out⟩, ⟨el.out, HW.out⟩, HQ⟩
                              · rw [if_neg hu1] at H
                                exact absurd H (by simp)
                          · rw [if_neg hx1] at H
                            exact absurd H (by simp)
                        · rw [if_neg hx0] at H
                          exact absurd H (by simp)
                      · rw [if_neg hlt] at H
                        have HH := Aside0.mk (show levB next back k2 f l' q' = some r from H)
                        clear H
                        go_wp2
                        go_roundg k2
                        case measure => omega
                        case rel => exact ⟨f, l', q', rfl, ⟨HH.out, by have := HK.out; omega⟩, ⟨el.out, HW.out⟩, HQ⟩
                · rw [if_neg hv1] at H
                  exact absurd H (by simp)
              · rw [if_neg hv0] at H
                exact absurd H (by simp)
end Go.Proofs.Ytlleokhmgblfnaa.H
end

section
namespace Go.Proofs.Ytlleokhmgblfnaa.H
open Go.RowKit Go.Proofs.YtlleokhmgblfnaaW.PrintWords
def nones (n : Nat) : List Int := List.replicate n (-1)
theorem made_row (w : World) (n : Nat) : Row (w.alloc (.cells (madeCells #[.int .i64 0] n) 3)) w.heap.size (List.replicate n 0) := by
  unfold Row
  rw [blk_new]
  congr 2
  apply Array.ext
  · simp [size_madeCells]
  · intro i h1 h2
    simp [madeCells, Nat.mod_one]
theorem rep_cons (a : Nat) (x : Int) (l : List Int) : List.replicate a x ++ x :: l = x :: (List.replicate a x ++ l) := by
  induction a with
  | zero => rfl
  | succ a ih => simp only [List.replicate_succ, List.cons_append, ih]
theorem Row.R {w : World} {g base : Nat} {xs : List Int} {ok : Nat → Prop} (h : Row w g xs) (hb : base ≤ g) (hm : xs.length ≤ 9223372036854775807) (hok : ok g) : Kd.R (Kd.int .i64) 3 w base ok (.slice (some ⟨g, 0, none⟩) xs.length xs.length) xs := by
  refine Kd.R_of_own ⟨by simp [encs], .inr ⟨g, xs.length, _, rfl, hb, h, Nat.le_refl _, hm, by simp, ?_⟩⟩ (fun k hk => ?_)
  · simp [encs]
    exact List.take_of_length_le (by simp)
  · have : g = k := by simpa [Value.ownBlock] using hk
    exact this ▸ hok
def phase (next : List (List Int)) : Nat → Int → List Int → List Int → List Int → Option (List Int × List Int × List Int)
  | 0, _, _, _, _ => none
  | k + 1, v, m, b, l =>
    if v < next.length then
      if rd m v < 0 then (extG next k v 0 m b l).bind fun q => phase next k (v + 1) q.2.1 q.2.2.1 q.2.2.2
      else phase next k (v + 1) m b l
    else some (m, b, l)
def great (next : List (List Int)) : Nat → List Int → List Int → List Int → Option (List Int × List Int)
  | 0, _, _, _ => none
  | k + 1, m, b, l => (levF next m b k l).bind fun s => if s.1 then (phase next k 0 m b s.2).bind fun t => great next k t.1 t.2.1 t.2.2 else some (m, b)
def greatF (k : Nat) (next : List (List Int)) (R : Int) : Option (List Int × List Int) :=
  if 0 ≤ R then if R.toNat ≤ 35184372088832 then if next.length ≤ 35184372088832 then great next k (nones next.length) (nones R.toNat) (List.replicate next.length 0) else none else none else none
def NonePost (n : Nat) (w : World) (e : Ending) (w' : World) : Prop :=
  ∃ g, e = .returned (.slice (some ⟨g, 0, none⟩) n n) ∧ w.heap.size ≤ g ∧ Row w' g (nones n) ∧ Below w.heap.size w w'
set_option maxHeartbeats 1000000 in
set_option maxRecDepth 100000 in
theorem none_calls (n : Nat) (hn : n ≤ 35184372088832) (w : World) : Calls Try.prog 52 #[.int .i64 n] w (NonePost n w) := by
  have hmk := run_make_row' (P := Try.prog) 29 3 (.int .i64 0) 8 Try.underlying29 info3 rfl .i64 .i64 n (by omega) (by omega)
  have HR := Aside0.mk (made_row w n)
  go_enter Try.func52, Try.ntmps52
  go_wp2_with fail
  go_loopg [9] (n + 1) (fun kq v9 wr => ∃ i : Int, v9 = .int .i64 i ∧ Aside0 (0 ≤ i ∧ i ≤ n ∧ (n : Int) < i + kq) ∧ Aside0 (Row wr w.heap.size (List.replicate i.toNat (-1) ++ List.replicate (n - i.toNat) 0)) ∧ Aside0 (Below w.heap.size w wr))
  case atStart => exact ⟨0, rfl, ⟨by omega, by omega, by omega⟩, ⟨by simpa using HR.out⟩, ⟨below_alloc (Below.refl _ _) _⟩⟩
  case round =>
    clear HR hmk
    obtain ⟨i, rfl, HA, HR, HB⟩ := hrel
    have hi0 : 0 ≤ i := HA.out.1
    by_cases hlt : i < n
    · have ci := HR.out.cell i hi0 (by simp; omega)
      have fi := HR.out.frozen i
      go_wp2
      go_roundg (gk - 1)
      case measure => have := HA.out; omega
      case rel =>
        have := HA.out
        refine ⟨i + 1, by go_num, ⟨by omega, by omega, by omega⟩, ⟨?_⟩, ⟨below_set HB.out (Nat.le_refl _)⟩⟩
        have h := HR.out.set i (-1)
        have e : (List.replicate i.toNat (-1 : Int) ++ List.replicate (n - i.toNat) 0).set i.toNat (-1) = List.replicate (i + 1).toNat (-1) ++ List.replicate (n - (i + 1).toNat) 0 := by
          rw [List.set_append_right _ _ (by simp)]
          obtain ⟨m, hm⟩ : ∃ m, n - i.toNat = m + 1 := ⟨n - i.toNat - 1, by omega⟩
          rw [hm, show (i + 1).toNat = i.toNat + 1 by omega, show n - (i.toNat + 1) = m by omega]
          simp [List.replicate_succ, rep_cons]
        rw [e] at h
        exact h
    · have hi : i.toNat = n := by have := HA.out; omega
      have HI := Aside0.mk hi
      clear hi
      go_wp2
      go_ret
      exact ⟨_, rfl, Nat.le_refl _, by have := HR.out; rw [HI.out] at this; simpa [nones] using this, HB.out⟩
theorem ExtW.lev {w0 wr w1 : World} {next : List (List Int)} {R : Nat} {A0 : Option Addr} {c0 Bn Bm Bb Bl Bx gm gb gl : Nat} {m b l l' : List Int} (h : ExtW w0 next R A0 c0 Bn Bm Bb Bl Bx gm gb gl m b l wr) (k : LevW w0 wr gm gb gl m b l' w1) (hl : l'.length = next.length) : ExtW w0 next R A0 c0 Bn Bm Bb Bl Bx gm gb gl m b l' w1 :=
  ⟨k.below, k.keep.blk h.hn (h.rl.ne h.hn (by decide)) (by simp), k.keep.blk h.hm (h.rl.ne h.hm (by decide)) (by simp), k.keep.blk h.hb (h.rl.ne h.hb (by decide)) (by simp), k.keep.blk h.hl (h.rl.ne h.hl (by decide)) (by simp), k.keep.blk h.hx (h.rl.ne h.hx (by decide)) (by simp),
    k.rm, k.rb, k.rl, h.lm, h.lb, hl, h.gmb, h.gml, h.gbl, h.om, h.ob, h.ol⟩
theorem levA_len (mate : List Int) (n : Int) : ∀ k i l q s, levA mate n k i l q = some s → s.1.length = l.length := by
  intro k
  induction k with
  | zero => intro i l q s h; exact absurd h (by simp [levA])
  | succ k ih =>
    intro i l q s h
    simp only [levA] at h
    repeat' split at h
    all_goals first
      | (have := ih _ _ _ _ h; simpa using this)
      | (cases h; rfl)
      | cases h
theorem levC_len (back ws : List Int) (v : Int) : ∀ k j f l q s, levC back ws v k j f l q = some s → s.2.1.length = l.length := by
  intro k
  induction k with
  | zero => intro j f l q s h; exact absurd h (by simp [levC])
  | succ k ih =>
    intro j f l q s h
    simp only [levC] at h
    repeat' split at h
    all_goals first
      | (have := ih _ _ _ _ _ h; simpa using this)
      | (cases h; rfl)
      | cases h
theorem levB_len (next : List (List Int)) (back : List Int) : ∀ k f l q s, levB next back k f l q = some s → s.2.length = l.length := by
  intro k
  induction k with
  | zero => intro f l q s h; exact absurd h (by simp [levB])
  | succ k ih =>
    intro f l q s h
    cases q with
    | nil => cases h; rfl
    | cons v q =>
      simp only [levB] at h
      repeat' split at h
      · cases hc : levC back (rdL next v) v k 0 f l q with
        | none => rw [hc] at h; exact absurd h (by simp)
        | some t =>
          rw [hc] at h
          have h1 := ih _ _ _ _ h
          have h2 := levC_len _ _ _ _ _ _ _ _ _ hc
          exact h1.trans h2
      all_goals exact absurd h (by simp)
theorem levF_len {next : List (List Int)} {mate back : List Int} {k : Nat} {l : List Int} {s : Bool × List Int} (h : levF next mate back k l = some s) : s.2.length = l.length := by
  unfold levF at h
  cases ha : levA mate next.length k 0 l [] with
  | none => rw [ha] at h; exact absurd h (by simp)
  | some t =>
    rw [ha] at h
    exact (levB_len _ _ _ _ _ _ _ h).trans (levA_len _ _ _ _ _ _ _ ha)
def GreatPost (w : World) (r : List Int × List Int) (e : Ending) (w' : World) : Prop :=
  ∃ v0 v1 : Value, e = .returned (.tuple #[v0, v1]) ∧ Kd.R (Kd.int .i64) 3 w' w.heap.size (fun k => some k ≠ v1.ownBlock) v0 r.1 ∧ Kd.R (Kd.int .i64) 3 w' w.heap.size (fun k => some k ≠ v0.ownBlock) v1 r.2 ∧ Below w.heap.size w w'
set_option maxHeartbeats 4000000 in
set_option maxRecDepth 100000 in
theorem great_calls (k : Nat) (A0 : Option Addr) (c0 : Nat) (next : List (List Int)) (R : Int) (r : List Int × List Int) (w : World) (hN : Kd.C (Kd.slice 3 (Kd.int .i64)) w A0 next.length next) (hc : next.length ≤ c0) (h : greatF k next R = some r) :
    Calls Try.prog 46 #[.slice A0 next.length c0, .int .i64 R] w (GreatPost w r) := by
  unfold greatF at h
  by_cases h1 : 0 ≤ R
  case neg => rw [if_neg h1] at h; exact absurd h (by simp)
  rw [if_pos h1] at h
  by_cases h2 : R.toNat ≤ 35184372088832
  case neg => rw [if_neg h2] at h; exact absurd h (by simp)
  rw [if_pos h2] at h
  by_cases h3 : next.length ≤ 35184372088832
  case neg => rw [if_neg h3] at h; exact absurd h (by simp)
  rw [if_pos h3] at h
  obtain ⟨n, rfl⟩ := Int.eq_ofNat_of_zero_le h1
  rw [Int.toNat_natCast] at h h2
  have HN := Aside0.mk hN
  have H := Aside0.mk h
  clear hN h h1
  have hmk := run_make_row' (P := Try.prog) 29 3 (.int .i64 0) 8 Try.underlying29 info3 rfl .i64 .i64 next.length (by omega) (by omega)
  go_enter Try.func46, Try.ntmps46
  go_wp2_with fail
  have hW : ∃ W : World, W = (((w.alloc (Obj.cells #[Value.slice A0 next.length c0] 69)).alloc (Obj.cells #[Value.slice none 0 0] 29)).alloc (Obj.cells #[Value.slice none 0 0] 29)) := ⟨_, rfl⟩
  obtain ⟨W, hW⟩ := hW
  rw [← hW]
  have kn : W.heap[w.heap.size]? = some (.cells #[.slice A0 next.length c0] 69 (0, 0)) := by rw [hW]; exact blk_alloc (blk_alloc (blk_new _ _) _) _
  have km : W.heap[w.heap.size + 1]? = some (.cells #[.slice none 0 0] 29 (0, 0)) := by rw [hW]; have := blk_alloc (blk_new (w.alloc (Obj.cells #[Value.slice A0 next.length c0] 69)) (Obj.cells #[Value.slice none 0 0] 29)) (Obj.cells #[Value.slice none 0 0] 29); simpa using this
  have kb : W.heap[w.heap.size + 1 + 1]? = some (.cells #[.slice none 0 0] 29 (0, 0)) := by rw [hW]; have := blk_new ((w.alloc (Obj.cells #[Value.slice A0 next.length c0] 69)).alloc (Obj.cells #[Value.slice none 0 0] 29)) (Obj.cells #[Value.slice none 0 0] 29); simpa using this
  have kB : Below w.heap.size w W := by rw [hW]; exact below_alloc (below_alloc (below_alloc (Below.refl _ _) _) _) _
  have ks : W.heap.size = w.heap.size + 3 := by rw [hW]; simp
  clear hW
  refine (none_calls next.length h3 _).mono ?_
  rintro e w1 ⟨gm, rfl, hg1, hr1, hb1⟩
  replace kn := blk_below kn hb1
  replace km := blk_below km hb1
  replace kb := blk_below kb hb1
  have ks1 := hb1.size
  replace kB := below_step kB hb1
  clear hb1
  have KN := Aside0.mk kn
  have KM := Aside0.mk km
  have KB := Aside0.mk kb
  have KBe := Aside0.mk kB
  have HR1 := Aside0.mk hr1
  have HG1 := Aside0.mk (show w.heap.size + 3 ≤ gm by omega)
  have KS := Aside0.mk (show w.heap.size + 3 ≤ w1.heap.size by omega)
  clear kn km kb kB hr1 hg1 ks ks1 W
  go_wp2_with fail
  refine (none_calls n h2 _).mono ?_
  rintro e w2 ⟨gb, rfl, hg2, hr2, hb2⟩
  have KN2 := Aside0.mk (blk_below KN.out hb2)
  have KM2 := Aside0.mk (blk_below KM.out hb2)
  have KB2 := Aside0.mk (blk_below KB.out hb2)
  have KBe2 := Aside0.mk (below_step KBe.out hb2)
  have HR12 := Aside0.mk (HR1.out.move (hb2.block gm HR1.out.lt))
  have HR2 := Aside0.mk hr2
  have hgne : gm ≠ gb := by have := HR1.out.lt; omega
  have HNE := Aside0.mk hgne
  have HG2 := Aside0.mk (show w.heap.size + 3 ≤ gb by have := KS.out; omega)
  have KS2 := Aside0.mk (show w.heap.size + 3 ≤ w2.heap.size by have := KS.out; have := hb2.size; omega)
  clear hr2 hb2 hgne hg2 KN KM KB KBe HR1 KS
  have cn := blk_cell KN2.out 0
  have cm := blk_cell KM2.out 0
  have cb := blk_cell KB2.out 0
  have fm := blk_frozen KM2.out 0
  have fb := blk_frozen KB2.out 0
  simp only [List.getElem?_toArray, List.getElem?_cons_zero] at cn cm cb
  go_wp2_with fail
  generalize hW : (((((w2.setCell { block := w.heap.size + 1, off := 0 } (Value.slice (some { block := gm, off := 0 }) next.length next.length)).setCell { block := w.heap.size + 1 + 1, off := 0 } (Value.slice (some { block := gb, off := 0 }) n n)).alloc (Obj.cells (madeCells #[Value.int IntKind.i64 0] next.length) 3)).alloc (Obj.cells #[Value.slice (some { block := w2.heap.size, off := 0 }) next.length next.length] 29)).alloc (Obj.cells #[Value.func (Fn.func 53) #[] #[Value.pointer (some { block := w.heap.size, off := 0 }), Value.pointer (some { block := w.heap.size + 1 + 1, off := 0 }), Value.pointer (some { block := w2.heap.size + 1, off := 0 }), Value.pointer (some { block := w2.heap.size + 1 + 1, off := 0 }), Value.pointer (some { block := w.heap.size + 1, off := 0 })]] 84)) = W
  have HX : Aside0 (ExtW w next n A0 c0 w.heap.size (w.heap.size + 1) (w.heap.size + 1 + 1) (w2.heap.size + 1) (w2.heap.size + 1 + 1) gm gb w2.heap.size (nones next.length) (nones n) (List.replicate next.length 0) W) := by
    have ns := KS2.out
    have e1 : ∀ (X : World) (o : Obj), (X.alloc o).heap.size = X.heap.size + 1 := fun X o => by simp
    have hN1 : w.heap.size ≠ w.heap.size + 1 := by omega
    have hN2 : w.heap.size ≠ w.heap.size + 1 + 1 := by omega
    have hN3 : w.heap.size + 1 ≠ w.heap.size + 1 + 1 := by omega
    have hM1 : gm ≠ w.heap.size + 1 := by have := HG1.out; omega
    have hM2 : gm ≠ w.heap.size + 1 + 1 := by have := HG1.out; omega
    have hG1 : gb ≠ w.heap.size + 1 := by have := HG2.out; omega
    have hG2 : gb ≠ w.heap.size + 1 + 1 := by have := HG2.out; omega
    obtain ⟨Wa, hWa⟩ : ∃ X, X = w2.setCell { block := w.heap.size + 1, off := 0 } (Value.slice (some { block := gm, off := 0 }) next.length next.length) := ⟨_, rfl⟩
    obtain ⟨Wb, hWb⟩ : ∃ X, X = Wa.setCell { block := w.heap.size + 1 + 1, off := 0 } (Value.slice (some { block := gb, off := 0 }) n n) := ⟨_, rfl⟩
    have sb : Wb.heap.size = w2.heap.size := by rw [hWb, hWa]; simp
    have a1 : Wb.heap[w.heap.size]? = some (.cells #[.slice A0 next.length c0] 69 (0, 0)) := by rw [hWb, hWa]; exact blk_far (blk_far KN2.out hN1 _) hN2 _
    have a2 : Wb.heap[w.heap.size + 1]? = some (.cells #[.slice (some ⟨gm, 0, none⟩) next.length next.length] 29 (0, 0)) := by rw [hWb, hWa]; exact blk_far (by have := blk_set KM2.out 0 (Value.slice (some { block := gm, off := 0 }) next.length next.length); simpa using this) hN3 _
    have a3 : Wb.heap[w.heap.size + 1 + 1]? = some (.cells #[.slice (some ⟨gb, 0, none⟩) n n] 29 (0, 0)) := by
      rw [hWb]
      have h1 : Wa.heap[w.heap.size + 1 + 1]? = some (.cells #[.slice none 0 0] 29 (0, 0)) := by rw [hWa]; exact blk_far KB2.out hN3.symm _
      have := blk_set h1 0 (Value.slice (some { block := gb, off := 0 }) n n)
      simpa using this
    have a4 : Row Wb gm (nones next.length) := by rw [hWb, hWa]; exact (HR12.out.far hM1 _).far hM2 _
    have a5 : Row Wb gb (nones n) := by rw [hWb, hWa]; exact (HR2.out.far hG1 _).far hG2 _
    have a6 : Below w.heap.size w Wb := by rw [hWb, hWa]; exact below_set (below_set KBe2.out (by omega)) (by omega)
    rw [← hWa, ← hWb] at hW
    clear hWa hWb
    subst hW
    refine ⟨⟨below_alloc (below_alloc (below_alloc a6 _) _) _, blk_alloc (blk_alloc (blk_alloc a1 _) _) _, blk_alloc (blk_alloc (blk_alloc a2 _) _) _, blk_alloc (blk_alloc (blk_alloc a3 _) _) _, ?_, ?_, ((a4.alloc _).alloc _).alloc _, ((a5.alloc _).alloc _).alloc _, ?_, by simp [nones], by simp [nones], by simp, HNE.out, ?_, ?_, by have := HG1.out; omega, by have := HG2.out; omega, by omega⟩⟩
    · refine blk_alloc ?_ _
      have := blk_new (Wb.alloc (Obj.cells (madeCells #[Value.int IntKind.i64 0] next.length) 3)) (Obj.cells #[Value.slice (some { block := w2.heap.size, off := 0 }) next.length next.length] 29)
      rw [e1, sb] at this
      exact this
    · have := blk_new ((Wb.alloc (Obj.cells (madeCells #[Value.int IntKind.i64 0] next.length) 3)).alloc (Obj.cells #[Value.slice (some { block := w2.heap.size, off := 0 }) next.length next.length] 29)) (Obj.cells #[Value.func (Fn.func 53) #[] #[Value.pointer (some { block := w.heap.size, off := 0 }), Value.pointer (some { block := w.heap.size + 1 + 1, off := 0 }), Value.pointer (some { block := w2.heap.size + 1, off := 0 }), Value.pointer (some { block := w2.heap.size + 1 + 1, off := 0 }), Value.pointer (some { block := w.heap.size + 1, off := 0 })]] 84)
      rw [e1, e1, sb] at this
      exact this
    · have := made_row Wb next.length
      rw [sb] at this
      exact (this.alloc _).alloc _
    · have := HR12.out.lt; omega
    · have := HR2.out.lt; omega
  clear hW cn cm cb fm fb KN2 KM2 KB2 KBe2 HR12 HR2 HNE HG1 HG2 hmk
  have hmn : next.length ≤ 9223372036854775807 := by omega
  go_loopg [25] k (fun kq v25 wr => ∃ (m b l : List Int), Aside0 (great next kq m b l = some r ∧ kq ≤ k) ∧ Aside0 (ExtW w next n A0 c0 w.heap.size (w.heap.size + 1) (w.heap.size + 1 + 1) (w2.heap.size + 1) (w2.heap.size + 1 + 1) gm gb w2.heap.size m b l wr))
  case atStart => exact ⟨_, _, _, ⟨H.out, Nat.le_refl _⟩, HX⟩
  case round =>
    clear HX H
    obtain ⟨m, b, l, HA, HX⟩ := hrel
    cases gk with
    | zero => exact absurd HA.out.1 (by simp [great])
    | succ k1 =>
      have H0 := HA.out.1
      have HK := Aside0.mk HA.out.2
      clear HA
      simp only [great] at H0
      cases hs : levF next m b k1 l with
      | none => rw [hs] at H0; exact absurd H0 (by simp)
      | some s =>
        rw [hs] at H0
        have HS := Aside0.mk hs
        have HL := Aside0.mk ((levF_len hs).trans HX.out.ll)
        have H := Aside0.mk (show (if s.1 then (phase next k1 0 m b s.2).bind fun t => great next k1 t.1 t.2.1 t.2.2 else some (m, b)) = some r from H0)
        clear H0 hs
        have cn := blk_cell HX.out.hn 0
        have cm := blk_cell HX.out.hm 0
        have cb := blk_cell HX.out.hb 0
        have cl := blk_cell HX.out.hl 0
        simp only [List.getElem?_toArray, List.getElem?_cons_zero] at cn cm cb cl
        go_wp2_with fail
        refine (levels_calls w _ next A0 c0 gm gb w2.heap.size next.length n m b l k1 s HN.out hc HX.out.below HX.out.rm HX.out.rb HX.out.rl HX.out.gml HX.out.gbl HX.out.ol HX.out.lm HX.out.lb HX.out.ll HS.out).mono ?_
        rintro e w3 ⟨rfl, hw3⟩
        have HX2 := Aside0.mk (HX.out.lev hw3 HL.out)
        clear hw3 HX HS HL cn cm cb cl
        obtain ⟨s1, s2⟩ := s
        cases s1 with
        | false =>
          have hr := Option.some.inj (show some (m, b) = some r from H.out)
          have HR := Aside0.mk hr
          clear hr H
          have cm := blk_cell HX2.out.hm 0
          have cb := blk_cell HX2.out.hb 0
          have fm := blk_frozen HX2.out.hm 0
          have fb := blk_frozen HX2.out.hb 0
          simp only [List.getElem?_toArray, List.getElem?_cons_zero] at cm cb
          go_wp2
          go_region
          all_goals go_wp2
          have n1 : w.heap.size + 1 ≠ w.heap.size + 1 + 1 := by omega
          have m1 : gm ≠ w.heap.size + 1 := HX2.out.rm.ne HX2.out.hm (by decide) |>.symm
          have m2 : gm ≠ w.heap.size + 1 + 1 := HX2.out.rm.ne HX2.out.hb (by decide) |>.symm
          have g1 : gb ≠ w.heap.size + 1 := HX2.out.rb.ne HX2.out.hm (by decide) |>.symm
          have g2 : gb ≠ w.heap.size + 1 + 1 := HX2.out.rb.ne HX2.out.hb (by decide) |>.symm
          obtain ⟨W4, hW4⟩ : ∃ X, X = ((w3.setCell { block := w.heap.size + 1, off := 0 } (Value.slice (some { block := gm, off := 0 }) next.length next.length)).setCell { block := w.heap.size + 1 + 1, off := 0 } (Value.slice (some { block := gb, off := 0 }) n n)).drew := ⟨_, rfl⟩
          have k1 : W4.heap[w.heap.size + 1]? = some (.cells #[.slice (some ⟨gm, 0, none⟩) next.length next.length] 29 (0, 0)) := by
            rw [hW4]; exact blk_drew (blk_far (by have := blk_set HX2.out.hm 0 (Value.slice (some { block := gm, off := 0 }) next.length next.length); simpa using this) n1 _)
          have k2 : W4.heap[w.heap.size + 1 + 1]? = some (.cells #[.slice (some ⟨gb, 0, none⟩) n n] 29 (0, 0)) := by
            rw [hW4]
            refine blk_drew ?_
            have h1 : (w3.setCell { block := w.heap.size + 1, off := 0 } (Value.slice (some { block := gm, off := 0 }) next.length next.length)).heap[w.heap.size + 1 + 1]? = some (.cells #[.slice (some ⟨gb, 0, none⟩) n n] 29 (0, 0)) := blk_far HX2.out.hb n1.symm _
            have := blk_set h1 0 (Value.slice (some { block := gb, off := 0 }) n n)
            simpa using this
          have r1 : Row W4 gm m := by rw [hW4]; exact (HX2.out.rm.far m1 _).far m2 _
          have r2 : Row W4 gb b := by rw [hW4]; exact (HX2.out.rb.far g1 _).far g2 _
          have bl : Below w.heap.size w W4 := by rw [hW4]; exact below_drew1 (below_set (below_set HX2.out.below (by omega)) (by omega))
          rw [← hW4]
          have q1 := blk_cell k1 0
          have q2 := blk_cell k2 0
          simp only [List.getElem?_toArray, List.getElem?_cons_zero] at q1 q2
          clear hW4
          refine bodyPost_ret (v := .tuple #[.slice (some ⟨gm, 0, none⟩) next.length next.length, .slice (some ⟨gb, 0, none⟩) n n]) (by simp [results, Try.results46, go_sem, q1, q2]) rfl ⟨_, _, rfl, ?_, ?_, bl⟩
          · have := r1.R (base := w.heap.size) (ok := fun k => some k ≠ (Value.slice (some ⟨gb, 0, none⟩) n n).ownBlock) HX2.out.om (by rw [HX2.out.lm]; exact hmn) (by simp [Value.ownBlock]; exact HX2.out.gmb)
            rw [← HR.out]
            rw [HX2.out.lm] at this
            exact this
          · have := r2.R (base := w.heap.size) (ok := fun k => some k ≠ (Value.slice (some ⟨gm, 0, none⟩) next.length next.length).ownBlock) HX2.out.ob (by rw [HX2.out.lb]; omega) (by simp [Value.ownBlock]; exact HX2.out.gmb.symm)
            rw [← HR.out]
            rw [HX2.out.lb] at this
            exact this
        | true =>
          have H2 := Aside0.mk (show ((phase next k1 0 m b s2).bind fun t => great next k1 t.1 t.2.1 t.2.2) = some r from H.out)
          clear H
          have cn := blk_cell HX2.out.hn 0
          simp only [List.getElem?_toArray, List.getElem?_cons_zero] at cn
          go_wp2_with fail
          clear cn
          go_loopg [25] k1 (fun kq v25 wr => ∃ (v : Int) (m b l : List Int), v25 = .int .i64 v ∧ Aside0 (0 ≤ v ∧ (phase next kq v m b l).bind (fun t => great next k1 t.1 t.2.1 t.2.2) = some r ∧ kq ≤ k1) ∧ Aside0 (ExtW w next n A0 c0 w.heap.size (w.heap.size + 1) (w.heap.size + 1 + 1) (w2.heap.size + 1) (w2.heap.size + 1 + 1) gm gb w2.heap.size m b l wr))
          case atStart => exact ⟨0, m, b, s2, rfl, ⟨by omega, H2.out, Nat.le_refl _⟩, HX2⟩
          case round =>
            clear HX2 H2
            obtain ⟨v, m, b, l, rfl, HA, HX⟩ := hrel
            have hv0 : 0 ≤ v := HA.out.1
            cases gk with
            | zero => exact absurd HA.out.2.1 (by simp [phase])
            | succ k2 =>
              have H0 := HA.out.2.1
              have HK2 := Aside0.mk HA.out.2.2
              clear HA
              simp only [phase] at H0
              by_cases hlt : v < next.length
              · rw [if_pos hlt] at H0
                have cm := blk_cell HX.out.hm 0
                have cx := blk_cell HX.out.hx 0
                simp only [List.getElem?_toArray, List.getElem?_cons_zero] at cm cx
                have cv := HX.out.rm.cell v hv0 (by rw [HX.out.lm]; exact hlt)
                by_cases hneg : rd m v < 0
                · rw [if_pos hneg] at H0
                  cases hq : extG next k2 v 0 m b l with
                  | none => rw [hq] at H0; exact absurd H0 (by simp)
                  | some q =>
                    rw [hq] at H0
                    have HQ := Aside0.mk hq
                    have H := Aside0.mk (show ((phase next k2 (v + 1) q.2.1 q.2.2.1 q.2.2.2).bind fun t => great next k1 t.1 t.2.1 t.2.2) = some r from H0)
                    clear H0 hq
                    go_wp2_with fail
                    refine (ext_calls w next n A0 c0 w.heap.size (w.heap.size + 1) (w.heap.size + 1 + 1) (w2.heap.size + 1) (w2.heap.size + 1 + 1) gm gb w2.heap.size HN.out hc k2 v m b l q _ hv0 hlt HX.out HQ.out).mono ?_
                    rintro e w4 ⟨rfl, hw4⟩
                    have HX4 := Aside0.mk hw4
                    clear hw4 HX cm cx cv HQ
                    go_wp2_with fail
                    go_roundg k2
                    case measure => omega
                    case rel => exact ⟨v + 1, _, _, _, by go_num, ⟨by omega, H.out, by have := HK2.out; omega⟩, HX4⟩
                · rw [if_neg hneg] at H0
                  have H := Aside0.mk H0
                  clear H0
                  go_wp2_with fail
                  go_roundg k2
                  case measure => omega
                  case rel => exact ⟨v + 1, _, _, _, by go_num, ⟨by omega, H.out, by have := HK2.out; omega⟩, HX⟩
              · rw [if_neg hlt] at H0
                have H := Aside0.mk (show great next k1 m b l = some r from H0)
                clear H0
                go_wp2_with fail
                go_roundg k1
                case measure => omega
                case rel => exact ⟨m, b, l, ⟨H.out, by have := HK.out; omega⟩, HX⟩
end Go.Proofs.Ytlleokhmgblfnaa.H
end

section
namespace Go.Proofs.Ytlleokhmgblfnaa.H
open Go.RowKit Go.Proofs.YtlleokhmgblfnaaW.PrintWords
theorem extG_mono (next : List (List Int)) : ∀ k v j m b l, LeO (extG next k v j m b l) (extG next (k + 1) v j m b l) := by
  intro k
  induction k with
  | zero => intro v j m b l r h; exact absurd h (by simp [extG])
  | succ k ih =>
    intro v j m b l
    rw [extG, extG]
    refine LeO.ite (LeO.ite (LeO.ite (LeO.ite (LeO.refl _) (LeO.ite (LeO.ite (LeO.ite ?_ (ih _ _ _ _ _)) (LeO.refl _)) (LeO.refl _))) (LeO.refl _)) (LeO.refl _)) (LeO.refl _)
    intro r h
    cases hq : extG next k (rd b (rd (rdL next v) j)) 0 m b l with
    | none => rw [hq] at h; cases h
    | some q =>
      rw [hq] at h
      rw [ih _ _ _ _ _ _ hq]
      obtain ⟨q0, q1, q2, q3⟩ := q
      cases q0 with
      | true => exact h
      | false => exact ih _ _ _ _ _ _ h
theorem levA_mono (mate : List Int) (n : Int) : ∀ k i l q, LeO (levA mate n k i l q) (levA mate n (k + 1) i l q) := by
  intro k
  induction k with
  | zero => intro i l q r h; exact absurd h (by simp [levA])
  | succ k ih =>
    intro i l q
    rw [levA, levA]
    repeat' first
      | exact ih _ _ _
      | exact LeO.refl _
      | refine LeO.ite ?_ ?_
theorem levC_mono (back ws : List Int) (v : Int) : ∀ k j f l q, LeO (levC back ws v k j f l q) (levC back ws v (k + 1) j f l q) := by
  intro k
  induction k with
  | zero => intro j f l q r h; exact absurd h (by simp [levC])
  | succ k ih =>
    intro j f l q
    rw [levC, levC]
    repeat' first
      | exact ih _ _ _ _
      | exact LeO.refl _
      | refine LeO.ite ?_ ?_
theorem levB_mono (next : List (List Int)) (back : List Int) : ∀ k f l q, LeO (levB next back k f l q) (levB next back (k + 1) f l q) := by
  intro k
  induction k with
  | zero => intro f l q r h; exact absurd h (by simp [levB])
  | succ k ih =>
    intro f l q
    cases q with
    | nil => exact LeO.refl _
    | cons v q =>
      rw [levB, levB]
      repeat' first
        | exact LeO.refl _
        | refine LeO.ite ?_ ?_
        | refine LeO.bind (levC_mono _ _ _ _ _ _ _ _) (fun _ => ih _ _ _)
theorem levF_mono (next : List (List Int)) (m b : List Int) (k : Nat) (l : List Int) : LeO (levF next m b k l) (levF next m b (k + 1) l) :=
  LeO.bind (levA_mono _ _ _ _ _ _) (fun _ => levB_mono _ _ _ _ _ _)
theorem phase_mono (next : List (List Int)) : ∀ k v m b l, LeO (phase next k v m b l) (phase next (k + 1) v m b l) := by
  intro k
  induction k with
  | zero => intro v m b l r h; exact absurd h (by simp [phase])
  | succ k ih =>
    intro v m b l
    rw [phase, phase]
    repeat' first
      | exact ih _ _ _ _
      | exact LeO.refl _
      | refine LeO.ite ?_ ?_
      | refine LeO.bind (extG_mono _ _ _ _ _ _ _) (fun _ => ih _ _ _ _)
theorem great_mono (next : List (List Int)) : ∀ k m b l, LeO (great next k m b l) (great next (k + 1) m b l) := by
  intro k
  induction k with
  | zero => intro m b l r h; exact absurd h (by simp [great])
  | succ k ih =>
    intro m b l
    rw [great, great]
    refine LeO.bind (levF_mono _ _ _ _ _) (fun _ => LeO.ite ?_ (LeO.refl _))
    exact LeO.bind (phase_mono _ _ _ _ _ _) (fun _ => ih _ _ _)
theorem greatF_mono (next : List (List Int)) (R : Int) (k : Nat) : LeO (greatF k next R) (greatF (k + 1) next R) := by
  unfold greatF
  exact LeO.ite (LeO.ite (LeO.ite (great_mono _ _ _ _ _) (LeO.refl _)) (LeO.refl _)) (LeO.refl _)
theorem C_iso {α β : Type} {d : Kd α} {f : β → α} {w : World} {A : Option Addr} {n : Nat} {xs : List β} (h : (Kd.iso d f).C w A n xs) : d.C w A n (xs.map f) := by
  refine ⟨by simpa using h.1, h.2.1, fun hn => ?_⟩
  obtain ⟨ad, e, hc⟩ := h.2.2 hn
  refine ⟨ad, e, fun j p hp => ?_⟩
  rw [List.getElem?_map] at hp
  cases hj : xs[j]? with
  | none => rw [hj] at hp; cases hp
  | some q =>
    rw [hj] at hp
    cases hp
    exact hc j q hj
end Go.Proofs.Ytlleokhmgblfnaa.H
namespace Go.Proofs.Ytlleokhmgblfnaa.M
open Go.RowKit Go.Proofs.YtlleokhmgblfnaaW.PrintWords
def pairing_Greatest.f (k : Nat) (l0 : List (List Int)) (a1 : Int) : Option (List Int × List Int) := H.greatF k l0 a1
theorem pairing_Greatest.mono : ∀ a0 a1 k, LeO (pairing_Greatest.f k a0 a1) (pairing_Greatest.f (k + 1) a0 a1) := fun a0 a1 k => H.greatF_mono a0 a1 k
theorem pairing_Greatest.calls (k : Nat) (A0 : Option Addr) (c0 : Nat) (l0 : List (List Int)) (a1 : Int) (r1 : List Int) (r2 : List Int) (w : World) (hr0 : Kd.C (Kd.slice 3 (Kd.int .i64)) w A0 l0.length l0) (hc0 : l0.length ≤ c0) (h : pairing_Greatest.f k l0 a1 = some (r1, r2)) :
    Calls Try.prog 46 #[.slice A0 l0.length c0, .int .i64 a1] w fun e w' => ∃ v0_ v1_ : Value, e = .returned (.tuple #[v0_, v1_]) ∧ Kd.R (Kd.int .i64) 3 w' w.heap.size (fun k_ => some k_ ≠ (v1_ : Value).ownBlock) v0_ r1 ∧ Kd.R (Kd.int .i64) 3 w' w.heap.size (fun k_ => some k_ ≠ (v0_ : Value).ownBlock) v1_ r2 ∧ Below w.heap.size w w' :=
  (H.great_calls k A0 c0 l0 a1 (r1, r2) w hr0 hc0 h).mono fun _ _ hp => hp
end Go.Proofs.Ytlleokhmgblfnaa.M
end

section
namespace Go.Proofs.Ytlleokhmgblfnaa.M
open Go.RowKit Go.Proofs.YtlleokhmgblfnaaW.PrintWords Go.Proofs.YtlleokhmgblfnaaW.PrintLast Go.Proofs.YtlleokhmgblfnaaW.PrintMore
attribute [local go_sem] max2_int min2_int max_two min_two max_three min_three max_four min_four   -- for this text's walks alone
mutual
def pairing_Reach.l0 : Nat → List (List Int) → List Int → List Int → List Bool → List Bool → List Int → Int → Int → Option (List Bool × List Bool)
  | 0, _, _, _, _, _, _, _, _ => none
  | k + 1, x0, x1, x2, x6, x7, x8, x21, x22 => if x22 < x21 then (if 0 ≤ x22 then (if x22 < (x1.length : Int) then (if (rd x1 x22) < 0 then (if x22 < (x6.length : Int) then (if x8.length < 17592186044416 then (pairing_Reach.l0 k x0 x1 x2 (x6.set (x22 : Int).toNat true) x7 (x8 ++ [x22]) x21 (wrap64 (x22 + 1))) else (none)) else (none)) else (pairing_Reach.l0 k x0 x1 x2 x6 x7 x8 x21 (wrap64 (x22 + 1)))) else (none)) else (none)) else (pairing_Reach.l1 k x0 x2 x6 x7 x8)
def pairing_Reach.l1 : Nat → List (List Int) → List Int → List Bool → List Bool → List Int → Option (List Bool × List Bool)
  | 0, _, _, _, _, _ => none
  | k + 1, x0, x2, x6, x7, x8 => if (x8.length : Int) > 0 then (if 0 < (x8.length : Int) then (if 1 ≤ (x8.length : Int) then (if 0 ≤ (rd x8 0) then (if (rd x8 0) < (x0.length : Int) then (pairing_Reach.l2 k x0 x2 x6 x7 (x8.drop (1 : Int).toNat) (rd_L5 x0 (rd x8 0)) ((rd_L5 x0 (rd x8 0)).length : Int) 0) else (none)) else (none)) else (none)) else (none)) else (some (x6, x7))
def pairing_Reach.l2 : Nat → List (List Int) → List Int → List Bool → List Bool → List Int → List Int → Int → Int → Option (List Bool × List Bool)
  | 0, _, _, _, _, _, _, _, _ => none
  | k + 1, x0, x2, x6, x7, x8, x49, x50, x51 => if x51 < x50 then (if 0 ≤ x51 then (if x51 < (x49.length : Int) then (if 0 ≤ (rd x49 x51) then (if (rd x49 x51) < (x7.length : Int) then ((some (x7.set ((rd x49 x51) : Int).toNat true : List Bool)).bind fun y131 => (if (rd x49 x51) < (x2.length : Int) then (if (rd x2 (rd x49 x51)) ≥ 0 then (if 0 ≤ (rd x2 (rd x49 x51)) then (if (rd x2 (rd x49 x51)) < (x6.length : Int) then (if (rdOf false x6 (rd x2 (rd x49 x51)) = true) then (pairing_Reach.l2 k x0 x2 x6 y131 x8 x49 x50 (wrap64 (x51 + 1))) else (if x8.length < 17592186044416 then (pairing_Reach.l2 k x0 x2 (x6.set ((rd x2 (rd x49 x51)) : Int).toNat true) y131 (x8 ++ [rd x2 (rd x49 x51)]) x49 x50 (wrap64 (x51 + 1))) else (none))) else (none)) else (none)) else (pairing_Reach.l2 k x0 x2 x6 y131 x8 x49 x50 (wrap64 (x51 + 1)))) else (none))) else (none)) else (none)) else (none)) else (none)) else (pairing_Reach.l1 k x0 x2 x6 x7 x8)
end
def pairing_Reach.f (k : Nat) (l0 : List (List Int)) (l1 : List Int) (l2 : List Int) : Option (List Bool × List Bool) := if 0 ≤ (l0.length : Int) then (if ((l0.length : Int) : Int).toNat ≤ 281474976710656 then (if 0 ≤ (l2.length : Int) then (if ((l2.length : Int) : Int).toNat ≤ 281474976710656 then (pairing_Reach.l0 k l0 l1 l2 (List.replicate ((l0.length : Int) : Int).toNat false) (List.replicate ((l2.length : Int) : Int).toNat false) ([] : List Int) (l0.length : Int) 0) else (none)) else (none)) else (none)) else (none)
theorem pairing_Reach.mono_l : ∀ k, (∀ y0 y1 y2 y3 y4 y5 y6 y7, LeO (pairing_Reach.l0 k y0 y1 y2 y3 y4 y5 y6 y7) (pairing_Reach.l0 (k + 1) y0 y1 y2 y3 y4 y5 y6 y7)) ∧ (∀ y0 y1 y2 y3 y4, LeO (pairing_Reach.l1 k y0 y1 y2 y3 y4) (pairing_Reach.l1 (k + 1) y0 y1 y2 y3 y4)) ∧ (∀ y0 y1 y2 y3 y4 y5 y6 y7, LeO (pairing_Reach.l2 k y0 y1 y2 y3 y4 y5 y6 y7) (pairing_Reach.l2 (k + 1) y0 y1 y2 y3 y4 y5 y6 y7))
  | 0 => ⟨fun _ _ _ _ _ _ _ _ r h => by simp [pairing_Reach.l0] at h, fun _ _ _ _ _ r h => by simp [pairing_Reach.l1] at h, fun _ _ _ _ _ _ _ _ r h => by simp [pairing_Reach.l2] at h⟩
  | k + 1 => by
    obtain ⟨ih0, ih1, ih2⟩ := pairing_Reach.mono_l k
    refine ⟨?_, ?_, ?_⟩
    · intro y0 y1 y2 y3 y4 y5 y6 y7
      unfold pairing_Reach.l0
      repeat' first
      | (with_reducible exact ih0 _ _ _ _ _ _ _ _)
      | (with_reducible exact ih1 _ _ _ _ _)
      | (with_reducible exact ih2 _ _ _ _ _ _ _ _)
      | (with_reducible exact LeO.refl _)
      | (with_reducible exact LeO.none _)
      | (with_reducible refine LeO.ite ?_ ?_)
      | (with_reducible refine LeO.bind ?_ (fun _ => ?_))
      | exact ih0 _ _ _ _ _ _ _ _
      | exact ih1 _ _ _ _ _
      | exact ih2 _ _ _ _ _ _ _ _
      | exact LeO.none _
      | refine LeO.ite ?_ ?_
      | refine LeO.bind ?_ (fun _ => ?_)
    · intro y0 y1 y2 y3 y4
      unfold pairing_Reach.l1
      repeat' first
      | (with_reducible exact ih0 _ _ _ _ _ _ _ _)
      | (with_reducible exact ih1 _ _ _ _ _)
      | (with_reducible exact ih2 _ _ _ _ _ _ _ _)
      | (with_reducible exact LeO.refl _)
      | (with_reducible exact LeO.none _)
      | (with_reducible refine LeO.ite ?_ ?_)
      | (with_reducible refine LeO.bind ?_ (fun _ => ?_))
      | exact ih0 _ _ _ _ _ _ _ _
      | exact ih1 _ _ _ _ _
      | exact ih2 _ _ _ _ _ _ _ _
      | exact LeO.none _
      | refine LeO.ite ?_ ?_
      | refine LeO.bind ?_ (fun _ => ?_)
    · intro y0 y1 y2 y3 y4 y5 y6 y7
      unfold pairing_Reach.l2
      repeat' first
      | (with_reducible exact ih0 _ _ _ _ _ _ _ _)
      | (with_reducible exact ih1 _ _ _ _ _)
      | (with_reducible exact ih2 _ _ _ _ _ _ _ _)
      | (with_reducible exact LeO.refl _)
      | (with_reducible exact LeO.none _)
      | (with_reducible refine LeO.ite ?_ ?_)
      | (with_reducible refine LeO.bind ?_ (fun _ => ?_))
      | exact ih0 _ _ _ _ _ _ _ _
      | exact ih1 _ _ _ _ _
      | exact ih2 _ _ _ _ _ _ _ _
      | exact LeO.none _
      | refine LeO.ite ?_ ?_
      | refine LeO.bind ?_ (fun _ => ?_)
theorem pairing_Reach.mono : ∀ a0 a1 a2 k, LeO (pairing_Reach.f k a0 a1 a2) (pairing_Reach.f (k + 1) a0 a1 a2) := by
  intro a0 a1 a2 k
  obtain ⟨ih0, ih1, ih2⟩ := pairing_Reach.mono_l k
  unfold pairing_Reach.f
  repeat' first
      | (with_reducible exact ih0 _ _ _ _ _ _ _ _)
      | (with_reducible exact ih1 _ _ _ _ _)
      | (with_reducible exact ih2 _ _ _ _ _ _ _ _)
      | (with_reducible exact LeO.refl _)
      | (with_reducible exact LeO.none _)
      | (with_reducible refine LeO.ite ?_ ?_)
      | (with_reducible refine LeO.bind ?_ (fun _ => ?_))
      | exact ih0 _ _ _ _ _ _ _ _
      | exact ih1 _ _ _ _ _
      | exact ih2 _ _ _ _ _ _ _ _
      | exact LeO.none _
      | refine LeO.ite ?_ ?_
      | refine LeO.bind ?_ (fun _ => ?_)
def pairing_Reach.T1 : Bool × List (List Nat × List Nat) := (true, [([], []), ([0], [0]), ([1, 1], [1]), ([], []), ([3], [3]), ([4, 4], [4]), ([2, 0, 1, 2], [2]), ([5, 6, 0, 1, 2, 3, 4, 5, 6], [5])])
def pairing_Reach.B1 : List Nat := [0, 1, 3, 0, 8, 24, 7, 127]
theorem pairing_Reach.tab1 : rtab .any (opsOf Try.f50 1) = pairing_Reach.T1 := by kernel_rfl
theorem pairing_Reach.bits1 : waitsOk pairing_Reach.T1.2 pairing_Reach.B1 = true := by kernel_rfl
set_option maxHeartbeats 8000000 in
set_option maxRecDepth 100000 in
theorem pairing_Reach.calls (k : Nat) (A0 : Option Addr) (c0 : Nat) (l0 : List (List Int)) (A1 : Option Addr) (c1 : Nat) (l1 : List Int) (A2 : Option Addr) (c2 : Nat) (l2 : List Int) (r1 : List Bool) (r2 : List Bool) (w : World) (hr0 : Kd.C (Kd.slice 3 (Kd.int .i64)) w A0 l0.length l0) (hc0 : l0.length ≤ c0) (hr1 : Kd.C (Kd.int .i64) w A1 l1.length l1) (hc1 : l1.length ≤ c1) (hr2 : Kd.C (Kd.int .i64) w A2 l2.length l2) (hc2 : l2.length ≤ c2) (h : pairing_Reach.f k l0 l1 l2 = some (r1, r2)) :
    Calls Try.prog 50 #[.slice A0 l0.length c0, .slice A1 l1.length c1, .slice A2 l2.length c2] w fun e w' => ∃ v0_ v1_ : Value, e = .returned (.tuple #[v0_, v1_]) ∧ Kd.R Kd.bool 4 w' w.heap.size (fun k_ => some k_ ≠ (v1_ : Value).ownBlock) v0_ r1 ∧ Kd.R Kd.bool 4 w' w.heap.size (fun k_ => some k_ ≠ (v0_ : Value).ownBlock) v1_ r2 ∧ Below w.heap.size w w' := by
  have HR0 := Aside0.mk hr0
  have HC0 := Aside0.mk hc0
  clear hr0 hc0
  have HR1 := Aside0.mk hr1
  have HC1 := Aside0.mk hc1
  clear hr1 hc1
  have HR2 := Aside0.mk hr2
  have HC2 := Aside0.mk hc2
  clear hr2 hc2
  have HB := Aside0.mk (Below.refl w.heap.size w)
  have H : (if 0 ≤ (l0.length : Int) then (if ((l0.length : Int) : Int).toNat ≤ 281474976710656 then (if 0 ≤ (l2.length : Int) then (if ((l2.length : Int) : Int).toNat ≤ 281474976710656 then (pairing_Reach.l0 k l0 l1 l2 (List.replicate ((l0.length : Int) : Int).toNat false) (List.replicate ((l2.length : Int) : Int).toNat false) ([] : List Int) (l0.length : Int) 0) else (none)) else (none)) else (none)) else (none)) = some (r1, r2) := h
  clear h
  by_cases c4 : 0 ≤ (l0.length : Int)
  · rw [if_pos c4] at H
    have c4b0 := eq_true c4
    have c4b1 : decide (0 ≤ (l0.length : Int)) = true := decide_eq_true c4
    clear c4
    by_cases c5 : ((l0.length : Int) : Int).toNat ≤ 281474976710656
    · rw [if_pos c5] at H
      have c5b0 := eq_true c5
      have c5b1 : decide (((l0.length : Int) : Int).toNat ≤ 281474976710656) = true := decide_eq_true c5
      clear c5
      obtain ⟨y114, hy114⟩ : ∃ y_ : List Bool, y_ = (List.replicate ((l0.length : Int) : Int).toNat false) := ⟨_, rfl⟩
      replace H : (if 0 ≤ (l2.length : Int) then (if ((l2.length : Int) : Int).toNat ≤ 281474976710656 then (pairing_Reach.l0 k l0 l1 l2 y114 (List.replicate ((l2.length : Int) : Int).toNat false) ([] : List Int) (l0.length : Int) 0) else (none)) else (none)) = some (r1, r2) := by first | (rw [hy114]; with_reducible exact H) | (have H2_ := (Option.bind_some _ _).symm.trans H; rw [hy114]; with_reducible exact H2_) | (have H2_ := (Option.bind_some _ _).symm.trans H; with_reducible exact H2_) | with_reducible exact H | (rw [hy114]; exact H) | exact H
      have Ny114 := Aside0.mk hy114
      clear hy114
      by_cases c6 : 0 ≤ (l2.length : Int)
      · rw [if_pos c6] at H
        have c6b0 := eq_true c6
        have c6b1 : decide (0 ≤ (l2.length : Int)) = true := decide_eq_true c6
        clear c6
        by_cases c7 : ((l2.length : Int) : Int).toNat ≤ 281474976710656
        · rw [if_pos c7] at H
          have c7b0 := eq_true c7
          have c7b1 : decide (((l2.length : Int) : Int).toNat ≤ 281474976710656) = true := decide_eq_true c7
          clear c7
          obtain ⟨y117, hy117⟩ : ∃ y_ : List Bool, y_ = (List.replicate ((l2.length : Int) : Int).toNat false) := ⟨_, rfl⟩
          replace H : (pairing_Reach.l0 k l0 l1 l2 y114 y117 ([] : List Int) (l0.length : Int) 0) = some (r1, r2) := by first | (rw [hy117]; with_reducible exact H) | (have H2_ := (Option.bind_some _ _).symm.trans H; rw [hy117]; with_reducible exact H2_) | (have H2_ := (Option.bind_some _ _).symm.trans H; with_reducible exact H2_) | with_reducible exact H | (rw [hy117]; exact H) | exact H
          have Ny117 := Aside0.mk hy117
          clear hy117
          have H' := Aside0.mk H
          clear H
          go_enter Try.func50, Try.ntmps50
          try go_wp2
          have n0_ := Aside0.mk (below_drew1 HB.out)
          clear HB
          have HB := n0_
          clear n0_
          refine start_ (n := 8) (S := fun w' => True) (ds := []) #[false, false, false, false, false, false, false, false] (by kernel_rfl) rfl rfl trivial (fun hHeld => ?_); refine with_tabW pairing_Reach.tab1 pairing_Reach.bits1 (fun HT_ HW_ => ?_)
          generalize w.drew = w8 at HB hHeld ⊢
          refine pure_ (i := 0) (N := some 14) (v := ?_) (a' := ?_) #[true, false, false, false, false, false, false, false] rfl rfl (any_of HT_.out (by kernel_rfl)) (fun _ _ _ h => h) (Or.inl ⟨by rfl, ?_⟩) ?_ ?_
          rotate_left
          · intro w'
            go_simp
            with_reducible rfl
          rotate_left
          · simp only [Act.put, List.setIfInBounds_toArray, List.set_cons_zero, List.set_cons_succ, i64_w, i32_w]
            rfl
          refine pure_ (i := 1) (N := some 15) (v := ?_) (a' := ?_) #[true, true, false, false, false, false, false, false] rfl rfl (any_of HT_.out (by kernel_rfl)) (fun _ _ _ h => h) (Or.inl ⟨by rfl, ?_⟩) ?_ ?_
          rotate_left
          · intro w'
            go_simp
            with_reducible rfl
          rotate_left
          · simp only [Act.put, List.setIfInBounds_toArray, List.set_cons_zero, List.set_cons_succ, i64_w, i32_w]
            rfl
          refine pure_ (i := 3) (N := some 17) (v := ?_) (a' := ?_) #[true, true, false, true, false, false, false, false] rfl rfl (any_of HT_.out (by kernel_rfl)) (fun _ _ _ h => h) (Or.inl ⟨by rfl, ?_⟩) ?_ ?_
          rotate_left
          · intro w'
            go_simp
            with_reducible rfl
          rotate_left
          · simp only [Act.put, List.setIfInBounds_toArray, List.set_cons_zero, List.set_cons_succ, i64_w, i32_w]
            rfl
          refine pure_ (i := 4) (N := some 18) (v := ?_) (a' := ?_) #[true, true, false, true, true, false, false, false] rfl rfl (any_of HT_.out (by kernel_rfl)) (fun _ _ _ h => h) (Or.inl ⟨by rfl, ?_⟩) ?_ ?_
          rotate_left
          · intro w'
            go_simp
            with_reducible rfl
          rotate_left
          · simp only [Act.put, List.setIfInBounds_toArray, List.set_cons_zero, List.set_cons_succ, i64_w, i32_w]
            rfl
          refine join_ (σ := Value × Value) 1 #[true, true, true, true, true, true, true, false] (fun s_ => [(16, s_.1), (19, s_.2), (6, s_.1)]) (fun s_ w' => (Kd.R Kd.bool 4 w' w.heap.size (fun k_ => some k_ ≠ (s_.2 : Value).ownBlock) s_.1 y114) ∧ (Kd.R Kd.bool 4 w' w.heap.size (fun k_ => some k_ ≠ (s_.1 : Value).ownBlock) s_.2 y117) ∧ (Below w.heap.size w w')) ?_ ?_
          rotate_left
          · intro hCont
            refine two_ (i := 2) (j := 5) (Ni := some 16) (Nj := some 19) #[true, true, true, true, true, false, false, false] #[true, true, false, true, true, true, false, false] rfl rfl rfl rfl (two_of HT_.out (by kernel_rfl)) (by decide) (by decide) (fun K hK => ?_) (fun K hK => ?_)
            · skip
              refine Kd.R_make_step Kd.bool _ 4 (by rfl) (N := 16) rfl 65 _ _ rfl (l0.length : Int) rfl rfl Try.underlying65 (.bool false) 1 info4 rfl (by decide) (by omega) false (ok := fun _ => True) (okp := fun _ => True) rfl (fun _ hk => hk) trivial (of_decide_eq_true (by first | (with_reducible assumption) | assumption)) (Nat.le_trans (Nat.mul_le_mul_right _ (of_decide_eq_true (by first | (with_reducible assumption) | assumption) : (l0.length : Int).toNat ≤ 281474976710656)) (by omega)) (Below.refl _ _) (Nat.le_refl _) ?_
              intro v115 w9 ho10 hb hg_ hnew_
              clear hg_ hnew_
              (first | rw [← Ny114.out] at ho10 | (simp only [Int.reduceToNat] at ho10; rw [← Ny114.out] at ho10))
              have n0_ := Aside0.mk (Kd.R_lower ho10 (below_size (by repeat (first | (with_reducible first | exact HB.out | apply below_alloc | apply pw_below_drewN | apply below_drew1) | exact HB.out))))
              have n1_ := Aside0.mk (below_step (by repeat (first | (with_reducible first | exact HB.out | apply below_alloc | apply pw_below_drewN | apply below_drew1) | exact HB.out)) hb)
              clear HB
              have HO116 := n0_
              have HB := n1_
              clear n0_ n1_
              clear hb ho10
              refine hK.out _ _ trivial (fun hHeld => ?_)
              clear hK K
              refine norm_ (a' := ?_) ?_ ?_
              rotate_left
              · show Act.put _ (some 16) _ = _
                simp only [Act.put, List.setIfInBounds_toArray, List.set_cons_zero, List.set_cons_succ, i64_w, i32_w]
                rfl
              refine pure_ (i := 6) (N := some 6) (v := ?_) (a' := ?_) #[true, true, true, true, true, false, true, false] rfl rfl (any_of HT_.out (by kernel_rfl)) (fun _ _ _ h => h) (Or.inl ⟨by rfl, ?_⟩) ?_ ?_
              rotate_left
              · intro w'
                go_simp
                with_reducible rfl
              rotate_left
              · simp only [Act.put, List.setIfInBounds_toArray, List.set_cons_zero, List.set_cons_succ, i64_w, i32_w]
                rfl
              refine one_ (i := 5) (N := some 19) #[true, true, true, true, true, true, true, false] rfl rfl (one_of HT_.out (by kernel_rfl)) (by decide) (fun K hK => ?_)
              refine Kd.R_make_step Kd.bool _ 4 (by rfl) (N := 19) rfl 65 _ _ rfl (l2.length : Int) rfl rfl Try.underlying65 (.bool false) 1 info4 rfl (by decide) (by omega) false (ok := fun _ => True) (okp := fun _ => True) rfl (fun _ hk => hk) trivial (of_decide_eq_true (by first | (with_reducible assumption) | assumption)) (Nat.le_trans (Nat.mul_le_mul_right _ (of_decide_eq_true (by first | (with_reducible assumption) | assumption) : (l2.length : Int).toNat ≤ 281474976710656)) (by omega)) (Below.refl _ _) (Nat.le_refl _) ?_
              intro v118 w11 ho12 hb hg_ hnew_
              clear hg_ hnew_
              (first | rw [← Ny117.out] at ho12 | (simp only [Int.reduceToNat] at ho12; rw [← Ny117.out] at ho12))
              have n0_ := Aside0.mk (Kd.R_elder' (by (with_reducible repeat (first | apply Kd.R_alloc | apply Kd.R_drewN | apply Kd.R_drew)); exact HO116.out) (Kd.R_base ho12) hb)
              have n1_ := Aside0.mk (Kd.R_lower (Kd.R_new' ho12 (Kd.R_lt (by (with_reducible repeat (first | apply Kd.R_alloc | apply Kd.R_drewN | apply Kd.R_drew)); exact HO116.out))) (below_size (by repeat (first | (with_reducible first | exact HB.out | apply below_alloc | apply pw_below_drewN | apply below_drew1) | exact HB.out))))
              have n2_ := Aside0.mk (below_step (by repeat (first | (with_reducible first | exact HB.out | apply below_alloc | apply pw_below_drewN | apply below_drew1) | exact HB.out)) hb)
              clear HO116
              clear HB
              have HO116 := n0_
              have HO119 := n1_
              have HB := n2_
              clear n0_ n1_ n2_
              clear hb ho12
              refine hK.out _ _ trivial (fun hHeld => ?_)
              clear hK K
              refine norm_ (a' := ?_) ?_ ?_
              rotate_left
              · show Act.put _ (some 19) _ = _
                simp only [Act.put, List.setIfInBounds_toArray, List.set_cons_zero, List.set_cons_succ, i64_w, i32_w]
                rfl
              exact norm_ (by simp only [putAll, Act.put, List.setIfInBounds_toArray, List.set_cons_zero, List.set_cons_succ]) (hCont (v115, v118) _ ⟨(by (with_reducible repeat (first | apply Kd.R_alloc | apply Kd.R_drewN | apply Kd.R_drew)); exact Kd.R_mono HO116.out (fun _ hk => hk.2)), (by (with_reducible repeat (first | apply Kd.R_alloc | apply Kd.R_drewN | apply Kd.R_drew)); exact Kd.R_mono HO119.out (fun _ hk => hk.2)), (by repeat (first | (with_reducible first | exact HB.out | apply below_alloc | apply pw_below_drewN | apply below_drew1) | exact HB.out))⟩)
            · skip
              refine Kd.R_make_step Kd.bool _ 4 (by rfl) (N := 19) rfl 65 _ _ rfl (l2.length : Int) rfl rfl Try.underlying65 (.bool false) 1 info4 rfl (by decide) (by omega) false (ok := fun _ => True) (okp := fun _ => True) rfl (fun _ hk => hk) trivial (of_decide_eq_true (by first | (with_reducible assumption) | assumption)) (Nat.le_trans (Nat.mul_le_mul_right _ (of_decide_eq_true (by first | (with_reducible assumption) | assumption) : (l2.length : Int).toNat ≤ 281474976710656)) (by omega)) (Below.refl _ _) (Nat.le_refl _) ?_
              intro v118 w9 ho10 hb hg_ hnew_
              clear hg_ hnew_
              (first | rw [← Ny117.out] at ho10 | (simp only [Int.reduceToNat] at ho10; rw [← Ny117.out] at ho10))
              have n0_ := Aside0.mk (Kd.R_lower ho10 (below_size (by repeat (first | (with_reducible first | exact HB.out | apply below_alloc | apply pw_below_drewN | apply below_drew1) | exact HB.out))))
              have n1_ := Aside0.mk (below_step (by repeat (first | (with_reducible first | exact HB.out | apply below_alloc | apply pw_below_drewN | apply below_drew1) | exact HB.out)) hb)
              clear HB
              have HO119 := n0_
              have HB := n1_
              clear n0_ n1_
              clear hb ho10
              refine hK.out _ _ trivial (fun hHeld => ?_)
              clear hK K
              refine norm_ (a' := ?_) ?_ ?_
              rotate_left
              · show Act.put _ (some 19) _ = _
                simp only [Act.put, List.setIfInBounds_toArray, List.set_cons_zero, List.set_cons_succ, i64_w, i32_w]
                rfl
              refine one_ (i := 2) (N := some 16) #[true, true, true, true, true, true, false, false] rfl rfl (one_of HT_.out (by kernel_rfl)) (by decide) (fun K hK => ?_)
              refine Kd.R_make_step Kd.bool _ 4 (by rfl) (N := 16) rfl 65 _ _ rfl (l0.length : Int) rfl rfl Try.underlying65 (.bool false) 1 info4 rfl (by decide) (by omega) false (ok := fun _ => True) (okp := fun _ => True) rfl (fun _ hk => hk) trivial (of_decide_eq_true (by first | (with_reducible assumption) | assumption)) (Nat.le_trans (Nat.mul_le_mul_right _ (of_decide_eq_true (by first | (with_reducible assumption) | assumption) : (l0.length : Int).toNat ≤ 281474976710656)) (by omega)) (Below.refl _ _) (Nat.le_refl _) ?_
              intro v115 w11 ho12 hb hg_ hnew_
              clear hg_ hnew_
              (first | rw [← Ny114.out] at ho12 | (simp only [Int.reduceToNat] at ho12; rw [← Ny114.out] at ho12))
              have n0_ := Aside0.mk (Kd.R_elder' (by (with_reducible repeat (first | apply Kd.R_alloc | apply Kd.R_drewN | apply Kd.R_drew)); exact HO119.out) (Kd.R_base ho12) hb)
              have n1_ := Aside0.mk (Kd.R_lower (Kd.R_new' ho12 (Kd.R_lt (by (with_reducible repeat (first | apply Kd.R_alloc | apply Kd.R_drewN | apply Kd.R_drew)); exact HO119.out))) (below_size (by repeat (first | (with_reducible first | exact HB.out | apply below_alloc | apply pw_below_drewN | apply below_drew1) | exact HB.out))))
              have n2_ := Aside0.mk (below_step (by repeat (first | (with_reducible first | exact HB.out | apply below_alloc | apply pw_below_drewN | apply below_drew1) | exact HB.out)) hb)
              clear HO119
              clear HB
              have HO119 := n0_
              have HO116 := n1_
              have HB := n2_
              clear n0_ n1_ n2_
              clear hb ho12
              refine hK.out _ _ trivial (fun hHeld => ?_)
              clear hK K
              refine norm_ (a' := ?_) ?_ ?_
              rotate_left
              · show Act.put _ (some 16) _ = _
                simp only [Act.put, List.setIfInBounds_toArray, List.set_cons_zero, List.set_cons_succ, i64_w, i32_w]
                rfl
              refine pure_ (i := 6) (N := some 6) (v := ?_) (a' := ?_) #[true, true, true, true, true, true, true, false] rfl rfl (any_of HT_.out (by kernel_rfl)) (fun _ _ _ h => h) (Or.inl ⟨by rfl, ?_⟩) ?_ ?_
              rotate_left
              · intro w'
                go_simp
                with_reducible rfl
              rotate_left
              · simp only [Act.put, List.setIfInBounds_toArray, List.set_cons_zero, List.set_cons_succ, i64_w, i32_w]
                rfl
              exact norm_ (by simp only [putAll, Act.put, List.setIfInBounds_toArray, List.set_cons_zero, List.set_cons_succ]) (hCont (v115, v118) _ ⟨(by (with_reducible repeat (first | apply Kd.R_alloc | apply Kd.R_drewN | apply Kd.R_drew)); exact Kd.R_mono HO116.out (fun _ hk => hk.2)), (by (with_reducible repeat (first | apply Kd.R_alloc | apply Kd.R_drewN | apply Kd.R_drew)); exact Kd.R_mono HO119.out (fun _ hk => hk.2)), (by repeat (first | (with_reducible first | exact HB.out | apply below_alloc | apply pw_below_drewN | apply below_drew1) | exact HB.out))⟩)
          rintro ⟨v115, v118⟩ w13 ⟨h0_, h1_, h2_⟩
          have n0_ : Aside0 (Kd.R Kd.bool 4 w13 w.heap.size (fun k_ => some k_ ≠ (v118 : Value).ownBlock) v115 y114) := ⟨h0_⟩
          have n1_ : Aside0 (Kd.R Kd.bool 4 w13 w.heap.size (fun k_ => some k_ ≠ (v115 : Value).ownBlock) v118 y117) := ⟨h1_⟩
          have n2_ : Aside0 (Below w.heap.size w w13) := ⟨h2_⟩
          clear HB
          clear h0_ h1_ h2_
          have HO116 := n0_
          have HO119 := n1_
          have HB := n2_
          clear n0_ n1_ n2_
          have hHeld := trivial
          refine norm_ (a' := ?_) ?_ ?_
          rotate_left
          · simp only [putAll, Act.put, List.setIfInBounds_toArray, List.set_cons_zero, List.set_cons_succ]
            rfl
          refine pure_ (i := 7) (N := some 7) (v := ?_) (a' := ?_) #[true, true, true, true, true, true, true, true] rfl rfl (any_of HT_.out (by kernel_rfl)) (fun _ _ _ h => h) (Or.inl ⟨by rfl, ?_⟩) ?_ ?_
          rotate_left
          · intro w'
            go_simp
            with_reducible rfl
          rotate_left
          · simp only [Act.put, List.setIfInBounds_toArray, List.set_cons_zero, List.set_cons_succ, i64_w, i32_w]
            rfl
          refine done_ (done_of HT_.out (by kernel_rfl)) ?_
          try go_wp2
          go_loopg [8, 22] k (fun kq v8 v22 w' => ∃ (x6_1 : List Bool) (x8_1 : List Int) (x22_1 : Int), v22 = .int .i64 x22_1 ∧ Aside0 (pairing_Reach.l0 kq l0 l1 l2 x6_1 y117 x8_1 (l0.length : Int) x22_1 = some (r1, r2)) ∧ Aside0 (kq ≤ k) ∧ Aside0 (Kd.R Kd.bool 4 w' w.heap.size (fun k_ => some k_ ≠ (v118 : Value).ownBlock) v115 x6_1) ∧ Aside0 (Kd.R Kd.bool 4 w' w.heap.size (fun k_ => some k_ ≠ (v115 : Value).ownBlock) v118 y117) ∧ Aside0 (Kd.Q (Kd.int .i64) 3 w' w.heap.size (fun _ => True) v8 x8_1) ∧ Aside0 (Below w.heap.size w w'))
          case atStart => exact ⟨(y114), (([] : List Int)), (0), (by first | rfl | (simp; done) | (simp [*]; done)), H', ⟨Nat.le_refl _⟩, ⟨by (with_reducible repeat (first | apply Kd.R_alloc | apply Kd.R_drewN | apply Kd.R_drew)); exact HO116.out⟩, ⟨by (with_reducible repeat (first | apply Kd.R_alloc | apply Kd.R_drewN | apply Kd.R_drew)); exact HO119.out⟩, ⟨Kd.Q_of_R (by first | exact Kd.R_nil _ _ _ _ _ | exact Kd.N_nil _ _ _ _ _ | exact Kd.V_nil _ _ _ _ _ | exact Kd.Q_nil _ _ _ _ _ | exact Kd.S_nil _ _ _ _ _)⟩, ⟨by repeat (first | (with_reducible first | exact HB.out | apply below_alloc | apply pw_below_drewN | apply below_drew1) | exact HB.out)⟩⟩
          case round =>
            clear H'
            try clear c1
            try clear c2
            try clear p2
            try clear c4
            try clear c4b0
            try clear c4b1
            try clear c5
            try clear c5b0
            try clear c5b1
            try clear c6
            try clear c6b0
            try clear c6b1
            try clear c7
            try clear c7b0
            try clear c7b1
            obtain ⟨x6_1, x8_1, x22_1, rfl, HA, HK1, HO_6, HO_7, HO_8, HB⟩ := hrel
            cases gk with
            | zero => exact absurd HA.out (by simp [pairing_Reach.l0])
            | succ k1 =>
              have H := HA.out
              clear HA
              simp only [pairing_Reach.l0] at H
              by_cases c14 : x22_1 < (l0.length : Int)
              · rw [if_pos c14] at H
                have c14b0 : decide (x22_1 < (l0.length : Int)) = true := decide_eq_true c14
                clear c14
                by_cases c15 : 0 ≤ x22_1
                · rw [if_pos c15] at H
                  have c15b0 : decide (0 ≤ x22_1) = true := decide_eq_true c15
                  clear c15
                  by_cases c16 : x22_1 < (l1.length : Int)
                  · rw [if_pos c16] at H
                    have c16b0 : decide (x22_1 < (l1.length : Int)) = true := decide_eq_true c16
                    clear c16
                    by_cases c17 : (rd l1 x22_1) < 0
                    · rw [if_pos c17] at H
                      have c17b0 : decide ((rd l1 x22_1) < 0) = true := decide_eq_true c17
                      clear c17
                      by_cases c18 : x22_1 < (x6_1.length : Int)
                      · rw [if_pos c18] at H
                        have c18b0 : decide (x22_1 < (x6_1.length : Int)) = true := decide_eq_true c18
                        clear c18
                        obtain ⟨y121, hy121⟩ : ∃ y_ : List Bool, y_ = (x6_1.set (x22_1 : Int).toNat true) := ⟨_, rfl⟩
                        replace H : (if x8_1.length < 17592186044416 then (pairing_Reach.l0 k1 l0 l1 l2 y121 y117 (x8_1 ++ [x22_1]) (l0.length : Int) (wrap64 (x22_1 + 1))) else (none)) = some (r1, r2) := by first | (rw [hy121]; with_reducible exact H) | (have H2_ := (Option.bind_some _ _).symm.trans H; rw [hy121]; with_reducible exact H2_) | (have H2_ := (Option.bind_some _ _).symm.trans H; with_reducible exact H2_) | with_reducible exact H | (rw [hy121]; exact H) | exact H
                        have Ny121 := Aside0.mk hy121
                        clear hy121
                        by_cases c20 : x8_1.length < 17592186044416
                        · rw [if_pos c20] at H
                          have LMc20 := Aside0.mk c20
                          clear c20
                          obtain ⟨y122, hy122⟩ : ∃ y_ : List Int, y_ = (x8_1 ++ [x22_1]) := ⟨_, rfl⟩
                          replace H : (pairing_Reach.l0 k1 l0 l1 l2 y121 y117 y122 (l0.length : Int) (wrap64 (x22_1 + 1))) = some (r1, r2) := by first | (rw [hy122]; with_reducible exact H) | (have H2_ := (Option.bind_some _ _).symm.trans H; rw [hy122]; with_reducible exact H2_) | (have H2_ := (Option.bind_some _ _).symm.trans H; with_reducible exact H2_) | with_reducible exact H | (rw [hy122]; exact H) | exact H
                          have Ny122 := Aside0.mk hy122
                          clear hy122
                          have H' := Aside0.mk H
                          clear H
                          have p120 : 0 ≤ (x22_1 : Int) := of_decide_eq_true (by first | (with_reducible assumption) | assumption)
                          have q120 : x22_1 < (l1.length : Int) := of_decide_eq_true (by first | (with_reducible assumption) | assumption)
                          obtain ⟨ad120, e120, hx120_0⟩ := Kd.at_int HR1.out x22_1 p120 q120
                          cases e120
                          replace hx120_0 := (HB.out.cell (World.block_lt_of_cell? w _ hx120_0)).trans hx120_0
                          replace p120 := eq_true p120
                          replace q120 := eq_true q120
                          have p19 : 0 ≤ (x22_1 : Int) := of_decide_eq_true (by first | (with_reducible assumption) | assumption)
                          have q19 : (x22_1 : Int) < ((x6_1.length : Int) : Int) := of_decide_eq_true (by first | (with_reducible assumption) | assumption)
                          obtain ⟨go19, co19, eo19, gb19, gl19, cl19, HG19⟩ := Kd.R_form HO_6.out (by first | omega | (have e_ := (Kd.R_reads' HO_6.out).1; omega))
                          (first | cases eo19 | (injection eo19 with ea_ en_ ec_; (first | subst ea_ | (injection ea_ with ea_; subst ea_)); subst ec_; clear en_))
                          have GB19 := Aside0.mk gb19
                          have GG19 := Aside0.mk HG19
                          clear gb19 gl19 HG19
                          obtain ⟨hx19_0, hf19_0⟩ := Kd.R_celln false HO_6.out (x22_1 : Int) p19 q19
                          replace p19 := eq_true p19
                          replace q19 := eq_true q19
                          have HP21 := Kd.R_putg HO_6.out (x22_1 : Int) true
                          go_wp2_with (first | ((with_reducible refine gate_store (t := 4) (p := 32) rfl ?_); refine store_event (t := 4) (p := 32) (v := ?vo_w22) (w1 := (wr.setCell ⟨go19, (x22_1 : Int).toNat, none⟩ (.bool true))) ?hg ?ho ?hn ?hr ?_; (case ho => rfl); (case hg => rfl); (case hn => rfl); (case hr => first | (go_simp; done) | (go_simp; rfl)); intro w22 hw; have hg : wr.grownBy w22 (some go19) := (by rw [hw]; exact HP21.2); have hp_ : Kd.R Kd.bool 4 w22 w.heap.size (fun k_ => some k_ ≠ (v118 : Value).ownBlock) (.slice (some ⟨go19, 0, none⟩) x6_1.length co19) y121 := (by rw [hw, Ny121.out]; exact HP21.1); clear HP21; have n0_ := Aside0.mk (hp_); have n1_ := Aside0.mk (Kd.R_after (v := (.slice (some ⟨go19, 0, none⟩) x6_1.length co19)) (v1 := (.slice (some ⟨go19, 0, none⟩) x6_1.length co19)) (ok := (fun _ => True)) (by (with_reducible repeat (first | apply Kd.R_alloc | apply Kd.R_drewN | apply Kd.R_drew)); exact Kd.R_mono HO_7.out (fun _ hk => ⟨trivial, hk⟩)) hg (.inl rfl)); have n2_ := Aside0.mk (Kd.Q_over' (v := (.slice (some ⟨go19, 0, none⟩) x6_1.length co19)) (by (with_reducible repeat (first | apply Kd.Q_alloc | apply Kd.Q_drewN | apply Kd.Q_drew)); exact HO_8.out) (Kd.R_typed HO_6.out) (by decide) hg); have n3_ := Aside0.mk ((by rw [hw]; exact below_set (HB.out) GB19.out : Below w.heap.size w w22)); clear HO_6; clear HO_7; clear HO_8; clear HB; have HO_6 := n0_; have HO_7 := n1_; have HO_8 := n2_; have HB := n3_; clear n0_ n1_ n2_ n3_; clear hg hw hp_) | ((with_reducible refine gate_builtin (b := .append) (xs := #[.tmp 33, .tmp 35]) rfl ?_); at_builtin; refine Kd.Q_append (Kd.int .i64) (w0 := w) w.heap.size rfl (.tmp 33) (.tmp 35) 29 3 (.int .i64 0) 8 rfl Try.underlying29 info3 rfl (by decide) (by omega) u8 x8_1 x22_1 [.int .i64 x22_1] (fun _ => True) (fun _ => False) rfl rfl ?aP (fun _ hk => hk.elim) ?aF ?aO ?aB ?aS ?aL ?_; (case aP => exact rfl); (case aB => exact (by repeat (first | (with_reducible first | exact HB.out | apply below_alloc | apply pw_below_drewN | apply below_drew1) | exact HB.out))); (case aF => exact (fun _ _ => trivial)); (case aO => exact (by (with_reducible repeat (first | apply Kd.Q_alloc | apply Kd.Q_drewN | apply Kd.Q_drew)); exact HO_8.out)); (case aS => exact (below_size (by repeat (first | (with_reducible first | exact HB.out | apply below_alloc | apply pw_below_drewN | apply below_drew1) | exact HB.out)))); (case aL => have := LMc20.out; omega); intro v123 w23 ho hb hg hat; rw [← Ny122.out] at ho; have n0_ := Aside0.mk (Kd.R_over' (by (with_reducible repeat (first | apply Kd.R_alloc | apply Kd.R_drewN | apply Kd.R_drew)); exact HO_6.out) (Kd.Q_typed (by (with_reducible repeat (first | apply Kd.Q_alloc | apply Kd.Q_drewN | apply Kd.Q_drew)); exact HO_8.out)) (by decide) hg); have n1_ := Aside0.mk (Kd.R_over' (by (with_reducible repeat (first | apply Kd.R_alloc | apply Kd.R_drewN | apply Kd.R_drew)); exact HO_7.out) (Kd.Q_typed (by (with_reducible repeat (first | apply Kd.Q_alloc | apply Kd.Q_drewN | apply Kd.Q_drew)); exact HO_8.out)) (by decide) hg); have n2_ := Aside0.mk (hb); have n3_ := Aside0.mk (ho); clear HO_6; clear HO_7; clear HB; clear HO_8; have HO_6 := n0_; have HO_7 := n1_; have HB := n2_; have HO124 := n3_; clear n0_ n1_ n2_ n3_; clear ho hb hg hat))
                          go_roundg k1
                          case measure => have := HK1.out; omega
                          case rel => exact ⟨(y121), (y122), (wrap64 (x22_1 + 1)), (by first | rfl | (simp; done) | (simp [*]; done)), H', ⟨by have := HK1.out; omega⟩, ⟨by (with_reducible repeat (first | apply Kd.R_alloc | apply Kd.R_drewN | apply Kd.R_drew)); exact HO_6.out⟩, ⟨by (with_reducible repeat (first | apply Kd.R_alloc | apply Kd.R_drewN | apply Kd.R_drew)); exact Kd.R_mono HO_7.out (fun _ hk => hk.2)⟩, ⟨by (with_reducible repeat (first | apply Kd.Q_alloc | apply Kd.Q_drewN | apply Kd.Q_drew)); exact HO124.out⟩, ⟨by repeat (first | (with_reducible first | exact HB.out | apply below_alloc | apply pw_below_drewN | apply below_drew1) | exact HB.out)⟩⟩
                        · rw [if_neg c20] at H
                          exact absurd H (by simp)
                      · rw [if_neg c18] at H
                        exact absurd H (by simp)
                    · rw [if_neg c17] at H
                      have c17b0 : decide ((rd l1 x22_1) < 0) = false := decide_eq_false c17
                      clear c17
                      have H' := Aside0.mk H
                      clear H
                      have p120 : 0 ≤ (x22_1 : Int) := of_decide_eq_true (by first | (with_reducible assumption) | assumption)
                      have q120 : x22_1 < (l1.length : Int) := of_decide_eq_true (by first | (with_reducible assumption) | assumption)
                      obtain ⟨ad120, e120, hx120_0⟩ := Kd.at_int HR1.out x22_1 p120 q120
                      cases e120
                      replace hx120_0 := (HB.out.cell (World.block_lt_of_cell? w _ hx120_0)).trans hx120_0
                      replace p120 := eq_true p120
                      replace q120 := eq_true q120
                      go_wp2
                      go_roundg k1
                      case measure => have := HK1.out; omega
                      case rel => exact ⟨(x6_1), (x8_1), (wrap64 (x22_1 + 1)), (by first | rfl | (simp; done) | (simp [*]; done)), H', ⟨by have := HK1.out; omega⟩, ⟨by (with_reducible repeat (first | apply Kd.R_alloc | apply Kd.R_drewN | apply Kd.R_drew)); exact HO_6.out⟩, ⟨by (with_reducible repeat (first | apply Kd.R_alloc | apply Kd.R_drewN | apply Kd.R_drew)); exact HO_7.out⟩, ⟨by (with_reducible repeat (first | apply Kd.Q_alloc | apply Kd.Q_drewN | apply Kd.Q_drew)); exact HO_8.out⟩, ⟨by repeat (first | (with_reducible first | exact HB.out | apply below_alloc | apply pw_below_drewN | apply below_drew1) | exact HB.out)⟩⟩
                  · rw [if_neg c16] at H
                    exact absurd H (by simp)
                · rw [if_neg c15] at H
                  exact absurd H (by simp)
              · rw [if_neg c14] at H
                have c14b0 : decide (x22_1 < (l0.length : Int)) = false := decide_eq_false c14
                clear c14
                have H' := Aside0.mk H
                clear H
                go_wp2
                go_loopg [8] k1 (fun kq v8 w' => ∃ (x6_2 : List Bool) (x7_2 : List Bool) (x8_2 : List Int), Aside0 (pairing_Reach.l1 kq l0 l2 x6_2 x7_2 x8_2 = some (r1, r2)) ∧ Aside0 (kq ≤ k1) ∧ Aside0 (Kd.R Kd.bool 4 w' w.heap.size (fun k_ => some k_ ≠ (v118 : Value).ownBlock) v115 x6_2) ∧ Aside0 (Kd.R Kd.bool 4 w' w.heap.size (fun k_ => some k_ ≠ (v115 : Value).ownBlock) v118 x7_2) ∧ Aside0 (Kd.Q (Kd.int .i64) 3 w' w.heap.size (fun _ => True) v8 x8_2) ∧ Aside0 (Below w.heap.size w w'))
                case atStart => exact ⟨(x6_1), (y117), (x8_1), H', ⟨Nat.le_refl _⟩, ⟨by (with_reducible repeat (first | apply Kd.R_alloc | apply Kd.R_drewN | apply Kd.R_drew)); exact HO_6.out⟩, ⟨by (with_reducible repeat (first | apply Kd.R_alloc | apply Kd.R_drewN | apply Kd.R_drew)); exact HO_7.out⟩, ⟨by (with_reducible repeat (first | apply Kd.Q_alloc | apply Kd.Q_drewN | apply Kd.Q_drew)); exact HO_8.out⟩, ⟨by repeat (first | (with_reducible first | exact HB.out | apply below_alloc | apply pw_below_drewN | apply below_drew1) | exact HB.out)⟩⟩
                case round =>
                  clear H'
                  try clear c1
                  try clear p1
                  try clear q1
                  try clear hx1
                  try clear c2
                  try clear p2
                  try clear c4
                  try clear c4b0
                  try clear c4b1
                  try clear c5
                  try clear c5b0
                  try clear c5b1
                  try clear c6
                  try clear c6b0
                  try clear c6b1
                  try clear p6
                  try clear c7
                  try clear c7b0
                  try clear c7b1
                  try clear p12
                  try clear q12
                  try clear hx12
                  try clear c14
                  try clear c14b0
                  try clear c15
                  try clear c15b0
                  try clear c16
                  try clear c16b0
                  try clear c17
                  try clear c17b0
                  try clear c18
                  try clear c18b0
                  try clear p19
                  try clear q19
                  try clear hx19
                  try clear hf19
                  try clear c20
                  try clear hx120_0
                  try clear hx19_0
                  try clear p120
                  try clear p19
                  try clear p2
                  try clear q120
                  try clear q19
                  obtain ⟨x6_2, x7_2, x8_2, HA, HK2, HO_6, HO_7, HO_8, HB⟩ := hrel
                  cases gk with
                  | zero => exact absurd HA.out (by simp [pairing_Reach.l1])
                  | succ k2 =>
                    have H := HA.out
                    clear HA
                    simp only [pairing_Reach.l1] at H
                    by_cases c24 : (x8_2.length : Int) > 0
                    · rw [if_pos c24] at H
                      have c24b0 : decide (0 < (x8_2.length : Int)) = true := decide_eq_true c24
                      have c24b1 : decide (0 < x8_2.length) = true := decide_eq_true (by omega)
                      clear c24
                      by_cases c25 : 0 < (x8_2.length : Int)
                      · rw [if_pos c25] at H
                        have c25b0 : decide (0 < (x8_2.length : Int)) = true := decide_eq_true c25
                        have c25b1 : decide (0 < x8_2.length) = true := decide_eq_true (by omega)
                        clear c25
                        by_cases c26 : 1 ≤ (x8_2.length : Int)
                        · rw [if_pos c26] at H
                          have c26b0 := eq_true c26
                          have c26b1 : decide (1 ≤ (x8_2.length : Int)) = true := decide_eq_true c26
                          clear c26
                          obtain ⟨y126, hy126⟩ : ∃ y_ : List Int, y_ = (x8_2.drop (1 : Int).toNat) := ⟨_, rfl⟩
                          replace H : (if 0 ≤ (rd x8_2 0) then (if (rd x8_2 0) < (l0.length : Int) then (pairing_Reach.l2 k2 l0 l2 x6_2 x7_2 y126 (rd_L5 l0 (rd x8_2 0)) ((rd_L5 l0 (rd x8_2 0)).length : Int) 0) else (none)) else (none)) = some (r1, r2) := by first | (rw [hy126]; with_reducible exact H) | (have H2_ := (Option.bind_some _ _).symm.trans H; rw [hy126]; with_reducible exact H2_) | (have H2_ := (Option.bind_some _ _).symm.trans H; with_reducible exact H2_) | with_reducible exact H | (rw [hy126]; exact H) | exact H
                          have Ny126 := Aside0.mk hy126
                          clear hy126
                          by_cases c27 : 0 ≤ (rd x8_2 0)
                          · rw [if_pos c27] at H
                            have c27b0 : decide (0 ≤ (rd x8_2 0)) = true := decide_eq_true c27
                            clear c27
                            by_cases c28 : (rd x8_2 0) < (l0.length : Int)
                            · rw [if_pos c28] at H
                              have c28b0 : decide ((rd x8_2 0) < (l0.length : Int)) = true := decide_eq_true c28
                              clear c28
                              have H' := Aside0.mk H
                              clear H
                              obtain ⟨Ao29, co29, eo29, _⟩ := Kd.Q_slice HO_8.out
                              subst eo29
                              have p125 : 0 ≤ (0 : Int) := (by omega)
                              have q125 : 0 < (x8_2.length : Int) := of_decide_eq_true (by first | (with_reducible assumption) | assumption)
                              obtain ⟨ad125, e125, hx125_0⟩ := Kd.at_int (Kd.Q_reads' HO_8.out).2.2 0 p125 q125
                              cases e125
                              have qi125 : (0 < x8_2.length) = True := eq_true (by omega)
                              (try rw [show ((0 : Int)).toNat = 0 from rfl] at hx125_0)
                              (try rw [Addr.add_zero'] at hx125_0)
                              replace p125 := eq_true p125
                              replace q125 := eq_true q125
                              have q30 : (1 : Int) ≤ ((x8_2.length : Int) : Int) := of_decide_eq_true (by first | (with_reducible assumption) | assumption)
                              obtain ⟨i030, hi030, _, hsz30, _⟩ := info_parts info3
                              have hcut30 := cut_from (P := Try.prog) 29 3 .i64 Try.underlying29 hi030 1 hsz30 (some ad125) x8_2.length co29 1 (by omega) q30
                              have hr30 := Kd.Q_drop (k := (1 : Int).toNat) HO_8.out (by omega)
                              obtain ⟨A30, hA30⟩ : ∃ A1, A1 = (if co29 = (1 : Int).toNat then (some ad125) else ((some ad125) : Option Addr).map (·.add ((1 : Int).toNat * 1))) := ⟨_, rfl⟩
                              obtain ⟨c30, hc30⟩ : ∃ c1, c1 = co29 - (1 : Int).toNat := ⟨_, rfl⟩
                              have hy30 : y126.length = x8_2.length - (1 : Int).toNat := (by rw [Ny126.out, List.length_drop])
                              rw [← Ny126.out] at hr30
                              rw [← hy30, ← hA30, ← hc30] at hcut30
                              replace hr30 : Kd.Q (Kd.int .i64) 3 wr w.heap.size (fun _ => True) (.slice A30 y126.length c30) y126 := (by rw [hA30, hc30, hy30]; exact hr30)
                              have HE30 : Aside0 ((Value.slice A30 y126.length c30).ownBlock = (.slice (some ad125) x8_2.length co29 : Value).ownBlock) := ⟨by rw [hA30]; split <;> (cases ((some ad125) : Option Addr) <;> rfl)⟩
                              clear hy30 hi030 hsz30 HO_8 hA30 hc30
                              have HO128 := Aside0.mk hr30
                              clear hr30
                              replace q30 := eq_true q30
                              have p129 : 0 ≤ ((rd x8_2 0) : Int) := of_decide_eq_true (by first | (with_reducible assumption) | assumption)
                              have q129 : (rd x8_2 0) < (l0.length : Int) := of_decide_eq_true (by first | (with_reducible assumption) | assumption)
                              obtain ⟨ad129, A129_0, c129_0, e129, hx129_0, hl129_0, hi129_0⟩ := at_L5 HR0.out (rd x8_2 0) p129 q129
                              cases e129
                              replace hx129_0 := (HB.out.cell (World.block_lt_of_cell? w _ hx129_0)).trans hx129_0
                              have HR129_0 := Aside0.mk hi129_0
                              have HC129_0 := Aside0.mk hl129_0
                              clear hi129_0 hl129_0
                              replace p129 := eq_true p129
                              replace q129 := eq_true q129
                              go_wp2
                              go_loopg [8, 51] k2 (fun kq v8 v51 w' => ∃ (x6_3 : List Bool) (x7_3 : List Bool) (x8_3 : List Int) (x51_3 : Int), v51 = .int .i64 x51_3 ∧ Aside0 (pairing_Reach.l2 kq l0 l2 x6_3 x7_3 x8_3 (rd_L5 l0 (rd x8_2 0)) ((rd_L5 l0 (rd x8_2 0)).length : Int) x51_3 = some (r1, r2)) ∧ Aside0 (kq ≤ k2) ∧ Aside0 (Kd.R Kd.bool 4 w' w.heap.size (fun k_ => some k_ ≠ (v118 : Value).ownBlock) v115 x6_3) ∧ Aside0 (Kd.R Kd.bool 4 w' w.heap.size (fun k_ => some k_ ≠ (v115 : Value).ownBlock) v118 x7_3) ∧ Aside0 (Kd.Q (Kd.int .i64) 3 w' w.heap.size (fun _ => True) v8 x8_3) ∧ Aside0 (Below w.heap.size w w'))
                              case atStart => exact ⟨(x6_2), (x7_2), (y126), (0), (by first | rfl | (simp; done) | (simp [*]; done)), H', ⟨Nat.le_refl _⟩, ⟨by (with_reducible repeat (first | apply Kd.R_alloc | apply Kd.R_drewN | apply Kd.R_drew)); exact HO_6.out⟩, ⟨by (with_reducible repeat (first | apply Kd.R_alloc | apply Kd.R_drewN | apply Kd.R_drew)); exact HO_7.out⟩, ⟨by (with_reducible repeat (first | apply Kd.Q_alloc | apply Kd.Q_drewN | apply Kd.Q_drew)); exact HO128.out⟩, ⟨by repeat (first | (with_reducible first | exact HB.out | apply below_alloc | apply pw_below_drewN | apply below_drew1) | exact HB.out)⟩⟩
                              case round =>
                                clear H'
                                try clear c1
                                try clear p1
                                try clear q1
                                try clear hx1
                                try clear qi1
                                try clear c2
                                try clear p2
                                try clear c3
                                try clear q3
                                try clear c4
                                try clear c4b0
                                try clear c4b1
                                try clear c5
                                try clear c5b0
                                try clear c5b1
                                try clear c6
                                try clear c6b0
                                try clear c6b1
                                try clear p6
                                try clear c7
                                try clear c7b0
                                try clear c7b1
                                try clear c12
                                try clear p12
                                try clear q12
                                try clear hx12
                                try clear qi12
                                try clear c14
                                try clear c14b0
                                try clear c15
                                try clear c15b0
                                try clear c16
                                try clear c16b0
                                try clear c17
                                try clear c17b0
                                try clear c18
                                try clear c18b0
                                try clear p19
                                try clear q19
                                try clear hx19
                                try clear hf19
                                try clear c20
                                try clear c24
                                try clear c24b0
                                try clear c24b1
                                try clear c25
                                try clear c25b0
                                try clear c25b1
                                try clear c26
                                try clear c26b0
                                try clear c26b1
                                try clear c27
                                try clear c27b0
                                try clear c28
                                try clear c28b0
                                try clear c30
                                try clear q30
                                try clear hx120_0
                                try clear hx125_0
                                try clear hx129_0
                                try clear hx19_0
                                try clear p1
                                try clear p12
                                try clear p120
                                try clear p125
                                try clear p129
                                try clear p19
                                try clear p2
                                try clear p6
                                try clear q1
                                try clear q12
                                try clear q120
                                try clear q125
                                try clear q129
                                try clear q19
                                try clear q30
                                obtain ⟨x6_3, x7_3, x8_3, x51_3, rfl, HA, HK3, HO_6, HO_7, HO_8, HB⟩ := hrel
                                cases gk with
                                | zero => exact absurd HA.out (by simp [pairing_Reach.l2])
                                | succ k3 =>
                                  have H := HA.out
                                  clear HA
                                  simp only [pairing_Reach.l2] at H
                                  by_cases c31 : x51_3 < ((rd_L5 l0 (rd x8_2 0)).length : Int)
                                  · rw [if_pos c31] at H
                                    have c31b0 : decide (x51_3 < ((rd_L5 l0 (rd x8_2 0)).length : Int)) = true := decide_eq_true c31
                                    clear c31
                                    by_cases c32 : 0 ≤ x51_3
                                    · rw [if_pos c32] at H
                                      have c32b0 : decide (0 ≤ x51_3) = true := decide_eq_true c32
                                      clear c32
                                      by_cases c33 : x51_3 < ((rd_L5 l0 (rd x8_2 0)).length : Int)
                                      · rw [if_pos c33] at H
                                        have c33b0 : decide (x51_3 < ((rd_L5 l0 (rd x8_2 0)).length : Int)) = true := decide_eq_true c33
                                        clear c33
                                        by_cases c34 : 0 ≤ (rd (rd_L5 l0 (rd x8_2 0)) x51_3)
                                        · rw [if_pos c34] at H
                                          have c34b0 : decide (0 ≤ (rd (rd_L5 l0 (rd x8_2 0)) x51_3)) = true := decide_eq_true c34
                                          clear c34
                                          by_cases c35 : (rd (rd_L5 l0 (rd x8_2 0)) x51_3) < (x7_3.length : Int)
                                          · rw [if_pos c35] at H
                                            have c35b0 : decide ((rd (rd_L5 l0 (rd x8_2 0)) x51_3) < (x7_3.length : Int)) = true := decide_eq_true c35
                                            clear c35
                                            obtain ⟨y131, hy131⟩ : ∃ y_ : List Bool, y_ = (x7_3.set ((rd (rd_L5 l0 (rd x8_2 0)) x51_3) : Int).toNat true) := ⟨_, rfl⟩
                                            replace H : (if (rd (rd_L5 l0 (rd x8_2 0)) x51_3) < (l2.length : Int) then (if (rd l2 (rd (rd_L5 l0 (rd x8_2 0)) x51_3)) ≥ 0 then (if 0 ≤ (rd l2 (rd (rd_L5 l0 (rd x8_2 0)) x51_3)) then (if (rd l2 (rd (rd_L5 l0 (rd x8_2 0)) x51_3)) < (x6_3.length : Int) then (if (rdOf false x6_3 (rd l2 (rd (rd_L5 l0 (rd x8_2 0)) x51_3)) = true) then (pairing_Reach.l2 k3 l0 l2 x6_3 y131 x8_3 (rd_L5 l0 (rd x8_2 0)) ((rd_L5 l0 (rd x8_2 0)).length : Int) (wrap64 (x51_3 + 1))) else (if x8_3.length < 17592186044416 then (pairing_Reach.l2 k3 l0 l2 (x6_3.set ((rd l2 (rd (rd_L5 l0 (rd x8_2 0)) x51_3)) : Int).toNat true) y131 (x8_3 ++ [rd l2 (rd (rd_L5 l0 (rd x8_2 0)) x51_3)]) (rd_L5 l0 (rd x8_2 0)) ((rd_L5 l0 (rd x8_2 0)).length : Int) (wrap64 (x51_3 + 1))) else (none))) else (none)) else (none)) else (pairing_Reach.l2 k3 l0 l2 x6_3 y131 x8_3 (rd_L5 l0 (rd x8_2 0)) ((rd_L5 l0 (rd x8_2 0)).length : Int) (wrap64 (x51_3 + 1)))) else (none)) = some (r1, r2) := by first | (rw [hy131]; with_reducible exact H) | (have H2_ := (Option.bind_some _ _).symm.trans H; rw [hy131]; with_reducible exact H2_) | (have H2_ := (Option.bind_some _ _).symm.trans H; with_reducible exact H2_) | with_reducible exact H | (rw [hy131]; exact H) | exact H
                                            have Ny131 := Aside0.mk hy131
                                            clear hy131
                                            by_cases c37 : (rd (rd_L5 l0 (rd x8_2 0)) x51_3) < (l2.length : Int)
                                            · rw [if_pos c37] at H
                                              have c37b0 : decide ((rd (rd_L5 l0 (rd x8_2 0)) x51_3) < (l2.length : Int)) = true := decide_eq_true c37
                                              clear c37
                                              by_cases c38 : (rd l2 (rd (rd_L5 l0 (rd x8_2 0)) x51_3)) ≥ 0
                                              · rw [if_pos c38] at H
                                                have c38b0 : decide (0 ≤ (rd l2 (rd (rd_L5 l0 (rd x8_2 0)) x51_3))) = true := decide_eq_true c38
                                                clear c38
                                                by_cases c39 : 0 ≤ (rd l2 (rd (rd_L5 l0 (rd x8_2 0)) x51_3))
                                                · rw [if_pos c39] at H
                                                  have c39b0 : decide (0 ≤ (rd l2 (rd (rd_L5 l0 (rd x8_2 0)) x51_3))) = true := decide_eq_true c39
                                                  clear c39
                                                  by_cases c40 : (rd l2 (rd (rd_L5 l0 (rd x8_2 0)) x51_3)) < (x6_3.length : Int)
                                                  · rw [if_pos c40] at H
                                                    have c40b0 : decide ((rd l2 (rd (rd_L5 l0 (rd x8_2 0)) x51_3)) < (x6_3.length : Int)) = true := decide_eq_true c40
                                                    clear c40
                                                    obtain ⟨bq41, hbq41⟩ : ∃ b_ : Bool, b_ = (rdOf false x6_3 (rd l2 (rd (rd_L5 l0 (rd x8_2 0)) x51_3))) := ⟨_, rfl⟩
                                                    replace H : (if (bq41 = true) then (pairing_Reach.l2 k3 l0 l2 x6_3 y131 x8_3 (rd_L5 l0 (rd x8_2 0)) ((rd_L5 l0 (rd x8_2 0)).length : Int) (wrap64 (x51_3 + 1))) else (if x8_3.length < 17592186044416 then (pairing_Reach.l2 k3 l0 l2 (x6_3.set ((rd l2 (rd (rd_L5 l0 (rd x8_2 0)) x51_3)) : Int).toNat true) y131 (x8_3 ++ [rd l2 (rd (rd_L5 l0 (rd x8_2 0)) x51_3)]) (rd_L5 l0 (rd x8_2 0)) ((rd_L5 l0 (rd x8_2 0)).length : Int) (wrap64 (x51_3 + 1))) else (none))) = some (r1, r2) := by rw [← hbq41] at H; exact H
                                                    have Nbq41 := Aside0.mk hbq41
                                                    clear hbq41
                                                    by_cases c42 : (bq41 = true)
                                                    · subst c42
                                                      have H1 : (pairing_Reach.l2 k3 l0 l2 x6_3 y131 x8_3 (rd_L5 l0 (rd x8_2 0)) ((rd_L5 l0 (rd x8_2 0)).length : Int) (wrap64 (x51_3 + 1))) = some (r1, r2) := by rw [if_pos rfl] at H; exact H
                                                      clear H
                                                      have H := H1
                                                      clear H1
                                                      have H' := Aside0.mk H
                                                      clear H
                                                      have p130 : 0 ≤ (x51_3 : Int) := of_decide_eq_true (by first | (with_reducible assumption) | assumption)
                                                      have q130 : x51_3 < ((rd_L5 l0 (rd x8_2 0)).length : Int) := of_decide_eq_true (by first | (with_reducible assumption) | assumption)
                                                      obtain ⟨ad130, e130, hx130_0⟩ := Kd.at_int HR129_0.out x51_3 p130 q130
                                                      cases e130
                                                      replace hx130_0 := (HB.out.cell (World.block_lt_of_cell? w _ hx130_0)).trans hx130_0
                                                      replace p130 := eq_true p130
                                                      replace q130 := eq_true q130
                                                      have p36 : 0 ≤ ((rd (rd_L5 l0 (rd x8_2 0)) x51_3) : Int) := of_decide_eq_true (by first | (with_reducible assumption) | assumption)
                                                      have q36 : ((rd (rd_L5 l0 (rd x8_2 0)) x51_3) : Int) < ((x7_3.length : Int) : Int) := of_decide_eq_true (by first | (with_reducible assumption) | assumption)
                                                      obtain ⟨go36, co36, eo36, gb36, gl36, cl36, HG36⟩ := Kd.R_form HO_7.out (by first | omega | (have e_ := (Kd.R_reads' HO_7.out).1; omega))
                                                      (first | cases eo36 | (injection eo36 with ea_ en_ ec_; (first | subst ea_ | (injection ea_ with ea_; subst ea_)); subst ec_; clear en_))
                                                      have GB36 := Aside0.mk gb36
                                                      have GG36 := Aside0.mk HG36
                                                      clear gb36 gl36 HG36
                                                      obtain ⟨hx36_0, hf36_0⟩ := Kd.R_celln false HO_7.out ((rd (rd_L5 l0 (rd x8_2 0)) x51_3) : Int) p36 q36
                                                      replace p36 := eq_true p36
                                                      replace q36 := eq_true q36
                                                      have HP43 := Kd.R_putg HO_7.out ((rd (rd_L5 l0 (rd x8_2 0)) x51_3) : Int) true
                                                      go_wp2_with (first | ((with_reducible refine gate_store (t := 4) (p := 57) rfl ?_); refine store_event (t := 4) (p := 57) (v := ?vo_w44) (w1 := (wr.setCell ⟨go36, ((rd (rd_L5 l0 (rd x8_2 0)) x51_3) : Int).toNat, none⟩ (.bool true))) ?hg ?ho ?hn ?hr ?_; (case ho => rfl); (case hg => rfl); (case hn => rfl); (case hr => first | (go_simp; done) | (go_simp; rfl)); intro w44 hw; have hg : wr.grownBy w44 (some go36) := (by rw [hw]; exact HP43.2); have hp_ : Kd.R Kd.bool 4 w44 w.heap.size (fun k_ => some k_ ≠ (v115 : Value).ownBlock) (.slice (some ⟨go36, 0, none⟩) x7_3.length co36) y131 := (by rw [hw, Ny131.out]; exact HP43.1); clear HP43; have n0_ := Aside0.mk (Kd.R_after (v := (.slice (some ⟨go36, 0, none⟩) x7_3.length co36)) (v1 := (.slice (some ⟨go36, 0, none⟩) x7_3.length co36)) (ok := (fun _ => True)) (by (with_reducible repeat (first | apply Kd.R_alloc | apply Kd.R_drewN | apply Kd.R_drew)); exact Kd.R_mono HO_6.out (fun _ hk => ⟨trivial, hk⟩)) hg (.inl rfl)); have n1_ := Aside0.mk (hp_); have n2_ := Aside0.mk (Kd.Q_over' (v := (.slice (some ⟨go36, 0, none⟩) x7_3.length co36)) (by (with_reducible repeat (first | apply Kd.Q_alloc | apply Kd.Q_drewN | apply Kd.Q_drew)); exact HO_8.out) (Kd.R_typed HO_7.out) (by decide) hg); have n3_ := Aside0.mk ((by rw [hw]; exact below_set (HB.out) GB36.out : Below w.heap.size w w44)); clear HO_6; clear HO_7; clear HO_8; clear HB; have HO_6 := n0_; have HO_7 := n1_; have HO_8 := n2_; have HB := n3_; clear n0_ n1_ n2_ n3_; clear hg hw hp_; have p132 : 0 ≤ ((rd (rd_L5 l0 (rd x8_2 0)) x51_3) : Int) := of_decide_eq_true (by first | (with_reducible assumption) | assumption); have q132 : (rd (rd_L5 l0 (rd x8_2 0)) x51_3) < (l2.length : Int) := of_decide_eq_true (by first | (with_reducible assumption) | assumption); obtain ⟨ad132, e132, hx132_0⟩ := Kd.at_int HR2.out (rd (rd_L5 l0 (rd x8_2 0)) x51_3) p132 q132; cases e132; replace hx132_0 := (HB.out.cell (World.block_lt_of_cell? w _ hx132_0)).trans hx132_0; replace p132 := eq_true p132; replace q132 := eq_true q132; obtain ⟨Ao45, co45, eo45⟩ := Kd.R_slice HO_6.out; subst eo45; have p133 : 0 ≤ ((rd l2 (rd (rd_L5 l0 (rd x8_2 0)) x51_3)) : Int) := of_decide_eq_true (by first | (with_reducible assumption) | assumption); have q133 : (rd l2 (rd (rd_L5 l0 (rd x8_2 0)) x51_3)) < (x6_3.length : Int) := of_decide_eq_true (by first | (with_reducible assumption) | assumption); obtain ⟨ad133, e133, hx133_0⟩ := Kd.at_bool (Kd.R_reads' HO_6.out).2.2 (rd l2 (rd (rd_L5 l0 (rd x8_2 0)) x51_3)) p133 q133; (try rw [← Nbq41.out] at hx133_0); cases e133; replace p133 := eq_true p133; replace q133 := eq_true q133))
                                                      go_roundg k3
                                                      case measure => have := HK1.out; have := HK2.out; have := HK3.out; omega
                                                      case rel => exact ⟨(x6_3), (y131), (x8_3), (wrap64 (x51_3 + 1)), (by first | rfl | (simp; done) | (simp [*]; done)), H', ⟨by have := HK1.out; have := HK2.out; have := HK3.out; omega⟩, ⟨by (with_reducible repeat (first | apply Kd.R_alloc | apply Kd.R_drewN | apply Kd.R_drew)); exact Kd.R_mono HO_6.out (fun _ hk => hk.2)⟩, ⟨by (with_reducible repeat (first | apply Kd.R_alloc | apply Kd.R_drewN | apply Kd.R_drew)); exact HO_7.out⟩, ⟨by (with_reducible repeat (first | apply Kd.Q_alloc | apply Kd.Q_drewN | apply Kd.Q_drew)); exact HO_8.out⟩, ⟨by repeat (first | (with_reducible first | exact HB.out | apply below_alloc | apply pw_below_drewN | apply below_drew1) | exact HB.out)⟩⟩
                                                    · replace c42 := Bool.eq_false_iff.mpr c42
                                                      subst c42
                                                      have H1 : (if x8_3.length < 17592186044416 then (pairing_Reach.l2 k3 l0 l2 (x6_3.set ((rd l2 (rd (rd_L5 l0 (rd x8_2 0)) x51_3)) : Int).toNat true) y131 (x8_3 ++ [rd l2 (rd (rd_L5 l0 (rd x8_2 0)) x51_3)]) (rd_L5 l0 (rd x8_2 0)) ((rd_L5 l0 (rd x8_2 0)).length : Int) (wrap64 (x51_3 + 1))) else (none)) = some (r1, r2) := by rw [if_neg (show ¬ (false = true) by decide)] at H; exact H
                                                      clear H
                                                      have H := H1
                                                      clear H1
                                                      obtain ⟨y134, hy134⟩ : ∃ y_ : List Bool, y_ = (x6_3.set ((rd l2 (rd (rd_L5 l0 (rd x8_2 0)) x51_3)) : Int).toNat true) := ⟨_, rfl⟩
                                                      replace H : (if x8_3.length < 17592186044416 then (pairing_Reach.l2 k3 l0 l2 y134 y131 (x8_3 ++ [rd l2 (rd (rd_L5 l0 (rd x8_2 0)) x51_3)]) (rd_L5 l0 (rd x8_2 0)) ((rd_L5 l0 (rd x8_2 0)).length : Int) (wrap64 (x51_3 + 1))) else (none)) = some (r1, r2) := by first | (rw [hy134]; with_reducible exact H) | (have H2_ := (Option.bind_some _ _).symm.trans H; rw [hy134]; with_reducible exact H2_) | (have H2_ := (Option.bind_some _ _).symm.trans H; with_reducible exact H2_) | with_reducible exact H | (rw [hy134]; exact H) | exact H
                                                      have Ny134 := Aside0.mk hy134
                                                      clear hy134
                                                      by_cases c47 : x8_3.length < 17592186044416
                                                      · rw [if_pos c47] at H
                                                        have LMc47 := Aside0.mk c47
                                                        clear c47
                                                        obtain ⟨y135, hy135⟩ : ∃ y_ : List Int, y_ = (x8_3 ++ [rd l2 (rd (rd_L5 l0 (rd x8_2 0)) x51_3)]) := ⟨_, rfl⟩
                                                        replace H : (pairing_Reach.l2 k3 l0 l2 y134 y131 y135 (rd_L5 l0 (rd x8_2 0)) ((rd_L5 l0 (rd x8_2 0)).length : Int) (wrap64 (x51_3 + 1))) = some (r1, r2) := by first | (rw [hy135]; with_reducible exact H) | (have H2_ := (Option.bind_some _ _).symm.trans H; rw [hy135]; with_reducible exact H2_) | (have H2_ := (Option.bind_some _ _).symm.trans H; with_reducible exact H2_) | with_reducible exact H | (rw [hy135]; exact H) | exact H
                                                        have Ny135 := Aside0.mk hy135
                                                        clear hy135
                                                        have H' := Aside0.mk H
                                                        clear H
                                                        have p130 : 0 ≤ (x51_3 : Int) := of_decide_eq_true (by first | (with_reducible assumption) | assumption)
                                                        have q130 : x51_3 < ((rd_L5 l0 (rd x8_2 0)).length : Int) := of_decide_eq_true (by first | (with_reducible assumption) | assumption)
                                                        obtain ⟨ad130, e130, hx130_0⟩ := Kd.at_int HR129_0.out x51_3 p130 q130
                                                        cases e130
                                                        replace hx130_0 := (HB.out.cell (World.block_lt_of_cell? w _ hx130_0)).trans hx130_0
                                                        replace p130 := eq_true p130
                                                        replace q130 := eq_true q130
                                                        have p36 : 0 ≤ ((rd (rd_L5 l0 (rd x8_2 0)) x51_3) : Int) := of_decide_eq_true (by first | (with_reducible assumption) | assumption)
                                                        have q36 : ((rd (rd_L5 l0 (rd x8_2 0)) x51_3) : Int) < ((x7_3.length : Int) : Int) := of_decide_eq_true (by first | (with_reducible assumption) | assumption)
                                                        obtain ⟨go36, co36, eo36, gb36, gl36, cl36, HG36⟩ := Kd.R_form HO_7.out (by first | omega | (have e_ := (Kd.R_reads' HO_7.out).1; omega))
                                                        (first | cases eo36 | (injection eo36 with ea_ en_ ec_; (first | subst ea_ | (injection ea_ with ea_; subst ea_)); subst ec_; clear en_))
                                                        have GB36 := Aside0.mk gb36
                                                        have GG36 := Aside0.mk HG36
                                                        clear gb36 gl36 HG36
                                                        obtain ⟨hx36_0, hf36_0⟩ := Kd.R_celln false HO_7.out ((rd (rd_L5 l0 (rd x8_2 0)) x51_3) : Int) p36 q36
                                                        replace p36 := eq_true p36
                                                        replace q36 := eq_true q36
                                                        have HP48 := Kd.R_putg HO_7.out ((rd (rd_L5 l0 (rd x8_2 0)) x51_3) : Int) true
                                                        go_wp2_with (first | ((with_reducible refine gate_store (t := 4) (p := 57) rfl ?_); refine store_event (t := 4) (p := 57) (v := ?vo_w49) (w1 := (wr.setCell ⟨go36, ((rd (rd_L5 l0 (rd x8_2 0)) x51_3) : Int).toNat, none⟩ (.bool true))) ?hg ?ho ?hn ?hr ?_; (case ho => rfl); (case hg => rfl); (case hn => rfl); (case hr => first | (go_simp; done) | (go_simp; rfl)); intro w49 hw; have hg : wr.grownBy w49 (some go36) := (by rw [hw]; exact HP48.2); have hp_ : Kd.R Kd.bool 4 w49 w.heap.size (fun k_ => some k_ ≠ (v115 : Value).ownBlock) (.slice (some ⟨go36, 0, none⟩) x7_3.length co36) y131 := (by rw [hw, Ny131.out]; exact HP48.1); clear HP48; have n0_ := Aside0.mk (Kd.R_after (v := (.slice (some ⟨go36, 0, none⟩) x7_3.length co36)) (v1 := (.slice (some ⟨go36, 0, none⟩) x7_3.length co36)) (ok := (fun _ => True)) (by (with_reducible repeat (first | apply Kd.R_alloc | apply Kd.R_drewN | apply Kd.R_drew)); exact Kd.R_mono HO_6.out (fun _ hk => ⟨trivial, hk⟩)) hg (.inl rfl)); have n1_ := Aside0.mk (hp_); have n2_ := Aside0.mk (Kd.Q_over' (v := (.slice (some ⟨go36, 0, none⟩) x7_3.length co36)) (by (with_reducible repeat (first | apply Kd.Q_alloc | apply Kd.Q_drewN | apply Kd.Q_drew)); exact HO_8.out) (Kd.R_typed HO_7.out) (by decide) hg); have n3_ := Aside0.mk ((by rw [hw]; exact below_set (HB.out) GB36.out : Below w.heap.size w w49)); clear HO_6; clear HO_7; clear HO_8; clear HB; have HO_6 := n0_; have HO_7 := n1_; have HO_8 := n2_; have HB := n3_; clear n0_ n1_ n2_ n3_; clear hg hw hp_; have p132 : 0 ≤ ((rd (rd_L5 l0 (rd x8_2 0)) x51_3) : Int) := of_decide_eq_true (by first | (with_reducible assumption) | assumption); have q132 : (rd (rd_L5 l0 (rd x8_2 0)) x51_3) < (l2.length : Int) := of_decide_eq_true (by first | (with_reducible assumption) | assumption); obtain ⟨ad132, e132, hx132_0⟩ := Kd.at_int HR2.out (rd (rd_L5 l0 (rd x8_2 0)) x51_3) p132 q132; cases e132; replace hx132_0 := (HB.out.cell (World.block_lt_of_cell? w _ hx132_0)).trans hx132_0; replace p132 := eq_true p132; replace q132 := eq_true q132; obtain ⟨Ao50, co50, eo50⟩ := Kd.R_slice HO_6.out; subst eo50; have p133 : 0 ≤ ((rd l2 (rd (rd_L5 l0 (rd x8_2 0)) x51_3)) : Int) := of_decide_eq_true (by first | (with_reducible assumption) | assumption); have q133 : (rd l2 (rd (rd_L5 l0 (rd x8_2 0)) x51_3)) < (x6_3.length : Int) := of_decide_eq_true (by first | (with_reducible assumption) | assumption); obtain ⟨ad133, e133, hx133_0⟩ := Kd.at_bool (Kd.R_reads' HO_6.out).2.2 (rd l2 (rd (rd_L5 l0 (rd x8_2 0)) x51_3)) p133 q133; (try rw [← Nbq41.out] at hx133_0); cases e133; replace p133 := eq_true p133; replace q133 := eq_true q133; have p46 : 0 ≤ ((rd l2 (rd (rd_L5 l0 (rd x8_2 0)) x51_3)) : Int) := of_decide_eq_true (by first | (with_reducible assumption) | assumption); have q46 : ((rd l2 (rd (rd_L5 l0 (rd x8_2 0)) x51_3)) : Int) < ((x6_3.length : Int) : Int) := of_decide_eq_true (by first | (with_reducible assumption) | assumption); obtain ⟨go46, co46, eo46, gb46, gl46, cl46, HG46⟩ := Kd.R_form HO_6.out (by first | omega | (have e_ := (Kd.R_reads' HO_6.out).1; omega)); (first | cases eo46 | (injection eo46 with ea_ en_ ec_; (first | subst ea_ | (injection ea_ with ea_; subst ea_)); subst ec_; clear en_)); have GB46 := Aside0.mk gb46; have GG46 := Aside0.mk HG46; clear gb46 gl46 HG46; (first | simp only [add_plain] at hx133_0 | skip); obtain ⟨hx46_0, hf46_0⟩ := Kd.R_celln false HO_6.out ((rd l2 (rd (rd_L5 l0 (rd x8_2 0)) x51_3)) : Int) p46 q46; replace p46 := eq_true p46; replace q46 := eq_true q46; have n_ := Aside0.mk (Kd.R_mono (ok' := (fun k_ => some k_ ≠ (.slice (some ⟨go36, 0, none⟩) x7_3.length co36 : Value).ownBlock)) HO_6.out (fun k_ hk => hk.2)); clear HO_6; have HO_6 := n_; clear n_; obtain ⟨hy51_, hz51_⟩ := Kd.R_celln false HO_6.out ((rd l2 (rd (rd_L5 l0 (rd x8_2 0)) x51_3)) : Int) (of_decide_eq_true (by first | (with_reducible assumption) | assumption)) (of_decide_eq_true (by first | (with_reducible assumption) | assumption)); have HP51 := Kd.R_putg HO_6.out ((rd l2 (rd (rd_L5 l0 (rd x8_2 0)) x51_3)) : Int) true) | ((with_reducible refine gate_store (t := 4) (p := 73) rfl ?_); refine store_event (t := 4) (p := 73) (v := ?vo_w52) (w1 := (w49.setCell ⟨go46, ((rd l2 (rd (rd_L5 l0 (rd x8_2 0)) x51_3)) : Int).toNat, none⟩ (.bool true))) ?hg ?ho ?hn ?hr ?_; (case ho => rfl); (case hg => rfl); (case hn => rfl); (case hr => first | (go_simp; done) | (go_simp; rfl)); intro w52 hw; have hg : w49.grownBy w52 (some go46) := (by rw [hw]; exact HP51.2); have hp_ : Kd.R Kd.bool 4 w52 w.heap.size (fun k_ => some k_ ≠ (.slice (some ⟨go36, 0, none⟩) x7_3.length co36 : Value).ownBlock) (.slice (some ⟨go46, 0, none⟩) x6_3.length co50) y134 := (by rw [hw, Ny134.out]; exact HP51.1); clear HP51; have n0_ := Aside0.mk (hp_); have n1_ := Aside0.mk (Kd.R_after (v := (.slice (some ⟨go46, 0, none⟩) x6_3.length co50)) (v1 := (.slice (some ⟨go46, 0, none⟩) x6_3.length co50)) (ok := (fun _ => True)) (by (with_reducible repeat (first | apply Kd.R_alloc | apply Kd.R_drewN | apply Kd.R_drew)); exact Kd.R_mono HO_7.out (fun _ hk => ⟨trivial, hk⟩)) hg (.inl rfl)); have n2_ := Aside0.mk (Kd.Q_over' (v := (.slice (some ⟨go46, 0, none⟩) x6_3.length co50)) (by (with_reducible repeat (first | apply Kd.Q_alloc | apply Kd.Q_drewN | apply Kd.Q_drew)); exact HO_8.out) (Kd.R_typed HO_6.out) (by decide) hg); have n3_ := Aside0.mk ((by rw [hw]; exact below_set (HB.out) GB46.out : Below w.heap.size w w52)); clear HO_6; clear HO_7; clear HO_8; clear HB; have HO_6 := n0_; have HO_7 := n1_; have HO_8 := n2_; have HB := n3_; clear n0_ n1_ n2_ n3_; clear hg hw hp_) | ((with_reducible refine gate_builtin (b := .append) (xs := #[.tmp 74, .tmp 76]) rfl ?_); at_builtin; refine Kd.Q_append (Kd.int .i64) (w0 := w) w.heap.size rfl (.tmp 74) (.tmp 76) 29 3 (.int .i64 0) 8 rfl Try.underlying29 info3 rfl (by decide) (by omega) u8 x8_3 (rd l2 (rd (rd_L5 l0 (rd x8_2 0)) x51_3)) [.int .i64 (rd l2 (rd (rd_L5 l0 (rd x8_2 0)) x51_3))] (fun _ => True) (fun _ => False) rfl rfl ?aP (fun _ hk => hk.elim) ?aF ?aO ?aB ?aS ?aL ?_; (case aP => exact rfl); (case aB => exact (by repeat (first | (with_reducible first | exact HB.out | apply below_alloc | apply pw_below_drewN | apply below_drew1) | exact HB.out))); (case aF => exact (fun _ _ => trivial)); (case aO => exact (by (with_reducible repeat (first | apply Kd.Q_alloc | apply Kd.Q_drewN | apply Kd.Q_drew)); exact HO_8.out)); (case aS => exact (below_size (by repeat (first | (with_reducible first | exact HB.out | apply below_alloc | apply pw_below_drewN | apply below_drew1) | exact HB.out)))); (case aL => have := LMc47.out; omega); intro v136 w53 ho hb hg hat; rw [← Ny135.out] at ho; have n0_ := Aside0.mk (Kd.R_over' (by (with_reducible repeat (first | apply Kd.R_alloc | apply Kd.R_drewN | apply Kd.R_drew)); exact HO_6.out) (Kd.Q_typed (by (with_reducible repeat (first | apply Kd.Q_alloc | apply Kd.Q_drewN | apply Kd.Q_drew)); exact HO_8.out)) (by decide) hg); have n1_ := Aside0.mk (Kd.R_over' (by (with_reducible repeat (first | apply Kd.R_alloc | apply Kd.R_drewN | apply Kd.R_drew)); exact HO_7.out) (Kd.Q_typed (by (with_reducible repeat (first | apply Kd.Q_alloc | apply Kd.Q_drewN | apply Kd.Q_drew)); exact HO_8.out)) (by decide) hg); have n2_ := Aside0.mk (hb); have n3_ := Aside0.mk (ho); clear HO_6; clear HO_7; clear HB; clear HO_8; have HO_6 := n0_; have HO_7 := n1_; have HB := n2_; have HO137 := n3_; clear n0_ n1_ n2_ n3_; clear ho hb hg hat))
                                                        go_roundg k3
                                                        case measure => have := HK1.out; have := HK2.out; have := HK3.out; omega
                                                        case rel => exact ⟨(y134), (y131), (y135), (wrap64 (x51_3 + 1)), (by first | rfl | (simp; done) | (simp [*]; done)), H', ⟨by have := HK1.out; have := HK2.out; have := HK3.out; omega⟩, ⟨by (with_reducible repeat (first | apply Kd.R_alloc | apply Kd.R_drewN | apply Kd.R_drew)); exact HO_6.out⟩, ⟨by (with_reducible repeat (first | apply Kd.R_alloc | apply Kd.R_drewN | apply Kd.R_drew)); exact Kd.R_mono HO_7.out (fun _ hk => hk.2)⟩, ⟨by (with_reducible repeat (first | apply Kd.Q_alloc | apply Kd.Q_drewN | apply Kd.Q_drew)); exact HO137.out⟩, ⟨by repeat (first | (with_reducible first | exact HB.out | apply below_alloc | apply pw_below_drewN | apply below_drew1) | exact HB.out)⟩⟩
                                                      · rw [if_neg c47] at H
                                                        exact absurd H (by simp)
                                                  · rw [if_neg c40] at H
                                                    exact absurd H (by simp)
                                                · rw [if_neg c39] at H
                                                  exact absurd H (by simp)
                                              · rw [if_neg c38] at H
                                                have c38b0 : decide (0 ≤ (rd l2 (rd (rd_L5 l0 (rd x8_2 0)) x51_3))) = false := decide_eq_false c38
                                                clear c38
                                                have H' := Aside0.mk H
                                                clear H
                                                have p130 : 0 ≤ (x51_3 : Int) := of_decide_eq_true (by first | (with_reducible assumption) | assumption)
                                                have q130 : x51_3 < ((rd_L5 l0 (rd x8_2 0)).length : Int) := of_decide_eq_true (by first | (with_reducible assumption) | assumption)
                                                obtain ⟨ad130, e130, hx130_0⟩ := Kd.at_int HR129_0.out x51_3 p130 q130
                                                cases e130
                                                replace hx130_0 := (HB.out.cell (World.block_lt_of_cell? w _ hx130_0)).trans hx130_0
                                                replace p130 := eq_true p130
                                                replace q130 := eq_true q130
                                                have p36 : 0 ≤ ((rd (rd_L5 l0 (rd x8_2 0)) x51_3) : Int) := of_decide_eq_true (by first | (with_reducible assumption) | assumption)
                                                have q36 : ((rd (rd_L5 l0 (rd x8_2 0)) x51_3) : Int) < ((x7_3.length : Int) : Int) := of_decide_eq_true (by first | (with_reducible assumption) | assumption)
                                                obtain ⟨go36, co36, eo36, gb36, gl36, cl36, HG36⟩ := Kd.R_form HO_7.out (by first | omega | (have e_ := (Kd.R_reads' HO_7.out).1; omega))
                                                (first | cases eo36 | (injection eo36 with ea_ en_ ec_; (first | subst ea_ | (injection ea_ with ea_; subst ea_)); subst ec_; clear en_))
                                                have GB36 := Aside0.mk gb36
                                                have GG36 := Aside0.mk HG36
                                                clear gb36 gl36 HG36
                                                obtain ⟨hx36_0, hf36_0⟩ := Kd.R_celln false HO_7.out ((rd (rd_L5 l0 (rd x8_2 0)) x51_3) : Int) p36 q36
                                                replace p36 := eq_true p36
                                                replace q36 := eq_true q36
                                                have HP54 := Kd.R_putg HO_7.out ((rd (rd_L5 l0 (rd x8_2 0)) x51_3) : Int) true
                                                go_wp2_with (first | ((with_reducible refine gate_store (t := 4) (p := 57) rfl ?_); refine store_event (t := 4) (p := 57) (v := ?vo_w55) (w1 := (wr.setCell ⟨go36, ((rd (rd_L5 l0 (rd x8_2 0)) x51_3) : Int).toNat, none⟩ (.bool true))) ?hg ?ho ?hn ?hr ?_; (case ho => rfl); (case hg => rfl); (case hn => rfl); (case hr => first | (go_simp; done) | (go_simp; rfl)); intro w55 hw; have hg : wr.grownBy w55 (some go36) := (by rw [hw]; exact HP54.2); have hp_ : Kd.R Kd.bool 4 w55 w.heap.size (fun k_ => some k_ ≠ (v115 : Value).ownBlock) (.slice (some ⟨go36, 0, none⟩) x7_3.length co36) y131 := (by rw [hw, Ny131.out]; exact HP54.1); clear HP54; have n0_ := Aside0.mk (Kd.R_after (v := (.slice (some ⟨go36, 0, none⟩) x7_3.length co36)) (v1 := (.slice (some ⟨go36, 0, none⟩) x7_3.length co36)) (ok := (fun _ => True)) (by (with_reducible repeat (first | apply Kd.R_alloc | apply Kd.R_drewN | apply Kd.R_drew)); exact Kd.R_mono HO_6.out (fun _ hk => ⟨trivial, hk⟩)) hg (.inl rfl)); have n1_ := Aside0.mk (hp_); have n2_ := Aside0.mk (Kd.Q_over' (v := (.slice (some ⟨go36, 0, none⟩) x7_3.length co36)) (by (with_reducible repeat (first | apply Kd.Q_alloc | apply Kd.Q_drewN | apply Kd.Q_drew)); exact HO_8.out) (Kd.R_typed HO_7.out) (by decide) hg); have n3_ := Aside0.mk ((by rw [hw]; exact below_set (HB.out) GB36.out : Below w.heap.size w w55)); clear HO_6; clear HO_7; clear HO_8; clear HB; have HO_6 := n0_; have HO_7 := n1_; have HO_8 := n2_; have HB := n3_; clear n0_ n1_ n2_ n3_; clear hg hw hp_; have p132 : 0 ≤ ((rd (rd_L5 l0 (rd x8_2 0)) x51_3) : Int) := of_decide_eq_true (by first | (with_reducible assumption) | assumption); have q132 : (rd (rd_L5 l0 (rd x8_2 0)) x51_3) < (l2.length : Int) := of_decide_eq_true (by first | (with_reducible assumption) | assumption); obtain ⟨ad132, e132, hx132_0⟩ := Kd.at_int HR2.out (rd (rd_L5 l0 (rd x8_2 0)) x51_3) p132 q132; cases e132; replace hx132_0 := (HB.out.cell (World.block_lt_of_cell? w _ hx132_0)).trans hx132_0; replace p132 := eq_true p132; replace q132 := eq_true q132))
                                                go_roundg k3
                                                case measure => have := HK1.out; have := HK2.out; have := HK3.out; omega
                                                case rel => exact ⟨(x6_3), (y131), (x8_3), (wrap64 (x51_3 + 1)), (by first | rfl | (simp; done) | (simp [*]; done)), H', ⟨by have := HK1.out; have := HK2.out; have := HK3.out; omega⟩, ⟨by (with_reducible repeat (first | apply Kd.R_alloc | apply Kd.R_drewN | apply Kd.R_drew)); exact Kd.R_mono HO_6.out (fun _ hk => hk.2)⟩, ⟨by (with_reducible repeat (first | apply Kd.R_alloc | apply Kd.R_drewN | apply Kd.R_drew)); exact HO_7.out⟩, ⟨by (with_reducible repeat (first | apply Kd.Q_alloc | apply Kd.Q_drewN | apply Kd.Q_drew)); exact HO_8.out⟩, ⟨by repeat (first | (with_reducible first | exact HB.out | apply below_alloc | apply pw_below_drewN | apply below_drew1) | exact HB.out)⟩⟩
                                            · rw [if_neg c37] at H
                                              exact absurd H (by simp)
                                          · rw [if_neg c35] at H
                                            exact absurd H (by simp)
                                        · rw [if_neg c34] at H
                                          exact absurd H (by simp)
                                      · rw [if_neg c33] at H
                                        exact absurd H (by simp)
                                    · rw [if_neg c32] at H
                                      exact absurd H (by simp)
                                  · rw [if_neg c31] at H
                                    have c31b0 : decide (x51_3 < ((rd_L5 l0 (rd x8_2 0)).length : Int)) = false := decide_eq_false c31
                                    clear c31
                                    have H' := Aside0.mk H
                                    clear H
                                    go_wp2
                                    go_roundg k3
                                    case measure => have := HK1.out; have := HK2.out; have := HK3.out; omega
                                    case rel => exact ⟨(x6_3), (x7_3), (x8_3), H', ⟨by have := HK1.out; have := HK2.out; have := HK3.out; omega⟩, ⟨by (with_reducible repeat (first | apply Kd.R_alloc | apply Kd.R_drewN | apply Kd.R_drew)); exact HO_6.out⟩, ⟨by (with_reducible repeat (first | apply Kd.R_alloc | apply Kd.R_drewN | apply Kd.R_drew)); exact HO_7.out⟩, ⟨by (with_reducible repeat (first | apply Kd.Q_alloc | apply Kd.Q_drewN | apply Kd.Q_drew)); exact HO_8.out⟩, ⟨by repeat (first | (with_reducible first | exact HB.out | apply below_alloc | apply pw_below_drewN | apply below_drew1) | exact HB.out)⟩⟩
                            · rw [if_neg c28] at H
                              exact absurd H (by simp)
                          · rw [if_neg c27] at H
                            exact absurd H (by simp)
                        · rw [if_neg c26] at H
                          exact absurd H (by simp)
                      · rw [if_neg c25] at H
                        exact absurd H (by simp)
                    · rw [if_neg c24] at H
                      have c24b0 : decide (0 < (x8_2.length : Int)) = false := decide_eq_false c24
                      have c24b1 : decide (0 < x8_2.length) = false := decide_eq_false (by omega)
                      clear c24
                      simp only [Option.some.injEq, Prod.mk.injEq] at H
                      obtain ⟨rfl, rfl⟩ := H
                      obtain ⟨Ao56, co56, eo56, _⟩ := Kd.Q_slice HO_8.out
                      subst eo56
                      go_wp2
                      go_ret2
                      exact ⟨_, _, by first | rfl | (simp [errW_none, errW_some] <;> rfl) | (simp [*, errW_none, errW_some] <;> rfl), by (with_reducible repeat (first | apply Kd.R_alloc | apply Kd.R_drewN | apply Kd.R_drew)); exact HO_6.out, by (with_reducible repeat (first | apply Kd.R_alloc | apply Kd.R_drewN | apply Kd.R_drew)); exact HO_7.out, by repeat (first | (with_reducible first | exact HB.out | apply below_alloc | apply pw_below_drewN | apply below_drew1) | exact HB.out)⟩
        · rw [if_neg c7] at H
          exact absurd H (by simp)
      · rw [if_neg c6] at H
        exact absurd H (by simp)
    · rw [if_neg c5] at H
      exact absurd H (by simp)
  · rw [if_neg c4] at H
    exact absurd H (by simp)
def match_reach.f (k : Nat) (l0 : List (List Int)) (a1 : Int) : Option (List Bool × List Bool) := (pairing_Greatest.f k l0 a1).bind fun bt138 => ((pairing_Reach.f k l0 bt138.1 bt138.2).bind fun bt144 => (some (bt144.1, bt144.2)))
theorem match_reach.mono : ∀ a0 a1 k, LeO (match_reach.f k a0 a1) (match_reach.f (k + 1) a0 a1) := by
  intro a0 a1 k
  unfold match_reach.f
  repeat' first
      | (with_reducible exact pairing_Greatest.mono _ _ _)
      | (with_reducible exact pairing_Reach.mono _ _ _ _)
      | (with_reducible exact LeO.refl _)
      | (with_reducible exact LeO.none _)
      | (with_reducible refine LeO.ite ?_ ?_)
      | (with_reducible refine LeO.bind ?_ (fun _ => ?_))
      | exact pairing_Greatest.mono _ _ _
      | exact pairing_Reach.mono _ _ _ _
      | exact LeO.none _
      | refine LeO.ite ?_ ?_
      | refine LeO.bind ?_ (fun _ => ?_)
set_option maxHeartbeats 8000000 in
set_option maxRecDepth 100000 in
theorem match_reach.calls (k : Nat) (A0 : Option Addr) (c0 : Nat) (l0 : List (List Int)) (a1 : Int) (r1 : List Bool) (r2 : List Bool) (w : World) (hr0 : Kd.C (Kd.slice 3 (Kd.int .i64)) w A0 l0.length l0) (hc0 : l0.length ≤ c0) (h : match_reach.f k l0 a1 = some (r1, r2)) :
    Calls Try.prog 41 #[.slice A0 l0.length c0, .int .i64 a1] w fun e w' => ∃ v0_ v1_ : Value, e = .returned (.tuple #[v0_, v1_]) ∧ Kd.R Kd.bool 4 w' w.heap.size (fun k_ => some k_ ≠ (v1_ : Value).ownBlock) v0_ r1 ∧ Kd.R Kd.bool 4 w' w.heap.size (fun k_ => some k_ ≠ (v0_ : Value).ownBlock) v1_ r2 ∧ Below w.heap.size w w' := by
  have HR0 := Aside0.mk hr0
  have HC0 := Aside0.mk hc0
  clear hr0 hc0
  have HB := Aside0.mk (Below.refl w.heap.size w)
  have H : ((pairing_Greatest.f k l0 a1).bind fun bt138 => ((pairing_Reach.f k l0 bt138.1 bt138.2).bind fun bt144 => (some (bt144.1, bt144.2)))) = some (r1, r2) := h
  clear h
  replace H := Option.bind_eq_some_iff.mp H
  obtain ⟨⟨t138, t139⟩, A30, H⟩ := H
  replace H : ((pairing_Reach.f k l0 t138 t139).bind fun bt144 => (some (bt144.1, bt144.2))) = some (r1, r2) := H
  have A3 := Aside0.mk A30
  clear A30
  replace H := Option.bind_eq_some_iff.mp H
  obtain ⟨⟨t144, t145⟩, A40, H⟩ := H
  replace H : (some (t144, t145)) = some (r1, r2) := H
  have A4 := Aside0.mk A40
  clear A40
  simp only [Option.some.injEq, Prod.mk.injEq] at H
  obtain ⟨rfl, rfl⟩ := H
  go_enter Try.func41, Try.ntmps41
  go_wp2_with (first | ((with_reducible refine gate_callee (f := 46) rfl ?_); refine goesL_ (some 11) rfl rfl Try.func46 (by kernel_rfl) rfl #[.slice A0 l0.length c0, .int .i64 a1] rfl (by (try simp only [List.map_toArray, List.map_cons, List.map_nil]); first | done | rfl | (simp only [List.length_drop, List.length_take]; rfl)) ?_; (with_reducible refine (pairing_Greatest.calls k _ _ l0 a1 t138 t139 _ ?side1 ?side2 A3.out).mono ?_); (case side1 => repeat (first | exact HR0.out | (with_reducible refine Kd.C_alloc ?_ _) | (with_reducible refine Kd.C_drewN ?_ _) | (with_reducible refine Kd.C_drew ?_))); (case side2 => exact HC0.out); rintro e w5 ⟨v140, v142, rfl, ho0, ho1, hb⟩; refine ⟨_, rfl, ?_⟩; have n0_ := Aside0.mk (Kd.R_lower ho0 (below_size (by repeat (first | (with_reducible first | exact HB.out | apply below_alloc | apply pw_below_drewN | apply below_drew1) | exact HB.out)))); have n1_ := Aside0.mk (Kd.R_lower ho1 (below_size (by repeat (first | (with_reducible first | exact HB.out | apply below_alloc | apply pw_below_drewN | apply below_drew1) | exact HB.out)))); have n2_ := Aside0.mk (below_step (by repeat (first | (with_reducible first | exact HB.out | apply below_alloc | apply pw_below_drewN | apply below_drew1) | exact HB.out)) hb); clear HB; have HO141 := n0_; have HO143 := n1_; have HB := n2_; clear n0_ n1_ n2_; (try clear hb); (try clear hb2); (try clear hk); (try clear hi); (try clear ho0); (try clear ho1); obtain ⟨Ao6, co6, eo6⟩ := Kd.R_slice HO141.out; subst eo6; obtain ⟨Ao7, co7, eo7⟩ := Kd.R_slice HO143.out; subst eo7) | ((with_reducible refine gate_callee (f := 50) rfl ?_); refine goesL_ (some 17) rfl rfl Try.func50 (by kernel_rfl) rfl #[.slice A0 l0.length c0, .slice Ao6 t138.length co6, .slice Ao7 t139.length co7] rfl (by (try simp only [List.map_toArray, List.map_cons, List.map_nil]); first | done | rfl | (simp only [List.length_drop, List.length_take]; rfl)) ?_; (with_reducible refine (pairing_Reach.calls k _ _ l0 _ _ t138 _ _ t139 t144 t145 _ ?side1 ?side2 ?side3 ?side4 ?side5 ?side6 A4.out).mono ?_); (case side1 => repeat (first | exact (Kd.C_below HR0.out HB.out) | (with_reducible refine Kd.C_alloc ?_ _) | (with_reducible refine Kd.C_drewN ?_ _) | (with_reducible refine Kd.C_drew ?_))); (case side2 => exact HC0.out); (case side3 => repeat (first | exact (Kd.R_reads' HO141.out).2.2 | (with_reducible refine Kd.C_alloc ?_ _) | (with_reducible refine Kd.C_drewN ?_ _) | (with_reducible refine Kd.C_drew ?_))); (case side4 => exact (Kd.R_reads' HO141.out).2.1); (case side5 => repeat (first | exact (Kd.R_reads' HO143.out).2.2 | (with_reducible refine Kd.C_alloc ?_ _) | (with_reducible refine Kd.C_drewN ?_ _) | (with_reducible refine Kd.C_drew ?_))); (case side6 => exact (Kd.R_reads' HO143.out).2.1); rintro e w8 ⟨v146, v148, rfl, ho0, ho1, hb⟩; refine ⟨_, rfl, ?_⟩; have n0_ := Aside0.mk (Kd.R_below (by (with_reducible repeat (first | apply Kd.R_alloc | apply Kd.R_drewN | apply Kd.R_drew)); exact HO141.out) hb); have n1_ := Aside0.mk (Kd.R_below (by (with_reducible repeat (first | apply Kd.R_alloc | apply Kd.R_drewN | apply Kd.R_drew)); exact HO143.out) hb); have n2_ := Aside0.mk (Kd.R_lower ho0 (below_size (by repeat (first | (with_reducible first | exact HB.out | apply below_alloc | apply pw_below_drewN | apply below_drew1) | exact HB.out)))); have n3_ := Aside0.mk (Kd.R_lower ho1 (below_size (by repeat (first | (with_reducible first | exact HB.out | apply below_alloc | apply pw_below_drewN | apply below_drew1) | exact HB.out)))); have n4_ := Aside0.mk (below_step (by repeat (first | (with_reducible first | exact HB.out | apply below_alloc | apply pw_below_drewN | apply below_drew1) | exact HB.out)) hb); clear HO141; clear HO143; clear HB; have HO141 := n0_; have HO143 := n1_; have HO147 := n2_; have HO149 := n3_; have HB := n4_; clear n0_ n1_ n2_ n3_ n4_; (try clear hb); (try clear hb2); (try clear hk); (try clear hi); (try clear ho0); (try clear ho1)))
  go_ret2
  exact ⟨_, _, by first | rfl | (simp [errW_none, errW_some] <;> rfl) | (simp [*, errW_none, errW_some] <;> rfl), by (with_reducible repeat (first | apply Kd.R_alloc | apply Kd.R_drewN | apply Kd.R_drew)); exact HO147.out, by (with_reducible repeat (first | apply Kd.R_alloc | apply Kd.R_drewN | apply Kd.R_drew)); exact HO149.out, by repeat (first | (with_reducible first | exact HB.out | apply below_alloc | apply pw_below_drewN | apply below_drew1) | exact HB.out)⟩
end Go.Proofs.Ytlleokhmgblfnaa.M
end

section
namespace Go.Proofs.Ytlleokhmgblfnaa.M
open Go.RowKit Go.Proofs.YtlleokhmgblfnaaW.PrintWords Go.Proofs.YtlleokhmgblfnaaW.PrintLast Go.Proofs.YtlleokhmgblfnaaW.PrintMore
attribute [local go_sem] max2_int min2_int max_two min_two max_three min_three max_four min_four   -- for this text's walks alone
def match_Graph_neighbours.l0 : Nat → List (List Int) → List (S40) → Int → Int → Option ((List (List Int)))
  | 0, _, _, _, _ => none
  | k + 1, x3, x10, x11, x12 => if x12 < x11 then (if 0 ≤ x12 then (if x12 < (x10.length : Int) then (if 0 ≤ ((rd_T40 x10 x12).f0) then (if ((rd_T40 x10 x12).f0) < (x3.length : Int) then (if (rd_L5 x3 ((rd_T40 x10 x12).f0)).length < 17592186044416 then (match_Graph_neighbours.l0 k (x3.set (((rd_T40 x10 x12).f0) : Int).toNat ((rd_L5 x3 ((rd_T40 x10 x12).f0)) ++ [(rd_T40 x10 x12).f1])) x10 x11 (wrap64 (x12 + 1))) else (none)) else (none)) else (none)) else (none)) else (none)) else (some x3)
def match_Graph_neighbours.f (k : Nat) (a0_0 : Int) (a0_1 : Int) (l0_2 : List (S40)) : Option ((List (List Int))) := if 0 ≤ a0_0 then (if (a0_0 : Int).toNat ≤ 11728124029610 then (match_Graph_neighbours.l0 k (List.replicate (a0_0 : Int).toNat []) l0_2 (l0_2.length : Int) 0) else (none)) else (none)
theorem match_Graph_neighbours.mono_l : ∀ k, (∀ y0 y1 y2 y3, LeO (match_Graph_neighbours.l0 k y0 y1 y2 y3) (match_Graph_neighbours.l0 (k + 1) y0 y1 y2 y3))
  | 0 => fun _ _ _ _ r h => by simp [match_Graph_neighbours.l0] at h
  | k + 1 => by
    have ih0 := match_Graph_neighbours.mono_l k
    · intro y0 y1 y2 y3
      unfold match_Graph_neighbours.l0
      repeat' first
      | (with_reducible exact ih0 _ _ _ _)
      | (with_reducible exact LeO.refl _)
      | (with_reducible exact LeO.none _)
      | (with_reducible refine LeO.ite ?_ ?_)
      | (with_reducible refine LeO.bind ?_ (fun _ => ?_))
      | exact ih0 _ _ _ _
      | exact LeO.none _
      | refine LeO.ite ?_ ?_
      | refine LeO.bind ?_ (fun _ => ?_)
theorem match_Graph_neighbours.mono : ∀ a0 a1 a2 k, LeO (match_Graph_neighbours.f k a0 a1 a2) (match_Graph_neighbours.f (k + 1) a0 a1 a2) := by
  intro a0 a1 a2 k
  have ih0 := match_Graph_neighbours.mono_l k
  unfold match_Graph_neighbours.f
  repeat' first
      | (with_reducible exact ih0 _ _ _ _)
      | (with_reducible exact LeO.refl _)
      | (with_reducible exact LeO.none _)
      | (with_reducible refine LeO.ite ?_ ?_)
      | (with_reducible refine LeO.bind ?_ (fun _ => ?_))
      | exact ih0 _ _ _ _
      | exact LeO.none _
      | refine LeO.ite ?_ ?_
      | refine LeO.bind ?_ (fun _ => ?_)
def match_Graph_neighbours.T5 : Bool × List (List Nat × List Nat) := (true, [([], []), ([], []), ([1], [1]), ([], []), ([], []), ([4], [4]), ([3, 5], [3, 5]), ([6], [6]), ([], []), ([8], [8]), ([9], [9]), ([7, 10], [7, 10]), ([0, 2, 0, 1, 2, 3, 4, 5, 6, 7, 8, 9, 10, 11], [0, 2]), ([12, 11, 11, 0, 1, 2, 3, 4, 5, 6, 7, 8, 9, 10, 11], [11, 12])])
def match_Graph_neighbours.B5 : List Nat := [0, 0, 2, 0, 0, 16, 56, 120, 0, 256, 768, 2040, 4095, 8191]
theorem match_Graph_neighbours.tab5 : rtab .any (opsOf Try.f42 5) = match_Graph_neighbours.T5 := by kernel_rfl
theorem match_Graph_neighbours.bits5 : waitsOk match_Graph_neighbours.T5.2 match_Graph_neighbours.B5 = true := by kernel_rfl
set_option maxHeartbeats 8000000 in
set_option maxRecDepth 100000 in
theorem match_Graph_neighbours.calls (k : Nat) (a0_0 : Int) (a0_1 : Int) (A0_2 : Option Addr) (c0_2 : Nat) (l0_2 : List (S40)) (r : List (List Int)) (w : World) (hr0_2 : Kd.C k40 w A0_2 l0_2.length l0_2) (hc0_2 : l0_2.length ≤ c0_2) (h : match_Graph_neighbours.f k a0_0 a0_1 l0_2 = some r) :
    Calls Try.prog 42 #[.agg #[.int .i64 a0_0, .int .i64 a0_1, .slice A0_2 l0_2.length c0_2]] w fun e w' => ∃ v0_ : Value, e = .returned (v0_) ∧ Kd.S (Kd.slice 3 (Kd.int .i64)) 29 w' w.heap.size (fun _ => True) v0_ r ∧ Below w.heap.size w w' := by
  have hu33 := Try.underlying33
  have hu40 := Try.underlying40
  have HR0_2 := Aside0.mk hr0_2
  have HC0_2 := Aside0.mk hc0_2
  clear hr0_2 hc0_2
  have HB := Aside0.mk (Below.refl w.heap.size w)
  have H : (if 0 ≤ a0_0 then (if (a0_0 : Int).toNat ≤ 11728124029610 then (match_Graph_neighbours.l0 k (List.replicate (a0_0 : Int).toNat []) l0_2 (l0_2.length : Int) 0) else (none)) else (none)) = some r := h
  clear h
  by_cases c2 : 0 ≤ a0_0
  · rw [if_pos c2] at H
    have c2b0 := eq_true c2
    have c2b1 : decide (0 ≤ a0_0) = true := decide_eq_true c2
    clear c2
    by_cases c3 : (a0_0 : Int).toNat ≤ 11728124029610
    · rw [if_pos c3] at H
      have c3b0 := eq_true c3
      have c3b1 : decide ((a0_0 : Int).toNat ≤ 11728124029610) = true := decide_eq_true c3
      clear c3
      obtain ⟨y151, hy151⟩ : ∃ y_ : List (List Int), y_ = (List.replicate (a0_0 : Int).toNat []) := ⟨_, rfl⟩
      replace H : (match_Graph_neighbours.l0 k y151 l0_2 (l0_2.length : Int) 0) = some r := by first | (rw [hy151]; with_reducible exact H) | (have H2_ := (Option.bind_some _ _).symm.trans H; rw [hy151]; with_reducible exact H2_) | (have H2_ := (Option.bind_some _ _).symm.trans H; with_reducible exact H2_) | with_reducible exact H | (rw [hy151]; exact H) | exact H
      have Ny151 := Aside0.mk hy151
      clear hy151
      have H' := Aside0.mk H
      clear H
      go_enter Try.func42, Try.ntmps42
      go_wp2_with (first | ((with_reducible refine gate_dst (N := 1) rfl ?_); refine box_event ?hg (N := 1) ?hd (cs := #[.int .i64 a0_0, .int .i64 a0_1, .slice A0_2 l0_2.length c0_2]) (t := 33) ?hr ?_; (case hd => rfl); (case hg => rfl); (case hr => first | (go_simp; done) | (go_simp; rfl)); intro gb150 hg w4 hbox hb; have n0_ := Aside0.mk (below_step (by repeat (first | (with_reducible first | exact HB.out | apply below_alloc | apply pw_below_drewN | apply below_drew1) | exact HB.out)) hb); have n1_ := Aside0.mk (hbox); have n2_ := Aside0.mk ((by rw [hg]; exact (below_size (by repeat (first | (with_reducible first | exact HB.out | apply below_alloc | apply pw_below_drewN | apply below_drew1) | exact HB.out))) : w.heap.size ≤ gb150)); have n3_ := Aside0.mk ((by rw [hg]; exact (below_size (by repeat (first | (with_reducible first | exact HB.out | apply below_alloc | apply pw_below_drewN | apply below_drew1) | exact HB.out))) : w.heap.size ≤ gb150)); clear HB; have HB := n0_; have BK150 := n1_; have GW150 := n2_; have GE150 := n3_; clear n0_ n1_ n2_ n3_; clear hb hbox hg; have hcz5_0 : w4.cell? ⟨gb150, 0, none⟩ = some (.int .i64 a0_0) := (blk_cell BK150.out 0).trans rfl; have hcz5_1 : w4.cell? ⟨gb150, 1, none⟩ = some (.int .i64 a0_1) := (blk_cell BK150.out 1).trans rfl; have hcz5_2 : w4.cell? ⟨gb150, 2, none⟩ = some (.slice A0_2 l0_2.length c0_2) := (blk_cell BK150.out 2).trans rfl; have hfz5_0 := blk_frozen BK150.out 0; have hfz5_1 := blk_frozen BK150.out 1; have hfz5_2 := blk_frozen BK150.out 2) | ((with_reducible refine gate_dst (N := 8) rfl ?_); refine Kd.S_make (Kd.slice 3 (Kd.int .i64)) _ 29 rfl (N := 8) rfl 69 _ _ rfl a0_0 rfl rfl Try.underlying69 (.slice none 0 0) 24 info29 rfl (by decide) (by omega) [] (ok := fun _ => True) (okp := fun _ => True) ⟨_, rfl, Kd.R_nil _ _ _ _ _⟩ (fun _ hk => hk) trivial (of_decide_eq_true (by first | (with_reducible assumption) | assumption)) (Nat.le_trans (Nat.mul_le_mul_right _ (of_decide_eq_true (by first | (with_reducible assumption) | assumption) : a0_0.toNat ≤ 11728124029610)) (by omega)) (Below.refl _ _) (Nat.le_refl _) ?_; intro v152 w6 ho7 hb hg_ hnew_; clear hg_ hnew_; (first | rw [← Ny151.out] at ho7 | (simp only [Int.reduceToNat] at ho7; rw [← Ny151.out] at ho7)); have n0_ := Aside0.mk (Kd.S_lower ho7 (below_size (by repeat (first | (with_reducible first | exact HB.out | apply below_alloc | apply pw_below_drewN | apply below_drew1 | refine below_set ?_ GE150.out) | exact HB.out)))); have n1_ := Aside0.mk (blk_below (g := gb150) (o := .cells #[.int .i64 a0_0, .int .i64 a0_1, .slice A0_2 l0_2.length c0_2] 33 (0, 0)) (by (with_reducible repeat (first | refine blk_drewN ?_ _ | refine blk_drew ?_ | refine blk_alloc ?_ _)); exact BK150.out) hb); have n2_ := Aside0.mk (below_step (by repeat (first | (with_reducible first | exact HB.out | apply below_alloc | apply pw_below_drewN | apply below_drew1 | refine below_set ?_ GE150.out) | exact HB.out)) hb); clear BK150; clear HB; have HO153 := n0_; have BK150 := n1_; have HB := n2_; clear n0_ n1_ n2_; clear hb ho7; have hcz8_0 : w6.cell? ⟨gb150, 0, none⟩ = some (.int .i64 a0_0) := (blk_cell BK150.out 0).trans rfl; have hcz8_1 : w6.cell? ⟨gb150, 1, none⟩ = some (.int .i64 a0_1) := (blk_cell BK150.out 1).trans rfl; have hcz8_2 : w6.cell? ⟨gb150, 2, none⟩ = some (.slice A0_2 l0_2.length c0_2) := (blk_cell BK150.out 2).trans rfl; have hfz8_0 := blk_frozen BK150.out 0; have hfz8_1 := blk_frozen BK150.out 1; have hfz8_2 := blk_frozen BK150.out 2))
      go_loopg [12] k (fun kq v12 w' => ∃ (x3_1 : List (List Int)) (x12_1 : Int), v12 = .int .i64 x12_1 ∧ Aside0 (match_Graph_neighbours.l0 kq x3_1 l0_2 (l0_2.length : Int) x12_1 = some r) ∧ Aside0 (kq ≤ k) ∧ Aside0 (Kd.S (Kd.slice 3 (Kd.int .i64)) 29 w' w.heap.size (fun _ => True) v152 x3_1) ∧ Aside0 (w'.heap[gb150]? = some (.cells #[.int .i64 a0_0, .int .i64 a0_1, (.slice A0_2 l0_2.length c0_2)] 33 (0, 0))) ∧ Aside0 (Below w.heap.size w w'))
      case atStart => exact ⟨(y151), (0), (by first | rfl | (simp; done) | (simp [*]; done)), H', ⟨Nat.le_refl _⟩, ⟨by (with_reducible repeat (first | apply Kd.S_alloc | apply Kd.S_drewN | apply Kd.S_drew)); exact HO153.out⟩, ⟨by (with_reducible repeat (first | refine blk_drewN ?_ _ | refine blk_drew ?_ | refine blk_alloc ?_ _)); exact BK150.out⟩, ⟨by repeat (first | (with_reducible first | exact HB.out | apply below_alloc | apply pw_below_drewN | apply below_drew1 | refine below_set ?_ GE150.out) | exact HB.out)⟩⟩
      case round =>
        clear H'
        try clear c2
        try clear c2b0
        try clear c2b1
        try clear p2
        try clear c3
        try clear c3b0
        try clear c3b1
        try clear c4
        try clear hcz5_0
        try clear hcz5_1
        try clear hcz5_2
        try clear hcz8_0
        try clear hcz8_1
        try clear hcz8_2
        try clear hfz5_0
        try clear hfz5_1
        try clear hfz5_2
        try clear hfz8_0
        try clear hfz8_1
        try clear hfz8_2
        obtain ⟨x3_1, x12_1, rfl, HA, HK1, HO_3, BK150, HB⟩ := hrel
        cases gk with
        | zero => exact absurd HA.out (by simp [match_Graph_neighbours.l0])
        | succ k1 =>
          have H := HA.out
          clear HA
          simp only [match_Graph_neighbours.l0] at H
          by_cases c9 : x12_1 < (l0_2.length : Int)
          · rw [if_pos c9] at H
            have c9b0 : decide (x12_1 < (l0_2.length : Int)) = true := decide_eq_true c9
            clear c9
            by_cases c10 : 0 ≤ x12_1
            · rw [if_pos c10] at H
              have c10b0 : decide (0 ≤ x12_1) = true := decide_eq_true c10
              clear c10
              by_cases c11 : x12_1 < (l0_2.length : Int)
              · rw [if_pos c11] at H
                have c11b0 : decide (x12_1 < (l0_2.length : Int)) = true := decide_eq_true c11
                clear c11
                by_cases c12 : 0 ≤ ((rd_T40 l0_2 x12_1).f0)
                · rw [if_pos c12] at H
                  have c12b0 : decide (0 ≤ ((rd_T40 l0_2 x12_1).f0)) = true := decide_eq_true c12
                  clear c12
                  by_cases c13 : ((rd_T40 l0_2 x12_1).f0) < (x3_1.length : Int)
                  · rw [if_pos c13] at H
                    have c13b0 : decide (((rd_T40 l0_2 x12_1).f0) < (x3_1.length : Int)) = true := decide_eq_true c13
                    clear c13
                    by_cases c14 : (rd_L5 x3_1 ((rd_T40 l0_2 x12_1).f0)).length < 17592186044416
                    · rw [if_pos c14] at H
                      have LMc14 := Aside0.mk c14
                      clear c14
                      obtain ⟨y157, hy157⟩ : ∃ y_ : List Int, y_ = ((rd_L5 x3_1 ((rd_T40 l0_2 x12_1).f0)) ++ [(rd_T40 l0_2 x12_1).f1]) := ⟨_, rfl⟩
                      replace H : (match_Graph_neighbours.l0 k1 (x3_1.set (((rd_T40 l0_2 x12_1).f0) : Int).toNat y157) l0_2 (l0_2.length : Int) (wrap64 (x12_1 + 1))) = some r := by first | (rw [hy157]; with_reducible exact H) | (have H2_ := (Option.bind_some _ _).symm.trans H; rw [hy157]; with_reducible exact H2_) | (have H2_ := (Option.bind_some _ _).symm.trans H; with_reducible exact H2_) | with_reducible exact H | (rw [hy157]; exact H) | exact H
                      have Ny157 := Aside0.mk hy157
                      clear hy157
                      obtain ⟨y160, hy160⟩ : ∃ y_ : List (List Int), y_ = (x3_1.set (((rd_T40 l0_2 x12_1).f0) : Int).toNat y157) := ⟨_, rfl⟩
                      replace H : (match_Graph_neighbours.l0 k1 y160 l0_2 (l0_2.length : Int) (wrap64 (x12_1 + 1))) = some r := by first | (rw [hy160]; with_reducible exact H) | (have H2_ := (Option.bind_some _ _).symm.trans H; rw [hy160]; with_reducible exact H2_) | (have H2_ := (Option.bind_some _ _).symm.trans H; with_reducible exact H2_) | with_reducible exact H | (rw [hy160]; exact H) | exact H
                      have Ny160 := Aside0.mk hy160
                      clear hy160
                      have H' := Aside0.mk H
                      clear H
                      have p154 : 0 ≤ (x12_1 : Int) := of_decide_eq_true (by first | (with_reducible assumption) | assumption)
                      have q154 : x12_1 < (l0_2.length : Int) := of_decide_eq_true (by first | (with_reducible assumption) | assumption)
                      obtain ⟨ad154, e154, hx154_0, hx154_1⟩ := at_T40 HR0_2.out x12_1 p154 q154
                      cases e154
                      replace hx154_0 := (HB.out.cell (World.block_lt_of_cell? w _ hx154_0)).trans hx154_0
                      replace hx154_1 := (HB.out.cell (World.block_lt_of_cell? w _ hx154_1)).trans hx154_1
                      replace p154 := eq_true p154
                      replace q154 := eq_true q154
                      try go_wp2_with (first | ((with_reducible refine gate_dst (N := 5) rfl ?_); refine box_event ?hg (N := 5) ?hd (cs := #[.int .i64 0, .int .i64 0]) (t := 40) ?hr ?_; (case hd => rfl); (case hg => rfl); (case hr => first | (go_simp; done) | (go_simp; rfl)); intro gb155 hg w16 hbox hb; have n0_ := Aside0.mk (Kd.S_below (by (with_reducible repeat (first | apply Kd.S_alloc | apply Kd.S_drewN | apply Kd.S_drew)); exact HO_3.out) hb); have n1_ := Aside0.mk (blk_below (g := gb150) (o := .cells #[.int .i64 a0_0, .int .i64 a0_1, .slice (some ad154) l0_2.length c0_2] 33 (0, 0)) (by (with_reducible repeat (first | refine blk_drewN ?_ _ | refine blk_drew ?_ | refine blk_alloc ?_ _)); exact BK150.out) hb); have n2_ := Aside0.mk (below_step (by repeat (first | (with_reducible first | exact HB.out | apply below_alloc | apply pw_below_drewN | apply below_drew1 | refine below_set ?_ GE150.out) | exact HB.out)) hb); have n3_ := Aside0.mk (hbox); have n4_ := Aside0.mk ((by rw [hg]; exact (below_size (by repeat (first | (with_reducible first | exact HB.out | apply below_alloc | apply pw_below_drewN | apply below_drew1 | refine below_set ?_ GE150.out) | exact HB.out))) : w.heap.size ≤ gb155)); have n5_ := Aside0.mk ((by rw [hg]; exact (below_size (by repeat (first | (with_reducible first | exact HB.out | apply below_alloc | apply pw_below_drewN | apply below_drew1 | refine below_set ?_ GE150.out) | exact HB.out))) : w.heap.size ≤ gb155)); have n6_ := Aside0.mk ((by rw [hg]; exact Nat.ne_of_lt (blk_lt (g := gb150) (o := .cells #[.int .i64 a0_0, .int .i64 a0_1, .slice (some ad154) l0_2.length c0_2] 33 (0, 0)) (by (with_reducible repeat (first | refine blk_drewN ?_ _ | refine blk_drew ?_ | refine blk_alloc ?_ _)); exact BK150.out)) : gb150 ≠ gb155)); have n7_ := Aside0.mk ((by rw [hg]; exact Nat.ne_of_gt (blk_lt (g := gb150) (o := .cells #[.int .i64 a0_0, .int .i64 a0_1, .slice (some ad154) l0_2.length c0_2] 33 (0, 0)) (by (with_reducible repeat (first | refine blk_drewN ?_ _ | refine blk_drew ?_ | refine blk_alloc ?_ _)); exact BK150.out)) : gb155 ≠ gb150)); clear HO_3; clear BK150; clear HB; have HO_3 := n0_; have BK150 := n1_; have HB := n2_; have BK155 := n3_; have GW155 := n4_; have GE155 := n5_; have NB150_155 := n6_; have NB155_150 := n7_; clear n0_ n1_ n2_ n3_ n4_ n5_ n6_ n7_; clear hb hbox hg; have hnb17 := NB155_150.out; have hnc17 := NB150_155.out; have hcz18_0 : w16.cell? ⟨gb155, 0, none⟩ = some (.int .i64 0) := (blk_cell BK155.out 0).trans rfl; have hcz18_1 : w16.cell? ⟨gb155, 1, none⟩ = some (.int .i64 0) := (blk_cell BK155.out 1).trans rfl; have hfz18_0 := blk_frozen BK155.out 0; have hfz18_1 := blk_frozen BK155.out 1))
                      have n0_ : Aside0 (Kd.S (Kd.slice 3 (Kd.int .i64)) 29 ((w16.setCell ⟨gb155, 0, none⟩ (.int .i64 ((rd_T40 l0_2 x12_1).f0))).setCell ⟨gb155, 1, none⟩ (.int .i64 ((rd_T40 l0_2 x12_1).f1))) w.heap.size (fun _ => True) v152 x3_1) := ⟨by (with_reducible repeat (first | apply Kd.S_alloc | apply Kd.S_drewN | apply Kd.S_drew)); exact Kd.S_mono (Kd.S_far (p := ⟨gb155, 1, none⟩) (Kd.S_far (p := ⟨gb155, 0, none⟩) (Kd.S_types HO_3.out BK155.out (by decide)) (fun _ hk => hk.2) (.int .i64 ((rd_T40 l0_2 x12_1).f0))) (fun _ hk => hk.2) (.int .i64 ((rd_T40 l0_2 x12_1).f1))) (fun _ hk => trivial)⟩
                      have n1_ : Aside0 (((w16.setCell ⟨gb155, 0, none⟩ (.int .i64 ((rd_T40 l0_2 x12_1).f0))).setCell ⟨gb155, 1, none⟩ (.int .i64 ((rd_T40 l0_2 x12_1).f1))).heap[gb150]? = some (.cells #[.int .i64 a0_0, .int .i64 a0_1, .slice (some ad154) l0_2.length c0_2] 33 (0, 0))) := ⟨by (with_reducible repeat (first | refine blk_drewN ?_ _ | refine blk_drew ?_ | refine blk_alloc ?_ _)); refine blk_far ?_ NB150_155.out _; (with_reducible repeat (first | refine blk_drewN ?_ _ | refine blk_drew ?_ | refine blk_alloc ?_ _)); refine blk_far ?_ NB150_155.out _; (with_reducible repeat (first | refine blk_drewN ?_ _ | refine blk_drew ?_ | refine blk_alloc ?_ _)); exact BK150.out⟩
                      have n2_ : Aside0 (((w16.setCell ⟨gb155, 0, none⟩ (.int .i64 ((rd_T40 l0_2 x12_1).f0))).setCell ⟨gb155, 1, none⟩ (.int .i64 ((rd_T40 l0_2 x12_1).f1))).heap[gb155]? = some (.cells #[.int .i64 ((rd_T40 l0_2 x12_1).f0), .int .i64 ((rd_T40 l0_2 x12_1).f1)] 40 (0, 0))) := ⟨by (with_reducible repeat (first | refine blk_drewN ?_ _ | refine blk_drew ?_ | refine blk_alloc ?_ _)); refine blk_put (cs := #[.int .i64 ((rd_T40 l0_2 x12_1).f0), .int .i64 0]) ?_ 1 _ rfl; (with_reducible repeat (first | refine blk_drewN ?_ _ | refine blk_drew ?_ | refine blk_alloc ?_ _)); refine blk_put (cs := #[.int .i64 0, .int .i64 0]) ?_ 0 _ rfl; (with_reducible repeat (first | refine blk_drewN ?_ _ | refine blk_drew ?_ | refine blk_alloc ?_ _)); exact BK155.out⟩
                      have n3_ : Aside0 (Below w.heap.size w ((w16.setCell ⟨gb155, 0, none⟩ (.int .i64 ((rd_T40 l0_2 x12_1).f0))).setCell ⟨gb155, 1, none⟩ (.int .i64 ((rd_T40 l0_2 x12_1).f1)))) := ⟨by repeat (first | (with_reducible first | exact HB.out | apply below_alloc | apply pw_below_drewN | apply below_drew1 | refine below_set ?_ GE150.out | refine below_set ?_ GE155.out) | exact HB.out)⟩
                      (try clear HO_3)
                      (try clear BK150)
                      (try clear BK155)
                      (try clear HB)
                      generalize ((w16.setCell ⟨gb155, 0, none⟩ (.int .i64 ((rd_T40 l0_2 x12_1).f0))).setCell ⟨gb155, 1, none⟩ (.int .i64 ((rd_T40 l0_2 x12_1).f1))) = w19 at n0_ n1_ n2_ n3_ ⊢
                      have HO_3 := n0_
                      have BK150 := n1_
                      have BK155 := n2_
                      have HB := n3_
                      clear n0_ n1_ n2_ n3_
                      have n0_ := Aside0.mk (Kd.S_drew HO_3.out)
                      have n1_ := Aside0.mk (blk_drew BK150.out)
                      have n2_ := Aside0.mk (blk_drew BK155.out)
                      have n3_ := Aside0.mk (below_drew1 HB.out)
                      clear HO_3
                      clear BK150
                      clear BK155
                      clear HB
                      have HO_3 := n0_
                      have BK150 := n1_
                      have BK155 := n2_
                      have HB := n3_
                      clear n0_ n1_ n2_ n3_
                      obtain ⟨Ao21, co21, eo21⟩ := Kd.S_slice HO_3.out
                      (first | subst eo21 | (injection eo21 with f1_ f2_ f3_; have f4_ := f1_.symm; have f5_ := f3_.symm; clear f1_ f2_ f3_; subst f4_; subst f5_))
                      have p156 : 0 ≤ (((rd_T40 l0_2 x12_1).f0) : Int) := of_decide_eq_true (by first | (with_reducible assumption) | assumption)
                      have q156 : ((rd_T40 l0_2 x12_1).f0) < (x3_1.length : Int) := of_decide_eq_true (by first | (with_reducible assumption) | assumption)
                      obtain ⟨ad156, A156_0, c156_0, e156, hx156_0, hl156_0, hi156_0⟩ := at_L5 (Kd.S_reads' HO_3.out).2.2 ((rd_T40 l0_2 x12_1).f0) p156 q156
                      cases e156
                      obtain ⟨ce156, hce156, hMe156, hcc156⟩ := Kd.S_get HO_3.out [] ((rd_T40 l0_2 x12_1).f0) p156 (by first | exact q156 | exact of_decide_eq_true (by first | (with_reducible assumption) | assumption) | (have e_ := (Kd.S_reads' HO_3.out).1; omega))
                      obtain ⟨ve156_0, rfl, ge156_0⟩ := hMe156
                      have hv156_0 := hcc156 0 _ rfl
                      rw [Nat.add_zero, show ((Kd.slice 3 (Kd.int .i64))).sz = 1 from rfl, Nat.mul_one] at hv156_0
                      replace hv156_0 := Option.some.inj (hv156_0.symm.trans hx156_0)
                      rw [hv156_0] at ge156_0
                      have HL156_0 := Aside0.mk (show Kd.R (Kd.int .i64) 3 _ _ _ _ (rd_L5 x3_1 ((rd_T40 l0_2 x12_1).f0)) from ge156_0)
                      clear hv156_0 ge156_0
                      have HX156_0 := Aside0.mk hx156_0
                      clear hcc156 hce156
                      have HR156_0 := Aside0.mk hi156_0
                      have HC156_0 := Aside0.mk hl156_0
                      clear hi156_0 hl156_0
                      replace p156 := eq_true p156
                      replace q156 := eq_true q156
                      obtain ⟨go22, co22, eo22, gb22, gl22, cl22, HG22⟩ := Kd.S_form HO_3.out (by have h_ : (((rd_T40 l0_2 x12_1).f0) : Int) < ((x3_1.length : Int) : Int) := of_decide_eq_true (by first | (with_reducible assumption) | assumption); have h2_ : 0 ≤ (((rd_T40 l0_2 x12_1).f0) : Int) := (of_decide_eq_true (by first | (with_reducible assumption) | assumption)); omega)
                      (first | cases eo22 | (injection eo22 with ea_ en_ ec_; (first | subst ea_ | (injection ea_ with ea_; subst ea_)); subst ec_; clear en_))
                      have GB22 := Aside0.mk gb22
                      have GG22 := Aside0.mk HG22
                      clear gb22 gl22 HG22
                      (first | simp only [add_plain] at hx156_0 | skip)
                      obtain ⟨oki22, ce22, hcl22, hM22, hcc22, _, _, hH22⟩ := Kd.S_elem HO_3.out [] (((rd_T40 l0_2 x12_1).f0) : Int) (of_decide_eq_true (by first | (with_reducible assumption) | assumption)) (by have h_ : (((rd_T40 l0_2 x12_1).f0) : Int) < ((x3_1.length : Int) : Int) := of_decide_eq_true (by first | (with_reducible assumption) | assumption); first | exact h_ | (have e_ := (Kd.S_reads' HO_3.out).1; omega) | simpa using h_)
                      obtain ⟨ve22_0, rfl, ge22_0⟩ := hM22
                      have hv22 := hcc22 0 _ rfl
                      have hX22 := HX156_0.out
                      (try simp only [add_plain] at hX22)
                      (try simp only [Nat.add_zero] at hv22)
                      (try rw [show ((Kd.slice 3 (Kd.int .i64))).sz = 1 from rfl, Nat.mul_one] at hv22)
                      replace hv22 := Option.some.inj (hv22.symm.trans hX22)
                      subst hv22
                      clear hX22 hcc22 hcl22
                      have UU22 := Aside0.mk (show Kd.R (Kd.int .i64) 3 _ w.heap.size oki22 (.slice A156_0 (rd_L5 x3_1 ((rd_T40 l0_2 x12_1).f0)).length c156_0) (rd_L5 x3_1 ((rd_T40 l0_2 x12_1).f0)) from ge22_0)
                      have HH22 := Aside0.mk hH22
                      have HN22 := Aside0.mk (Kd.S_reads' HO_3.out).1
                      clear hH22 ge22_0
                      refine start_ (n := 14) (S := fun w' => w'.cell? ⟨gb155, 0, none⟩ = some (.int .i64 ((rd_T40 l0_2 x12_1).f0)) ∧ w'.cell? ⟨gb155, 1, none⟩ = some (.int .i64 ((rd_T40 l0_2 x12_1).f1)) ∧ w'.cell? ⟨go22, (((rd_T40 l0_2 x12_1).f0)).toNat, none⟩ = some (.slice A156_0 (rd_L5 x3_1 ((rd_T40 l0_2 x12_1).f0)).length c156_0)) (ds := [13]) #[false, false, false, false, false, false, false, false, false, false, false, false, false, false] (by kernel_rfl) rfl rfl ⟨(blk_cell BK155.out 0).trans rfl, (blk_cell BK155.out 1).trans rfl, hx156_0⟩ (fun hHeld => ?_); refine with_tabW match_Graph_neighbours.tab5 match_Graph_neighbours.bits5 (fun HT_ HW_ => ?_)
                      generalize w19.drew = w20 at HO_3 BK150 BK155 HB GG22 HH22 HL156_0 HR156_0 HX156_0 UU22 hx156_0 hHeld ⊢
                      refine pure_ (i := 0) (N := some 16) (v := ?_) (a' := ?_) #[true, false, false, false, false, false, false, false, false, false, false, false, false, false] rfl rfl (any_of HT_.out (by kernel_rfl)) (fun _ _ _ h => h) (Or.inl ⟨by rfl, ?_⟩) ?_ ?_
                      rotate_left
                      · intro w'
                        go_simp
                        with_reducible rfl
                      rotate_left
                      · simp only [Act.put, List.setIfInBounds_toArray, List.set_cons_zero, List.set_cons_succ, i64_w, i32_w]
                        rfl
                      refine pure_ (i := 1) (N := some 17) (v := ?_) (a' := ?_) #[true, true, false, false, false, false, false, false, false, false, false, false, false, false] rfl rfl (any_of HT_.out (by kernel_rfl)) (fun _ _ _ h => h) (Or.inl ⟨by rfl, ?_⟩) ?_ ?_
                      rotate_left
                      · intro w'
                        go_simp
                        with_reducible rfl
                      rotate_left
                      · simp only [Act.put, List.setIfInBounds_toArray, List.set_cons_zero, List.set_cons_succ, i64_w, i32_w]
                        rfl
                      refine pure_ (i := 3) (N := some 19) (v := ?_) (a' := ?_) #[true, true, false, true, false, false, false, false, false, false, false, false, false, false] rfl rfl (any_of HT_.out (by kernel_rfl)) (fun _ _ _ h => h) (Or.inl ⟨by rfl, ?_⟩) ?_ ?_
                      rotate_left
                      · intro w'
                        go_simp
                        with_reducible rfl
                      rotate_left
                      · simp only [Act.put, List.setIfInBounds_toArray, List.set_cons_zero, List.set_cons_succ, i64_w, i32_w]
                        rfl
                      refine pure_ (i := 4) (N := some 20) (v := ?_) (a' := ?_) #[true, true, false, true, true, false, false, false, false, false, false, false, false, false] rfl rfl (any_of HT_.out (by kernel_rfl)) (fun _ _ _ h => h) (Or.inl ⟨by rfl, ?_⟩) ?_ ?_
                      rotate_left
                      · intro w'
                        go_simp
                        with_reducible rfl
                      rotate_left
                      · simp only [Act.put, List.setIfInBounds_toArray, List.set_cons_zero, List.set_cons_succ, i64_w, i32_w]
                        rfl
                      refine pure_ (i := 8) (N := some 24) (v := ?_) (a' := ?_) #[true, true, false, true, true, false, false, false, true, false, false, false, false, false] rfl rfl (any_of HT_.out (by kernel_rfl)) (fun _ _ _ h => h) (Or.inl ⟨by rfl, ?_⟩) ?_ ?_
                      rotate_left
                      · intro w'
                        go_simp
                        with_reducible rfl
                      rotate_left
                      · simp only [Act.put, List.setIfInBounds_toArray, List.set_cons_zero, List.set_cons_succ, i64_w, i32_w]
                        rfl
                      refine take_ (i := 2) (N := some 18) (v := ?_) (a' := ?_) #[true, true, true, true, true, false, false, false, true, false, false, false, false, false] rfl rfl (take_ofW HT_.out HW_.out (by kernel_rfl)) (fun _ _ _ h => h) (Or.inl ⟨by rfl, ?_⟩) hHeld ?_ ?_
                      rotate_left
                      · rintro w' ⟨s0, s1, s2⟩
                        go_simp
                        with_reducible rfl
                      rotate_left
                      · simp only [Act.put, List.setIfInBounds_toArray, List.set_cons_zero, List.set_cons_succ, i64_w, i32_w]
                        rfl
                      refine take_ (i := 5) (N := some 21) (v := ?_) (a' := ?_) #[true, true, true, true, true, true, false, false, true, false, false, false, false, false] rfl rfl (take_ofW HT_.out HW_.out (by kernel_rfl)) (fun _ _ _ h => h) (Or.inl ⟨by rfl, ?_⟩) hHeld ?_ ?_
                      rotate_left
                      · rintro w' ⟨s0, s1, s2⟩
                        go_simp
                        with_reducible rfl
                      rotate_left
                      · simp only [Act.put, List.setIfInBounds_toArray, List.set_cons_zero, List.set_cons_succ, i64_w, i32_w]
                        rfl
                      refine pure_ (i := 6) (N := some 22) (v := ?_) (a' := ?_) #[true, true, true, true, true, true, true, false, true, false, false, false, false, false] rfl rfl (any_of HT_.out (by kernel_rfl)) (fun _ _ _ h => h) (Or.inl ⟨by rfl, ?_⟩) ?_ ?_
                      rotate_left
                      · intro w'
                        go_simp
                        with_reducible rfl
                      rotate_left
                      · simp only [Act.put, List.setIfInBounds_toArray, List.set_cons_zero, List.set_cons_succ, i64_w, i32_w]
                        rfl
                      refine take_ (i := 7) (N := some 23) (v := ?_) (a' := ?_) #[true, true, true, true, true, true, true, true, true, false, false, false, false, false] rfl rfl (take_ofW HT_.out HW_.out (by kernel_rfl)) (fun _ _ _ h => h) (Or.inl ⟨by rfl, ?_⟩) hHeld ?_ ?_
                      rotate_left
                      · rintro w' ⟨s0, s1, s2⟩
                        go_simp
                        with_reducible rfl
                      rotate_left
                      · simp only [Act.put, List.setIfInBounds_toArray, List.set_cons_zero, List.set_cons_succ, i64_w, i32_w]
                        rfl
                      refine take_ (i := 9) (N := some 25) (v := ?_) (a' := ?_) #[true, true, true, true, true, true, true, true, true, true, false, false, false, false] rfl rfl (take_ofW HT_.out HW_.out (by kernel_rfl)) (fun _ _ _ h => h) (Or.inl ⟨by rfl, ?_⟩) hHeld ?_ ?_
                      rotate_left
                      · rintro w' ⟨s0, s1, s2⟩
                        go_simp
                        with_reducible rfl
                      rotate_left
                      · simp only [Act.put, List.setIfInBounds_toArray, List.set_cons_zero, List.set_cons_succ, i64_w, i32_w]
                        rfl
                      refine one_ (i := 10) (N := some 26) #[true, true, true, true, true, true, true, true, true, true, true, false, false, false] rfl rfl (one_of HT_.out (by kernel_rfl)) (by decide) (fun K hK => ?_)
                      refine value_ (w1 := ?_) (v := ?_) (by rfl) rfl ?_ ?_
                      rotate_left 2
                      · go_simp
                        constructor
                        · rfl
                        · rfl
                      refine hK.out _ _ ⟨(blk_cell (blk_alloc BK155.out _) 0).trans rfl, (blk_cell (blk_alloc BK155.out _) 1).trans rfl, (World.cell?_alloc_lt _ _ _ (World.block_lt_of_cell? _ _ (hHeld.2.2))).trans (hHeld.2.2)⟩ (fun hHeld => ?_)
                      clear hK K
                      refine norm_ (a' := ?_) ?_ ?_
                      rotate_left
                      · show Act.put _ (some 26) _ = _
                        simp only [Act.put, List.setIfInBounds_toArray, List.set_cons_zero, List.set_cons_succ, i64_w, i32_w]
                        rfl
                      refine one_ (i := 11) (N := some 27) #[true, true, true, true, true, true, true, true, true, true, true, true, false, false] rfl rfl (one_of HT_.out (by kernel_rfl)) (by decide) (fun K hK => ?_)
                      refine Kd.R_append_step (Kd.int .i64) (w0 := w) w.heap.size (by rfl) (.tmp 23) (.tmp 26) 29 3 (.int .i64 0) 8 rfl Try.underlying29 info3 rfl (by decide) (by omega) (.slice A156_0 (rd_L5 x3_1 ((rd_T40 l0_2 x12_1).f0)).length c156_0) (rd_L5 x3_1 ((rd_T40 l0_2 x12_1).f0)) ((rd_T40 l0_2 x12_1).f1) [.int .i64 ((rd_T40 l0_2 x12_1).f1)] (fun k_ => oki22 k_ ∨ ((fun _ => True)) k_ ∧ w20.heap.size ≤ k_) (fun _ => False) rfl rfl ?aP (fun _ hk => hk.elim) ?aF ?aO ?aB ?aS ?aL ?_
                      (case aP => exact rfl)
                      (case aB => exact (by repeat (first | (with_reducible first | exact HB.out | apply below_alloc | apply pw_below_drewN | apply below_drew1 | refine below_set ?_ GE150.out | refine below_set ?_ GE155.out) | exact HB.out)))
                      (case aF => exact (fun k_ hk => .inr ⟨trivial, hk⟩))
                      (case aO => exact (by (with_reducible repeat (first | apply Kd.R_alloc | apply Kd.R_drewN | apply Kd.R_drew)); exact Kd.R_mono UU22.out (fun _ hk => .inl hk)))
                      (case aS => exact (below_size (by repeat (first | (with_reducible first | exact HB.out | apply below_alloc | apply pw_below_drewN | apply below_drew1 | refine below_set ?_ GE150.out | refine below_set ?_ GE155.out) | exact HB.out))))
                      (case aL => have := LMc14.out; omega)
                      intro v158 w23 ho hb hg hat
                      (first | have HS2_ := cell_grown hg (hHeld.2.2) (by first | (rw [add_block]; exact (fun e_ => ((HL156_0.out.1 _ e_.symm).2) rfl)) | (show some (Addr.add _ _).block ≠ _; rw [add_block]; exact (fun e_ => ((HL156_0.out.1 _ e_.symm).2) rfl)) | exact (fun e_ => ((HL156_0.out.1 _ e_.symm).2) rfl)) | have HS2_ := cell_grown hg (cell_unalloc (hHeld.2.2) (by first | (rw [add_block]; exact Kd.S_lt HO_3.out _ rfl) | (show (Addr.add _ _).block < _; rw [add_block]; exact Kd.S_lt HO_3.out _ rfl) | exact Kd.S_lt HO_3.out _ rfl)) (by first | (rw [add_block]; exact (fun e_ => ((HL156_0.out.1 _ e_.symm).2) rfl)) | (show some (Addr.add _ _).block ≠ _; rw [add_block]; exact (fun e_ => ((HL156_0.out.1 _ e_.symm).2) rfl)) | exact (fun e_ => ((HL156_0.out.1 _ e_.symm).2) rfl)))
                      rw [← Ny157.out] at ho
                      have n0_ := Aside0.mk (blk_grown (g := gb150) (o := .cells #[.int .i64 a0_0, .int .i64 a0_1, .slice (some ad154) l0_2.length c0_2] 33 (0, 0)) (by (with_reducible repeat (first | refine blk_drewN ?_ _ | refine blk_drew ?_ | refine blk_alloc ?_ _)); exact BK150.out) hg (Kd.R_ne HL156_0.out BK150.out (by decide)))
                      have n1_ := Aside0.mk (blk_grown (g := gb155) (o := .cells #[.int .i64 ((rd_T40 l0_2 x12_1).f0), .int .i64 ((rd_T40 l0_2 x12_1).f1)] 40 (0, 0)) (by (with_reducible repeat (first | refine blk_drewN ?_ _ | refine blk_drew ?_ | refine blk_alloc ?_ _)); exact BK155.out) hg (Kd.R_ne HL156_0.out BK155.out (by decide)))
                      have n2_ := Aside0.mk (hb)
                      have n3_ := Aside0.mk (Kd.H_grown (Kd.H_widen (by repeat (first | exact HH22.out | refine Kd.H_alloc ?_ _ | refine Kd.H_drewN ?_ _ | refine Kd.H_drew ?_))) hg (fun k_ e_ => .inl (UU22.out.1 k_ e_)))
                      have n4_ := Aside0.mk (ho)
                      clear BK150
                      clear BK155
                      clear HB
                      clear HH22
                      clear HO_3
                      clear UU22
                      clear HL156_0
                      have BK150 := n0_
                      have BK155 := n1_
                      have HB := n2_
                      have HH22 := n3_
                      have HO159 := n4_
                      clear n0_ n1_ n2_ n3_ n4_
                      clear ho hb hg hat
                      have p15 : 0 ≤ (((rd_T40 l0_2 x12_1).f0) : Int) := of_decide_eq_true (by first | (with_reducible assumption) | assumption)
                      have q15 : (((rd_T40 l0_2 x12_1).f0) : Int) < ((x3_1.length : Int) : Int) := of_decide_eq_true (by first | (with_reducible assumption) | assumption)
                      replace p15 := eq_true p15
                      replace q15 := eq_true q15
                      obtain ⟨Ao26, co26, eo26⟩ := Kd.R_slice HO159.out
                      (first | subst eo26 | (injection eo26 with f1_ f2_ f3_; have f4_ := f1_.symm; have f5_ := f3_.symm; clear f1_ f2_ f3_; subst f4_; subst f5_))
                      obtain ⟨_, _, hraw24, _, _, hcc24, _⟩ := Kd.H_raw HH22.out (of_decide_eq_true (by first | (with_reducible assumption) | assumption)) (by have h_ : (((rd_T40 l0_2 x12_1).f0) : Int) < ((x3_1.length : Int) : Int) := of_decide_eq_true (by first | (with_reducible assumption) | assumption); first | exact h_ | (have e_ := (HN22.out); omega) | simpa using h_)
                      obtain ⟨_, hfr24⟩ := Kd.H_at HH22.out (of_decide_eq_true (by first | (with_reducible assumption) | assumption)) (by have h_ : (((rd_T40 l0_2 x12_1).f0) : Int) < ((x3_1.length : Int) : Int) := of_decide_eq_true (by first | (with_reducible assumption) | assumption); first | exact h_ | (have e_ := (HN22.out); omega) | simpa using h_)
                      have hx24_0 := hcc24 0 _ rfl
                      have hf24_0 := hfr24 0
                      (try simp only [Nat.add_zero] at hx24_0 hf24_0)
                      (try rw [show ((Kd.slice 3 (Kd.int .i64))).sz = 1 from rfl, Nat.mul_one] at hx24_0)
                      (try rw [show ((Kd.slice 3 (Kd.int .i64))).sz = 1 from rfl, Nat.mul_one] at hf24_0)
                      have HP24 := Kd.S_seg0 HH22.out (of_decide_eq_true (by first | (with_reducible assumption) | assumption)) (by have h_ : (((rd_T40 l0_2 x12_1).f0) : Int) < ((x3_1.length : Int) : Int) := of_decide_eq_true (by first | (with_reducible assumption) | assumption); first | exact h_ | (have e_ := (HN22.out); omega) | simpa using h_) (seg := [.slice Ao26 y157.length co26]) (j := 0) (show 1 ≤ 1 from by decide) (x' := y157) (Kd.M_row HO159.out) (fun _ hk => hk)
                      (try simp only [show ((Kd.slice 3 (Kd.int .i64))).sz = 1 from rfl, Nat.mul_one, Nat.add_zero] at HP24)
                      clear hcc24 hfr24
                      have HNB150_go22 := Aside0.mk (show gb150 ≠ go22 from by have h_ := Kd.R_ne hraw24 BK150.out (by decide); intro e_; exact h_ (by rw [e_]; rfl))
                      have HNB155_go22 := Aside0.mk (show gb155 ≠ go22 from by have h_ := Kd.R_ne hraw24 BK155.out (by decide); intro e_; exact h_ (by rw [e_]; rfl))
                      have HS24 := HP24.1
                      rw [← Ny160.out] at HS24
                      have HQ24 := Aside0.mk HS24
                      obtain ⟨_, hgg24⟩ := Kd.R_typed hraw24 go22 rfl
                      have GG24_ := Aside0.mk hgg24
                      clear HP24 HS24 hgg24
                      refine hK.out _ _ ⟨(blk_cell BK155.out 0).trans rfl, (blk_cell BK155.out 1).trans rfl, HS2_⟩ (fun hHeld => ?_)
                      clear hK K
                      refine norm_ (a' := ?_) ?_ ?_
                      rotate_left
                      · show Act.put _ (some 27) _ = _
                        simp only [Act.put, List.setIfInBounds_toArray, List.set_cons_zero, List.set_cons_succ, i64_w, i32_w]
                        rfl
                      refine pure_ (i := 12) (N := some 28) (v := ?_) (a' := ?_) #[true, true, true, true, true, true, true, true, true, true, true, true, true, false] rfl rfl (any_of HT_.out (by kernel_rfl)) (fun _ _ _ h => h) (Or.inl ⟨by rfl, ?_⟩) ?_ ?_
                      rotate_left
                      · intro w'
                        go_simp
                        with_reducible rfl
                      rotate_left
                      · simp only [Act.put, List.setIfInBounds_toArray, List.set_cons_zero, List.set_cons_succ, i64_w, i32_w]
                        rfl
                      refine last_ (i := 13) (N := none) #[true, true, true, true, true, true, true, true, true, true, true, true, true, true] rfl rfl (one_of HT_.out (by kernel_rfl)) (by decide) (fun K hK => ?_)
                      refine skip_ (w1 := ?_) (by rfl) rfl ?_ ?_
                      rotate_left
                      · go_simp
                        rfl
                      refine hK.out _ _ ?_
                      clear hK K
                      refine done_ (done_of HT_.out (by kernel_rfl)) ?_
                      try go_wp2
                      go_roundg k1
                      case measure => have := HK1.out; omega
                      case rel => exact ⟨(y160), (wrap64 (x12_1 + 1)), (by first | rfl | (simp; done) | (simp [*]; done)), H', ⟨by have := HK1.out; omega⟩, ⟨by (with_reducible repeat (first | apply Kd.S_alloc | apply Kd.S_drewN | apply Kd.S_drew)); exact HQ24.out⟩, ⟨by (with_reducible repeat (first | refine blk_drewN ?_ _ | refine blk_drew ?_ | refine blk_alloc ?_ _)); refine blk_far ?_ HNB150_go22.out _; (with_reducible repeat (first | refine blk_drewN ?_ _ | refine blk_drew ?_ | refine blk_alloc ?_ _)); exact BK150.out⟩, ⟨by repeat (first | (with_reducible first | exact HB.out | apply below_alloc | apply pw_below_drewN | apply below_drew1 | refine below_set ?_ GB22.out | refine below_set ?_ GE150.out | refine below_set ?_ GE155.out) | exact HB.out)⟩⟩
                    · rw [if_neg c14] at H
                      exact absurd H (by simp)
                  · rw [if_neg c13] at H
                    exact absurd H (by simp)
                · rw [if_neg c12] at H
                  exact absurd H (by simp)
              · rw [if_neg c11] at H
                exact absurd H (by simp)
            · rw [if_neg c10] at H
              exact absurd H (by simp)
          · rw [if_neg c9] at H
            have c9b0 : decide (x12_1 < (l0_2.length : Int)) = false := decide_eq_false c9
            clear c9
            obtain rfl := Option.some.inj H
            go_wp2
            go_ret
            exact ⟨_, by first | rfl | (simp [errW_none, errW_some] <;> rfl) | (simp [*, errW_none, errW_some] <;> rfl), by (with_reducible repeat (first | apply Kd.S_alloc | apply Kd.S_drewN | apply Kd.S_drew)); exact HO_3.out, by repeat (first | (with_reducible first | exact HB.out | apply below_alloc | apply pw_below_drewN | apply below_drew1 | refine below_set ?_ GE150.out) | exact HB.out)⟩
    · rw [if_neg c3] at H
      exact absurd H (by simp)
  · rw [if_neg c2] at H
    exact absurd H (by simp)
def pairing_Chosen.l0 : Nat → Bool → List Int → List Bool → Int → Int → Option (List Int)
  | 0, _, _, _, _, _ => none
  | k + 1, x1, x5, x8, x9, x10 => if x10 < x9 then (if 0 ≤ x10 then (if x10 < (x8.length : Int) then (if ((rdOf false x8 x10) == x1) = true then (if x5.length < 17592186044416 then (pairing_Chosen.l0 k x1 (x5 ++ [x10]) x8 x9 (wrap64 (x10 + 1))) else (none)) else (pairing_Chosen.l0 k x1 x5 x8 x9 (wrap64 (x10 + 1)))) else (none)) else (none)) else (some x5)
def pairing_Chosen.f (k : Nat) (l0 : List Bool) (a1 : Bool) : Option (List Int) := pairing_Chosen.l0 k a1 ([] : List Int) l0 (l0.length : Int) 0
theorem pairing_Chosen.mono_l : ∀ k, (∀ y0 y1 y2 y3 y4, LeO (pairing_Chosen.l0 k y0 y1 y2 y3 y4) (pairing_Chosen.l0 (k + 1) y0 y1 y2 y3 y4))
  | 0 => fun _ _ _ _ _ r h => by simp [pairing_Chosen.l0] at h
  | k + 1 => by
    have ih0 := pairing_Chosen.mono_l k
    · intro y0 y1 y2 y3 y4
      unfold pairing_Chosen.l0
      repeat' first
      | (with_reducible exact ih0 _ _ _ _ _)
      | (with_reducible exact LeO.refl _)
      | (with_reducible exact LeO.none _)
      | (with_reducible refine LeO.ite ?_ ?_)
      | (with_reducible refine LeO.bind ?_ (fun _ => ?_))
      | exact ih0 _ _ _ _ _
      | exact LeO.none _
      | refine LeO.ite ?_ ?_
      | refine LeO.bind ?_ (fun _ => ?_)
theorem pairing_Chosen.mono : ∀ a0 a1 k, LeO (pairing_Chosen.f k a0 a1) (pairing_Chosen.f (k + 1) a0 a1) := by
  intro a0 a1 k
  have ih0 := pairing_Chosen.mono_l k
  unfold pairing_Chosen.f
  repeat' first
      | (with_reducible exact ih0 _ _ _ _ _)
      | (with_reducible exact LeO.refl _)
      | (with_reducible exact LeO.none _)
      | (with_reducible refine LeO.ite ?_ ?_)
      | (with_reducible refine LeO.bind ?_ (fun _ => ?_))
      | exact ih0 _ _ _ _ _
      | exact LeO.none _
      | refine LeO.ite ?_ ?_
      | refine LeO.bind ?_ (fun _ => ?_)
set_option maxHeartbeats 8000000 in
set_option maxRecDepth 100000 in
theorem pairing_Chosen.calls (k : Nat) (A0 : Option Addr) (c0 : Nat) (l0 : List Bool) (a1 : Bool) (r : List Int) (w : World) (hr0 : Kd.C Kd.bool w A0 l0.length l0) (hc0 : l0.length ≤ c0) (h : pairing_Chosen.f k l0 a1 = some r) :
    Calls Try.prog 43 #[.slice A0 l0.length c0, .bool a1] w fun e w' => ∃ v0_ : Value, e = .returned (v0_) ∧ Kd.R (Kd.int .i64) 3 w' w.heap.size (fun _ => True) v0_ r ∧ Below w.heap.size w w' := by
  have HR0 := Aside0.mk hr0
  have HC0 := Aside0.mk hc0
  clear hr0 hc0
  have HB := Aside0.mk (Below.refl w.heap.size w)
  have H : (pairing_Chosen.l0 k a1 ([] : List Int) l0 (l0.length : Int) 0) = some r := h
  clear h
  have H' := Aside0.mk H
  clear H
  go_enter Try.func43, Try.ntmps43
  go_wp2
  go_loopg [5, 10] k (fun kq v5 v10 w' => ∃ (x5_1 : List Int) (x10_1 : Int), v10 = .int .i64 x10_1 ∧ Aside0 (pairing_Chosen.l0 kq a1 x5_1 l0 (l0.length : Int) x10_1 = some r) ∧ Aside0 (kq ≤ k) ∧ Aside0 (Kd.R (Kd.int .i64) 3 w' w.heap.size (fun _ => True) v5 x5_1) ∧ Aside0 (Below w.heap.size w w'))
  case atStart => exact ⟨(([] : List Int)), (0), (by first | rfl | (simp; done) | (simp [*]; done)), H', ⟨Nat.le_refl _⟩, ⟨by first | exact Kd.R_nil _ _ _ _ _ | exact Kd.N_nil _ _ _ _ _ | exact Kd.V_nil _ _ _ _ _ | exact Kd.Q_nil _ _ _ _ _ | exact Kd.S_nil _ _ _ _ _⟩, ⟨by repeat (first | (with_reducible first | exact HB.out | apply below_alloc | apply pw_below_drewN | apply below_drew1) | exact HB.out)⟩⟩
  case round =>
    clear H'
    try clear p2
    obtain ⟨x5_1, x10_1, rfl, HA, HK1, HO_5, HB⟩ := hrel
    cases gk with
    | zero => exact absurd HA.out (by simp [pairing_Chosen.l0])
    | succ k1 =>
      have H := HA.out
      clear HA
      simp only [pairing_Chosen.l0] at H
      by_cases c3 : x10_1 < (l0.length : Int)
      · rw [if_pos c3] at H
        have c3b0 : decide (x10_1 < (l0.length : Int)) = true := decide_eq_true c3
        clear c3
        by_cases c4 : 0 ≤ x10_1
        · rw [if_pos c4] at H
          have c4b0 : decide (0 ≤ x10_1) = true := decide_eq_true c4
          clear c4
          by_cases c5 : x10_1 < (l0.length : Int)
          · rw [if_pos c5] at H
            have c5b0 : decide (x10_1 < (l0.length : Int)) = true := decide_eq_true c5
            clear c5
            by_cases c6 : ((rdOf false l0 x10_1) == a1) = true
            · rw [if_pos c6] at H
              have c6b0 : ((rdOf false l0 x10_1) == a1) = true := c6
              (try (have c6b1 : decide ((rdOf false l0 x10_1) = a1) = true := by simpa using c6))
              (try (have c6b2 : ((rdOf false l0 x10_1) == a1) = true := by simpa using c6))
              clear c6
              by_cases c7 : x5_1.length < 17592186044416
              · rw [if_pos c7] at H
                have LMc7 := Aside0.mk c7
                clear c7
                obtain ⟨y162, hy162⟩ : ∃ y_ : List Int, y_ = (x5_1 ++ [x10_1]) := ⟨_, rfl⟩
                replace H : (pairing_Chosen.l0 k1 a1 y162 l0 (l0.length : Int) (wrap64 (x10_1 + 1))) = some r := by first | (rw [hy162]; with_reducible exact H) | (have H2_ := (Option.bind_some _ _).symm.trans H; rw [hy162]; with_reducible exact H2_) | (have H2_ := (Option.bind_some _ _).symm.trans H; with_reducible exact H2_) | with_reducible exact H | (rw [hy162]; exact H) | exact H
                have Ny162 := Aside0.mk hy162
                clear hy162
                have H' := Aside0.mk H
                clear H
                have p161 : 0 ≤ (x10_1 : Int) := of_decide_eq_true (by first | (with_reducible assumption) | assumption)
                have q161 : x10_1 < (l0.length : Int) := of_decide_eq_true (by first | (with_reducible assumption) | assumption)
                obtain ⟨ad161, e161, hx161_0⟩ := Kd.at_bool HR0.out x10_1 p161 q161
                cases e161
                replace hx161_0 := (HB.out.cell (World.block_lt_of_cell? w _ hx161_0)).trans hx161_0
                replace p161 := eq_true p161
                replace q161 := eq_true q161
                go_wp2_with (first | ((with_reducible refine gate_builtin (b := .append) (xs := #[.tmp 18, .tmp 20]) rfl ?_); at_builtin; refine Kd.R_append (Kd.int .i64) (w0 := w) w.heap.size rfl (.tmp 18) (.tmp 20) 29 3 (.int .i64 0) 8 rfl Try.underlying29 info3 rfl (by decide) (by omega) u5 x5_1 x10_1 [.int .i64 x10_1] (fun _ => True) (fun _ => False) rfl rfl ?aP (fun _ hk => hk.elim) ?aF ?aO ?aB ?aS ?aL ?_; (case aP => exact rfl); (case aB => exact (by repeat (first | (with_reducible first | exact HB.out | apply below_alloc | apply pw_below_drewN | apply below_drew1) | exact HB.out))); (case aF => exact (fun _ _ => trivial)); (case aO => exact (by (with_reducible repeat (first | apply Kd.R_alloc | apply Kd.R_drewN | apply Kd.R_drew)); exact HO_5.out)); (case aS => exact (below_size (by repeat (first | (with_reducible first | exact HB.out | apply below_alloc | apply pw_below_drewN | apply below_drew1) | exact HB.out)))); (case aL => have := LMc7.out; omega); intro v163 w8 ho hb hg hat; rw [← Ny162.out] at ho; have n0_ := Aside0.mk (hb); have n1_ := Aside0.mk (ho); clear HB; clear HO_5; have HB := n0_; have HO164 := n1_; clear n0_ n1_; clear ho hb hg hat))
                go_roundg k1
                case measure => have := HK1.out; omega
                case rel => exact ⟨(y162), (wrap64 (x10_1 + 1)), (by first | rfl | (simp; done) | (simp [*]; done)), H', ⟨by have := HK1.out; omega⟩, ⟨by (with_reducible repeat (first | apply Kd.R_alloc | apply Kd.R_drewN | apply Kd.R_drew)); exact HO164.out⟩, ⟨by repeat (first | (with_reducible first | exact HB.out | apply below_alloc | apply pw_below_drewN | apply below_drew1) | exact HB.out)⟩⟩
              · rw [if_neg c7] at H
                exact absurd H (by simp)
            · rw [if_neg c6] at H
              have c6b0 : ((rdOf false l0 x10_1) == a1) = false := by simpa using c6
              (try (have c6b1 : decide ((rdOf false l0 x10_1) = a1) = false := by simpa using c6))
              (try (have c6b2 : ((rdOf false l0 x10_1) == a1) = false := by simpa using c6))
              (try (have c6b3 : ¬ ((rdOf false l0 x10_1) = a1) := by simpa using c6))
              clear c6
              have H' := Aside0.mk H
              clear H
              have p161 : 0 ≤ (x10_1 : Int) := of_decide_eq_true (by first | (with_reducible assumption) | assumption)
              have q161 : x10_1 < (l0.length : Int) := of_decide_eq_true (by first | (with_reducible assumption) | assumption)
              obtain ⟨ad161, e161, hx161_0⟩ := Kd.at_bool HR0.out x10_1 p161 q161
              cases e161
              replace hx161_0 := (HB.out.cell (World.block_lt_of_cell? w _ hx161_0)).trans hx161_0
              replace p161 := eq_true p161
              replace q161 := eq_true q161
              go_wp2
              go_roundg k1
              case measure => have := HK1.out; omega
              case rel => exact ⟨(x5_1), (wrap64 (x10_1 + 1)), (by first | rfl | (simp; done) | (simp [*]; done)), H', ⟨by have := HK1.out; omega⟩, ⟨by (with_reducible repeat (first | apply Kd.R_alloc | apply Kd.R_drewN | apply Kd.R_drew)); exact HO_5.out⟩, ⟨by repeat (first | (with_reducible first | exact HB.out | apply below_alloc | apply pw_below_drewN | apply below_drew1) | exact HB.out)⟩⟩
          · rw [if_neg c5] at H
            exact absurd H (by simp)
        · rw [if_neg c4] at H
          exact absurd H (by simp)
      · rw [if_neg c3] at H
        have c3b0 : decide (x10_1 < (l0.length : Int)) = false := decide_eq_false c3
        clear c3
        obtain rfl := Option.some.inj H
        go_wp2
        go_ret
        exact ⟨_, by first | rfl | (simp [errW_none, errW_some] <;> rfl) | (simp [*, errW_none, errW_some] <;> rfl), by (with_reducible repeat (first | apply Kd.R_alloc | apply Kd.R_drewN | apply Kd.R_drew)); exact HO_5.out, by repeat (first | (with_reducible first | exact HB.out | apply below_alloc | apply pw_below_drewN | apply below_drew1) | exact HB.out)⟩
end Go.Proofs.Ytlleokhmgblfnaa.M
end

section
namespace Go.Proofs.Ytlleokhmgblfnaa.H
open Go.RowKit Go.Proofs.YtlleokhmgblfnaaW.PrintWords
attribute [local go_sem] eqE
def chkGo (L R : Int) : Option (Int × Int) → List (Int × Int) → Int
  | _, [] => 0
  | p, x :: xs =>
    if x.1 < 0 ∨ L ≤ x.1 ∨ x.2 < 0 ∨ R ≤ x.2 then 1
    else match p with
      | none => chkGo L R (some x) xs
      | some q => if q = x then 5 else if x.1 < q.1 ∨ (q.1 = x.1 ∧ x.2 < q.2) then 6 else chkGo L R (some x) xs
def chk (L R : Int) (E : List (Int × Int)) : Int :=
  if L < 0 ∨ 1024 < L ∨ R < 0 ∨ 1024 < R then 1 else if 65536 < E.length then 3 else chkGo L R none E
set_option maxHeartbeats 2000000 in
set_option maxRecDepth 100000 in
theorem check_any (L R : Int) (E : List (Int × Int)) (A : Option Addr) (c : Nat) (w : World) (hE : kE.C w A E.length E) (hc : E.length ≤ c) :
    Calls Try.prog 23 #[.agg #[.int .i64 L, .int .i64 R, .slice A E.length c]] w fun e w' => e = .returned (.int .i64 (chk L R E)) ∧ Below w.heap.size w w' := by
  have hm := Kd.C_max hE
  have HE := Aside0.mk hE
  clear hE
  obtain ⟨r, hr⟩ : ∃ r, chk L R E = r := ⟨_, rfl⟩
  rw [hr]
  by_cases h1 : L < 0 ∨ 1024 < L ∨ R < 0 ∨ 1024 < R
  · have hr : r = 1 := by rw [← hr]; unfold chk; rw [if_pos h1]
    subst hr
    go_enter Try.func23, Try.ntmps23
    go_wp2
    all_goals go_ret
    all_goals exact ⟨rfl, (Below.refl _ _).alloc (Nat.le_refl _) _⟩
  have b1 : 0 ≤ L := by omega
  have b2 : L ≤ 1024 := by omega
  have b3 : 0 ≤ R := by omega
  have b4 : R ≤ 1024 := by omega
  by_cases h2 : 65536 < E.length
  · have hr : r = 3 := by rw [← hr]; unfold chk; rw [if_neg h1, if_pos h2]
    subst hr
    clear h1
    go_enter Try.func23, Try.ntmps23
    go_wp2
    all_goals go_ret
    all_goals exact ⟨rfl, (Below.refl _ _).alloc (Nat.le_refl _) _⟩
  have hr' : chkGo L R none E = r := by rw [← hr]; unfold chk; rw [if_neg h1, if_neg h2]
  have H := Aside0.mk hr'
  clear h1 hr hr'
  go_enter Try.func23, Try.ntmps23
  go_wp2
  go_loopg [33] (E.length + 1) (fun kq v33 wr => ∃ i : Int, v33 = .int .i64 i ∧ Aside0 (0 ≤ i ∧ i ≤ E.length ∧ (E.length : Int) < i + kq ∧ chkGo L R (if i = 0 then none else some (rdE E (i - 1))) (E.drop i.toNat) = r) ∧ Aside0 (Below w.heap.size w wr) ∧ Aside0 (wr.heap[w.heap.size]? = some (.cells #[Value.int IntKind.i64 L, Value.int IntKind.i64 R, Value.slice A E.length c] 33 (0, 0))))
  case atStart => exact ⟨0, rfl, ⟨by omega, by omega, by omega, by simpa using H.out⟩, ⟨(Below.refl _ _).alloc (Nat.le_refl _) _⟩, ⟨blk_new _ _⟩⟩
  case round =>
    clear H
    obtain ⟨i, rfl, HA, HB, HG⟩ := hrel
    have i0 : 0 ≤ i := HA.out.1
    have hsz := blk_lt HG.out
    have g0 := blk_cell HG.out 0
    have g1 := blk_cell HG.out 1
    have g2 := blk_cell HG.out 2
    simp only [List.getElem?_toArray, List.getElem?_cons_zero, List.getElem?_cons_succ] at g0 g1 g2
    by_cases hlt : i < E.length
    · obtain ⟨ad, eA, hx0, hx1⟩ := at_E HE.out i i0 hlt
      subst eA
      replace hx0 := pw_cell_below HB.out hx0
      replace hx1 := pw_cell_below HB.out hx1
      have hgo := HA.out.2.2.2
      rw [drop_E E i i0 hlt] at hgo
      obtain ⟨x, hX⟩ : ∃ x, rdE E i = x := ⟨_, rfl⟩
      rw [hX] at hx0 hx1 hgo
      obtain ⟨x0, x1⟩ := x
      by_cases hbad : x0 < 0 ∨ L ≤ x0 ∨ x1 < 0 ∨ R ≤ x1
      · have hr : r = 1 := by rw [← hgo]; unfold chkGo; rw [if_pos hbad]
        have HR := Aside0.mk hr
        clear hr hgo g2 hX
        rcases (show x0 < 0 ∨ (0 ≤ x0 ∧ L ≤ x0) ∨ (0 ≤ x0 ∧ x0 < L ∧ x1 < 0) ∨ (0 ≤ x0 ∧ x0 < L ∧ 0 ≤ x1 ∧ R ≤ x1) by omega) with hq | ⟨hq, hq2⟩ | ⟨hq, hq2, hq3⟩ | ⟨hq, hq2, hq3, hq4⟩
        all_goals clear hbad
        all_goals go_wp2
        all_goals go_ret
        all_goals exact ⟨by rw [HR.out]; rfl, below_alloc HB.out _⟩
      · have q1 : 0 ≤ x0 := by omega
        have q2 : x0 < L := by omega
        have q3 : 0 ≤ x1 := by omega
        have q4 : x1 < R := by omega
        unfold chkGo at hgo
        rw [if_neg hbad] at hgo
        clear hbad
        by_cases hi : i = 0
        · rw [if_pos hi] at hgo
          have H2 := Aside0.mk hgo
          have HX := Aside0.mk hX
          have hi' : (i == 0) = true := by simpa using hi
          have HI := Aside0.mk hi
          clear hgo hX hi
          go_wp2
          go_roundg (gk - 1)
          case measure => have := HA.out.2.2.1; have := HA.out.2.1; omega
          case rel => exact ⟨i + 1, by go_num, ⟨by omega, by omega, by have := HA.out.2.2.1; omega, by rw [if_neg (by omega), show i + 1 - 1 = i by omega, HX.out, show (i + 1).toNat = i.toNat + 1 by omega]; exact H2.out⟩, ⟨below_alloc HB.out _⟩, ⟨blk_alloc HG.out _⟩⟩
        · rw [if_neg hi] at hgo
          obtain ⟨ad', eA, hy0, hy1⟩ := at_E HE.out (i - 1) (by omega) (by omega)
          injection eA with eA
          subst eA
          rw [show (i - 1).toNat = i.toNat - 1 by omega] at hy0 hy1
          replace hy0 := fun o => pw_cell_below (below_alloc HB.out o) hy0
          replace hy1 := fun o => pw_cell_below (below_alloc HB.out o) hy1
          obtain ⟨y, hY⟩ : ∃ y, rdE E (i - 1) = y := ⟨_, rfl⟩
          rw [hY] at hy0 hy1 hgo
          obtain ⟨y0, y1⟩ := y
          have HX := Aside0.mk hX
          clear hX hY
          have hi1 : 1 ≤ i := by omega
          by_cases hxy : y0 = x0 ∧ y1 = x1
          · obtain ⟨rfl, rfl⟩ := hxy
            simp only [if_true] at hgo
            have HR := Aside0.mk hgo
            have HI := Aside0.mk hi
            have hi' : (i == 0) = false := by simpa using hi
            clear hgo hi
            go_wp2
            go_ret
            exact ⟨by rw [← HR.out]; rfl, below_alloc (below_alloc HB.out _) _⟩
          · simp only at hgo
            rw [if_neg (by simpa using hxy)] at hgo
            have hi' : (i == 0) = false := by simpa using hi
            have HI := Aside0.mk hi
            clear hi
            by_cases hlt2 : x0 < y0 ∨ (y0 = x0 ∧ x1 < y1)
            · rw [if_pos hlt2] at hgo
              have HR := Aside0.mk hgo
              clear hgo
              rcases hlt2 with hlt2 | ⟨hlt2, hlt3⟩
              · clear hxy
                have n1 : (y0 == x0) = false := by simp; omega
                go_wp2
                go_ret
                exact ⟨by rw [← HR.out]; rfl, below_alloc (below_alloc HB.out _) _⟩
              · subst hlt2
                clear hxy
                have n1 : (y1 == x1) = false := by simp; omega
                go_wp2
                go_ret
                exact ⟨by rw [← HR.out]; rfl, below_alloc (below_alloc HB.out _) _⟩
            · rw [if_neg hlt2] at hgo
              have H2 := Aside0.mk hgo
              clear hgo
              have n2 : (y0 == x0 && y1 == x1) = false := by simpa using hxy
              rcases (show y0 < x0 ∨ (y0 = x0 ∧ y1 < x1) by omega) with hlt3 | ⟨hlt3, hlt4⟩
              · clear hxy hlt2
                have n1 : (y0 == x0) = false := by simp; omega
                go_wp2
                go_roundg (gk - 1)
                case measure => have := HA.out.2.2.1; have := HA.out.2.1; omega
                case rel => exact ⟨i + 1, by go_num, ⟨by omega, by omega, by have := HA.out.2.2.1; omega, by rw [if_neg (by omega), show i + 1 - 1 = i by omega, HX.out, show (i + 1).toNat = i.toNat + 1 by omega]; exact H2.out⟩, ⟨below_alloc (below_alloc HB.out _) _⟩, ⟨blk_alloc (blk_alloc HG.out _) _⟩⟩
              · subst hlt3
                clear hxy hlt2 n2
                have n1 : (y1 == x1) = false := by simp; omega
                go_wp2
                go_roundg (gk - 1)
                case measure => have := HA.out.2.2.1; have := HA.out.2.1; omega
                case rel => exact ⟨i + 1, by go_num, ⟨by omega, by omega, by have := HA.out.2.2.1; omega, by rw [if_neg (by omega), show i + 1 - 1 = i by omega, HX.out, show (i + 1).toNat = i.toNat + 1 by omega]; exact H2.out⟩, ⟨below_alloc (below_alloc HB.out _) _⟩, ⟨blk_alloc (blk_alloc HG.out _) _⟩⟩
    · have hr : r = 0 := by rw [← HA.out.2.2.2, List.drop_eq_nil_of_le (by omega)]; rfl
      have HR := Aside0.mk hr
      clear hr
      go_wp2
      go_ret
      exact ⟨by rw [HR.out]; rfl, HB.out⟩
end Go.Proofs.Ytlleokhmgblfnaa.H
end

section
namespace Go.Proofs.Ytlleokhmgblfnaa.M
open Go.RowKit Go.Proofs.YtlleokhmgblfnaaW.PrintWords
def prE (x : S40) : Int × Int := (x.f0, x.f1)
def match_Check.f (a0_0 : Int) (a0_1 : Int) (l0_2 : List S40) : Option Int := some (H.chk a0_0 a0_1 (l0_2.map prE))
theorem match_Check.calls (a0_0 : Int) (a0_1 : Int) (A0_2 : Option Addr) (c0_2 : Nat) (l0_2 : List (S40)) (r : Int) (w : World) (hr0_2 : Kd.C k40 w A0_2 l0_2.length l0_2) (hc0_2 : l0_2.length ≤ c0_2) (h : match_Check.f a0_0 a0_1 l0_2 = some r) :
    Calls Try.prog 23 #[.agg #[.int .i64 a0_0, .int .i64 a0_1, .slice A0_2 l0_2.length c0_2]] w fun e w' => e = .returned (.int .i64 r) ∧ Below w.heap.size w w' := by
  have hk : H.kE.C w A0_2 l0_2.length (l0_2.map prE) := H.C_iso hr0_2
  have hl : (l0_2.map prE).length = l0_2.length := by simp
  rw [← hl] at hk hc0_2 ⊢
  have := H.check_any a0_0 a0_1 (l0_2.map prE) A0_2 c0_2 w hk hc0_2
  rw [show H.chk a0_0 a0_1 (l0_2.map prE) = r from Option.some.inj h] at this
  exact this
end Go.Proofs.Ytlleokhmgblfnaa.M
end
