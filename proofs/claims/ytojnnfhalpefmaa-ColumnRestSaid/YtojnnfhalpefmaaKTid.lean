/- tidy of package column, walked by hand. -/
import Derived.Test.YtojnnfhalpefmaaKTidy
set_option linter.unusedVariables false
set_option linter.unusedSimpArgs false
namespace Go.Proofs.Ytojnnfhalpefmaa.H
open Go.RowKit Go.Proofs.YtojnnfhalpefmaaW.PrintWords Go.Proofs.YtojnnfhalpefmaaW.PrintLast Go.Proofs.YtojnnfhalpefmaaW.PrintMore Go.Proofs.Ytojnnfhalpefmaa.M
def tidyL (p : Int) (k : Nat) : List (List S45) → St → Option (List (List S45))
  | [], s => some s.L
  | c :: l, s =>
    if c.length < 8796093022208 ∧ s.small then
      (clearL p s.mp s.L s.U k c [] (wrap64 ((c.length : Int) - 1))).bind fun r =>
        if 0 < r.1.length then
          (modp_Inv.f k p (rd_T45 r.1 ((r.1.length : Int) - 1)).f1).bind fun t =>
            (column_plus.f p [] t.1 r.1).bind fun d =>
              if 0 < d.length ∧ rowOk (lastR d) then tidyL p k l (s.put d []) else none
        else none
    else none
def tidyF (p : Int) (k : Nat) (l : List (List S45)) : Option (List (List S45)) :=
  if l.length ≤ 12 ∧ ∀ c ∈ l, 0 < c.length then tidyL p k (sortL l) ⟨fun _ => none, [], [], []⟩ else none
theorem R45_nil (W : World) (base : Nat) : Kd.R k45 45 W base (fun _ => True) (.slice none 0 0) [] := Kd.R_nil _ _ _ _ _
theorem C45_nil (W : World) : k45.C W none ([] : List S45).length [] := ⟨rfl, Nat.zero_le _, fun h => absurd h (Nat.lt_irrefl _)⟩
/-- The columns lie in blocks of their own, no two in one. -/
def Grow (n : Nat) (LV : List (List S45 × Value)) : Prop := (∀ a ∈ LV, ∃ g, a.2.ownBlock = some g ∧ g < n) ∧ LV.Pairwise (fun a b => a.2.ownBlock ≠ b.2.ownBlock)
theorem Grow.push {n n' g : Nat} {LV : List (List S45 × Value)} (h : Grow n LV) {d : List S45} {v : Value} (hv : v.ownBlock = some g) (h1 : n ≤ g) (h2 : g < n') : Grow n' (LV ++ [(d, v)]) := by
  refine ⟨fun a ha => ?_, ?_⟩
  · rcases List.mem_append.1 ha with ha | ha
    · obtain ⟨g', e, hlt⟩ := h.1 a ha
      exact ⟨g', e, by omega⟩
    · rw [List.mem_singleton.1 ha]
      exact ⟨g, hv, h2⟩
  · rw [List.pairwise_append]
    refine ⟨h.2, List.pairwise_singleton _ _, fun a ha b hb => ?_⟩
    rw [List.mem_singleton.1 hb]
    obtain ⟨g', e, hlt⟩ := h.1 a ha
    show a.2.ownBlock ≠ v.ownBlock
    rw [e, hv]
    intro e2
    cases e2
    omega
/-- Owned columns as a row of owned rows, no two in one block. -/
theorem own_S {W : World} {base n : Nat} {v : Value} {L : List (List S45 × Value)} (h : OwnRow (colV true W base) 22 1 W base v L) (hg : Grow n L) : Kd.S (Kd.slice 45 k45) 22 W base (fun _ => True) v (L.map Prod.fst) := by
  refine ⟨fun k => L.findIdx (fun a => a.2.ownBlock == some k), fun _ _ => trivial, ?_⟩
  obtain ⟨inner, ho, hl, hr⟩ := h
  refine ⟨inner, by rw [List.length_zipIdx, List.length_map]; exact ho, by rw [List.length_zipIdx, List.length_map]; exact hl, fun j p hj => ?_⟩
  rw [List.getElem?_zipIdx, Nat.zero_add, List.getElem?_map, Option.map_map] at hj
  obtain ⟨a, ha, rfl⟩ := Option.map_eq_some_iff.1 hj
  obtain ⟨hjl, hja⟩ := List.getElem?_eq_some_iff.1 ha
  obtain ⟨e, A, c, e2, hlc, hC, hS, hO⟩ := hr j a ha
  refine ⟨a.2, e, ?_⟩
  have hk : ∀ k, a.2.ownBlock = some k → (L.findIdx (fun a => a.2.ownBlock == some k)) = j := fun k hk => by
    rw [List.findIdx_eq hjl]
    refine ⟨by rw [hja, hk]; exact beq_self_eq_true _, fun i hi => ?_⟩
    have := List.pairwise_iff_getElem.1 hg.2 i j (by omega) hjl hi
    rw [hja, hk] at this
    exact beq_eq_false_iff_ne.2 this
  have hR := hO rfl
  refine ⟨fun k hk' => ⟨⟨trivial, fun e3 => ?_⟩, hk k hk'⟩, ?_⟩
  · obtain ⟨cs, hcs⟩ := own_typed hR.2.choose_spec.1 k hk'
    obtain ⟨cs2, hcs2⟩ := own_typed ho k e3.symm
    rw [hcs] at hcs2
    cases hcs2
  · obtain ⟨inner2, ho2, hr2⟩ := hR.2
    exact ⟨inner2, ho2, hr2.imp_ (fun p c hM => by
      obtain rfl := k45_open (k45.K_of_M hM)
      exact k45_mkM W base _ p)⟩
set_option maxHeartbeats 8000000 in
set_option maxRecDepth 100000 in
theorem tidy_rows (k : Nat) (p : Int) (A : Option Addr) (cl : Nat) (l : List (List S45)) (r : List (List S45)) (w : World) (hC : (Kd.slice 45 k45).C w A l.length l) (hcl : l.length ≤ cl) (h : tidyF p k l = some r) :
    Calls Try.prog 67 #[.int .i64 p, .slice A l.length cl] w fun e w' => ∃ v, e = .returned v ∧ Kd.S (Kd.slice 45 k45) 22 w' w.heap.size (fun _ => True) v r ∧ Below w.heap.size w w' := by
  unfold tidyF at h
  by_cases hs : l.length ≤ 12 ∧ ∀ c ∈ l, 0 < c.length
  · rw [if_pos hs] at h
    obtain ⟨hl, hne⟩ := hs
    have H := Aside0.mk h
    have HN := Aside0.mk hne
    clear h hne
    have hmm := @run_makeMap Try.prog
    obtain ⟨base, hbs⟩ : ∃ b, w.heap.size = b := ⟨_, rfl⟩
    go_enter Try.func67, Try.ntmps67
    go_wp2_with (first | (go_at_call 79; refine (clone2_calls A cl l _ hC hcl (by omega)).mono ?_; rintro e w1 ⟨v1, rfl, hO1, hb1⟩; obtain ⟨A1, c1, rfl, hc1⟩ := hO1.slice_) | (go_at_call 80; refine (sortAny_calls base A1 c1 l w1 (by rw [← hbs]; exact hb1.size) (by rw [← hbs]; exact hO1) HN.out hl).mono ?_; rintro e w2 ⟨⟨v2, rfl⟩, hO2, st2, sz2⟩; have SZ2 := Aside0.mk sz2; clear sz2))
    obtain ⟨n2, hn2⟩ : ∃ n, w2.heap.size = n := ⟨_, rfl⟩
    obtain ⟨w3, hw3⟩ : ∃ w3, (w2.alloc (.map #[] 0)).alloc (.cells #[.int .i64 p, .map (some w2.heap.size), .slice none 0 0, .slice none 0 0] 87) = w3 := ⟨_, rfl⟩
    have hbn : base ≤ n2 := by have := hb1.size; have := SZ2.out; omega
    have hP3 : PivV true w3 base (n2 + 1) p (fun _ => none) [] [] (fun b => b = n2 ∨ b = n2 + 1) := by
      have h := PivO.made (o := true) w2 base p (by omega)
      rw [hw3, hn2] at h
      exact h
    have b23 : Below w2.heap.size w2 w3 := by
      rw [← hw3]
      exact ((Below.refl _ w2).alloc (Nat.le_refl _) _).alloc (by simp) _
    have st3 : Stay base w w3 := (Stay.of_below (Nat.le_of_eq hbs.symm) hb1).trans (st2.trans (Stay.of_below (by omega) b23))
    have hO3 : OwnRow (colE false w3 base) 22 1 w3 base (.slice A1 l.length c1) (sortL l) := own_stay hO2 (Stay.of_below (by omega) b23) (fun g hg => b23.block g (by
      obtain ⟨⟨cs, hcs⟩, _⟩ := own_blk22 hO2 hg
      exact blk_lt hcs))
    have lt3 : n2 + 1 < w3.heap.size := hP3.lt
    have HS3 : ∀ g, (Value.slice A1 l.length c1).ownBlock = some g → ¬ (g = n2 ∨ g = n2 + 1) := fun g hg => by
      obtain ⟨⟨cs, hcs⟩, _⟩ := own_blk22 hO2 hg
      have := blk_lt hcs
      omega
    rw [hn2] at hw3
    simp only [hn2]
    rw [hw3]
    have HP3 := Aside0.mk hP3
    have HO3 := Aside0.mk hO3
    have HSS := Aside0.mk HS3
    have ST3 := Aside0.mk st3
    have hln := sortL_len l
    have hsz2 := SZ2.out
    clear hP3 b23 st3 hO3 HS3 hw3 hO2 st2 hO1 hb1 hmm hsz2 SZ2 hn2
    go_loopg [20] l.length (fun kq v20 wr => ∃ (i : Nat) (s : St) (S : Nat → Prop) (LV : List (List S45 × Value)), v20 = .int .i64 i ∧ i ≤ l.length ∧ kq = l.length - i ∧ Aside0 (tidyL p k ((sortL l).drop i) s = some r) ∧ Aside0 (PivV true wr base (n2 + 1) p s.mp LV s.U S) ∧ Aside0 (LV.map Prod.fst = s.L ∧ Grow wr.heap.size LV) ∧ Aside0 (OwnRow (colE false wr base) 22 1 wr base (.slice A1 l.length c1) (sortL l)) ∧ Aside0 ((∀ g, (Value.slice A1 l.length c1).ownBlock = some g → ¬ S g) ∧ ∀ b, S b → b < wr.heap.size) ∧ Aside0 (Stay base w wr))
    case atStart => exact ⟨0, ⟨fun _ => none, [], [], []⟩, _, [], rfl, Nat.zero_le _, by omega, H, HP3, ⟨rfl, by simp [Grow]⟩, HO3, ⟨HSS.out, fun b hb => by omega⟩, ST3⟩
    case round =>
      clear H HP3 HO3 HSS ST3
      obtain ⟨i, s, S, LV, rfl, hi, hk, HA, HP, HG, HZ, HS, ST⟩ := hrel
      by_cases hlt : i < l.length
      · obtain ⟨c, hc⟩ : ∃ c, rd_L2 (sortL l) (i : Int) = c := ⟨_, rfl⟩
        have hdr : (sortL l).drop i = c :: (sortL l).drop (i + 1) := by
          rw [List.drop_eq_getElem_cons (by omega), ← hc]
          simp [rd_L2, hln, hlt]
        have H := HA.out
        rw [hdr, tidyL] at H
        by_cases hsm : c.length < 8796093022208 ∧ s.small
        · rw [if_pos hsm] at H
          obtain ⟨hcl1, hs1, hs2, hs3⟩ := hsm
          obtain ⟨r1, hr1, H⟩ := Option.bind_eq_some_iff.1 H
          by_cases hz : 0 < r1.1.length
          · rw [if_pos hz] at H
            obtain ⟨⟨t1, t2⟩, ht, H⟩ := Option.bind_eq_some_iff.1 H
            obtain ⟨d, hd, H⟩ := Option.bind_eq_some_iff.1 H
            by_cases hdk : 0 < d.length ∧ rowOk (lastR d)
            · rw [if_pos hdk] at H
              obtain ⟨hd0, hdr2⟩ := hdk
              have H' := Aside0.mk H
              clear H
              have hbr : base ≤ wr.heap.size := by have := ST.out.below.size; omega
              obtain ⟨A1', c1', e1', _, hCs⟩ := own_C HZ.out
              obtain ⟨rfl, rfl⟩ : A1 = A1' ∧ c1 = c1' := by simpa [hln] using e1'
              clear e1'
              obtain ⟨al, Aj, cj, eL, yL, ljc, hCj⟩ := at_L2 hCs (i : Int) (by omega) (by omega)
              subst eL
              rw [hc] at yL ljc hCj
              rw [Int.toNat_natCast] at yL
              obtain ⟨lw, hlw⟩ : ∃ lw, rd_T45 r1.1 ((r1.1.length : Int) - 1) = lw := ⟨_, rfl⟩
              rw [hlw] at ht
              have ja : (1 : Int) ≤ (r1.1.length : Int) := by omega
              have hlv : LV.length = s.L.length := by rw [← HG.out.1, List.length_map]
              have hlvs : LV.length < 1000000 := by omega
              have HLV := Aside0.mk hlv
              clear hlv
              have hp1 := pred_toNat hz
              go_wp2_with (first | (go_at_call 72; refine (clone_calls Aj cj c _ hCj ljc hcl1).mono ?_; rintro e w4 ⟨v4, rfl, hR4, hb4⟩; have hPV := (HP.out.below hbr hb4).read; rw [HG.out.1] at hPV; have hRc := Kd.R_lower hR4 hbr) | (go_at_call 71; refine (clear_calls k (n2 + 1) p s.mp s.L s.U base _ _ c [] r1 _ hPV (Nat.le_trans hbr hb4.size) hRc (R45_nil _ _) hr1).mono ?_; rintro e w5 ⟨v5, v6, rfl, hR5, hR6, hb5⟩; have b5 : Below wr.heap.size wr w5 := hb4.trans (hb5.mono hb4.size); obtain ⟨A5, c5, rfl⟩ := Kd.R_slice hR5; have hr5 := Kd.R_reads' hR5; obtain ⟨a5, e5, z0, z1⟩ := at_T45 hr5.2.2 ((r1.1.length : Int) - 1) (by omega) (by omega); subst e5; rw [hp1, hlw] at z0 z1; have hmx := Kd.C_max hr5.2.2) | (go_at_call 82; refine (modp_Inv.calls k p lw.f1 t1 t2 _ ht).mono ?_; rintro e w6 ⟨rfl, ⟨nd, rfl⟩⟩; have b6 : Below wr.heap.size wr (w5.drewN nd) := pw_below_drewN b5 nd; have hR5' := Kd.R_drewN hR5 nd; have hr5' := Kd.R_reads' hR5') | (go_at_call 57; refine (column_plus.calls p none 0 [] t1 (some a5) c5 r1.1 d _ (C45_nil _) (Nat.le_refl _) hr5'.2.2 hr5'.2.1 hd).mono ?_; rintro e w7 ⟨v7, rfl, hR7, hb7⟩; have b7 : Below wr.heap.size wr w7 := b6.trans (hb7.mono b6.size); obtain ⟨A7, c7, rfl⟩ := Kd.R_slice hR7; have hw7 := RowV.of_R (o := true) (Kd.R_lower hR7 (Nat.le_trans hbr b6.size))) | (go_at_call 70; refine (putV_calls (o := true) base (n2 + 1) p s.mp LV s.U S _ _ d [] _ (Nat.le_trans hbr b7.size) (HP.out.below hbr b7) hw7 (RowV.of_R (R45_nil _ _)) hd0 hdr2 hlvs hs2).mono ?_; rintro e w8 ⟨⟨v, rfl⟩, hP8, st8, fr8⟩))
              go_roundg (l.length - (i + 1))
              case measure => exact step_down hlt hk
              case rel =>
                have sz7 := b7.size
                obtain ⟨g7, cap7, hform, hg0, hg2, _⟩ := Kd.R_form hR7 hd0
                have hg1 : wr.heap.size ≤ g7 := Nat.le_trans b6.size hg0
                have ltz : ∀ g, (Value.slice (some al) l.length c1).ownBlock = some g → g < wr.heap.size := fun g hg => by
                  obtain ⟨⟨cs, hcs⟩, _⟩ := own_blk22 HZ.out hg
                  exact blk_lt hcs
                have HZ7 := own_stay HZ.out (Stay.of_below hbr b7) (fun g hg => b7.block g (ltz g hg))
                have HZ8 := own_stay HZ7 st8 (fun g hg => fr8 g (Nat.lt_of_lt_of_le (ltz g hg) sz7) (HS.out.1 g hg))
                refine ⟨i + 1, s.put d [], _, _, by rw [cast_succ], hlt, rfl, H', ⟨by rw [HLV.out] at hP8; exact hP8⟩, ⟨by rw [List.map_append, HG.out.1]; rfl, HG.out.2.push (by rw [hform]; rfl) hg1 (Nat.lt_of_lt_of_le hg2 st8.below.size)⟩, ⟨HZ8⟩, ⟨fun g hg hS => ?_, fun b hb => ?_⟩, ⟨ST.out.trans ((Stay.of_below hbr b7).trans st8)⟩⟩
                · rcases hS with hS | ⟨h1, _⟩
                  · exact HS.out.1 g hg hS
                  · exact absurd h1 (Nat.not_le_of_lt (Nat.lt_of_lt_of_le (ltz g hg) sz7))
                · rcases hb with hb | ⟨_, h2⟩
                  · exact Nat.lt_of_lt_of_le (HS.out.2 b hb) (Nat.le_trans sz7 st8.below.size)
                  · exact h2
            · rw [if_neg hdk] at H; cases H
          · rw [if_neg hz] at H; cases H
        · rw [if_neg hsm] at H; cases H
      · obtain rfl : i = l.length := by omega
        have H := HA.out
        rw [List.drop_of_length_le (by omega), tidyL] at H
        cases H
        obtain ⟨hmap, hgr⟩ := HG.out
        obtain ⟨gm, vl, vu, g1, gb, g2, gmb, hl1, hu1, _, _⟩ := HP.out
        have q2 := blk_cell g1 2
        simp only [List.getElem?_toArray, List.getElem?_cons_zero, List.getElem?_cons_succ] at q2
        clear g2 hu1
        go_wp2
        go_ret
        exact ⟨_, rfl, by rw [hbs, ← hmap]; exact own_S hl1 hgr, by rw [hbs]; exact ST.out.below⟩
  · rw [if_neg hs] at h; cases h
end Go.Proofs.Ytojnnfhalpefmaa.H
