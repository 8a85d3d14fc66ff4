/- Rest of package column, walked by hand. -/
import Derived.Test.YtojnnfhalpefmaaKFin
set_option linter.unusedVariables false
set_option linter.unusedSimpArgs false
namespace Go.Proofs.Ytojnnfhalpefmaa.H
open Go.RowKit Go.Proofs.YtojnnfhalpefmaaW.PrintWords Go.Proofs.YtojnnfhalpefmaaW.PrintLast Go.Proofs.YtojnnfhalpefmaaW.PrintMore Go.Proofs.Ytojnnfhalpefmaa.M
/-- The columns of a list are put as pivots; an error where one is empty, or a low row comes twice. -/
def restPut : List (List S45) → Int → St → Option (Int × St)
  | [], _, s => some (0, s)
  | a :: l, j, s =>
    if a.length = 0 then some (9, s)
    else if s.small ∧ rowOk (lastR a) then
      (if (s.mp (lastR a)).isSome then some (5, s) else restPut l (j + 1) (s.put a [⟨j, 1⟩]))
    else none
def restEnd (k : Nat) (p : Int) (c : List S45) (s : St) : Option (List S45 × List S45 × Int) :=
  if c.length < 8796093022208 then
    (clearL p s.mp s.L s.U k c [] (wrap64 ((c.length : Int) - 1))).bind fun r =>
      (column_plus.f p [] (wrap64 (p - 1)) r.2).bind fun u => some (r.1, u, 0)
  else none
def restF (k : Nat) (p : Int) (l : List (List S45)) (c : List S45) : Option (List S45 × List S45 × Int) :=
  if (l.length : Int) > 1024 then some ([], [], 3)
  else (column_checkAll.f k p l).bind fun e1 =>
    if e1 = 0 then (column_Check.f k p c).bind fun e2 =>
      if e2 = 0 then (restPut l 0 st0).bind fun q => if q.1 = 0 then restEnd k p c q.2 else some ([], [], q.1)
      else some ([], [], e2)
    else some ([], [], e1)
theorem mp_none {M : Int → Option Int} {x : Int} (h : ¬ (M x).isSome) : M x = none := by
  cases hm : M x with
  | none => rfl
  | some y => rw [hm] at h; exact absurd rfl h
theorem R45n (W : World) (base : Nat) (ok : Nat → Prop) : Kd.R k45 45 W base ok (.slice none 0 0) [] := Kd.R_nil _ _ _ _ _
theorem RowV.of_arg {w W : World} {A : Option Addr} {c : Nat} {a : List S45} (h : k45.C w A a.length a) (hl : a.length ≤ c) (hb : Below w.heap.size w W) : RowV false W w.heap.size (.slice A a.length c) a :=
  ⟨A, c, rfl, hl, Kd.C_below h hb, fun ad e hp => .inl (C_blk h ad e hp), fun e => by cases e⟩
theorem apart_old {w5 w7 : World} {base : Nat} {v5 v7 : Value} {x y : List S45} (h5 : Kd.R k45 45 w5 base (fun _ => True) v5 x) (hb : Below w5.heap.size w5 w7) (h7 : Kd.R k45 45 w7 w5.heap.size (fun _ => True) v7 y) : Kd.R k45 45 w7 base (fun k => some k ≠ v7.ownBlock) v5 x :=
  Kd.R_below (Kd.R_mono (Kd.R_bound h5) (fun k hk e => absurd hk.2.2.1 (Nat.not_lt.mpr ((Kd.R_bound h7).1 k e.symm).2.1))) hb
theorem apart_new {w5 w7 : World} {base : Nat} {v5 v7 : Value} {x y : List S45} (hle : base ≤ w5.heap.size) (h5 : Kd.R k45 45 w5 base (fun _ => True) v5 x) (h7 : Kd.R k45 45 w7 w5.heap.size (fun _ => True) v7 y) : Kd.R k45 45 w7 base (fun k => some k ≠ v5.ownBlock) v7 y :=
  Kd.R_lower (Kd.R_mono (Kd.R_bound h7) (fun k hk e => absurd ((Kd.R_bound h5).1 k e.symm).2.2.1 (Nat.not_lt.mpr hk.2.1))) hle
set_option maxHeartbeats 3000000 in
set_option maxRecDepth 100000 in
theorem rest_calls (k : Nat) (p : Int) (A : Option Addr) (cl : Nat) (l : List (List S45)) (Ac : Option Addr) (cc : Nat) (c : List S45) (r1 r2 : List S45) (r3 : Int) (w : World) (hC : (Kd.slice 45 k45).C w A l.length l) (hcl : l.length ≤ cl) (hCc : k45.C w Ac c.length c) (hcc : c.length ≤ cc)
    (h : restF k p l c = some (r1, r2, r3)) :
    Calls Try.prog 45 #[.int .i64 p, .slice A l.length cl, .slice Ac c.length cc] w fun e w' => ∃ v1 v2, e = .returned (.tuple #[v1, v2, .int .i64 r3]) ∧ Kd.R k45 45 w' w.heap.size (fun k_ => some k_ ≠ (v2 : Value).ownBlock) v1 r1 ∧ Kd.R k45 45 w' w.heap.size (fun k_ => some k_ ≠ (v1 : Value).ownBlock) v2 r2 ∧ Below w.heap.size w w' := by
  unfold restF at h
  by_cases h0 : (l.length : Int) > 1024
  · rw [if_pos h0] at h
    cases h
    have h0b : decide ((1024 : Int) < (l.length : Int)) = true := decide_eq_true h0
    go_enter Try.func45, Try.ntmps45
    go_wp2
    refine bodyPost_ret (results_tmp3 rfl _ _ _) rfl ?_
    exact ⟨_, _, rfl, R45n _ _ _, R45n _ _ _, Below.refl _ _⟩
  · rw [if_neg h0] at h
    have h0b : decide ((1024 : Int) < (l.length : Int)) = false := decide_eq_false h0
    obtain ⟨e1, h1, h⟩ := Option.bind_eq_some_iff.1 h
    by_cases he1 : e1 = 0
    · rw [if_pos he1] at h
      subst he1
      obtain ⟨e2, h2, h⟩ := Option.bind_eq_some_iff.1 h
      by_cases he2 : e2 = 0
      · rw [if_pos he2] at h
        subst he2
        obtain ⟨⟨q1, q2⟩, h3, h⟩ := Option.bind_eq_some_iff.1 h
        have H3 := Aside0.mk h3
        have H := Aside0.mk h
        clear h3 h
        have hmm := @run_makeMap Try.prog
        obtain ⟨base, hbs⟩ : ∃ b, w.heap.size = b := ⟨_, rfl⟩
        go_enter Try.func45, Try.ntmps45
        go_wp2_with (first | (go_at_call 59; refine (column_checkAll.calls k p A cl l 0 _ hC hcl h1).mono ?_; rintro e w1 ⟨rfl, hb1⟩) | (go_at_call 24; refine (column_Check.calls k p Ac cc c 0 _ (Kd.C_below hCc hb1) hcc h2).mono ?_; rintro e w2 ⟨rfl, hb2⟩))
        obtain ⟨n2, hn2⟩ : ∃ n, w2.heap.size = n := ⟨_, rfl⟩
        obtain ⟨w3, hw3⟩ : ∃ w3, (w2.alloc (.map #[] 0)).alloc (.cells #[.int .i64 p, .map (some w2.heap.size), .slice none 0 0, .slice none 0 0] 87) = w3 := ⟨_, rfl⟩
        have b2 : Below w.heap.size w w2 := hb1.trans (hb2.mono hb1.size)
        have hbn : base ≤ n2 := by rw [← hbs, ← hn2]; exact b2.size
        have hP3 : PivO false w3 base (n2 + 1) p (fun _ => none) [] [] (fun b => b = n2 ∨ b = n2 + 1) := by
          have h := PivO.made (o := false) w2 base p (by omega)
          rw [hw3, hn2] at h
          exact ⟨[], rfl, h⟩
        have b23 : Below w2.heap.size w2 w3 := by
          rw [← hw3]
          exact ((Below.refl _ w2).alloc (Nat.le_refl _) _).alloc (by simp) _
        have st3 : Stay base w w3 := (Stay.of_below (Nat.le_of_eq hbs.symm) b2).trans (Stay.of_below (by omega) b23)
        rw [hn2] at hw3
        simp only [hn2]
        rw [hw3]
        have HP3 := Aside0.mk hP3
        have ST3 := Aside0.mk st3
        clear hP3 b23 st3 hw3 hb1 hb2 hmm hn2 b2
        go_loopg [39] l.length (fun kq v39 wr => ∃ (i : Nat) (s : St) (S : Nat → Prop), v39 = .int .i64 i ∧ i ≤ l.length ∧ kq = l.length - i ∧ Aside0 (restPut (l.drop i) i s = some (q1, q2)) ∧ Aside0 (PivO false wr base (n2 + 1) p s.mp s.L s.U S) ∧ Aside0 (Stay base w wr))
        case atStart => exact ⟨0, st0, _, rfl, Nat.zero_le _, by omega, H3, HP3, ST3⟩
        case round =>
          clear H3 HP3 ST3
          obtain ⟨i, s, S, rfl, hi, hk, HA, HP, ST⟩ := hrel
          have hbr : base ≤ wr.heap.size := by have := ST.out.below.size; omega
          have hBw : Below w.heap.size w wr := by rw [hbs]; exact ST.out.below
          by_cases hlt : i < l.length
          · obtain ⟨a, ha⟩ : ∃ a, rd_L2 l (i : Int) = a := ⟨_, rfl⟩
            have hdr : l.drop i = a :: l.drop (i + 1) := by
              rw [List.drop_eq_getElem_cons hlt, ← ha]
              simp [rd_L2, hlt]
            have H1 := HA.out
            rw [hdr, restPut] at H1
            obtain ⟨al, Aj, cj, eL, yL0, ljc, hCj0⟩ := at_L2 hC (i : Int) (by omega) (by omega)
            subst eL
            rw [ha] at yL0 ljc hCj0
            rw [Int.toNat_natCast] at yL0
            have yL := (World.cell?_of_block (hBw.block _ (World.block_lt_of_cell? w _ yL0))).trans yL0
            have hCj := Kd.C_below hCj0 hBw
            clear yL0
            by_cases hz : a.length = 0
            · rw [if_pos hz] at H1
              cases H1
              have hlow : column_Low.f a = some (0, false) := by unfold column_Low.f; rw [if_pos (by omega)]
              have h := H.out
              rw [if_neg (by decide)] at h
              cases h
              clear hz
              go_wp2_with (go_at_call 22; refine (column_Low.calls Aj cj a 0 false _ hCj ljc hlow).mono ?_; rintro e w4 ⟨rfl, ⟨nd, rfl⟩⟩)
              refine bodyPost_ret (results_tmp3 rfl _ _ _) rfl ?_
              exact ⟨_, _, rfl, R45n _ _ _, R45n _ _ _, pw_below_drewN hBw nd⟩
            · rw [if_neg hz] at H1
              have hmx := Kd.C_max hCj
              have hlow : column_Low.f a = some (lastR a, true) := by
                unfold column_Low.f
                have hw : wrap64 ((a.length : Int) - 1) = (a.length : Int) - 1 := by unfold wrap64; omega
                rw [if_neg (by omega), hw, if_pos (by omega), if_pos (by omega)]
                rfl
              by_cases hsm : s.small ∧ rowOk (lastR a)
              · rw [if_pos hsm] at H1
                obtain ⟨⟨hs1, hs2, hs3⟩, hrk⟩ := hsm
                obtain ⟨lw, hlw⟩ : ∃ lw, lastR a = lw := ⟨_, rfl⟩
                rw [hlw] at hlow
                by_cases hm : (s.mp (lastR a)).isSome
                · rw [if_pos hm] at H1
                  cases H1
                  have h := H.out
                  rw [if_neg (by decide)] at h
                  cases h
                  rw [hlw] at hm hrk
                  obtain ⟨gm, n, Al, Au, kl, ku, g1, g2, g3, g4, g5, g6⟩ := (HP.out.below hbr (pw_below_drewN (Below.refl _ wr) 0)).read
                  have hlk : ∀ nd, _ := fun nd => (g2.same (w' := wr.drewN nd) rfl).look hrk.wf
                  have q1 : ∀ nd, _ := fun nd => blk_cell (show (wr.drewN nd).heap[n2 + 1]? = _ from g1) 1
                  simp only [List.getElem?_toArray, List.getElem?_cons_zero, List.getElem?_cons_succ, hm] at q1 hlk
                  clear g3 g5 g2 g1 hz hlw
                  go_wp2_with (go_at_call 22; refine (column_Low.calls Aj cj a lw true _ hCj ljc hlow).mono ?_; rintro e w4 ⟨rfl, ⟨nd, rfl⟩⟩; have hlk' := hlk nd; have q1' := q1 nd; clear hlk q1)
                  refine bodyPost_ret (results_tmp3 rfl _ _ _) rfl ?_
                  exact ⟨_, _, rfl, R45n _ _ _, R45n _ _ _, pw_below_drewN hBw nd⟩
                · rw [if_neg hm] at H1
                  have hmn := mp_none hm
                  rw [hlw] at hmn
                  have hms : (s.mp lw).isSome = false := by rw [hmn]; rfl
                  have H1' := Aside0.mk H1
                  have hrk' : rowOk (rd_T45 a ((a.length : Int) - 1)).f0 := hrk
                  rw [hlw] at hrk
                  obtain ⟨gm, n, Al, Au, kl, ku, g1, g2, g3, g4, g5, g6⟩ := (HP.out.below hbr (pw_below_drewN (Below.refl _ wr) 0)).read
                  have hlk : ∀ nd, _ := fun nd => (g2.same (w' := wr.drewN nd) rfl).look hrk.wf
                  have q1 : ∀ nd, _ := fun nd => blk_cell (show (wr.drewN nd).heap[n2 + 1]? = _ from g1) 1
                  simp only [List.getElem?_toArray, List.getElem?_cons_zero, List.getElem?_cons_succ, hms] at q1 hlk
                  have hal : 0 < a.length := Nat.pos_of_ne_zero hz
                  clear g3 g5 g2 g1 hz hlw hm hmn H1
                  have HC0 := Aside0.mk hCj0
                  clear hCj0
                  go_wp2_with (first | (go_at_call 22; refine (column_Low.calls Aj cj a lw true _ hCj ljc hlow).mono ?_; rintro e w4 ⟨rfl, ⟨nd, rfl⟩⟩; have hlk' := hlk nd; have q1' := q1 nd; clear hlk q1; have hws : base ≤ ((wr.drewN nd).alloc (.cells #[.int .i64 i, .int .i64 1] 45)).heap.size := Nat.le_trans hbr (by simp); have b4 : Below wr.heap.size wr ((wr.drewN nd).alloc (.cells #[.int .i64 i, .int .i64 1] 45)) := (pw_below_drewN (Below.refl _ wr) nd).alloc (Nat.le_refl _) _; have hRa : RowV false ((wr.drewN nd).alloc (.cells #[.int .i64 i, .int .i64 1] 45)) base (.slice Aj a.length cj) a := (by rw [← hbs]; exact RowV.of_arg HC0.out ljc (hBw.trans (b4.mono (by rw [hbs]; exact hbr)))); have hRx : RowV false ((wr.drewN nd).alloc (.cells #[.int .i64 i, .int .i64 1] 45)) base (.slice (some ⟨wr.heap.size, 0, none⟩) 1 1) [⟨i, 1⟩] := RowV.of_R (lit_R (wr.drewN nd) base hbr i); have hPP := HP.out.below hbr b4; have hWS := Aside0.mk hws; clear hws) | (go_at_call 70; refine (put_calls (o := false) base (n2 + 1) p s.mp s.L s.U S _ _ a [⟨i, 1⟩] _ hWS.out hPP hRa hRx hal hrk' hs1 hs2).mono ?_; rintro e w5 ⟨⟨v, rfl⟩, hP5, st5, fr5⟩))
                  go_roundg (l.length - (i + 1))
                  case measure => exact step_down hlt hk
                  case rel =>
                    refine ⟨i + 1, s.put a [⟨i, 1⟩], _, by rw [cast_succ], hlt, rfl, ⟨?_⟩, ⟨hP5⟩, ⟨ST.out.trans ((Stay.of_below hbr b4).trans st5)⟩⟩
                    rw [cast_succ]
                    exact H1'.out
              · rw [if_neg hsm] at H1; cases H1
          · obtain rfl : i = l.length := by omega
            have H1 := HA.out
            rw [List.drop_length, restPut] at H1
            cases H1
            have h := H.out
            rw [if_pos rfl] at h
            unfold restEnd at h
            by_cases hcl : c.length < 8796093022208
            · rw [if_pos hcl] at h
              obtain ⟨r, hr1, h⟩ := Option.bind_eq_some_iff.1 h
              obtain ⟨u, hu, h⟩ := Option.bind_eq_some_iff.1 h
              cases h
              go_wp2_with (first | (go_at_call 72; refine (clone_calls Ac cc c _ (Kd.C_below hCc hBw) hcc hcl).mono ?_; rintro e w4 ⟨v4, rfl, hR4, hb4⟩; have hPV := (HP.out.below hbr hb4).read; have hRc := Kd.R_lower hR4 hbr) | (go_at_call 71; refine (clear_calls k (n2 + 1) p q2.mp q2.L q2.U base _ _ c [] r _ hPV (Nat.le_trans hbr hb4.size) hRc (R45_nil _ _) hr1).mono ?_; rintro e w5 ⟨v5, v6, rfl, hR5, hR6, hb5⟩; have b5 : Below wr.heap.size wr w5 := hb4.trans (hb5.mono hb4.size); obtain ⟨A6, c6, rfl⟩ := Kd.R_slice hR6; have hr6 := Kd.R_reads' hR6) | (go_at_call 57; refine (column_plus.calls p none 0 [] (wrap64 (p - 1)) A6 c6 r.2 r2 _ (C45_nil _) (Nat.le_refl _) hr6.2.2 hr6.2.1 hu).mono ?_; rintro e w7 ⟨v7, rfl, hR7, hb7⟩))
              refine bodyPost_ret (results_tmp3 rfl _ _ _) rfl ?_
              rw [hbs]
              exact ⟨_, _, rfl, apart_old hR5 hb7 hR7, apart_new (Nat.le_trans hbr b5.size) hR5 hR7, ST.out.below.trans ((b5.trans (hb7.mono b5.size)).mono hbr)⟩
            · rw [if_neg hcl] at h; cases h
      · rw [if_neg he2] at h
        have heb : (e2 != 0) = true := by simp [he2]
        cases h
        clear he2
        go_enter Try.func45, Try.ntmps45
        go_wp2_with (first | (go_at_call 59; refine (column_checkAll.calls k p A cl l 0 _ hC hcl h1).mono ?_; rintro e w1 ⟨rfl, hb1⟩) | (go_at_call 24; refine (column_Check.calls k p Ac cc c r3 _ (Kd.C_below hCc hb1) hcc h2).mono ?_; rintro e w2 ⟨rfl, hb2⟩))
        refine bodyPost_ret (results_tmp3 rfl _ _ _) rfl ?_
        exact ⟨_, _, rfl, R45n _ _ _, R45n _ _ _, hb1.trans (hb2.mono hb1.size)⟩
    · rw [if_neg he1] at h
      have heb : (e1 != 0) = true := by simp [he1]
      cases h
      clear he1
      go_enter Try.func45, Try.ntmps45
      go_wp2_with (first | (go_at_call 59; refine (column_checkAll.calls k p A cl l r3 _ hC hcl h1).mono ?_; rintro e w1 ⟨rfl, hb1⟩))
      refine bodyPost_ret (results_tmp3 rfl _ _ _) rfl ?_
      exact ⟨_, _, rfl, R45n _ _ _, R45n _ _ _, hb1⟩
end Go.Proofs.Ytojnnfhalpefmaa.H
