/- eliminate of package column, walked by hand. -/
import Derived.Test.YtojnnfhalpefmaaKPut
import Derived.Test.YtojnnfhalpefmaaKClone
set_option linter.unusedVariables false
set_option linter.unusedSimpArgs false
namespace Go.Proofs.Ytojnnfhalpefmaa.H
open Go.RowKit Go.Proofs.YtojnnfhalpefmaaW.PrintWords Go.Proofs.YtojnnfhalpefmaaW.PrintLast Go.Proofs.YtojnnfhalpefmaaW.PrintMore Go.Proofs.Ytojnnfhalpefmaa.M
structure St where
  mp : Int → Option Int
  L : List (List S45)
  U : List (List S45)
  Z : List (List S45)
/-- A column with its combination is put to the others. -/
def St.put (s : St) (c x : List S45) : St := { mp := fun y => if y = lastR c then some (s.L.length : Int) else s.mp y, L := s.L ++ [c], U := s.U ++ [x], Z := s.Z }
def St.zero (s : St) (x : List S45) : St := { s with Z := s.Z ++ [x] }
def St.small (s : St) : Prop := s.L.length < 1000000 ∧ s.U.length < 1000000 ∧ s.Z.length < 1000000
instance (s : St) : Decidable s.small := inferInstanceAs (Decidable (_ ∧ _))
def elimL (p : Int) (k : Nat) : List (List S45) → Int → St → Option St
  | [], _, s => some s
  | c :: l, j, s =>
    if c.length < 8796093022208 ∧ s.small then
      (clearL p s.mp s.L s.U k c [⟨j, 1⟩] (wrap64 ((c.length : Int) - 1))).bind fun r =>
        if r.1.length = 0 then elimL p k l (j + 1) (s.zero r.2)
        else if rowOk (lastR r.1) then elimL p k l (j + 1) (s.put r.1 r.2) else none
    else none
theorem lit_R (W : World) (base : Nat) (hb : base ≤ W.heap.size) (i : Int) : Kd.R k45 45 (W.alloc (.cells #[.int .i64 i, .int .i64 1] 45)) base (fun _ => True) (.slice (some ⟨W.heap.size, 0, none⟩) 1 1) [⟨i, 1⟩] :=
  ⟨fun _ _ => trivial, OwnRow.lit W base (inner := [.int .i64 i, .int .i64 1]) ((Reps.none _ _).snoc (p := (⟨i, 1⟩ : S45)) (k45_mkM _ _ _ _) rfl) hb (by simp)⟩
theorem wrap_succ {i n : Nat} (h : i < n) (hn : n ≤ 9223372036854775807) : wrap64 ((i : Int) + 1) = ((i + 1 : Nat) : Int) := by
  unfold wrap64
  omega
theorem step_down {g n i : Nat} (h : i < n) (hk : g = n - i) : n - (i + 1) < g := by omega
theorem cast_succ (i : Nat) : ((i + 1 : Nat) : Int) = (i : Int) + 1 := by omega
set_option maxHeartbeats 8000000 in
set_option maxRecDepth 100000 in
theorem elim_calls (k : Nat) (p : Int) (A : Option Addr) (cl : Nat) (l : List (List S45)) (r : St) (w : World) (hC : (Kd.slice 45 k45).C w A l.length l) (hcl : l.length ≤ cl) (h : elimL p k l 0 ⟨fun _ => none, [], [], []⟩ = some r) :
    Calls Try.prog 66 #[.int .i64 p, .slice A l.length cl] w fun e w' => ∃ (gv : Nat) (vz : Value) (S : Nat → Prop), e = .returned (.tuple #[.pointer (some ⟨gv, 0, none⟩), vz]) ∧ PivO false w' w.heap.size gv p r.mp r.L r.U S ∧
      OwnRow (colE false w' w.heap.size) 22 1 w' w.heap.size vz r.Z ∧ Stay w.heap.size w w' := by
  have hmm := @run_makeMap Try.prog
  go_enter Try.func66, Try.ntmps66
  go_wp2
  obtain ⟨base, hbs⟩ : ∃ b, w.heap.size = b := ⟨_, rfl⟩
  obtain ⟨w1, hw1⟩ : ∃ w1, (w.alloc (.map #[] 0)).alloc (.cells #[.int .i64 p, .map (some w.heap.size), .slice none 0 0, .slice none 0 0] 87) = w1 := ⟨_, rfl⟩
  have hP1 : PivO false w1 base (base + 1) p (fun _ => none) [] [] (fun b => b = base ∨ b = base + 1) := by
    have h := PivO.made (o := false) w w.heap.size p (Nat.le_refl _)
    rw [hw1, hbs] at h
    exact ⟨[], rfl, h⟩
  have st1 : Stay base w w1 := by
    rw [← hw1]
    exact Stay.of_below (by omega) (((Below.refl _ w).alloc (Nat.le_refl _) _).alloc (by simp) _)
  rw [hbs]
  simp only [hbs] at hw1 ⊢
  rw [hw1]
  have H0 := Aside0.mk h
  have HP1 := Aside0.mk hP1
  have ST1 := Aside0.mk st1
  clear h hP1 st1 hw1
  go_loopg [5, 16] l.length (fun kq v5 v16 wr => ∃ (i : Nat) (s : St) (S : Nat → Prop), v16 = .int .i64 i ∧ i ≤ l.length ∧ kq = l.length - i ∧ Aside0 (elimL p k (l.drop i) i s = some r) ∧ Aside0 (PivO false wr base (base + 1) p s.mp s.L s.U S) ∧ Aside0 (OwnRow (colE false wr base) 22 1 wr base v5 s.Z) ∧ Aside0 ((∀ g, v5.ownBlock = some g → ¬ S g) ∧ ∀ b, S b → b < wr.heap.size) ∧ Aside0 (Stay base w wr))
  case atStart => exact ⟨0, ⟨fun _ => none, [], [], []⟩, _, rfl, Nat.zero_le _, by omega, H0, HP1, ⟨OwnRow.none_ _ _ _ _ _⟩, ⟨by simp [Value.ownBlock], fun b hb => by have := HP1.out.lt; omega⟩, ST1⟩
  case round =>
    clear H0 HP1 ST1
    obtain ⟨i, s, S, rfl, hi, hk, HA, HP, HZ, HS, ST⟩ := hrel
    by_cases hlt : i < l.length
    · obtain ⟨c, hc⟩ : ∃ c, rd_L2 l (i : Int) = c := ⟨_, rfl⟩
      have hdr : l.drop i = c :: l.drop (i + 1) := by
        rw [List.drop_eq_getElem_cons hlt, ← hc]
        simp [rd_L2, hlt]
      have H := HA.out
      rw [hdr, elimL] at H
      by_cases hsm : c.length < 8796093022208 ∧ s.small
      · rw [if_pos hsm] at H
        obtain ⟨hcl1, hs1, hs2, hs3⟩ := hsm
        obtain ⟨r1, hr1, H⟩ := Option.bind_eq_some_iff.1 H
        have hbr : base ≤ wr.heap.size := by have := ST.out.below.size; omega
        have hBw : Below w.heap.size w wr := by rw [hbs]; exact ST.out.below
        obtain ⟨al, Aj, cj, eL, yL, ljc, hCj⟩ := at_L2 (Kd.C_below hC hBw) (i : Int) (by omega) (by omega)
        subst eL
        rw [hc] at yL ljc hCj
        rw [Int.toNat_natCast] at yL
        by_cases hz : r1.1.length = 0
        · rw [if_pos hz] at H
          have hzb : ((r1.1.length : Int) == 0) = true := by simp [hz]
          have H' := Aside0.mk H
          clear H
          go_wp2_with (first | (go_at_call 72; refine (clone_calls Aj cj c _ hCj ljc hcl1).mono ?_; rintro e w2 ⟨v2, rfl, hR2, hb2⟩; have b23 : Below wr.heap.size wr (w2.alloc (.cells #[.int .i64 i, .int .i64 1] 45)) := hb2.alloc hb2.size _; have hPV := (HP.out.below hbr b23).read; have hRc := Kd.R_lower (Kd.R_alloc hR2 (.cells #[.int .i64 i, .int .i64 1] 45)) hbr; have hRx := lit_R w2 base (Nat.le_trans hbr hb2.size) i) | (go_at_call 71; refine (clear_calls k (base + 1) p s.mp s.L s.U base _ _ c [⟨i, 1⟩] r1 _ hPV (Nat.le_trans hbr b23.size) hRc hRx hr1).mono ?_; rintro e w4 ⟨v8, v9, rfl, hR8, hR9, hb4⟩; have b4 : Below wr.heap.size wr w4 := b23.trans (hb4.mono b23.size); obtain ⟨A8, c8, rfl⟩ := Kd.R_slice hR8; obtain ⟨A9, c9, rfl⟩ := Kd.R_slice hR9; have HZ4 := own_stay HZ.out (Stay.of_below hbr b4) (fun g hg => b4.block g (by obtain ⟨⟨cs, hcs⟩, _⟩ := own_blk22 HZ.out hg; exact blk_lt hcs)); have hw9 := RowV.of_R (o := false) hR9) | (at_builtin; refine OwnRow.append (R := colE false w4 base) (w0 := w4) base rfl _ _ 37 22 (.slice none 0 0) 1 24 rfl Try.underlying37 info22 rfl (by decide) (by omega) u5 s.Z r1.2 [.slice A9 r1.2.length c9] rfl rfl ⟨_, rfl, hw9⟩ rfl (by simp [Value.oneCell']) HZ4 (Below.refl _ _) (Nat.le_trans hbr b4.size) (by omega) ?_; intro v5 w5 ho5 hb5 hg5 hat5))
          have hwi : wrap64 ((i : Int) + 1) = ((i + 1 : Nat) : Int) := wrap_succ hlt (Kd.C_max hC)
          go_roundg (l.length - (i + 1))
          case measure => exact step_down hlt hk
          case rel =>
            have sz4 := b4.size
            have st45 : Stay base w4 w5 := stay_grown hg5 (Nat.le_trans hbr sz4) (fun g e => by
              obtain ⟨⟨cs, hcs⟩, hbg⟩ := own_blk22 HZ4 e
              exact ⟨hbg, fun cs' e' => by rw [hcs] at e'; cases e'⟩)
            have HZ5 : OwnRow (colE false w5 base) 22 1 w5 base v5 (s.Z ++ [r1.2]) := ho5.imp_ (fun p cs ⟨v, e, h⟩ => ⟨v, e, h.stay st45⟩)
            have hP5 := (HP.out.below hbr b4).stay st45 (fun b hS hb => hg5.block b hb (fun e => HS.out.1 b e.symm hS))
            refine ⟨i + 1, s.zero r1.2, S, by rw [hwi], hlt, rfl, ⟨by rw [cast_succ]; exact H'.out⟩, ⟨hP5⟩, ⟨HZ5⟩, ⟨fun g hg hS => ?_, fun b hb => ?_⟩, ⟨ST.out.trans ((Stay.of_below hbr b4).trans st45)⟩⟩
            · rcases hat5 with e | ⟨b, e, hle⟩
              · exact HS.out.1 g (e ▸ hg) hS
              · rw [hg] at e
                cases e
                exact absurd (Nat.lt_of_lt_of_le (HS.out.2 g hS) sz4) (Nat.not_lt.mpr hle)
            · exact Nat.lt_of_lt_of_le (HS.out.2 b hb) (Nat.le_trans sz4 st45.below.size)
        · rw [if_neg hz] at H
          by_cases hrk : rowOk (lastR r1.1)
          · rw [if_pos hrk] at H
            have hzb : ((r1.1.length : Int) == 0) = false := by simp [hz]
            have H' := Aside0.mk H
            clear H
            go_wp2_with (first | (go_at_call 72; refine (clone_calls Aj cj c _ hCj ljc hcl1).mono ?_; rintro e w2 ⟨v2, rfl, hR2, hb2⟩; have b23 : Below wr.heap.size wr (w2.alloc (.cells #[.int .i64 i, .int .i64 1] 45)) := hb2.alloc hb2.size _; have hPV := (HP.out.below hbr b23).read; have hRc := Kd.R_lower (Kd.R_alloc hR2 (.cells #[.int .i64 i, .int .i64 1] 45)) hbr; have hRx := lit_R w2 base (Nat.le_trans hbr hb2.size) i) | (go_at_call 71; refine (clear_calls k (base + 1) p s.mp s.L s.U base _ _ c [⟨i, 1⟩] r1 _ hPV (Nat.le_trans hbr b23.size) hRc hRx hr1).mono ?_; rintro e w4 ⟨v8, v9, rfl, hR8, hR9, hb4⟩; have b4 : Below wr.heap.size wr w4 := b23.trans (hb4.mono b23.size); obtain ⟨A8, c8, rfl⟩ := Kd.R_slice hR8; obtain ⟨A9, c9, rfl⟩ := Kd.R_slice hR9) | (go_at_call 70; refine (put_calls base (base + 1) p s.mp s.L s.U S _ _ r1.1 r1.2 _ (Nat.le_trans hbr b4.size) (HP.out.below hbr b4) (RowV.of_R hR8) (RowV.of_R hR9) (by omega) hrk hs1 hs2).mono ?_; rintro e w5 ⟨⟨v, rfl⟩, hP5, st5, fr5⟩))
            have hwi : wrap64 ((i : Int) + 1) = ((i + 1 : Nat) : Int) := wrap_succ hlt (Kd.C_max hC)
            go_roundg (l.length - (i + 1))
            case measure => exact step_down hlt hk
            case rel =>
              have sz4 := b4.size
              have ltz : ∀ g, u5.ownBlock = some g → g < wr.heap.size := fun g hg => by
                obtain ⟨⟨cs, hcs⟩, _⟩ := own_blk22 HZ.out hg
                exact blk_lt hcs
              have HZ4 := own_stay HZ.out (Stay.of_below hbr b4) (fun g hg => b4.block g (ltz g hg))
              have HZ5 := own_stay HZ4 st5 (fun g hg => fr5 g (Nat.lt_of_lt_of_le (ltz g hg) sz4) (HS.out.1 g hg))
              refine ⟨i + 1, s.put r1.1 r1.2, _, by rw [hwi], hlt, rfl, ⟨by rw [cast_succ]; exact H'.out⟩, ⟨hP5⟩, ⟨HZ5⟩, ⟨fun g hg hS => ?_, fun b hb => ?_⟩, ⟨ST.out.trans ((Stay.of_below hbr b4).trans st5)⟩⟩
              · rcases hS with hS | ⟨h1, _⟩
                · exact HS.out.1 g hg hS
                · exact absurd h1 (Nat.not_le_of_lt (Nat.lt_of_lt_of_le (ltz g hg) sz4))
              · rcases hb with hb | ⟨_, h2⟩
                · exact Nat.lt_of_lt_of_le (HS.out.2 b hb) (Nat.le_trans sz4 st5.below.size)
                · exact h2
          · rw [if_neg hrk] at H; cases H
      · rw [if_neg hsm] at H; cases H
    · obtain rfl : i = l.length := by omega
      have H := HA.out
      rw [List.drop_length] at H
      cases H
      go_wp2
      go_ret2
      exact ⟨base + 1, _, S, rfl, by rw [hbs]; exact HP.out, by rw [hbs]; exact HZ.out, by rw [hbs]; exact ST.out⟩
end Go.Proofs.Ytojnnfhalpefmaa.H
