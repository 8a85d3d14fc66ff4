/- match.Check returns the code of the first error of a graph. -/
import Derived.Test.YtlleokhmgblfnaaABase
set_option linter.unusedVariables false
namespace Go.Proofs.Ytlleokhmgblfnaa.H
open Go.RowKit Go.Proofs.YtlleokhmgblfnaaW.PrintWords
attribute [local go_sem] eqE

def chkGo (L R : Int) : Option (Int × Int) → List (Int × Int) → Int
  | _, [] => 0
  | p, x :: xs =>
    if x.1 < 0 ∨ L ≤ x.1 ∨ x.2 < 0 ∨ R ≤ x.2 then 1
    else match p with
      | none => chkGo L R (some x) xs
      | some q => if q = x then 5 else if x.1 < q.1 ∨ (q.1 = x.1 ∧ x.2 < q.2) then 6 else chkGo L R (some x) xs
def chk (L R : Int) (E : List (Int × Int)) : Int :=
  if L < 0 ∨ 1024 < L ∨ R < 0 ∨ 1024 < R then 1 else if 65536 < E.length then 3 else chkGo L R none E

set_option maxHeartbeats 2000000 in
set_option maxRecDepth 100000 in
theorem check_any (L R : Int) (E : List (Int × Int)) (A : Option Addr) (c : Nat) (w : World) (hE : kE.C w A E.length E) (hc : E.length ≤ c) :
    Calls Try.prog 23 #[.agg #[.int .i64 L, .int .i64 R, .slice A E.length c]] w fun e w' => e = .returned (.int .i64 (chk L R E)) ∧ Below w.heap.size w w' := by
  have hm := Kd.C_max hE
  have HE := Aside0.mk hE
  clear hE
  obtain ⟨r, hr⟩ : ∃ r, chk L R E = r := ⟨_, rfl⟩
  rw [hr]
  by_cases h1 : L < 0 ∨ 1024 < L ∨ R < 0 ∨ 1024 < R
  · have hr : r = 1 := by rw [← hr]; unfold chk; rw [if_pos h1]
    subst hr
    go_enter Try.func23, Try.ntmps23
    go_wp2
    all_goals go_ret
    all_goals exact ⟨rfl, (Below.refl _ _).alloc (Nat.le_refl _) _⟩
  have b1 : 0 ≤ L := by omega
  have b2 : L ≤ 1024 := by omega
  have b3 : 0 ≤ R := by omega
  have b4 : R ≤ 1024 := by omega
  by_cases h2 : 65536 < E.length
  · have hr : r = 3 := by rw [← hr]; unfold chk; rw [if_neg h1, if_pos h2]
    subst hr
    clear h1
    go_enter Try.func23, Try.ntmps23
    go_wp2
    all_goals go_ret
    all_goals exact ⟨rfl, (Below.refl _ _).alloc (Nat.le_refl _) _⟩
  have hr' : chkGo L R none E = r := by rw [← hr]; unfold chk; rw [if_neg h1, if_neg h2]
  have H := Aside0.mk hr'
  clear h1 hr hr'
  go_enter Try.func23, Try.ntmps23
  go_wp2
  go_loopg [33] (E.length + 1) (fun kq v33 wr => ∃ i : Int, v33 = .int .i64 i ∧ Aside0 (0 ≤ i ∧ i ≤ E.length ∧ (E.length : Int) < i + kq ∧ chkGo L R (if i = 0 then none else some (rdE E (i - 1))) (E.drop i.toNat) = r) ∧ Aside0 (Below w.heap.size w wr) ∧ Aside0 (wr.heap[w.heap.size]? = some (.cells #[Value.int IntKind.i64 L, Value.int IntKind.i64 R, Value.slice A E.length c] 33 (0, 0))))
  case atStart => exact ⟨0, rfl, ⟨by omega, by omega, by omega, by simpa using H.out⟩, ⟨(Below.refl _ _).alloc (Nat.le_refl _) _⟩, ⟨blk_new _ _⟩⟩
  case round =>
    clear H
    obtain ⟨i, rfl, HA, HB, HG⟩ := hrel
    have i0 : 0 ≤ i := HA.out.1
    have hsz := blk_lt HG.out
    have g0 := blk_cell HG.out 0
    have g1 := blk_cell HG.out 1
    have g2 := blk_cell HG.out 2
    simp only [List.getElem?_toArray, List.getElem?_cons_zero, List.getElem?_cons_succ] at g0 g1 g2
    by_cases hlt : i < E.length
    · obtain ⟨ad, eA, hx0, hx1⟩ := at_E HE.out i i0 hlt
      subst eA
      replace hx0 := pw_cell_below HB.out hx0
      replace hx1 := pw_cell_below HB.out hx1
      have hgo := HA.out.2.2.2
      rw [drop_E E i i0 hlt] at hgo
      obtain ⟨x, hX⟩ : ∃ x, rdE E i = x := ⟨_, rfl⟩
      rw [hX] at hx0 hx1 hgo
      obtain ⟨x0, x1⟩ := x
      by_cases hbad : x0 < 0 ∨ L ≤ x0 ∨ x1 < 0 ∨ R ≤ x1
      · have hr : r = 1 := by rw [← hgo]; unfold chkGo; rw [if_pos hbad]
        have HR := Aside0.mk hr
        clear hr hgo g2 hX
        rcases (show x0 < 0 ∨ (0 ≤ x0 ∧ L ≤ x0) ∨ (0 ≤ x0 ∧ x0 < L ∧ x1 < 0) ∨ (0 ≤ x0 ∧ x0 < L ∧ 0 ≤ x1 ∧ R ≤ x1) by omega) with hq | ⟨hq, hq2⟩ | ⟨hq, hq2, hq3⟩ | ⟨hq, hq2, hq3, hq4⟩
        all_goals clear hbad
        all_goals go_wp2
        all_goals go_ret
        all_goals exact ⟨by rw [HR.out]; rfl, below_alloc HB.out _⟩
      · have q1 : 0 ≤ x0 := by omega
        have q2 : x0 < L := by omega
        have q3 : 0 ≤ x1 := by omega
        have q4 : x1 < R := by omega
        unfold chkGo at hgo
        rw [if_neg hbad] at hgo
        clear hbad
        by_cases hi : i = 0
        · rw [if_pos hi] at hgo
          have H2 := Aside0.mk hgo
          have HX := Aside0.mk hX
          have hi' : (i == 0) = true := by simpa using hi
          have HI := Aside0.mk hi
          clear hgo hX hi
          go_wp2
          go_roundg (gk - 1)
          case measure => have := HA.out.2.2.1; have := HA.out.2.1; omega
          case rel => exact ⟨i + 1, by go_num, ⟨by omega, by omega, by have := HA.out.2.2.1; omega, by rw [if_neg (by omega), show i + 1 - 1 = i by omega, HX.out, show (i + 1).toNat = i.toNat + 1 by omega]; exact H2.out⟩, ⟨below_alloc HB.out _⟩, ⟨blk_alloc HG.out _⟩⟩
        · rw [if_neg hi] at hgo
          obtain ⟨ad', eA, hy0, hy1⟩ := at_E HE.out (i - 1) (by omega) (by omega)
          injection eA with eA
          subst eA
          rw [show (i - 1).toNat = i.toNat - 1 by omega] at hy0 hy1
          replace hy0 := fun o => pw_cell_below (below_alloc HB.out o) hy0
          replace hy1 := fun o => pw_cell_below (below_alloc HB.out o) hy1
          obtain ⟨y, hY⟩ : ∃ y, rdE E (i - 1) = y := ⟨_, rfl⟩
          rw [hY] at hy0 hy1 hgo
          obtain ⟨y0, y1⟩ := y
          have HX := Aside0.mk hX
          clear hX hY
          have hi1 : 1 ≤ i := by omega
          by_cases hxy : y0 = x0 ∧ y1 = x1
          · obtain ⟨rfl, rfl⟩ := hxy
            simp only [if_true] at hgo
            have HR := Aside0.mk hgo
            have HI := Aside0.mk hi
            have hi' : (i == 0) = false := by simpa using hi
            clear hgo hi
            go_wp2
            go_ret
            exact ⟨by rw [← HR.out]; rfl, below_alloc (below_alloc HB.out _) _⟩
          · simp only at hgo
            rw [if_neg (by simpa using hxy)] at hgo
            have hi' : (i == 0) = false := by simpa using hi
            have HI := Aside0.mk hi
            clear hi
            by_cases hlt2 : x0 < y0 ∨ (y0 = x0 ∧ x1 < y1)
            · rw [if_pos hlt2] at hgo
              have HR := Aside0.mk hgo
              clear hgo
              rcases hlt2 with hlt2 | ⟨hlt2, hlt3⟩
              · clear hxy
                have n1 : (y0 == x0) = false := by simp; omega
                go_wp2
                go_ret
                exact ⟨by rw [← HR.out]; rfl, below_alloc (below_alloc HB.out _) _⟩
              · subst hlt2
                clear hxy
                have n1 : (y1 == x1) = false := by simp; omega
                go_wp2
                go_ret
                exact ⟨by rw [← HR.out]; rfl, below_alloc (below_alloc HB.out _) _⟩
            · rw [if_neg hlt2] at hgo
              have H2 := Aside0.mk hgo
              clear hgo
              have n2 : (y0 == x0 && y1 == x1) = false := by simpa using hxy
              rcases (show y0 < x0 ∨ (y0 = x0 ∧ y1 < x1) by omega) with hlt3 | ⟨hlt3, hlt4⟩
              · clear hxy hlt2
                have n1 : (y0 == x0) = false := by simp; omega
                go_wp2
                go_roundg (gk - 1)
                case measure => have := HA.out.2.2.1; have := HA.out.2.1; omega
                case rel => exact ⟨i + 1, by go_num, ⟨by omega, by omega, by have := HA.out.2.2.1; omega, by rw [if_neg (by omega), show i + 1 - 1 = i by omega, HX.out, show (i + 1).toNat = i.toNat + 1 by omega]; exact H2.out⟩, ⟨below_alloc (below_alloc HB.out _) _⟩, ⟨blk_alloc (blk_alloc HG.out _) _⟩⟩
              · subst hlt3
                clear hxy hlt2 n2
                have n1 : (y1 == x1) = false := by simp; omega
                go_wp2
                go_roundg (gk - 1)
                case measure => have := HA.out.2.2.1; have := HA.out.2.1; omega
                case rel => exact ⟨i + 1, by go_num, ⟨by omega, by omega, by have := HA.out.2.2.1; omega, by rw [if_neg (by omega), show i + 1 - 1 = i by omega, HX.out, show (i + 1).toNat = i.toNat + 1 by omega]; exact H2.out⟩, ⟨below_alloc (below_alloc HB.out _) _⟩, ⟨blk_alloc (blk_alloc HG.out _) _⟩⟩
    · have hr : r = 0 := by rw [← HA.out.2.2.2, List.drop_eq_nil_of_le (by omega)]; rfl
      have HR := Aside0.mk hr
      clear hr
      go_wp2
      go_ret
      exact ⟨by rw [HR.out]; rfl, HB.out⟩
end Go.Proofs.Ytlleokhmgblfnaa.H
