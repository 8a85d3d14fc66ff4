/- match.Verify: what it answers. -/
import Derived.Test.YtlleokhmgblfnaaACheck
import Derived.Test.YtlleokhmgblfnaaAMap
set_option linter.unusedVariables false
namespace Go.Proofs.Ytlleokhmgblfnaa.H
open Go.RowKit Go.Proofs.YtlleokhmgblfnaaW.PrintWords
open Go.Maps
attribute [local go_sem] eqE

def verGo (E : List (Int × Int)) : Int → (Int → Bool) → List Int → Bool
  | _, _, [] => true
  | v, U, x :: xs => if x = -1 then verGo E (v + 1) U xs else if (v, x) ∈ E ∧ U x = false then verGo E (v + 1) (fun y => U y || decide (y = x)) xs else false
def verF (L R : Int) (E : List (Int × Int)) (mate : List Int) : Bool × Int :=
  if chk L R E = 0 then if (mate.length : Int) = L then (verGo E 0 (fun _ => false) mate, 0) else (false, 10) else (false, chk L R E)

theorem chkGo_rng' (L R : Int) : ∀ (E : List (Int × Int)) (p : Option (Int × Int)), chkGo L R p E = 0 → ∀ x ∈ E, 0 ≤ x.1 ∧ x.1 < L ∧ 0 ≤ x.2 ∧ x.2 < R
  | [], _, _, x, hx => by cases hx
  | y :: E, p, h, x, hx => by
    unfold chkGo at h
    split at h
    · omega
    · have ih := chkGo_rng' L R E (some y)
      have h2 : chkGo L R (some y) E = 0 := by
        cases p with
        | none => exact h
        | some q =>
          simp only at h
          split at h
          · omega
          · split at h
            · omega
            · exact h
      rcases List.mem_cons.1 hx with e | hx
      · subst e; omega
      · exact ih h2 x hx
theorem chk_rng {L R : Int} {E : List (Int × Int)} (h : chk L R E = 0) : ∀ x ∈ E, 0 ≤ x.1 ∧ x.1 < 1024 ∧ 0 ≤ x.2 ∧ x.2 < 1024 := fun x hx => by
  unfold chk at h
  split at h
  · omega
  · split at h
    · omega
    · have := chkGo_rng' L R E none h x hx
      omega
theorem wf_i64' {x : Int} (h0 : -9223372036854775808 ≤ x) (h1 : x ≤ 9223372036854775807) : (Lit.int .i64 x).wf = true := by
  have e1 : IntKind.i64.min = -9223372036854775808 := by decide
  have e2 : IntKind.i64.max = 9223372036854775807 := by decide
  simp only [Lit.wf, e1, e2, Bool.and_eq_true, decide_eq_true_eq]
  exact ⟨h0, h1⟩
theorem wpList_set {α : Type} [DecidableEq α] {enc : α → Value} (w : World) {ops : Array Oper} {rest : List Oper} {o : Oper} {a : Act} {Q : Exit → Act → World → Prop}
    (hg : o.guard = none) (m x v : Operand) (t : TypeId) (hop : o.op = Op.mapUpdate t m x v) (inj : ∀ x y, enc x = enc y → x = y)
    (k : TypeId) (K : Keyed Try.prog k) (ht : Try.prog.underlying t = some (.map k 4)) (b n : Nat) (S : α → Bool)
    (hm : a.eval m = .map (some b)) (hown : SetMap enc w k b n S) (hn : n < maxLen) (key : α) (kl : Lit) (hx : a.eval x = enc key) (hv : a.eval v = .bool true) (hkey : keyOf Try.prog k (enc key) = some kl)
    (hK : ∀ w', SetMap enc w' k b (n + 1) (fun y => S y || decide (y = key)) → w.grownBy w' (some b) → wpList Try.prog ops Q rest (a.put o.dst undef) w') :
    wpList Try.prog ops Q (o :: rest) a w := by
  refine wpList_plain hg fun K' hK' => ?_
  obtain ⟨w', hrun, r1, r2⟩ := hown.store inj K ht hn hkey
  unfold Oper.wp
  simp [execOp, hop, hm, hx, hv, hrun, Result.andThen]
  exact hK' _ _ (hK w' r1 r2)

set_option maxHeartbeats 4000000 in
set_option maxRecDepth 100000 in
theorem ver_any (L R : Int) (E : List (Int × Int)) (A : Option Addr) (c : Nat) (mate : List Int) (B : Option Addr) (cm : Nat) (w : World) (hE : kE.C w A E.length E) (hc : E.length ≤ c) (hM : (Kd.int .i64).C w B mate.length mate) (hcm : mate.length ≤ cm) (hwf : ∀ x ∈ mate, (Lit.int .i64 x).wf = true) :
    Calls Try.prog 33 #[.agg #[.int .i64 L, .int .i64 R, .slice A E.length c], .slice B mate.length cm] w fun e w' => e = .returned (.tuple #[.bool (verF L R E mate).1, .int .i64 (verF L R E mate).2]) ∧ Below w.heap.size w w' := by
  have hm := Kd.C_max hE
  have hm2 := Kd.C_max hM
  have HE := Aside0.mk hE
  have HM := Aside0.mk hM
  have HW := Aside0.mk hwf
  clear hE hM hwf
  have hmm := @run_makeMap Try.prog
  obtain ⟨r, hr⟩ : ∃ r, verF L R E mate = r := ⟨_, rfl⟩
  rw [hr]
  obtain ⟨r0, r1⟩ := r
  obtain ⟨q, hq⟩ : ∃ q, chk L R E = q := ⟨_, rfl⟩
  have HR := Aside0.mk hr
  have HQ := Aside0.mk hq
  clear hr hq
  go_enter Try.func33, Try.ntmps33
  go_wp2_with fail
  have kb := blk_new w (.cells #[Value.int IntKind.i64 L, Value.int IntKind.i64 R, Value.slice A E.length c] 33)
  have bel := below_alloc (Below.refl w.heap.size w) (.cells #[Value.int IntKind.i64 L, Value.int IntKind.i64 R, Value.slice A E.length c] 33)
  have HE1 := Aside0.mk (Kd.C_below HE.out bel)
  have HM1 := Aside0.mk (Kd.C_below HM.out bel)
  refine (check_any L R E A c _ HE1.out hc).mono ?_
  rintro e w1 ⟨rfl, b1⟩
  rw [HQ.out]
  replace kb := blk_below kb b1
  replace bel := below_step bel b1
  replace HE1 := Aside0.mk (Kd.C_below HE1.out b1)
  replace HM1 := Aside0.mk (Kd.C_below HM1.out b1)
  clear b1
  have g0 := blk_cell kb 0
  have g2 := blk_cell kb 2
  simp only [List.getElem?_toArray, List.getElem?_cons_zero, List.getElem?_cons_succ] at g0 g2
  by_cases hq0 : q = 0
  case neg =>
    have hb : (q != 0) = true := by simpa using hq0
    have h1 := HR.out
    unfold verF at h1
    rw [HQ.out, if_neg hq0] at h1
    cases h1
    have HX := Aside0.mk hq0
    clear hq0
    go_wp2
    refine bodyPost_ret (v := .tuple #[.bool false, .int .i64 r1]) (by simp [results, Try.results33, go_sem]) rfl ⟨rfl, bel⟩
  subst hq0
  by_cases hlen : (mate.length : Int) = L
  case neg =>
    have h1 := HR.out
    unfold verF at h1
    rw [HQ.out, if_pos rfl, if_neg hlen] at h1
    cases h1
    have hb : ((mate.length : Int) != L) = true := by simpa using hlen
    have HX := Aside0.mk hlen
    clear hlen
    go_wp2
    refine bodyPost_ret (v := .tuple #[.bool false, .int .i64 10]) (by simp [results, Try.results33, go_sem]) rfl ⟨rfl, bel⟩
  have h1 := HR.out
  unfold verF at h1
  rw [HQ.out, if_pos rfl, if_pos hlen] at h1
  replace HR := Aside0.mk h1
  clear h1
  subst hlen
  have gm := fun o => blk_cell (blk_alloc kb o) 2
  simp only [List.getElem?_toArray, List.getElem?_cons_zero, List.getElem?_cons_succ] at gm
  have hE64 : E.length ≤ 65536 := by
    have h := HQ.out
    unfold chk at h
    split at h
    · omega
    · split at h
      · omega
      · omega
  have hIn : ∀ x ∈ E, (Lit.int .i64 x.1).wf = true ∧ (Lit.int .i64 x.2).wf = true := fun x hx => by
    have h := chk_rng HQ.out x hx
    exact ⟨wf_i64' (by omega) (by omega), wf_i64' (by omega) (by omega)⟩
  have HI := Aside0.mk hIn
  clear hIn
  obtain ⟨mb, hmb⟩ : ∃ mb, w1.heap.size = mb := ⟨_, rfl⟩
  have hset0 := SetMap.made encP w1 40
  rw [hmb] at hset0
  have bel0 := below_alloc bel (.map #[] 0)
  have kb0 := blk_alloc kb (.map #[] 0)
  have HE2 := Aside0.mk (Kd.C_below HE1.out (below_alloc (Below.refl _ _) (.map #[] 0)))
  have HM2 := Aside0.mk (Kd.C_below HM1.out (below_alloc (Below.refl _ _) (.map #[] 0)))
  clear g2 HE1 HM1
  go_wp2
  generalize w1.alloc (Obj.map #[] 0) = W2 at *
  go_loopg [29] (E.length + 1) (fun kq v29 wr => ∃ i : Int, v29 = .int .i64 i ∧ Aside0 (0 ≤ i ∧ i ≤ E.length ∧ (E.length : Int) < i + kq) ∧ Aside0 (SetMap encP wr 40 mb i.toNat (fun p => decide (p ∈ E.take i.toNat))) ∧ Aside0 (Below w.heap.size w wr) ∧ Aside0 (wr.heap[w.heap.size]? = some (.cells #[Value.int IntKind.i64 mate.length, Value.int IntKind.i64 R, Value.slice A E.length c] 33 (0, 0))) ∧ Aside0 (w.heap.size < mb))
  case atStart => exact ⟨0, rfl, ⟨by omega, by omega, by omega⟩, ⟨by simpa using hset0⟩, ⟨bel0⟩, ⟨kb0⟩, ⟨by rw [← hmb]; exact blk_lt kb⟩⟩
  case round =>
    clear HE2 HM2 hset0 bel0 kb0 gm g0
    obtain ⟨i, rfl, HA, HS, HB, HG, HN⟩ := hrel
    have HEr := Aside0.mk (Kd.C_below HE.out HB.out)
    have HMr := Aside0.mk (Kd.C_below HM.out HB.out)
    have i0 : 0 ≤ i := HA.out.1
    by_cases hlt : i < E.length
    · obtain ⟨ad, eA, hx0, hx1⟩ := at_E HEr.out i i0 hlt
      subst eA
      have hin := HI.out (rdE E i) (by unfold rdE; rw [List.getD_eq_getElem?_getD, List.getElem?_eq_getElem (by omega)]; exact List.getElem_mem _)
      have htk : E.take (i.toNat + 1) = E.take i.toNat ++ [rdE E i] := by
        rw [List.take_add_one, List.getElem?_eq_getElem (by omega)]
        unfold rdE
        rw [List.getD_eq_getElem?_getD, List.getElem?_eq_getElem (by omega)]
        rfl
      obtain ⟨x, hX⟩ : ∃ x, rdE E i = x := ⟨_, rfl⟩
      rw [hX] at hx0 hx1 hin htk
      obtain ⟨kl, hkl⟩ := key40 hin.1 hin.2
      have HK := Aside0.mk hkl
      have HT := Aside0.mk htk
      obtain ⟨x0, x1⟩ := x
      clear hX hin hkl htk
      go_wp2_with (first | (at_mapUpdate; go_loud (refine wpList_set _ rfl _ _ _ 73 rfl encP_inj 40 keyed40 Try.underlying73 mb i.toNat _ rfl (HS.out.alloc _) (by unfold maxLen; omega) (x0, x1) kl rfl rfl HK.out ?_; intro w3 hset3 hgrow3)) | go_in)
      go_roundg (gk - 1)
      case measure => have := HA.out.2.2; omega
      case rel =>
        have es : (fun p => decide (p ∈ E.take (i + 1).toNat)) = (fun y => decide (y ∈ E.take i.toNat) || decide (y = (x0, x1))) := by
          funext p
          rw [show (i + 1).toNat = i.toNat + 1 by omega, HT.out]
          simp
        exact ⟨i + 1, by go_num, ⟨by omega, by omega, by have := HA.out.2.2; omega⟩, ⟨by rw [es, show (i + 1).toNat = i.toNat + 1 by omega]; exact hset3⟩, ⟨pw_below_grown (below_alloc HB.out _) (some mb) (below_alloc HB.out _).size hgrow3 (fun k hk => by cases hk; exact Nat.le_of_lt HN.out)⟩, ⟨blk_grown (blk_alloc HG.out _) hgrow3 (fun e => by cases e; exact absurd HN.out (Nat.lt_irrefl _))⟩, HN⟩
    · have hie : i = (E.length : Int) := by have := HA.out.2.1; omega
      subst hie
      have HS1 : SetMap encP wr 40 mb E.length (fun p => decide (p ∈ E)) := by simpa using HS.out
      replace HS := Aside0.mk HS1
      clear HS1
      obtain ⟨ub, hub⟩ : ∃ ub, wr.heap.size = ub := ⟨_, rfl⟩
      have hset1 := SetMap.made encI wr 3
      rw [hub] at hset1
      have HS1 := Aside0.mk (HS.out.alloc (.map #[] 0))
      have HB1 := Aside0.mk (below_alloc HB.out (.map #[] 0))
      have hmu : mb < ub := by
        obtain ⟨D, hD, _⟩ := HS.out
        rw [← hub]; exact hD.lt
      have hwu : w.heap.size ≤ ub := by have := HN.out; omega
      clear HEr HMr HA HS HB HG
      go_wp2
      generalize wr.alloc (Obj.map #[] 0) = W4 at *
      go_loopg [39] (mate.length + 1) (fun kq v39 wv => ∃ (j : Int) (U : Int → Bool) (n : Nat), v39 = .int .i64 j ∧ Aside0 (0 ≤ j ∧ j ≤ mate.length ∧ (mate.length : Int) < j + kq ∧ (n : Int) ≤ j) ∧ Aside0 ((verGo E j U (mate.drop j.toNat), (0 : Int)) = (r0, r1)) ∧ Aside0 (SetMap encP wv 40 mb E.length (fun p => decide (p ∈ E))) ∧ Aside0 (SetMap encI wv 3 ub n U) ∧ Aside0 (Below w.heap.size w wv))
      case atStart => exact ⟨0, fun _ => false, 0, rfl, ⟨by omega, by omega, by omega, by omega⟩, ⟨by simpa using HR.out⟩, HS1, ⟨hset1⟩, HB1⟩
      case round =>
        clear HS1 HB1 hset1 HR
        obtain ⟨j, U, n, rfl, HA, HR, HS, HU, HB⟩ := hrel
        have j0 : 0 ≤ j := HA.out.1
        by_cases hlt : j < mate.length
        · have HMr := Kd.C_below HM.out HB.out
          obtain ⟨ad, eA, hx⟩ := Kd.at_int HMr j j0 hlt
          subst eA
          have hwx := HW.out (rd mate j) (by unfold rd; rw [List.getD_eq_getElem?_getD, List.getElem?_eq_getElem (by omega)]; exact List.getElem_mem _)
          have hdr : mate.drop j.toNat = rd mate j :: mate.drop (j.toNat + 1) := by
            rw [List.drop_eq_getElem_cons (by omega)]
            unfold rd
            rw [List.getD_eq_getElem?_getD, List.getElem?_eq_getElem (by omega)]
            rfl
          have hgo := HR.out
          rw [hdr] at hgo
          obtain ⟨x, hX⟩ : ∃ x, rd mate j = x := ⟨_, rfl⟩
          rw [hX] at hx hwx hgo
          clear hX hdr HMr
          unfold verGo at hgo
          have ej : (j + 1).toNat = j.toNat + 1 := by omega
          by_cases h1 : x = -1
          · rw [if_pos h1] at hgo
            have b1 : (x == -1) = true := by simpa using h1
            have HG := Aside0.mk hgo
            have H1 := Aside0.mk h1
            have HX := Aside0.mk hwx
            clear hgo h1 hwx
            go_wp2
            go_roundg (gk - 1)
            case measure => have := HA.out.2.2; omega
            case rel => exact ⟨j + 1, U, n, by go_num, ⟨by omega, by omega, by have := HA.out.2.2; omega, by have := HA.out.2.2; omega⟩, ⟨by rw [ej]; exact HG.out⟩, HS, HU, HB⟩
          · rw [if_neg h1] at hgo
            have b1 : (x == -1) = false := by simpa using h1
            have hwj : (Lit.int .i64 j).wf = true := wf_i64' (by omega) (by omega)
            obtain ⟨kl, hkl⟩ := key40 (x := (j, x)) hwj hwx
            have hl1 := HS.out.look keyed40 Try.underlying73 hkl
            have hl2 := HU.out.look keyed3 Try.underlying74 (key := x) (key3 hwx)
            have HX := Aside0.mk hwx
            have H1 := Aside0.mk h1
            clear h1 hwx hkl hwj
            by_cases hin : (j, x) ∈ E
            · rw [decide_eq_true hin] at hl1
              by_cases hu : U x = false
              · rw [if_pos ⟨hin, hu⟩] at hgo
                rw [hu] at hl2
                have HG := Aside0.mk hgo
                have hn : n < maxLen := by
                  have := HA.out.2.2
                  unfold maxLen
                  omega
                have HNN := Aside0.mk hn
                clear hgo hin hu hn
                change (Instr.lookup 73 (.map (some mb)) (.agg #[.int .i64 j, .int .i64 x]) false).run Try.prog _ = _ at hl1
                change (Instr.lookup 74 (.map (some ub)) (.int .i64 x) false).run Try.prog _ = _ at hl2
                go_wp2_with (first | (at_mapUpdate; go_loud (refine wpList_set _ rfl _ _ _ 74 rfl encI_inj 3 keyed3 Try.underlying74 ub n _ rfl HU.out HNN.out x _ rfl rfl (key3 HX.out) ?_; intro w5 hset5 hgrow5)) | go_in)
                go_roundg (gk - 1)
                case measure => have := HA.out.2.2; omega
                case rel => exact ⟨j + 1, _, n + 1, by go_num, ⟨by omega, by omega, by have := HA.out.2.2; omega, by have := HA.out.2.2; omega⟩, ⟨by rw [ej]; exact HG.out⟩, ⟨HS.out.kept hgrow5 (fun e => by cases e; exact absurd hmu (Nat.lt_irrefl _))⟩, ⟨hset5⟩, ⟨pw_below_grown HB.out (some ub) HB.out.size hgrow5 (fun k hk => by cases hk; exact hwu)⟩⟩
              · rw [if_neg (fun h => hu h.2)] at hgo
                have hu' : U x = true := by simpa using hu
                rw [hu'] at hl2
                cases hgo
                clear hin hu hu'
                change (Instr.lookup 73 (.map (some mb)) (.agg #[.int .i64 j, .int .i64 x]) false).run Try.prog _ = _ at hl1
                change (Instr.lookup 74 (.map (some ub)) (.int .i64 x) false).run Try.prog _ = _ at hl2
                go_wp2
                refine bodyPost_ret (v := .tuple #[.bool false, .int .i64 0]) (by simp [results, Try.results33, go_sem]) rfl ⟨rfl, HB.out⟩
            · rw [decide_eq_false hin] at hl1
              rw [if_neg (fun h => hin h.1)] at hgo
              cases hgo
              clear hin
              change (Instr.lookup 73 (.map (some mb)) (.agg #[.int .i64 j, .int .i64 x]) false).run Try.prog _ = _ at hl1
              clear hl2
              go_wp2
              refine bodyPost_ret (v := .tuple #[.bool false, .int .i64 0]) (by simp [results, Try.results33, go_sem]) rfl ⟨rfl, HB.out⟩
        · have hje : mate.drop j.toNat = [] := List.drop_eq_nil_of_le (by omega)
          have hgo := HR.out
          rw [hje] at hgo
          unfold verGo at hgo
          cases hgo
          go_wp2
          refine bodyPost_ret (v := .tuple #[.bool true, .int .i64 0]) (by simp [results, Try.results33, go_sem]) rfl ⟨rfl, HB.out⟩
end Go.Proofs.Ytlleokhmgblfnaa.H
