/- A part of the proof: texts of this seat joined (printed and by hand), without what is not used. -/
import Derived.Test.YtlleokhmgblfnaaBEx8
set_option linter.unusedVariables false
set_option linter.unusedSimpArgs false
set_option linter.unusedSectionVars false
section
namespace Go.Proofs.Ytlleokhmgblfnaa.H
open Go.RowKit Go.Proofs.YtlleokhmgblfnaaW.PrintWords
open Go.Maps
attribute [local go_sem] eqE
def verGo (E : List (Int × Int)) : Int → (Int → Bool) → List Int → Bool
 | _, _, [] => true
 | v, U, x :: xs => if x = -1 then verGo E (v + 1) U xs else if (v, x) ∈ E ∧ U x = false then verGo E (v + 1) (fun y => U y || decide (y = x)) xs else false
def verF (L R : Int) (E : List (Int × Int)) (mate : List Int) : Bool × Int :=
 if chk L R E = 0 then if (mate.length : Int) = L then (verGo E 0 (fun _ => false) mate, 0) else (false, 10) else (false, chk L R E)
theorem chkGo_rng' (L R : Int) : ∀ (E : List (Int × Int)) (p : Option (Int × Int)), chkGo L R p E = 0 → ∀ x ∈ E, 0 ≤ x.1 ∧ x.1 < L ∧ 0 ≤ x.2 ∧ x.2 < R
 | [], _, _, x, hx => by cases hx
 | y :: E, p, h, x, hx => by
  unfold chkGo at h
  split at h
  ·omega
  ·have ih := chkGo_rng' L R E (some y)
   have h2 : chkGo L R (some y) E = 0 := by
    cases p with
    | none => exact h
    | some q =>
     simp only at h
     split at h
     ·omega
     ·split at h
      ·omega
      ·exact h
   rcases List.mem_cons.1 hx with e | hx
   ·subst e; omega
   ·exact ih h2 x hx
theorem chk_rng {L R : Int} {E : List (Int × Int)} (h : chk L R E = 0) : ∀ x ∈ E, 0 ≤ x.1 ∧ x.1 < 1024 ∧ 0 ≤ x.2 ∧ x.2 < 1024 := fun x hx => by
 unfold chk at h
 split at h
 ·omega
 ·split at h
  ·omega
  ·have := chkGo_rng' L R E none h x hx
   omega
theorem wf_i64' {x : Int} (h0 : -9223372036854775808 ≤ x) (h1 : x ≤ 9223372036854775807) : (Lit.int .i64 x).wf = true := by
 have e1 : IntKind.i64.min = -9223372036854775808 := by decide
 have e2 : IntKind.i64.max = 9223372036854775807 := by decide
 simp only [Lit.wf, e1, e2, Bool.and_eq_true, decide_eq_true_eq]
 exact ⟨h0, h1⟩
theorem wpList_set {α : Type} [DecidableEq α] {enc : α → Value} (w : World) {ops : Array Oper} {rest : List Oper} {o : Oper} {a : Act} {Q : Exit → Act → World → Prop}
  (hg : o.guard = none) (m x v : Operand) (t : TypeId) (hop : o.op = Op.mapUpdate t m x v) (inj : ∀ x y, enc x = enc y → x = y)
  (k : TypeId) (K : Keyed Try.prog k) (ht : Try.prog.underlying t = some (.map k 4)) (b n : Nat) (S : α → Bool)
  (hm : a.eval m = .map (some b)) (hown : SetMap enc w k b n S) (hn : n < maxLen) (key : α) (kl : Lit) (hx : a.eval x = enc key) (hv : a.eval v = .bool true) (hkey : keyOf Try.prog k (enc key) = some kl)
  (hK : ∀ w', SetMap enc w' k b (n + 1) (fun y => S y || decide (y = key)) → w.grownBy w' (some b) → wpList Try.prog ops Q rest (a.put o.dst undef) w') :
  wpList Try.prog ops Q (o :: rest) a w := by
 refine wpList_plain hg fun K' hK' => ?_
 obtain ⟨w', hrun, r1, r2⟩ := hown.store inj K ht hn hkey
 unfold Oper.wp
 simp [execOp, hop, hm, hx, hv, hrun, Result.andThen]
 exact hK' _ _ (hK w' r1 r2)
set_option maxHeartbeats 4000000 in
set_option maxRecDepth 100000 in
theorem ver_any (L R : Int) (E : List (Int × Int)) (A : Option Addr) (c : Nat) (mate : List Int) (B : Option Addr) (cm : Nat) (w : World) (hE : kE.C w A E.length E) (hc : E.length ≤ c) (hM : (Kd.int .i64).C w B mate.length mate) (hcm : mate.length ≤ cm) (hwf : ∀ x ∈ mate, (Lit.int .i64 x).wf = true) :
  Calls Try.prog 33 #[.agg #[.int .i64 L, .int .i64 R, .slice A E.length c], .slice B mate.length cm] w fun e w' => e = .returned (.tuple #[.bool (verF L R E mate).1, .int .i64 (verF L R E mate).2]) ∧ Below w.heap.size w w' := by
 have hm := Kd.C_max hE
 have hm2 := Kd.C_max hM
 have HE := As.mk hE
 have HM := As.mk hM
 have HW := As.mk hwf
 clear hE hM hwf
 have hmm := @run_makeMap Try.prog
 obtain ⟨r, hr⟩ : ∃ r, verF L R E mate = r := ⟨_, rfl⟩
 rw [hr]
 obtain ⟨r0, r1⟩ := r
 obtain ⟨q, hq⟩ : ∃ q, chk L R E = q := ⟨_, rfl⟩
 have HR := As.mk hr
 have HQ := As.mk hq
 clear hr hq
 go_enter Try.func33, Try.ntmps33
 go_wp2_with fail
 have kb := blk_new w (.cells #[Value.int IntKind.i64 L, Value.int IntKind.i64 R, Value.slice A E.length c] 33)
 have bel := below_alloc (Below.refl w.heap.size w) (.cells #[Value.int IntKind.i64 L, Value.int IntKind.i64 R, Value.slice A E.length c] 33)
 have HE1 := As.mk (Kd.C_below HE.out bel)
 have HM1 := As.mk (Kd.C_below HM.out bel)
 refine (check_any L R E A c _ HE1.out hc).mono ?_
 rintro e w1 ⟨rfl, b1⟩
 rw [HQ.out]
 replace kb := blk_below kb b1
 replace bel := below_step bel b1
 replace HE1 := As.mk (Kd.C_below HE1.out b1)
 replace HM1 := As.mk (Kd.C_below HM1.out b1)
 clear b1
 have g0 := blk_cell kb 0
 have g2 := blk_cell kb 2
 simp only [List.getElem?_toArray, List.getElem?_cons_zero, List.getElem?_cons_succ] at g0 g2
 by_cases hq0 : q = 0
 case neg =>
  have hb : (q != 0) = true := by simpa using hq0
  have h1 := HR.out
  unfold verF at h1
  rw [HQ.out, if_neg hq0] at h1
  cases h1
  have HX := As.mk hq0
  clear hq0
  go_wp2
  refine bodyPost_ret (v := .tuple #[.bool false, .int .i64 r1]) (by simp [results, Try.results33, go_sem]) rfl ⟨rfl, bel⟩
 subst hq0
 by_cases hlen : (mate.length : Int) = L
 case neg =>
  have h1 := HR.out
  unfold verF at h1
  rw [HQ.out, if_pos rfl, if_neg hlen] at h1
  cases h1
  have hb : ((mate.length : Int) != L) = true := by simpa using hlen
  have HX := As.mk hlen
  clear hlen
  go_wp2
  refine bodyPost_ret (v := .tuple #[.bool false, .int .i64 10]) (by simp [results, Try.results33, go_sem]) rfl ⟨rfl, bel⟩
 have h1 := HR.out
 unfold verF at h1
 rw [HQ.out, if_pos rfl, if_pos hlen] at h1
 replace HR := As.mk h1
 clear h1
 subst hlen
 have gm := fun o => blk_cell (blk_alloc kb o) 2
 simp only [List.getElem?_toArray, List.getElem?_cons_zero, List.getElem?_cons_succ] at gm
 have hE64 : E.length ≤ 65536 := by
  have h := HQ.out
  unfold chk at h
  split at h
  ·omega
  ·split at h
   ·omega
   ·omega
 have hIn : ∀ x ∈ E, (Lit.int .i64 x.1).wf = true ∧ (Lit.int .i64 x.2).wf = true := fun x hx => by
  have h := chk_rng HQ.out x hx
  exact ⟨wf_i64' (by omega) (by omega), wf_i64' (by omega) (by omega)⟩
 have HI := As.mk hIn
 clear hIn
 obtain ⟨mb, hmb⟩ : ∃ mb, w1.heap.size = mb := ⟨_, rfl⟩
 have hset0 := SetMap.made encP w1 40
 rw [hmb] at hset0
 have bel0 := below_alloc bel (.map #[] 0)
 have kb0 := blk_alloc kb (.map #[] 0)
 have HE2 := As.mk (Kd.C_below HE1.out (below_alloc (Below.refl _ _) (.map #[] 0)))
 have HM2 := As.mk (Kd.C_below HM1.out (below_alloc (Below.refl _ _) (.map #[] 0)))
 clear g2 HE1 HM1
 go_wp2
 generalize w1.alloc (Obj.map #[] 0) = W2 at *
 go_loopg [29] (E.length + 1) (fun kq v29 wr => ∃ i : Int, v29 = .int .i64 i ∧ As (0 ≤ i ∧ i ≤ E.length ∧ (E.length : Int) < i + kq) ∧ As (SetMap encP wr 40 mb i.toNat (fun p => decide (p ∈ E.take i.toNat))) ∧ As (Below w.heap.size w wr) ∧ As (wr.heap[w.heap.size]? = some (.cells #[Value.int IntKind.i64 mate.length, Value.int IntKind.i64 R, Value.slice A E.length c] 33 (0, 0))) ∧ As (w.heap.size < mb))
 case atStart => exact ⟨0, rfl, ⟨by omega, by omega, by omega⟩, ⟨by simpa using hset0⟩, ⟨bel0⟩, ⟨kb0⟩, ⟨by rw [← hmb]; exact blk_lt kb⟩⟩
 case round =>
  clear HE2 HM2 hset0 bel0 kb0 gm g0
  obtain ⟨i, rfl, HA, HS, HB, HG, HN⟩ := hrel
  have HEr := As.mk (Kd.C_below HE.out HB.out)
  have HMr := As.mk (Kd.C_below HM.out HB.out)
  have i0 : 0 ≤ i := HA.out.1
  by_cases hlt : i < E.length
  ·obtain ⟨ad, eA, hx0, hx1⟩ := at_E HEr.out i i0 hlt
   subst eA
   have hin := HI.out (rdE E i) (by unfold rdE; rw [List.getD_eq_getElem?_getD, List.getElem?_eq_getElem (by omega)]; exact List.getElem_mem _)
   have htk : E.take (i.toNat + 1) = E.take i.toNat ++ [rdE E i] := by
    rw [List.take_add_one, List.getElem?_eq_getElem (by omega)]
    unfold rdE
    rw [List.getD_eq_getElem?_getD, List.getElem?_eq_getElem (by omega)]
    rfl
   obtain ⟨x, hX⟩ : ∃ x, rdE E i = x := ⟨_, rfl⟩
   rw [hX] at hx0 hx1 hin htk
   obtain ⟨kl, hkl⟩ := key40 hin.1 hin.2
   have HK := As.mk hkl
   have HT := As.mk htk
   obtain ⟨x0, x1⟩ := x
   clear hX hin hkl htk
   go_wp2_with (first | (at_mapUpdate; go_loud (refine wpList_set _ rfl _ _ _ 73 rfl encP_inj 40 keyed40 Try.underlying73 mb i.toNat _ rfl (HS.out.alloc _) (by unfold maxLen; omega) (x0, x1) kl rfl rfl HK.out ?_; intro w3 hset3 hgrow3)) | go_in)
   go_roundg (gk - 1)
   case measure => have := HA.out.2.2; omega
   case rel =>
    have es : (fun p => decide (p ∈ E.take (i + 1).toNat)) = (fun y => decide (y ∈ E.take i.toNat) || decide (y = (x0, x1))) := by
     funext p
     rw [show (i + 1).toNat = i.toNat + 1 by omega, HT.out]
     simp
    exact ⟨i + 1, by go_num, ⟨by omega, by omega, by have := HA.out.2.2; omega⟩, ⟨by rw [es, show (i + 1).toNat = i.toNat + 1 by omega]; exact hset3⟩, ⟨pw_below_grown (below_alloc HB.out _) (some mb) (below_alloc HB.out _).size hgrow3 (fun k hk => by cases hk; exact Nat.le_of_lt HN.out)⟩, ⟨blk_grown (blk_alloc HG.out _) hgrow3 (fun e => by cases e; exact absurd HN.out (Nat.lt_irrefl _))⟩, HN⟩
  ·have hie : i = (E.length : Int) := by have := HA.out.2.1; omega
   subst hie
   have HS1 : SetMap encP wr 40 mb E.length (fun p => decide (p ∈ E)) := by simpa using HS.out
   replace HS := As.mk HS1
   clear HS1
   obtain ⟨ub, hub⟩ : ∃ ub, wr.heap.size = ub := ⟨_, rfl⟩
   have hset1 := SetMap.made encI wr 3
   rw [hub] at hset1
   have HS1 := As.mk (HS.out.alloc (.map #[] 0))
   have HB1 := As.mk (below_alloc HB.out (.map #[] 0))
   have hmu : mb < ub := by
    obtain ⟨D, hD, _⟩ := HS.out
    rw [← hub]; exact hD.lt
   have hwu : w.heap.size ≤ ub := by have := HN.out; omega
   clear HEr HMr HA HS HB HG
   go_wp2
   generalize wr.alloc (Obj.map #[] 0) = W4 at *
   go_loopg [39] (mate.length + 1) (fun kq v39 wv => ∃ (j : Int) (U : Int → Bool) (n : Nat), v39 = .int .i64 j ∧ As (0 ≤ j ∧ j ≤ mate.length ∧ (mate.length : Int) < j + kq ∧ (n : Int) ≤ j) ∧ As ((verGo E j U (mate.drop j.toNat), (0 : Int)) = (r0, r1)) ∧ As (SetMap encP wv 40 mb E.length (fun p => decide (p ∈ E))) ∧ As (SetMap encI wv 3 ub n U) ∧ As (Below w.heap.size w wv))
   case atStart => exact ⟨0, fun _ => false, 0, rfl, ⟨by omega, by omega, by omega, by omega⟩, ⟨by simpa using HR.out⟩, HS1, ⟨hset1⟩, HB1⟩
   case round =>
    clear HS1 HB1 hset1 HR
    obtain ⟨j, U, n, rfl, HA, HR, HS, HU, HB⟩ := hrel
    have j0 : 0 ≤ j := HA.out.1
    by_cases hlt : j < mate.length
    ·have HMr := Kd.C_below HM.out HB.out
     obtain ⟨ad, eA, hx⟩ := Kd.at_int HMr j j0 hlt
     subst eA
     have hwx := HW.out (rd mate j) (by unfold rd; rw [List.getD_eq_getElem?_getD, List.getElem?_eq_getElem (by omega)]; exact List.getElem_mem _)
     have hdr : mate.drop j.toNat = rd mate j :: mate.drop (j.toNat + 1) := by
      rw [List.drop_eq_getElem_cons (by omega)]
      unfold rd
      rw [List.getD_eq_getElem?_getD, List.getElem?_eq_getElem (by omega)]
      rfl
     have hgo := HR.out
     rw [hdr] at hgo
     obtain ⟨x, hX⟩ : ∃ x, rd mate j = x := ⟨_, rfl⟩
     rw [hX] at hx hwx hgo
     clear hX hdr HMr
     unfold verGo at hgo
     have ej : (j + 1).toNat = j.toNat + 1 := by omega
     by_cases h1 : x = -1
     ·rw [if_pos h1] at hgo
      have b1 : (x == -1) = true := by simpa using h1
      have HG := As.mk hgo
      have H1 := As.mk h1
      have HX := As.mk hwx
      clear hgo h1 hwx
      go_wp2
      go_roundg (gk - 1)
      case measure => have := HA.out.2.2; omega
      case rel => exact ⟨j + 1, U, n, by go_num, ⟨by omega, by omega, by have := HA.out.2.2; omega, by have := HA.out.2.2; omega⟩, ⟨by rw [ej]; exact HG.out⟩, HS, HU, HB⟩
     ·rw [if_neg h1] at hgo
      have b1 : (x == -1) = false := by simpa using h1
      have hwj : (Lit.int .i64 j).wf = true := wf_i64' (by omega) (by omega)
      obtain ⟨kl, hkl⟩ := key40 (x := (j, x)) hwj hwx
      have hl1 := HS.out.look keyed40 Try.underlying73 hkl
      have hl2 := HU.out.look keyed3 Try.underlying74 (key := x) (key3 hwx)
      have HX := As.mk hwx
      have H1 := As.mk h1
      clear h1 hwx hkl hwj
      by_cases hin : (j, x) ∈ E
      ·rw [decide_eq_true hin] at hl1
       by_cases hu : U x = false
       ·rw [if_pos ⟨hin, hu⟩] at hgo
        rw [hu] at hl2
        have HG := As.mk hgo
        have hn : n < maxLen := by
         have := HA.out.2.2
         unfold maxLen
         omega
        have HNN := As.mk hn
        clear hgo hin hu hn
        change (Instr.lookup 73 (.map (some mb)) (.agg #[.int .i64 j, .int .i64 x]) false).run Try.prog _ = _ at hl1
        change (Instr.lookup 74 (.map (some ub)) (.int .i64 x) false).run Try.prog _ = _ at hl2
        go_wp2_with (first | (at_mapUpdate; go_loud (refine wpList_set _ rfl _ _ _ 74 rfl encI_inj 3 keyed3 Try.underlying74 ub n _ rfl HU.out HNN.out x _ rfl rfl (key3 HX.out) ?_; intro w5 hset5 hgrow5)) | go_in)
        go_roundg (gk - 1)
        case measure => have := HA.out.2.2; omega
        case rel => exact ⟨j + 1, _, n + 1, by go_num, ⟨by omega, by omega, by have := HA.out.2.2; omega, by have := HA.out.2.2; omega⟩, ⟨by rw [ej]; exact HG.out⟩, ⟨HS.out.kept hgrow5 (fun e => by cases e; exact absurd hmu (Nat.lt_irrefl _))⟩, ⟨hset5⟩, ⟨pw_below_grown HB.out (some ub) HB.out.size hgrow5 (fun k hk => by cases hk; exact hwu)⟩⟩
       ·rw [if_neg (fun h => hu h.2)] at hgo
        have hu' : U x = true := by simpa using hu
        rw [hu'] at hl2
        cases hgo
        clear hin hu hu'
        change (Instr.lookup 73 (.map (some mb)) (.agg #[.int .i64 j, .int .i64 x]) false).run Try.prog _ = _ at hl1
        change (Instr.lookup 74 (.map (some ub)) (.int .i64 x) false).run Try.prog _ = _ at hl2
        go_wp2
        refine bodyPost_ret (v := .tuple #[.bool false, .int .i64 0]) (by simp [results, Try.results33, go_sem]) rfl ⟨rfl, HB.out⟩
      ·rw [decide_eq_false hin] at hl1
       rw [if_neg (fun h => hin h.1)] at hgo
       cases hgo
       clear hin
       change (Instr.lookup 73 (.map (some mb)) (.agg #[.int .i64 j, .int .i64 x]) false).run Try.prog _ = _ at hl1
       clear hl2
       go_wp2
       refine bodyPost_ret (v := .tuple #[.bool false, .int .i64 0]) (by simp [results, Try.results33, go_sem]) rfl ⟨rfl, HB.out⟩
    ·have hje : mate.drop j.toNat = [] := List.drop_eq_nil_of_le (by omega)
     have hgo := HR.out
     rw [hje] at hgo
     unfold verGo at hgo
     cases hgo
     go_wp2
     refine bodyPost_ret (v := .tuple #[.bool true, .int .i64 0]) (by simp [results, Try.results33, go_sem]) rfl ⟨rfl, HB.out⟩
end Go.Proofs.Ytlleokhmgblfnaa.H
end

section
namespace Go.Proofs.Ytlleokhmgblfnaa.H
open Go.RowKit Go.Proofs.YtlleokhmgblfnaaW.PrintWords Go.Proofs.YtlleokhmgblfnaaW.PrintMore
attribute [local go_sem] eqE max2_int max_two
def colF (L R : Int) (E : List (Int × Int)) : Option (List Int × Int) :=
 if chk L R E = 0 then
  (mainF (L + R) (degF L E (fun _ => 0) 0) E.length (eX E) (eY L E) (2 * E.length + 5) (E.length + 1) 0 (fun _ _ => -1) (fun _ => 0)).map fun O => ((List.range E.length).map fun i => O (i : Int), 0)
 else some ([], chk L R E)
def ColPost (w : World) (r : List Int × Int) (e : Ending) (w' : World) : Prop :=
 ∃ v0 : Value, e = .returned (.tuple #[v0, .int .i64 r.2]) ∧ Kd.R (Kd.int .i64) 3 w' w.heap.size (fun _ => True) v0 r.1 ∧ Below w.heap.size w w'
theorem scope_jumps {P : Program} {a : Act} {w : World} {Q : Exit → Act → World → Prop} {c rest : Code} (l : Nat) (J : Act → World → Prop) (μ : Act → World → Nat) (hf : findLabel c l = some (Code.skip.seq rest))
  (pass : ∀ a w, J a w → rest.wp P (Exit.jump l (fun a' w' => J a' w' ∧ μ a' w' < μ a w) Q) a w)
  (first : (∀ a w, J a w → rest.wp P (Exit.jump l J Q) a w) → c.wp P (Exit.jump l J Q) a w) : (Code.scope c).wp P Q a w :=
 wp_scope_jumps l J μ hf (first fun a w h => wp_mono (pass a w h) fun e a w hq => by
  cases e <;> first | exact ⟨hq.1, hq.2.1⟩ | exact hq) (fun a w h => wp_seq (wp_skip (pass a w h)))
def slotInt (a : Act) (k : Nat) : Int := match a.tmps.getD k undef with | .int _ q => q | _ => 0
set_option maxRecDepth 100000 in
def colFrame (L R : Int) (A : Option Addr) (e c gb gd n : Nat) (mo : Int) (pa po pe : Nat) (i : Int) (u : Nat → Value) : Act :=
 { tmps := List.toArray ((.agg #[.int .i64 L, .int .i64 R, .slice A e c] : Value) :: (.pointer (some ⟨gb, 0, none⟩) : Value) :: (.slice none 0 0 : Value) :: (.int .i64 0 : Value) :: (.int .i64 0 : Value) :: (.slice (some ⟨gd, 0, none⟩) n n : Value) :: (.int .i64 mo : Value) :: (u 7 : Value) :: (u 8 : Value) :: (u 9 : Value) :: (u 10 : Value) :: (.pointer (some ⟨pa, 0, none⟩) : Value) :: (u 12 : Value) :: (u 13 : Value) :: (.pointer (some ⟨po, 0, none⟩) : Value) :: (.pointer (some ⟨pe, 0, none⟩) : Value) :: (.func (.func 48) #[] #[.pointer (some ⟨pa, 0, none⟩)] : Value) :: (.func (.func 49) #[] #[.pointer (some ⟨pa, 0, none⟩), .pointer (some ⟨pe, 0, none⟩), .pointer (some ⟨po, 0, none⟩)] : Value) :: (.int .i64 i : Value) :: (u 19 : Value) :: (u 20 : Value) :: (u 21 : Value) :: (u 22 : Value) :: (u 23 : Value) :: (u 24 : Value) :: (u 25 : Value) :: (u 26 : Value) :: (u 27 : Value) :: (u 28 : Value) :: (u 29 : Value) :: (u 30 : Value) :: (u 31 : Value) :: (u 32 : Value) :: (u 33 : Value) :: (u 34 : Value) :: (u 35 : Value) :: (u 36 : Value) :: (u 37 : Value) :: (u 38 : Value) :: (u 39 : Value) :: (u 40 : Value) :: (u 41 : Value) :: (u 42 : Value) :: (u 43 : Value) :: (u 44 : Value) :: (u 45 : Value) :: (u 46 : Value) :: (u 47 : Value) :: (u 48 : Value) :: (u 49 : Value) :: (u 50 : Value) :: (u 51 : Value) :: (u 52 : Value) :: (u 53 : Value) :: (u 54 : Value) :: (u 55 : Value) :: (u 56 : Value) :: (u 57 : Value) :: (u 58 : Value) :: (u 59 : Value) :: (u 60 : Value) :: (u 61 : Value) :: (u 62 : Value) :: (u 63 : Value) :: (u 64 : Value) :: (u 65 : Value) :: (u 66 : Value) :: (u 67 : Value) :: (u 68 : Value) :: (u 69 : Value) :: (u 70 : Value) :: (u 71 : Value) :: (u 72 : Value) :: (u 73 : Value) :: (u 74 : Value) :: (u 75 : Value) :: (u 76 : Value) :: (u 77 : Value) :: (u 78 : Value) :: (u 79 : Value) :: (u 80 : Value) :: (u 81 : Value) :: (u 82 : Value) :: (u 83 : Value) :: (u 84 : Value) :: (u 85 : Value) :: (u 86 : Value) :: (u 87 : Value) :: (u 88 : Value) :: (u 89 : Value) :: (u 90 : Value) :: (u 91 : Value) :: (u 92 : Value) :: (u 93 : Value) :: (u 94 : Value) :: (u 95 : Value) :: (u 96 : Value) :: (u 97 : Value) :: (u 98 : Value) :: (u 99 : Value) :: (u 100 : Value) :: (u 101 : Value) :: (u 102 : Value) :: (u 103 : Value) :: (u 104 : Value) :: (u 105 : Value) :: (u 106 : Value) :: (u 107 : Value) :: (u 108 : Value) :: (u 109 : Value) :: (u 110 : Value) :: (u 111 : Value) :: (u 112 : Value) :: (u 113 : Value) :: (u 114 : Value) :: (u 115 : Value) :: (u 116 : Value) :: (u 117 : Value) :: (u 118 : Value) :: (u 119 : Value) :: (u 120 : Value) :: (u 121 : Value) :: (u 122 : Value) :: (u 123 : Value) :: (u 124 : Value) :: (u 125 : Value) :: (u 126 : Value) :: (u 127 : Value) :: (u 128 : Value) :: (u 129 : Value) :: (u 130 : Value) :: (u 131 : Value) :: (u 132 : Value) :: (u 133 : Value) :: (u 134 : Value) :: (u 135 : Value) :: (u 136 : Value) :: (u 137 : Value) :: (u 138 : Value) :: (u 139 : Value) :: (u 140 : Value) :: (u 141 : Value) :: (u 142 : Value) :: (u 143 : Value) :: (u 144 : Value) :: (u 145 : Value) :: (u 146 : Value) :: (u 147 : Value) :: (u 148 : Value) :: (u 149 : Value) :: (u 150 : Value) :: (u 151 : Value) :: (u 152 : Value) :: []), defers := [] }
theorem row_of {w : World} {g n : Nat} {O : Int → Int} (h : w.rowIs g 3 n (fun i => .int .i64 (O i))) : Row w g ((List.range n).map fun i : Nat => O (i : Int)) := by
 obtain ⟨c, hb, hn, hc⟩ := h
 unfold Row
 rw [hb]
 congr 2
 apply Array.ext
 ·simp [hn]
 ·intro i h1 h2
  have h3 := hc i (by omega)
  rw [Array.getElem?_eq_getElem h1] at h3
  rw [Option.some.inj h3]
  simp
theorem frame_u (X : Act) {L R : Int} {A : Option Addr} {e c gb gd n : Nat} {mo : Int} {pa po pe : Nat} {i : Int} (h : X = colFrame L R A e c gb gd n mo pa po pe i (fun k => X.tmps.getD k undef)) : ∃ u : Nat → Value, X = colFrame L R A e c gb gd n mo pa po pe i u := ⟨_, h⟩
def ColJ (w : World) (L R : Int) (E : List (Int × Int)) (A : Option Addr) (c n m : Nat) (r : List Int × Int) (a : Act) (wr : World) : Prop :=
 ∃ (gb gd pa ra po ro pe : Nat) (rb : Int → Nat) (i : Int) (k : Nat) (T : Tab) (O : Int → Int), (∃ u : Nat → Value, a = colFrame L R A E.length c gb gd n m pa po pe i u) ∧ 0 ≤ i ∧ i ≤ E.length ∧ Lay w.heap.size n gb pa ra po ro pe rb ∧
  St n m E.length gb pa ra po ro pe rb L R A c T O wr ∧ Below w.heap.size w wr ∧ EndsOK L n E.length E ∧ m ≤ 1000000 ∧ E.length ≤ 65536 ∧
  (mainF n m E.length (eX E) (eY L E) (2 * E.length + 5) k i T O).map (fun O => ((List.range E.length).map fun i => O (i : Int), (0 : Int))) = some r
structure TabW (w : World) (gb ra n m e : Nat) (L R : Int) (A : Option Addr) (cp : Nat) (j i : Nat) (wr : World) : Prop where
 rows : wr.rowIs ra 29 n (fun v => if v < j then .slice (some ⟨ra + 2 + v, 0, none⟩) m m else .slice none 0 0)
 row : ∀ v, v < i → wr.rowIs (ra + 2 + v) 3 m (fun _ => .int .i64 (-1))
 at_ : wr.heap[ra + 1]? = some (.cells #[.slice (some ⟨ra, 0, none⟩) n n] 69 (0, 0))
 g : wr.heap[gb]? = some (.cells #[.int .i64 L, .int .i64 R, .slice A e cp] 33 (0, 0))
 below : Below w.heap.size w wr
 size : wr.heap.size = ra + 2 + j
 lo : w.heap.size ≤ gb ∧ gb < ra
section
variable {w wr : World} {gb ra n m e : Nat} {L R : Int} {A : Option Addr} {cp j i : Nat}
theorem TabW.far (h : TabW w gb ra n m e L R A cp j i wr) (k : Nat) (v : Value) : TabW w gb ra n m e L R A cp j i (wr.setCell ⟨ra + 2 + i, k, none⟩ v) := by
 have lo := h.lo
 refine ⟨h.rows.setOther (a := ⟨ra + 2 + i, k, none⟩) (by show ra ≠ ra + 2 + i; omega) v, fun u hu => (h.row u hu).setOther (a := ⟨ra + 2 + i, k, none⟩) (by show ra + 2 + u ≠ ra + 2 + i; omega) v, blk_far h.at_ (p := ⟨ra + 2 + i, k, none⟩) (by show ra + 1 ≠ ra + 2 + i; omega) v, blk_far h.g (p := ⟨ra + 2 + i, k, none⟩) (by show gb ≠ ra + 2 + i; omega) v, below_set h.below (by show w.heap.size ≤ ra + 2 + i; omega), ?_, lo⟩
 have := h.size
 simpa using this
theorem TabW.hang (h : TabW w gb ra n m e L R A cp i i wr) (o : Obj) : TabW w gb ra n m e L R A cp (i + 1) i ((wr.alloc o).setCell ⟨ra, i, none⟩ (.slice (some ⟨wr.heap.size, 0, none⟩) m m)) := by
 have lo := h.lo
 have hsz := h.size
 refine ⟨((h.rows.alloc o).set i _).congr fun v hv => ?_, fun u hu => ((h.row u hu).alloc o).setOther (a := ⟨ra, i, none⟩) (by show ra + 2 + u ≠ ra; omega) _, blk_far (blk_alloc h.at_ o) (p := ⟨ra, i, none⟩) (by show ra + 1 ≠ ra; omega) _, blk_far (blk_alloc h.g o) (p := ⟨ra, i, none⟩) (by show gb ≠ ra; omega) _, below_set (below_alloc h.below o) (by show w.heap.size ≤ ra; omega), ?_, lo⟩
 ·by_cases e : v = i
  ·rw [if_pos e, if_pos (by omega), e, hsz]
  ·rw [if_neg e]
   by_cases e2 : v < i
   ·rw [if_pos e2, if_pos (by omega)]
   ·rw [if_neg e2, if_neg (by omega)]
 ·have e1 : ((wr.alloc o).setCell ⟨ra, i, none⟩ (.slice (some ⟨wr.heap.size, 0, none⟩) m m)).heap.size = (wr.alloc o).heap.size := by simp
  have e2 : (wr.alloc o).heap.size = wr.heap.size + 1 := Go.Deep.nblk_alloc _ _
  rw [e1, e2, hsz]
  omega
theorem TabW.drew (h : TabW w gb ra n m e L R A cp j i wr) : TabW w gb ra n m e L R A cp j i wr.drew := ⟨h.rows.drew, fun v hv => (h.row v hv).drew, h.at_, h.g, below_drew h.below, h.size, h.lo⟩
theorem TabW.next (h : TabW w gb ra n m e L R A cp (i + 1) i wr) (hr : wr.rowIs (ra + 2 + i) 3 m (fun _ => .int .i64 (-1))) : TabW w gb ra n m e L R A cp (i + 1) (i + 1) wr :=
 ⟨h.rows, fun u hu => by
  by_cases e : u = i
  ·rw [e]; exact hr
  ·exact h.row u (by omega), h.at_, h.g, h.below, h.size, h.lo⟩
end
set_option maxHeartbeats 8000000 in
set_option maxRecDepth 100000 in
theorem col_calls (L R : Int) (E : List (Int × Int)) (A : Option Addr) (c : Nat) (r : List Int × Int) (w : World) (hE : kE.C w A E.length E) (hc : E.length ≤ c) (h : colF L R E = some r) :
  Calls Try.prog 38 #[.agg #[.int .i64 L, .int .i64 R, .slice A E.length c]] w (ColPost w r) := by
 have hm := Kd.C_max hE
 have HE := As.mk hE
 clear hE
 obtain ⟨q, hq⟩ : ∃ q, chk L R E = q := ⟨_, rfl⟩
 have HR := As.mk h
 have HQ := As.mk hq
 clear h hq
 go_enter Try.func38, Try.ntmps38
 go_wp2_with fail
 obtain ⟨n, hn⟩ : ∃ n, n = (L + R).toNat := ⟨_, rfl⟩
 obtain ⟨m, hmm⟩ : ∃ m, m = (degF L E (fun _ => 0) 0).toNat := ⟨_, rfl⟩
 have HN := As.mk hn
 have HM := As.mk hmm
 clear hn hmm
 refine scope_jumps 0 (ColJ w L R E A c n m r) (fun a _ => (E.length - slotInt a 18).toNat) rfl ?_ ?_
 ·rintro a wr ⟨gb, gd, pa, ra, po, ro, pe, rb, i, k, T, O, ⟨u, rfl⟩, i0, i1, hl, hs, hb, hok, hm1, he1, hr⟩
  unfold colFrame
  generalize u 7 = u7
  generalize u 8 = u8
  generalize u 9 = u9
  generalize u 10 = u10
  generalize u 12 = u12
  generalize u 13 = u13
  generalize u 19 = u19
  generalize u 20 = u20
  generalize u 21 = u21
  generalize u 22 = u22
  generalize u 23 = u23
  generalize u 24 = u24
  generalize u 25 = u25
  generalize u 26 = u26
  generalize u 27 = u27
  generalize u 28 = u28
  generalize u 29 = u29
  generalize u 30 = u30
  generalize u 31 = u31
  generalize u 32 = u32
  generalize u 33 = u33
  generalize u 34 = u34
  generalize u 35 = u35
  generalize u 36 = u36
  generalize u 37 = u37
  generalize u 38 = u38
  generalize u 39 = u39
  generalize u 40 = u40
  generalize u 41 = u41
  generalize u 42 = u42
  generalize u 43 = u43
  generalize u 44 = u44
  generalize u 45 = u45
  generalize u 46 = u46
  generalize u 47 = u47
  generalize u 48 = u48
  generalize u 49 = u49
  generalize u 50 = u50
  generalize u 51 = u51
  generalize u 52 = u52
  generalize u 53 = u53
  generalize u 54 = u54
  generalize u 55 = u55
  generalize u 56 = u56
  generalize u 57 = u57
  generalize u 58 = u58
  generalize u 59 = u59
  generalize u 60 = u60
  generalize u 61 = u61
  generalize u 62 = u62
  generalize u 63 = u63
  generalize u 64 = u64
  generalize u 65 = u65
  generalize u 66 = u66
  generalize u 67 = u67
  generalize u 68 = u68
  generalize u 69 = u69
  generalize u 70 = u70
  generalize u 71 = u71
  generalize u 72 = u72
  generalize u 73 = u73
  generalize u 74 = u74
  generalize u 75 = u75
  generalize u 76 = u76
  generalize u 77 = u77
  generalize u 78 = u78
  generalize u 79 = u79
  generalize u 80 = u80
  generalize u 81 = u81
  generalize u 82 = u82
  generalize u 83 = u83
  generalize u 84 = u84
  generalize u 85 = u85
  generalize u 86 = u86
  generalize u 87 = u87
  generalize u 88 = u88
  generalize u 89 = u89
  generalize u 90 = u90
  generalize u 91 = u91
  generalize u 92 = u92
  generalize u 93 = u93
  generalize u 94 = u94
  generalize u 95 = u95
  generalize u 96 = u96
  generalize u 97 = u97
  generalize u 98 = u98
  generalize u 99 = u99
  generalize u 100 = u100
  generalize u 101 = u101
  generalize u 102 = u102
  generalize u 103 = u103
  generalize u 104 = u104
  generalize u 105 = u105
  generalize u 106 = u106
  generalize u 107 = u107
  generalize u 108 = u108
  generalize u 109 = u109
  generalize u 110 = u110
  generalize u 111 = u111
  generalize u 112 = u112
  generalize u 113 = u113
  generalize u 114 = u114
  generalize u 115 = u115
  generalize u 116 = u116
  generalize u 117 = u117
  generalize u 118 = u118
  generalize u 119 = u119
  generalize u 120 = u120
  generalize u 121 = u121
  generalize u 122 = u122
  generalize u 123 = u123
  generalize u 124 = u124
  generalize u 125 = u125
  generalize u 126 = u126
  generalize u 127 = u127
  generalize u 128 = u128
  generalize u 129 = u129
  generalize u 130 = u130
  generalize u 131 = u131
  generalize u 132 = u132
  generalize u 133 = u133
  generalize u 134 = u134
  generalize u 135 = u135
  generalize u 136 = u136
  generalize u 137 = u137
  generalize u 138 = u138
  generalize u 139 = u139
  generalize u 140 = u140
  generalize u 141 = u141
  generalize u 142 = u142
  generalize u 143 = u143
  generalize u 144 = u144
  generalize u 145 = u145
  generalize u 146 = u146
  generalize u 147 = u147
  generalize u 148 = u148
  generalize u 149 = u149
  generalize u 150 = u150
  generalize u 151 = u151
  generalize u 152 = u152
  clear u
  have LL := As.mk hl
  have HS := As.mk hs
  have HB := As.mk hb
  have OK := As.mk hok
  have g2 := hs.cG.2.2
  clear hl hs hb hok HQ HR HN HM
  by_cases hlt : i < E.length
  ·cases k with
   | zero => exact absurd hr (by simp [mainF])
   | succ k =>
    unfold mainF at hr
    rw [if_pos hlt] at hr
    have hx := OK.out.2.2.2 i i0 hlt
    have hends := ends_at E wr i HS.out (Kd.C_below HE.out HB.out) i0 hlt OK.out
    obtain ⟨x, hxx⟩ : ∃ x, eX E i = x := ⟨_, rfl⟩
    obtain ⟨y, hyy⟩ : ∃ y, eY L E i = y := ⟨_, rfl⟩
    rw [hxx, hyy] at hx hends hr
    clear hxx hyy
    cases ha : missF m (T x) (2 * E.length + 5) 0 with
    | none => rw [ha] at hr; exact absurd hr (by simp)
    | some a =>
    cases hb : missF m (T y) (2 * E.length + 5) 0 with
    | none => rw [ha, hb] at hr; exact absurd hr (by simp)
    | some b =>
    rw [ha, hb] at hr
    simp only [Option.bind_some] at hr
    have hra := missF_rng ha (by omega)
    have hrb := missF_rng hb (by omega)
    have x0 : 0 ≤ x := hx.1
    have x1 : x < n := by omega
    have y0 : 0 ≤ y := by omega
    have y1 : y < n := hx.2.2.2.1
    have xy : x ≠ y := by omega
    have a0 : 0 ≤ a := hra.1
    have a1 : a < m := hra.2
    have HA := As.mk ha
    have HBb := As.mk hb
    have HRB := As.mk hrb
    have HX := As.mk hx
    have HC := As.mk hends
    have cE := HS.out.cE
    have nxy : rb x ≠ rb y := fun h => xy (LL.out.dd x y x0 x1 y0 y1 h)
    have nyx := nxy.symm
    clear ha hb hra hrb hx hends
    by_cases hab : a = b
    ·rw [if_pos hab] at hr
     have HR := As.mk hr
     have hab1 : (a != b) = false := by simpa using hab
     have HAB := As.mk hab
     clear hr hab
     go_wp2_with (first | (go_at_call 47; refine HC.out.mono ?_; rintro e1 w1 ⟨rfl, hd⟩; have HS1 : As (St n m E.length gb pa ra po ro pe rb L R A c T O w1) := ⟨by obtain ⟨nd, rfl⟩ := hd; exact HS.out.drewN nd⟩; have HB1 : As (Below w.heap.size w w1) := ⟨by obtain ⟨nd, rfl⟩ := hd; exact pw_below_drewN HB.out nd⟩; clear hd cE g2) | (go_at_call_of 48 (Value.int .i64 x); refine (missing_calls w1 x (2 * E.length + 5) a HS1.out x0 x1 hm1 HA.out).mono ?_; rintro e2 w2 ⟨rfl, hd⟩; have HS2 : As (St n m E.length gb pa ra po ro pe rb L R A c T O w2) := ⟨by obtain ⟨nd, rfl⟩ := hd; exact HS1.out.drewN nd⟩; have HB2 : As (Below w.heap.size w w2) := ⟨by obtain ⟨nd, rfl⟩ := hd; exact pw_below_drewN HB1.out nd⟩; clear hd) | (go_at_call_of 48 (Value.int .i64 y); refine (missing_calls w2 y (2 * E.length + 5) b HS2.out y0 y1 hm1 HBb.out).mono ?_; rintro e3 w3 ⟨rfl, hd⟩; have HS3 : As (St n m E.length gb pa ra po ro pe rb L R A c T O w3) := ⟨by obtain ⟨nd, rfl⟩ := hd; exact HS2.out.drewN nd⟩; have HB3 : As (Below w.heap.size w w3) := ⟨by obtain ⟨nd, rfl⟩ := hd; exact pw_below_drewN HB2.out nd⟩; clear hd))
     have cA := HS3.out.cA
     have cX := HS3.out.cR x x0 x1
     have cY := HS3.out.cR y y0 y1
     have tX := HS3.out.cT x a x0 x1 a0 a1
     have tY := HS3.out.cT y a y0 y1 a0 a1
     have fX := HS3.out.fT x a x0 x1
     have fY := HS3.out.fT y a y0 y1
     clear xy
     go_wp2
     go_region
     clear cA cX cY tX tY fX fY
     have HS4 : As (St n m E.length gb pa ra po ro pe rb L R A c (upd (upd T x a i) y a i) O ((w3.setCell ⟨rb x, a.toNat, none⟩ (.int .i64 i)).setCell ⟨rb y, a.toNat, none⟩ (.int .i64 i))) := ⟨(HS3.out.put LL.out x a i x0 x1 a0).put LL.out y a i y0 y1 a0⟩
     have HB4 : As (Below w.heap.size w ((w3.setCell ⟨rb x, a.toNat, none⟩ (.int .i64 i)).setCell ⟨rb y, a.toNat, none⟩ (.int .i64 i))) := ⟨below_set (below_set (HB3.out) (LL.out.bb.2 x x0 x1)) (LL.out.bb.2 y y0 y1)⟩
     generalize (w3.setCell ⟨rb x, a.toNat, none⟩ (.int .i64 i)).setCell ⟨rb y, a.toNat, none⟩ (.int .i64 i) = w4 at *
     have cO := HS4.out.cO
     have cOut := HS4.out.cOut i i0 hlt
     have fO := HS4.out.fO i
     have hi1 : i + 1 ≤ E.length := by omega
     have hw1 : wrap64 (i + 1) = i + 1 := by unfold wrap64; omega
     go_wp2
     go_step3
     refine ⟨rfl, ⟨gb, gd, pa, ra, po, ro, pe, rb, i + 1, k, _, _, frame_u _ (by first | rfl | (rw [hw1]; rfl)), by omega, hi1, LL.out, (HS4.out.putO LL.out i a i0).same (fun k hk => rfl), below_drew (below_set HB4.out LL.out.bb.1), OK.out, hm1, he1, HR.out⟩, ?_⟩
     simp [slotInt]
     omega
    ·rw [if_neg hab] at hr
     cases hf : flipF n m E.length (eX E) (eY L E) (2 * E.length + 5) T O y a b with
     | none => rw [hf] at hr; exact absurd hr (by simp)
     | some s =>
     rw [hf] at hr
     simp only [Option.bind_some] at hr
     obtain ⟨T3, O3⟩ := s
     have HR := As.mk hr
     have HF := As.mk hf
     have hab1 : (a != b) = true := by simpa using hab
     have HAB := As.mk hab
     clear hr hf hab
     go_wp2_with (first | (go_at_call 47; refine HC.out.mono ?_; rintro e1 w1 ⟨rfl, hd⟩; have HS1 : As (St n m E.length gb pa ra po ro pe rb L R A c T O w1) := ⟨by obtain ⟨nd, rfl⟩ := hd; exact HS.out.drewN nd⟩; have HB1 : As (Below w.heap.size w w1) := ⟨by obtain ⟨nd, rfl⟩ := hd; exact pw_below_drewN HB.out nd⟩; clear hd cE g2) | (go_at_call_of 48 (Value.int .i64 x); refine (missing_calls w1 x (2 * E.length + 5) a HS1.out x0 x1 hm1 HA.out).mono ?_; rintro e2 w2 ⟨rfl, hd⟩; have HS2 : As (St n m E.length gb pa ra po ro pe rb L R A c T O w2) := ⟨by obtain ⟨nd, rfl⟩ := hd; exact HS1.out.drewN nd⟩; have HB2 : As (Below w.heap.size w w2) := ⟨by obtain ⟨nd, rfl⟩ := hd; exact pw_below_drewN HB1.out nd⟩; clear hd) | (go_at_call_of 48 (Value.int .i64 y); refine (missing_calls w2 y (2 * E.length + 5) b HS2.out y0 y1 hm1 HBb.out).mono ?_; rintro e3 wz ⟨rfl, hd⟩; have HSz : As (St n m E.length gb pa ra po ro pe rb L R A c T O wz) := ⟨by obtain ⟨nd, rfl⟩ := hd; exact HS2.out.drewN nd⟩; have HBz : As (Below w.heap.size w wz) := ⟨by obtain ⟨nd, rfl⟩ := hd; exact pw_below_drewN HB2.out nd⟩; clear hd) | (go_at_call 49; refine (flip_calls w E wz y a b (2 * E.length + 5) (T3, O3) LL.out HSz.out HE.out HBz.out OK.out hm1 (by omega) ⟨a0, a1, HRB.out.1, HRB.out.2⟩ HF.out).mono ?_; rintro e5 w3 ⟨rfl, hs5, hb5⟩; have HS5 := As.mk hs5; have HB5 := As.mk hb5; clear hs5 hb5))
     have cA := HS5.out.cA
     have cX := HS5.out.cR x x0 x1
     have cY := HS5.out.cR y y0 y1
     have tX := HS5.out.cT x a x0 x1 a0 a1
     have tY := HS5.out.cT y a y0 y1 a0 a1
     have fX := HS5.out.fT x a x0 x1
     have fY := HS5.out.fT y a y0 y1
     clear xy
     go_wp2
     go_region
     clear cA cX cY tX tY fX fY
     have HS4 : As (St n m E.length gb pa ra po ro pe rb L R A c (upd (upd T3 x a i) y a i) O3 ((w3.setCell ⟨rb x, a.toNat, none⟩ (.int .i64 i)).setCell ⟨rb y, a.toNat, none⟩ (.int .i64 i))) := ⟨(HS5.out.put LL.out x a i x0 x1 a0).put LL.out y a i y0 y1 a0⟩
     have HB4 : As (Below w.heap.size w ((w3.setCell ⟨rb x, a.toNat, none⟩ (.int .i64 i)).setCell ⟨rb y, a.toNat, none⟩ (.int .i64 i))) := ⟨below_set (below_set (HB5.out) (LL.out.bb.2 x x0 x1)) (LL.out.bb.2 y y0 y1)⟩
     generalize (w3.setCell ⟨rb x, a.toNat, none⟩ (.int .i64 i)).setCell ⟨rb y, a.toNat, none⟩ (.int .i64 i) = w4 at *
     have cO := HS4.out.cO
     have cOut := HS4.out.cOut i i0 hlt
     have fO := HS4.out.fO i
     have hi1 : i + 1 ≤ E.length := by omega
     have hw1 : wrap64 (i + 1) = i + 1 := by unfold wrap64; omega
     go_wp2
     go_step3
     refine ⟨rfl, ⟨gb, gd, pa, ra, po, ro, pe, rb, i + 1, k, _, _, frame_u _ (by first | rfl | (rw [hw1]; rfl)), by omega, hi1, LL.out, (HS4.out.putO LL.out i a i0).same (fun k hk => rfl), below_drew (below_set HB4.out LL.out.bb.1), OK.out, hm1, he1, HR.out⟩, ?_⟩
     simp [slotInt]
     omega
  ·have hie : i = E.length := by omega
   subst hie
   have hb1 : decide ((E.length : Int) < (E.length : Int)) = false := by simp
   cases k with
   | zero => exact absurd hr (by simp [mainF])
   | succ k =>
    unfold mainF at hr
    rw [if_neg hlt] at hr
    obtain rfl := Option.some.inj hr
    have cO := HS.out.cO
    clear hlt hr
    go_wp2
    simp only [Exit.jump]
    go_ret2
    refine ⟨.slice (some ⟨ro, 0, none⟩) E.length E.length, rfl, ?_, HB.out⟩
    have := (row_of HS.out.orow).R (base := w.heap.size) (ok := fun _ => True) LL.out.bb.1 (by simp; omega) trivial
    simpa using this
 ·intro hpass
  go_wp2_with fail
  have kb := blk_new w (.cells #[Value.int IntKind.i64 L, Value.int IntKind.i64 R, Value.slice A E.length c] 33)
  have bel := below_alloc (Below.refl w.heap.size w) (.cells #[Value.int IntKind.i64 L, Value.int IntKind.i64 R, Value.slice A E.length c] 33)
  have HE1 := As.mk (Kd.C_below HE.out bel)
  refine (check_any L R E A c _ HE1.out hc).mono ?_
  rintro e w1 ⟨rfl, b1⟩
  rw [HQ.out]
  replace kb := blk_below kb b1
  replace bel := below_step bel b1
  clear b1 HE1
  obtain ⟨gb, hgb⟩ : ∃ gb, w.heap.size = gb := ⟨_, rfl⟩
  rw [hgb] at kb
  have g0 : w1.cell? ⟨gb, 0, none⟩ = some (.int .i64 L) := (blk_cell kb 0).trans rfl
  have g1 : w1.cell? ⟨gb, 1, none⟩ = some (.int .i64 R) := (blk_cell kb 1).trans rfl
  have g2 : w1.cell? ⟨gb, 2, none⟩ = some (.slice A E.length c) := (blk_cell kb 2).trans rfl
  rw [hgb]
  by_cases hq0 : q = 0
  case neg =>
   have hb : (q != 0) = true := by simpa using hq0
   have h1 := HR.out
   unfold colF at h1
   rw [HQ.out, if_neg hq0] at h1
   cases h1
   have HX := As.mk hq0
   have HBL := As.mk bel
   clear hq0 bel
   go_wp2
   simp only [Exit.jump]
   go_ret2
   exact ⟨.slice none 0 0, rfl, Kd.R_nil _ _ _ _ _, HBL.out⟩
  subst hq0
  have h1 := HR.out
  unfold colF at h1
  rw [HQ.out, if_pos rfl] at h1
  replace HR := As.mk h1
  clear h1
  have hLR : 0 ≤ L ∧ L ≤ 1024 ∧ 0 ≤ R ∧ R ≤ 1024 ∧ E.length ≤ 65536 := by
   have h := HQ.out
   unfold chk at h
   split at h
   ·omega
   ·split at h
    ·omega
    ·omega
  have hn : L + R = n := by have := HN.out; omega
  have HLR := As.mk hLR
  obtain ⟨l0, l1, r0, r1, el⟩ := hLR
  have hmk := run_make_row' (P := Try.prog) 29 3 (.int .i64 0) 8 Try.underlying29 info3 rfl .i64 .i64 n (by omega) (by omega)
  have hmk0 := run_make_row' (P := Try.prog) 69 29 (.slice none 0 0) 24 Try.underlying69 info29 rfl .i64 .i64 n (by omega) (by omega)
  rw [← hn] at hmk hmk0
  obtain ⟨gd, hgd⟩ : ∃ gd, w1.heap.size = gd := ⟨_, rfl⟩
  have rd0 := World.rowIs_made w1 (.int .i64 0) n 3
  have kb1 := blk_alloc kb (.cells (madeCells #[.int .i64 0] n) 3)
  have bel1 := below_alloc bel (.cells (madeCells #[.int .i64 0] n) 3)
  have lgd := blk_lt kb
  rw [hgd] at rd0 lgd
  have HGD := As.mk lgd
  have HNN := As.mk hn
  have HGB := As.mk hgb
  clear lgd hn hgb
  have g0' : (w1.alloc (.cells (madeCells #[.int .i64 0] n) 3)).cell? ⟨gb, 2, none⟩ = some (.slice A E.length c) := (blk_cell kb1 2).trans rfl
  go_wp2_with fail
  have hok : EndsOK L n E.length E := by
   refine ⟨l0, l1, by have := HNN.out; omega, fun j j0 j1 => ?_⟩
   have h := HQ.out
   unfold chk at h
   split at h
   ·omega
   ·split at h
    ·omega
    ·have := chkGo_rng' L R E none h (rdE E j) (by unfold rdE; rw [List.getD_eq_getElem?_getD, List.getElem?_eq_getElem (by omega)]; exact List.getElem_mem _)
     unfold eX eY
     have h2 := HNN.out
     omega
  have OK := As.mk hok
  generalize w1.alloc (.cells (madeCells #[.int .i64 0] n) 3) = W4 at *
  clear hgd kb bel g0 g1 g2 hok
  obtain ⟨M, hM⟩ : ∃ M, degF L E (fun _ => 0) 0 = M := ⟨_, rfl⟩
  have HMM := As.mk hM
  rw [hM] at HM HR
  clear hM
  go_loopg [6, 37] (E.length + 1) (fun kq v6 v37 wr => ∃ (i mo : Int) (D : Int → Int), v6 = .int .i64 mo ∧ v37 = .int .i64 i ∧ As (0 ≤ i ∧ i ≤ E.length ∧ (E.length : Int) < i + kq ∧ degF L (E.drop i.toNat) D mo = M ∧ (∀ v, 0 ≤ D v ∧ D v ≤ 2 * i) ∧ 0 ≤ mo ∧ mo ≤ 2 * i) ∧ As (wr.rowIs gd 3 n (fun v => .int .i64 (D v))) ∧ As (Below w.heap.size w wr ∧ wr.heap[gb]? = some (.cells #[.int .i64 L, .int .i64 R, .slice A E.length c] 33 (0, 0))))
  case atStart => exact ⟨0, 0, fun _ => 0, rfl, rfl, ⟨by omega, by omega, by omega, by simpa using HMM.out, fun v => ⟨by simp, by simp⟩, by omega, by omega⟩, ⟨rd0⟩, ⟨bel1, kb1⟩⟩
  case round =>
   clear rd0 bel1 kb1 g0'
   obtain ⟨i, mo, D, rfl, rfl, HA, HD, HW⟩ := hrel
   have i0 : 0 ≤ i := HA.out.1
   by_cases hlt : i < E.length
   ·obtain ⟨ad, eA, hx0, hx1⟩ := at_E (Kd.C_below HE.out HW.out.1) i i0 hlt
    subst eA
    have hdr : E.drop i.toNat = rdE E i :: E.drop (i + 1).toNat := by
     rw [show (i + 1).toNat = i.toNat + 1 by omega, List.drop_eq_getElem_cons (by omega)]
     unfold rdE
     rw [List.getD_eq_getElem?_getD, List.getElem?_eq_getElem (by omega)]
     rfl
    have hg := OK.out.2.2.2 i i0 hlt
    unfold eX eY at hg
    have hdeg := HA.out.2.2.2.1
    rw [hdr] at hdeg
    unfold degF at hdeg
    obtain ⟨x, hX⟩ : ∃ x, rdE E i = x := ⟨_, rfl⟩
    rw [hX] at hx0 hx1 hg hdeg
    obtain ⟨x0, x1⟩ := x
    simp only at hx0 hx1 hg hdeg
    have HG := As.mk hdeg
    have hgb2 := HW.out.2
    have c0 : wr.cell? ⟨gb, 0, none⟩ = some (.int .i64 L) := (blk_cell hgb2 0).trans rfl
    clear hX hdr hdeg
    have ngx : gb ≠ wr.heap.size := Nat.ne_of_lt (blk_lt hgb2)
    have ngx2 := ngx.symm
    go_wp2_with ((with_reducible refine gate_dst (N := 8) rfl ?_); refine box_event ?hg (N := 8) ?hd (cs := #[.int .i64 0, .int .i64 0]) (t := 40) ?hr ?_; (case hd => rfl); (case hg => rfl); (case hr => first | (go_simp; done) | (go_simp; rfl)); intro gx hgx w5 hbox hb; (try have z0 : w5.cell? ⟨gx, 0, none⟩ = some (.int .i64 0) := (blk_cell hbox 0).trans rfl); (try have z1 : w5.cell? ⟨gx, 1, none⟩ = some (.int .i64 0) := (blk_cell hbox 1).trans rfl); (try have f0 := blk_frozen hbox 0); (try have f1 := blk_frozen hbox 1); (try have k0 : w5.cell? ⟨gb, 0, none⟩ = some (.int .i64 L) := (blk_cell (blk_below hgb2 hb) 0).trans rfl); (try have ngy : gb ≠ gx := by (rw [hgx]; exact Nat.ne_of_lt (blk_lt hgb2))); (try have ngy2 := ngy.symm); (try have HBX := As.mk hbox); (try have HB5 := As.mk hb); (try have HGX := As.mk hgx); (try clear hbox hb hgx c0))
    have gxw : w.heap.size ≤ gx := by rw [HGX.out]; exact HW.out.1.size
    have gdx : gd ≠ gx := by rw [HGX.out]; exact Nat.ne_of_lt HD.out.lt
    have HD6 := As.mk ((((HD.out.of_block (HB5.out.block gd HD.out.lt)).setOther (a := ⟨gx, 0, none⟩) gdx (.int .i64 x0)).setOther (a := ⟨gx, 1, none⟩) gdx (.int .i64 x1)).alloc (.cells #[.int .i64 x0, .int .i64 (L + x1)] 3))
    have HG6 := As.mk (blk_alloc (blk_far (p := ⟨gx, 1, none⟩) (blk_far (p := ⟨gx, 0, none⟩) (blk_below hgb2 HB5.out) ngy (.int .i64 x0)) ngy (.int .i64 x1)) (.cells #[.int .i64 x0, .int .i64 (L + x1)] 3))
    have HB6 : As (Below w.heap.size w (((w5.setCell ⟨gx, 0, none⟩ (.int .i64 x0)).setCell ⟨gx, 1, none⟩ (.int .i64 x1)).alloc (.cells #[.int .i64 x0, .int .i64 (L + x1)] 3))) := ⟨below_alloc (below_set (below_set (below_step HW.out.1 HB5.out) gxw) gxw) _⟩
    have HR6 : As (Row (((w5.setCell ⟨gx, 0, none⟩ (.int .i64 x0)).setCell ⟨gx, 1, none⟩ (.int .i64 x1)).alloc (.cells #[.int .i64 x0, .int .i64 (L + x1)] 3)) w5.heap.size [x0, L + x1]) := ⟨by
     have := blk_new ((w5.setCell ⟨gx, 0, none⟩ (.int .i64 x0)).setCell ⟨gx, 1, none⟩ (.int .i64 x1)) (.cells #[.int .i64 x0, .int .i64 (L + x1)] 3)
     simpa [Row] using this⟩
    generalize ((w5.setCell ⟨gx, 0, none⟩ (.int .i64 x0)).setCell ⟨gx, 1, none⟩ (.int .i64 x1)).alloc (.cells #[.int .i64 x0, .int .i64 (L + x1)] 3) = W6 at *
    have hgq : gd < w5.heap.size := Nat.lt_of_lt_of_le HD.out.lt HB5.out.size
    generalize w5.heap.size = gq at *
    have HGQ := As.mk hgq
    clear hgq
    have HLT := As.mk hlt
    obtain ⟨g1, hg1⟩ : ∃ g1, gk = g1 + 1 := ⟨gk - 1, by have := HA.out.2.2.1; omega⟩
    subst hg1
    clear z0 z1 f0 f1 k0 HBX HB5 HGX hx0 hx1 hgb2 ngx ngx2 ngy ngy2 gdx gxw HD HW
    go_loopg [6, 50] 3 (fun kq v6 v50 wv => ∃ (s mo' : Int) (D' : Int → Int), v6 = .int .i64 mo' ∧ v50 = .int .i64 s ∧ As (0 ≤ s ∧ s ≤ 2 ∧ 2 < s + kq ∧ degS ([x0, L + x1].drop s.toNat) D' mo' = degS [x0, L + x1] D mo ∧ (∀ v, 0 ≤ D' v ∧ D' v ≤ 2 * i + s) ∧ 0 ≤ mo' ∧ mo' ≤ 2 * i + s) ∧ As (wv.rowIs gd 3 n (fun v => .int .i64 (D' v))) ∧ As (Below w.heap.size w wv ∧ wv.heap[gb]? = some (.cells #[.int .i64 L, .int .i64 R, .slice (some ad) E.length c] 33 (0, 0)) ∧ Row wv gq [x0, L + x1]))
    case atStart => exact ⟨0, mo, D, rfl, rfl, ⟨by omega, by omega, by omega, by simp, fun v => by have := HA.out.2.2.2.2.1 v; omega, by have := HA.out.2.2.2.2.2; omega, by have := HA.out.2.2.2.2.2; omega⟩, HD6, ⟨HB6.out, HG6.out, HR6.out⟩⟩
    case round =>
     clear HD6 HB6 HG6 HR6
     obtain ⟨s, mo', D', rfl, rfl, HA2, HD, HW⟩ := hrel
     have s0 : 0 ≤ s := HA2.out.1
     by_cases hs : s < 2
     ·have cq := HW.out.2.2.cell s s0 (by simp; omega)
      have hds : [x0, L + x1].drop s.toNat = rd [x0, L + x1] s :: [x0, L + x1].drop (s + 1).toNat := by
       rw [show (s + 1).toNat = s.toNat + 1 by omega, List.drop_eq_getElem_cons (by simp; omega)]
       unfold rd
       rw [List.getD_eq_getElem?_getD, List.getElem?_eq_getElem (by simp; omega)]
       rfl
      have hrv : 0 ≤ rd [x0, L + x1] s ∧ rd [x0, L + x1] s < n := by
       have : s = 0 ∨ s = 1 := by omega
       rcases this with rfl | rfl
       ·show 0 ≤ x0 ∧ x0 < (n : Int); omega
       ·show 0 ≤ L + x1 ∧ L + x1 < (n : Int); omega
      have hdg : degS ([x0, L + x1].drop (s + 1).toNat) (updO D' (rd [x0, L + x1] s) (D' (rd [x0, L + x1] s) + 1)) (if mo' < D' (rd [x0, L + x1] s) + 1 then D' (rd [x0, L + x1] s) + 1 else mo') = degS [x0, L + x1] D mo := by
       have := HA2.out.2.2.2.1
       rw [hds] at this
       exact this
      obtain ⟨v, hv⟩ : ∃ v, rd [x0, L + x1] s = v := ⟨_, rfl⟩
      rw [hv] at cq hdg hrv
      obtain ⟨v0, v1⟩ := hrv
      have hDv := HA2.out.2.2.2.2.1 v
      have hmo := HA2.out.2.2.2.2.2
      have hil : i ≤ 65536 := by have := HA.out.2.1; omega
      have cd := HD.out.cell (i := v.toNat) (by omega)
      rw [show ((v.toNat : Nat) : Int) = v by omega] at cd
      have fd := HD.out.frozen v.toNat
      have hlen : decide (s < 2) = true := by simpa using hs
      obtain ⟨dv, hdv⟩ : ∃ dv, D' v = dv := ⟨_, rfl⟩
      rw [hdv] at cd hdg hDv
      clear hds hv
      by_cases hmx : mo' < dv + 1
      ·rw [if_pos hmx] at hdg
       have HDG := As.mk hdg
       have HDV := As.mk hdv
       clear hdg hdv
       go_wp2
       go_roundg (gk - 1)
       case measure => have := HA2.out.2.2.1; omega
       case rel =>
        refine ⟨s + 1, _, updO D' v (dv + 1), rfl, by go_num, ⟨by omega, by omega, by have := HA2.out.2.2.1; omega, HDG.out, fun z => ?_, by omega, by omega⟩, ⟨(HD.out.set v.toNat (.int .i64 (dv + 1))).congr fun j hj => ?_⟩, ⟨below_set HW.out.1 (by have := HGB.out; have := HGD.out; show w.heap.size ≤ gd; omega), blk_far HW.out.2.1 (by have := HGD.out; show gb ≠ gd; omega) _, HW.out.2.2.far (by have := HGQ.out; show gq ≠ gd; omega) _⟩⟩
        ·have := HA2.out.2.2.2.2.1 z
         unfold updO
         by_cases e : z = v
         ·rw [if_pos e]; omega
         ·rw [if_neg e]; omega
        ·unfold updO
         by_cases e : j = v.toNat
         ·rw [if_pos e, if_pos (by omega)]
         ·rw [if_neg e, if_neg (by omega)]
      ·rw [if_neg hmx] at hdg
       have HDG := As.mk hdg
       have HDV := As.mk hdv
       clear hdg hdv
       go_wp2
       go_roundg (gk - 1)
       case measure => have := HA2.out.2.2.1; omega
       case rel =>
        refine ⟨s + 1, _, updO D' v (dv + 1), rfl, by go_num, ⟨by omega, by omega, by have := HA2.out.2.2.1; omega, HDG.out, fun z => ?_, by omega, by omega⟩, ⟨(HD.out.set v.toNat (.int .i64 (dv + 1))).congr fun j hj => ?_⟩, ⟨below_set HW.out.1 (by have := HGB.out; have := HGD.out; show w.heap.size ≤ gd; omega), blk_far HW.out.2.1 (by have := HGD.out; show gb ≠ gd; omega) _, HW.out.2.2.far (by have := HGQ.out; show gq ≠ gd; omega) _⟩⟩
        ·have := HA2.out.2.2.2.2.1 z
         unfold updO
         by_cases e : z = v
         ·rw [if_pos e]; omega
         ·rw [if_neg e]; omega
        ·unfold updO
         by_cases e : j = v.toNat
         ·rw [if_pos e, if_pos (by omega)]
         ·rw [if_neg e, if_neg (by omega)]
     ·have hds : [x0, L + x1].drop s.toNat = [] := List.drop_eq_nil_of_le (by simp; omega)
      have hdg : (D', mo') = degS [x0, L + x1] D mo := by
       have := HA2.out.2.2.2.1
       rw [hds] at this
       exact this
      rw [← hdg] at HG
      have hs2 : s = 2 := by have := HA2.out.2.1; omega
      subst hs2
      have hd2 : decide ((2 : Int) < 2) = false := by simp
      have hil : i + 1 ≤ E.length := by have := HLT.out; omega
      clear hdg hs hds
      go_wp2
      go_roundg g1
      case measure => omega
      case rel => exact ⟨i + 1, mo', D', rfl, by go_num, ⟨by omega, by omega, by have := HA.out.2.2.1; omega, HG.out, fun z => by have := HA2.out.2.2.2.2.1 z; omega, by have := HA2.out.2.2.2.2.2; omega, by have := HA2.out.2.2.2.2.2; omega⟩, HD, ⟨HW.out.1, HW.out.2.1⟩⟩
   ·have hie : i = E.length := by have := HA.out.2.1; omega
    subst hie
    have hmM : mo = M := by
     have h1 := HA.out.2.2.2.1
     rw [show (E.length : Int).toNat = E.length by omega, List.drop_length] at h1
     exact h1
    have hmo : mo = m := by
     have := HM.out
     have := HA.out.2.2.2.2.2
     omega
    have HMm : As (M = m) := ⟨by omega⟩
    subst hmo
    clear hmM
    have hm1 : m ≤ 131072 := by have := HA.out.2.2.2.2.2; omega
    have hb1 : decide ((E.length : Int) < (E.length : Int)) = false := by simp
    have hg2 := HW.out.2
    have c0 : wr.cell? ⟨gb, 0, none⟩ = some (.int .i64 L) := (blk_cell hg2 0).trans rfl
    have c1 : wr.cell? ⟨gb, 1, none⟩ = some (.int .i64 R) := (blk_cell hg2 1).trans rfl
    have BEL := As.mk HW.out.1
    have HG2 := As.mk hg2
    have hmk2 := run_make_row' (P := Try.prog) 29 3 (.int .i64 0) 8 Try.underlying29 info3 rfl .i64 .i64 m (by omega) (by omega)
    have hmk3 := run_make_row' (P := Try.prog) 29 3 (.int .i64 0) 8 Try.underlying29 info3 rfl .i64 .i64 E.length (by omega) (by omega)
    clear hmk hlt HA HD HW hg2
    go_wp2_with fail
    obtain ⟨ra, hra⟩ : ∃ ra, wr.heap.size = ra := ⟨_, rfl⟩
    have HT : As (TabW w gb ra n m E.length L R A c 0 0 ((wr.alloc (.cells (madeCells #[.slice none 0 0] n) 29)).alloc (.cells #[.slice (some ⟨wr.heap.size, 0, none⟩) n n] 69))) := ⟨by
     have b1 := blk_new (wr.alloc (.cells (madeCells #[.slice none 0 0] n) 29)) (.cells #[.slice (some ⟨wr.heap.size, 0, none⟩) n n] 69)
     have e2 : (wr.alloc (.cells (madeCells #[.slice none 0 0] n) 29)).heap.size = ra + 1 := by rw [Go.Deep.nblk_alloc, hra]
     rw [e2, hra] at b1
     have r1 := (World.rowIs_made wr (.slice none 0 0) n 29).alloc (.cells #[.slice (some ⟨wr.heap.size, 0, none⟩) n n] 69)
     rw [hra] at r1 ⊢
     refine ⟨r1.congr fun v hv => by rw [if_neg (by omega)], fun v hv => by omega, b1, blk_alloc (blk_alloc HG2.out _) _, below_alloc (below_alloc BEL.out _) _, ?_, by have := HGB.out; omega, by rw [← hra]; exact blk_lt HG2.out⟩
     rw [Go.Deep.nblk_alloc, Go.Deep.nblk_alloc, hra]⟩
    rw [hra]
    rw [hra] at HT
    generalize (wr.alloc (.cells (madeCells #[.slice none 0 0] n) 29)).alloc (.cells #[.slice (some ⟨ra, 0, none⟩) n n] 69) = W7 at *
    clear c0 c1 hra BEL HG2 hmk0
    go_loopg [76] (n + 1) (fun kq v76 wr => ∃ i : Nat, v76 = .int .i64 i ∧ As (i ≤ n ∧ n < i + kq) ∧ As (TabW w gb ra n m E.length L R A c i i wr))
    case atStart => exact ⟨0, rfl, ⟨by omega, by omega⟩, HT⟩
    case round =>
     clear HT
     obtain ⟨i, rfl, HA, HT⟩ := hrel
     by_cases hlt : (i : Int) < n
     ·have hin : i < n := by omega
      have cA : wr.cell? ⟨ra + 1, 0, none⟩ = some (.slice (some ⟨ra, 0, none⟩) n n) := (blk_cell HT.out.at_ 0).trans rfl
      have cR := HT.out.rows.cell hin
      rw [if_neg (by omega)] at cR
      have fR := HT.out.rows.frozen i
      have hti : ((i : Nat) : Int).toNat = i := by omega
      have i0 : (0 : Int) ≤ i := by omega
      have nra : ra ≠ ra + 1 := by omega
      have cA2 : (wr.alloc (.cells (madeCells #[.int .i64 0] m) 3)).cell? ⟨ra + 1, 0, none⟩ = some (.slice (some ⟨ra, 0, none⟩) n n) := (blk_cell (blk_alloc HT.out.at_ _) 0).trans rfl
      have cR2 := (HT.out.rows.alloc (.cells (madeCells #[.int .i64 0] m) 3)).cell hin
      rw [if_neg (by omega)] at cR2
      have fR2 := (HT.out.rows.alloc (.cells (madeCells #[.int .i64 0] m) 3)).frozen i
      go_wp2
      go_region
      go_wp2_with fail
      have HT8 := As.mk (HT.out.hang (.cells (madeCells #[.int .i64 0] m) 3)).drew
      have HR8 := As.mk (((World.rowIs_made wr (.int .i64 0) m 3).setOther (a := ⟨ra, i, none⟩) (by have := HT.out.size; show wr.heap.size ≠ ra; omega) (.slice (some ⟨wr.heap.size, 0, none⟩) m m)).drew)
      generalize (((wr.alloc (.cells (madeCells #[.int .i64 0] m) 3)).setCell ⟨ra, i, none⟩ (.slice (some ⟨wr.heap.size, 0, none⟩) m m)).drew) = W8 at *
      obtain ⟨q, hq⟩ : ∃ q, wr.heap.size = q := ⟨_, rfl⟩
      have hq2 : q = ra + 2 + i := by rw [← hq]; exact HT.out.size
      rw [hq] at HR8 ⊢
      have HQ2 := As.mk hq2
      obtain ⟨g1, hg1⟩ : ∃ g1, gk = g1 + 1 := ⟨gk - 1, by have := HA.out; omega⟩
      subst hg1
      have HIN := As.mk hin
      clear hq hq2 cA cR fR cA2 cR2 fR2 HT hlt hin
      go_loopg [89] (m + 1) (fun kq v89 wr => ∃ s : Nat, v89 = .int .i64 s ∧ As (s ≤ m ∧ m < s + kq) ∧ As (TabW w gb ra n m E.length L R A c (i + 1) i wr) ∧ As (wr.rowIs q 3 m (fun c => .int .i64 (if c < s then -1 else 0))))
      case atStart => exact ⟨0, rfl, ⟨by omega, by omega⟩, HT8, ⟨HR8.out.congr fun j hj => by rw [if_neg (by omega)]⟩⟩
      case round =>
       clear HT8 HR8
       obtain ⟨s, rfl, HA2, HT, HR⟩ := hrel
       by_cases hlt : (s : Int) < m
       ·have hsm : s < m := by omega
        have cA : wr.cell? ⟨ra + 1, 0, none⟩ = some (.slice (some ⟨ra, 0, none⟩) n n) := (blk_cell HT.out.at_ 0).trans rfl
        have cR := HT.out.rows.cell HIN.out
        rw [if_pos (by omega), ← HQ2.out] at cR
        have cS := HR.out.cell hsm
        have fS := HR.out.frozen s
        have hti2 : ((s : Nat) : Int).toNat = s := by omega
        have s0 : (0 : Int) ≤ s := by omega
        have hin2 : (i : Int) < n := by have := HIN.out; omega
        go_wp2
        go_roundg (gk - 1)
        case measure => have := HA2.out; omega
        case rel => exact ⟨s + 1, by go_num, ⟨by omega, by have := HA2.out; omega⟩, ⟨by rw [HQ2.out]; exact HT.out.far s _⟩, ⟨(HR.out.set s (.int .i64 (-1))).congr fun j hj => by
         by_cases e : j = s
         ·rw [if_pos e, if_pos (by omega)]
         ·rw [if_neg e]
          by_cases e2 : j < s
          ·rw [if_pos e2, if_pos (by omega)]
          ·rw [if_neg e2, if_neg (by omega)]⟩⟩
       ·have hsm : s = m := by have := HA2.out; omega
        subst hsm
        have hd2 : decide ((s : Int) < (s : Int)) = false := by simp
        have hn2 := OK.out.2.2.1
        have hin3 := HIN.out
        clear hlt
        go_wp2
        go_roundg g1
        case measure => omega
        case rel => exact ⟨i + 1, by go_num, ⟨by have := HIN.out; omega, by have := HA.out; omega⟩, ⟨HT.out.next (by rw [← HQ2.out]; exact HR.out.congr fun j hj => by rw [if_pos hj])⟩⟩
     ·have hin : i = n := by have := HA.out; omega
      subst hin
      have hd2 : decide ((i : Int) < (i : Int)) = false := by simp
      have c0 : wr.cell? ⟨gb, 2, none⟩ = some (.slice A E.length c) := (blk_cell HT.out.g 2).trans rfl
      have hgd : gb ≠ gd := by have := HGD.out; omega
      have hmf : ∀ (fn : Fn) (first cap : Array Value) (w : World), (Instr.makeFunc fn first cap).run Try.prog w = .ok (.func fn first cap) w := fun _ _ _ _ => rfl
      clear hlt
      go_wp2_with fail
      go_step3
      obtain ⟨Z, hZ⟩ : ∃ Z, wr.heap.size = Z := ⟨_, rfl⟩
      have hZ2 : Z = ra + 2 + i := by rw [← hZ]; exact HT.out.size
      have e1 : (wr.alloc (.cells (madeCells #[.int .i64 0] E.length) 3)).heap.size = Z + 1 := by rw [Go.Deep.nblk_alloc, hZ]
      have e2 : ((wr.alloc (.cells (madeCells #[.int .i64 0] E.length) 3)).alloc (.cells #[.slice (some ⟨Z, 0, none⟩) E.length E.length] 29)).heap.size = Z + 1 + 1 := by rw [Go.Deep.nblk_alloc, e1]
      have n1 := blk_alloc (blk_new (wr.alloc (.cells (madeCells #[.int .i64 0] E.length) 3)) (.cells #[.slice (some ⟨Z, 0, none⟩) E.length E.length] 29)) (.cells #[.func (.func 47) #[] #[.pointer (some ⟨gb, 0, none⟩)]] 77)
      have n2 := blk_new ((wr.alloc (.cells (madeCells #[.int .i64 0] E.length) 3)).alloc (.cells #[.slice (some ⟨Z, 0, none⟩) E.length E.length] 29)) (.cells #[.func (.func 47) #[] #[.pointer (some ⟨gb, 0, none⟩)]] 77)
      have n3 := ((World.rowIs_made wr (.int .i64 0) E.length 3).alloc (.cells #[.slice (some ⟨Z, 0, none⟩) E.length E.length] 29)).alloc (.cells #[.func (.func 47) #[] #[.pointer (some ⟨gb, 0, none⟩)]] 77)
      rw [e1] at n1
      rw [e2] at n2
      rw [hZ] at n3 ⊢
      have lo := HT.out.lo
      simp only [Exit.then]
      rename_i hK
      refine hK _ _ ?_
      refine hpass _ _ ?_
      refine ⟨gb, gd, ra + 1, ra, Z + 1, Z, Z + 1 + 1, fun v => ra + 2 + v.toNat, 0, E.length + 1, fun _ _ => -1, fun _ => 0, frame_u _ rfl, by omega, by omega, ⟨⟨by omega, fun v v0 v1 => by show w.heap.size ≤ ra + 2 + v.toNat; omega⟩, fun v v0 v1 => ⟨?_, ?_, ?_, ?_, ?_, ?_⟩, fun u v u0 u1 v0 v1 h => ?_, ?_⟩, ⟨blk_alloc (blk_alloc (blk_alloc HT.out.g _) _) _, blk_alloc (blk_alloc (blk_alloc HT.out.at_ _) _) _, (((HT.out.rows.alloc _).alloc _).alloc _).congr fun v hv => ?_, fun v v0 v1 => (((HT.out.row v.toNat (by omega)).alloc _).alloc _).alloc _, n1, n3, n2⟩, below_alloc (below_alloc (below_alloc HT.out.below _) _) _, OK.out, by omega, by omega, ?_⟩
      ·show ra + 2 + v.toNat ≠ gb; omega
      ·show ra + 2 + v.toNat ≠ ra + 1; omega
      ·show ra + 2 + v.toNat ≠ ra; omega
      ·show ra + 2 + v.toNat ≠ Z; omega
      ·show ra + 2 + v.toNat ≠ Z + 1; omega
      ·show ra + 2 + v.toNat ≠ Z + 1 + 1; omega
      ·have h' : ra + 2 + u.toNat = ra + 2 + v.toNat := h
       omega
      ·exact ⟨by omega, by omega, by omega, by omega, by omega⟩
      ·rw [if_pos hv, show ((v : Nat) : Int).toNat = v by omega]
      ·have := HR.out
       rw [HNN.out, HMm.out] at this
       exact this
end Go.Proofs.Ytlleokhmgblfnaa.H
end

section
namespace Go.Proofs.Ytlleokhmgblfnaa.M
open Go.RowKit Go.Proofs.YtlleokhmgblfnaaW.PrintWords
def match_Colours.f (a0_0 : Int) (a0_1 : Int) (l0_2 : List S40) : Option (List Int × Int) := H.colF a0_0 a0_1 (l0_2.map prE)
theorem match_Colours.calls (a0_0 : Int) (a0_1 : Int) (A0_2 : Option Addr) (c0_2 : Nat) (l0_2 : List (S40)) (r1 : List Int) (r2 : Int) (w : World) (hr0_2 : Kd.C k40 w A0_2 l0_2.length l0_2) (hc0_2 : l0_2.length ≤ c0_2) (h : match_Colours.f a0_0 a0_1 l0_2 = some (r1, r2)) :
  Calls Try.prog 38 #[.agg #[.int .i64 a0_0, .int .i64 a0_1, .slice A0_2 l0_2.length c0_2]] w fun e w' => ∃ v0_ : Value, e = .returned (.tuple #[v0_, .int .i64 r2]) ∧ Kd.R (Kd.int .i64) 3 w' w.heap.size (fun _ => True) v0_ r1 ∧ Below w.heap.size w w' := by
 unfold match_Colours.f at h
 have hk : H.kE.C w A0_2 l0_2.length (l0_2.map prE) := H.C_iso hr0_2
 have hl : (l0_2.map prE).length = l0_2.length := by simp
 rw [← hl] at hk hc0_2 ⊢
 exact H.col_calls a0_0 a0_1 (l0_2.map prE) A0_2 c0_2 (r1, r2) w hk hc0_2 h
end Go.Proofs.Ytlleokhmgblfnaa.M
end

section
namespace Go.Proofs.Ytlleokhmgblfnaa.M
open Go.RowKit Go.Proofs.YtlleokhmgblfnaaW.PrintWords
def match_Verify.f (a0_0 : Int) (a0_1 : Int) (l0_2 : List S40) (l1 : List Int) : Option (Bool × Int) := if l1.all (fun x => (Lit.int .i64 x).wf) = true then some (H.verF a0_0 a0_1 (l0_2.map prE) l1) else none
theorem match_Verify.calls (a0_0 : Int) (a0_1 : Int) (A0_2 : Option Addr) (c0_2 : Nat) (l0_2 : List (S40)) (A1 : Option Addr) (c1 : Nat) (l1 : List Int) (r1 : Bool) (r2 : Int) (w : World) (hr0_2 : Kd.C k40 w A0_2 l0_2.length l0_2) (hc0_2 : l0_2.length ≤ c0_2) (hr1 : Kd.C (Kd.int .i64) w A1 l1.length l1) (hc1 : l1.length ≤ c1) (h : match_Verify.f a0_0 a0_1 l0_2 l1 = some (r1, r2)) :
  Calls Try.prog 33 #[.agg #[.int .i64 a0_0, .int .i64 a0_1, .slice A0_2 l0_2.length c0_2], .slice A1 l1.length c1] w fun e w' => e = .returned (.tuple #[.bool r1, .int .i64 r2]) ∧ Below w.heap.size w w' := by
 unfold match_Verify.f at h
 split at h
 ·rename_i hw
  have h := Option.some.inj h
  have hk : H.kE.C w A0_2 l0_2.length (l0_2.map prE) := H.C_iso hr0_2
  have hl : (l0_2.map prE).length = l0_2.length := by simp
  rw [← hl] at hk hc0_2 ⊢
  have := H.ver_any a0_0 a0_1 (l0_2.map prE) A0_2 c0_2 l1 A1 c1 w hk hc0_2 hr1 hc1 (fun x hx => List.all_eq_true.1 hw x hx)
  rw [h] at this
  exact this
 ·cases h
end Go.Proofs.Ytlleokhmgblfnaa.M
end

section
namespace Go.Proofs.Ytlleokhmgblfnaa.M
open Go.RowKit Go.Proofs.YtlleokhmgblfnaaW.PrintWords Go.Proofs.YtlleokhmgblfnaaW.PrintLast Go.Proofs.YtlleokhmgblfnaaW.PrintMore
attribute [local go_sem] max2_int min2_int max_two min_two max_three min_three max_four min_four
mutual
def mE.l0 : Nat → List (S62) → Int → Int → Option (Bool)
 | 0, _, _, _ => none
 | k + 1, x110, x111, x112 => if x112 < x111 then (if 0 ≤ x112 then (if x112 < (x110.length : Int) then ((match_Size.f k ((rd_T62 x110 x112).f0.f0) ((rd_T62 x110 x112).f0.f1) ((rd_T62 x110 x112).f0.f2)).bind fun bt278 => ((match_Maximum.f k ((rd_T62 x110 x112).f0.f0) ((rd_T62 x110 x112).f0.f1) ((rd_T62 x110 x112).f0.f2)).bind fun bt280 => (if 7 ≤ 35184372088832 then ((match_Verify.f ((rd_T62 x110 x112).f0.f0) ((rd_T62 x110 x112).f0.f1) ((rd_T62 x110 x112).f0.f2) (List.replicate 7 0)).bind fun bt287 => ((match_Cover.f k ((rd_T62 x110 x112).f0.f0) ((rd_T62 x110 x112).f0.f1) ((rd_T62 x110 x112).f0.f2)).bind fun bt289 => ((match_Free.f k ((rd_T62 x110 x112).f0.f0) ((rd_T62 x110 x112).f0.f1) ((rd_T62 x110 x112).f0.f2)).bind fun bt296 => ((match_Hall.f k ((rd_T62 x110 x112).f0.f0) ((rd_T62 x110 x112).f0.f1) ((rd_T62 x110 x112).f0.f2)).bind fun bt303 => ((match_Colours.f ((rd_T62 x110 x112).f0.f0) ((rd_T62 x110 x112).f0.f1) ((rd_T62 x110 x112).f0.f2)).bind fun bt310 => ((match_Check.f ((rd_T62 x110 x112).f0.f0) ((rd_T62 x110 x112).f0.f1) ((rd_T62 x110 x112).f0.f2)).bind fun t314 => (if t314 = ((rd_T62 x110 x112).f1) then (if bt278.2 = ((rd_T62 x110 x112).f1) then (if bt280.2 = ((rd_T62 x110 x112).f1) then (if bt287.2 = ((rd_T62 x110 x112).f1) then (if bt289.2.2 = ((rd_T62 x110 x112).f1) then (if bt296.2.2 = ((rd_T62 x110 x112).f1) then (if bt303.2.2 = ((rd_T62 x110 x112).f1) then (if bt310.2 = ((rd_T62 x110 x112).f1) then (mE.l0 k x110 x111 (wrap64 (x112 + 1))) else (some false)) else (some false)) else (some false)) else (some false)) else (some false)) else (some false)) else (some false)) else (some false)))))))) else (none)))) else (none)) else (none)) else ((match_Maximum.f k 0 0 ([] : List (S40))).bind fun bt316 => ((match_Hall.f k 0 0 ([] : List (S40))).bind fun bt320 => ((match_Colours.f 0 0 ([] : List (S40))).bind fun bt327 => ((match_Free.f k 2 1 ([] : List (S40))).bind fun bt331 => ((match_Hall.f k 2 1 ([] : List (S40))).bind fun bt338 => ((toruslaw30_ex.f).bind fun bt345 => ((match_Verify.f bt345.1 bt345.2.1 bt345.2.2 (([(-1), 0, 1] : List Int))).bind fun bt353 => ((toruslaw30_ex.f).bind fun bt355 => ((match_Verify.f bt355.1 bt355.2.1 bt355.2.2 (([0, 0, 1] : List Int))).bind fun bt363 => ((toruslaw30_ex.f).bind fun bt365 => ((match_Verify.f bt365.1 bt365.2.1 bt365.2.2 (([(-1), 1, (-1)] : List Int))).bind fun bt373 => ((toruslaw30_ex.f).bind fun bt375 => ((match_Verify.f bt375.1 bt375.2.1 bt375.2.2 (([(-2), 0, 1] : List Int))).bind fun bt383 => ((toruslaw30_ex.f).bind fun bt385 => ((match_Verify.f bt385.1 bt385.2.1 bt385.2.2 (([0, (-1)] : List Int))).bind fun bt393 => (if (bt316.1.length : Int) = 0 then (if bt316.2 = 0 then (if bt320.2.2 = 4 then (if (bt327.1.length : Int) = 0 then (if bt327.2 = 0 then ((torusref01_Same.f k bt331.1 (([0, 1] : List Int))).bind fun t398 => (if t398 = true then ((torusref01_Same.f k bt331.2.1 (([0] : List Int))).bind fun t402 => (if t402 = true then (if bt331.2.2 = 0 then ((torusref01_Same.f k bt338.1 (([0, 1] : List Int))).bind fun t406 => (if t406 = true then (if (bt338.2.1.length : Int) = 0 then (if bt338.2.2 = 0 then (if bt353.1 = true then (if bt353.2 = 0 then (if bt363.1 = true then (mE.j1 k true) else (if bt363.2 = 0 then (if bt373.1 = true then (mE.j1 k true) else (if bt373.2 = 0 then (if bt383.1 = true then (mE.j1 k true) else (if bt383.2 = 0 then (mE.j1 k (bt393.2 != 10)) else (mE.j1 k true))) else (mE.j1 k true))) else (mE.j1 k true))) else (mE.j1 k true)) else (mE.j1 k true)) else (mE.j1 k true)) else (mE.j1 k true)) else (mE.j1 k true))) else (mE.j1 k true)) else (mE.j1 k true))) else (mE.j1 k true))) else (mE.j1 k true)) else (mE.j1 k true)) else (mE.j1 k true)) else (mE.j1 k true)) else (mE.j1 k true)))))))))))))))))
def mE.j1 : Nat → Bool → Option (Bool)
 | 0, _ => none
 | k + 1, x352 => if x352 = true then (some false) else (mE.l1 k 0 1024 1024 ([] : List (S40)) 1024 1024 ([] : List (S40)))
def mE.l1 : Nat → Int → Int → Int → List (S40) → Int → Int → List (S40) → Option (Bool)
 | 0, _, _, _, _, _, _, _ => none
 | k + 1, x46, x408000, x408001, x408002, x409000, x409001, x409002 => if x46 < 1024 then (if x46 > 0 then (if x408002.length < 8796093022208 then ((some (x408002 ++ [(⟨x46, wrap64 (x46 - 1)⟩ : S40)] : List (S40))).bind fun y409 => (if x46 < 1023 then (if y409.length < 8796093022208 then (if x409002.length < 8796093022208 then (mE.l1 k (wrap64 (x46 + 1)) x408000 x408001 (y409 ++ [(⟨x46, x46⟩ : S40)]) x409000 x409001 (x409002 ++ [(⟨x46, 0⟩ : S40)])) else (none)) else (none)) else (if x409002.length < 8796093022208 then (mE.l1 k (wrap64 (x46 + 1)) x408000 x408001 y409 x409000 x409001 (x409002 ++ [(⟨x46, 0⟩ : S40)])) else (none)))) else (none)) else (if x46 < 1023 then (if x408002.length < 8796093022208 then (if x409002.length < 8796093022208 then (mE.l1 k (wrap64 (x46 + 1)) x408000 x408001 (x408002 ++ [(⟨x46, x46⟩ : S40)]) x409000 x409001 (x409002 ++ [(⟨x46, 0⟩ : S40)])) else (none)) else (none)) else (if x409002.length < 8796093022208 then (mE.l1 k (wrap64 (x46 + 1)) x408000 x408001 x408002 x409000 x409001 (x409002 ++ [(⟨x46, 0⟩ : S40)])) else (none)))) else ((match_Size.f k x408000 x408001 x408002).bind fun bt430 => ((match_Free.f k x408000 x408001 x408002).bind fun bt432 => ((match_Cover.f k x409000 x409001 x409002).bind fun bt439 => ((match_Colours.f x409000 x409001 x409002).bind fun bt446 => (if bt430.1 = 1023 then (if bt430.2 = 0 then (if (bt432.1.length : Int) = 1024 then (if (bt432.2.1.length : Int) = 1 then (if 0 < (bt432.2.1.length : Int) then (if (rd bt432.2.1 0) = 1023 then (if bt432.2.2 = 0 then (if (bt439.1.length : Int) = 0 then ((torusref01_Same.f k bt439.2.1 (([0] : List Int))).bind fun t454 => (if t454 = true then (if bt439.2.2 = 0 then (if bt446.2 = 0 then (mE.j3 k bt446.1 ((bt446.1.length : Int) != 1024)) else (mE.j3 k bt446.1 true)) else (mE.j3 k bt446.1 true)) else (mE.j3 k bt446.1 true))) else (mE.j3 k bt446.1 true)) else (mE.j3 k bt446.1 true)) else (mE.j3 k bt446.1 true)) else (none)) else (mE.j3 k bt446.1 true)) else (mE.j3 k bt446.1 true)) else (mE.j3 k bt446.1 true)) else (mE.j3 k bt446.1 true))))))
def mE.j3 : Nat → List Int → Bool → Option (Bool)
 | 0, _, _ => none
 | k + 1, x55, x458 => if x458 = true then (some false) else (if 1024 ≤ 281474976710656 then (mE.l2 k (List.replicate 1024 false) x55 (x55.length : Int) 0) else (none))
def mE.l2 : Nat → List Bool → List Int → Int → Int → Option (Bool)
 | 0, _, _, _, _ => none
 | k + 1, x57, x460, x461, x462 => if x462 < x461 then (if 0 ≤ x462 then (if x462 < (x460.length : Int) then (if (rd x460 x462) < 0 then (some false) else (if (rd x460 x462) ≥ 1024 then (some false) else (if 0 ≤ (rd x460 x462) then (if (rd x460 x462) < (x57.length : Int) then (if rdOf false x57 (rd x460 x462) = true then (some false) else (mE.l2 k (x57.set ((rd x460 x462) : Int).toNat true) x460 x461 (wrap64 (x462 + 1)))) else (none)) else (none)))) else (none)) else (none)) else (some true)
end
def mE.f (k : Nat)  : Option (Bool) := (toruslaw30_awake.f).bind fun t245 => (if t245 = true then (if 65537 ≤ 17592186044416 then ((some (([(⟨(⟨(-1), 0, ([] : List (S40))⟩ : S33), 1⟩ : S62), (⟨(⟨0, 1025, ([] : List (S40))⟩ : S33), 1⟩ : S62), (⟨(⟨(-1), 0, (List.replicate 65537 z40)⟩ : S33), 1⟩ : S62), (⟨(⟨0, 0, (List.replicate 65537 z40)⟩ : S33), 3⟩ : S62), (⟨(⟨1, 1, (([(⟨0, 1⟩ : S40)] : List (S40)))⟩ : S33), 1⟩ : S62), (⟨(⟨1, 1, (([(⟨(-1), 0⟩ : S40)] : List (S40)))⟩ : S33), 1⟩ : S62), (⟨(⟨1, 1, (([(⟨0, 0⟩ : S40), (⟨0, 0⟩ : S40)] : List (S40)))⟩ : S33), 5⟩ : S62), (⟨(⟨2, 2, (([(⟨1, 0⟩ : S40), (⟨0, 1⟩ : S40)] : List (S40)))⟩ : S33), 6⟩ : S62), (⟨(⟨2, 2, (([(⟨1, 1⟩ : S40), (⟨1, 0⟩ : S40)] : List (S40)))⟩ : S33), 6⟩ : S62), (⟨(⟨2, 2, (([(⟨1, 1⟩ : S40), (⟨1, 0⟩ : S40), (⟨9, 9⟩ : S40)] : List (S40)))⟩ : S33), 6⟩ : S62), (⟨(⟨2, 2, (([(⟨1, 1⟩ : S40), (⟨1, 2⟩ : S40)] : List (S40)))⟩ : S33), 1⟩ : S62)] : List (S62)) : List (S62))).bind fun y273 => (mE.l0 k y273 (y273.length : Int) 0)) else (none)) else (some false))
end Go.Proofs.Ytlleokhmgblfnaa.M
end

section
namespace Go.Proofs.Ytlleokhmgblfnaa.M
open Go.RowKit Go.Proofs.YtlleokhmgblfnaaW.PrintWords Go.Proofs.YtlleokhmgblfnaaW.PrintLast Go.Proofs.YtlleokhmgblfnaaW.PrintMore
attribute [local go_sem] max2_int min2_int max_two min_two max_three min_three max_four min_four
def mE.T3 : Bool × List (List Nat × List Nat) := (true, [([], []), ([0], [0]), ([], []), ([2], [2]), ([], []), ([4], [4]), ([5], [5]), ([], []), ([7], [7]), ([8], [8]), ([], []), ([10], [10]), ([11], [11]), ([12], [12]), ([], []), ([14], [14]), ([15], [15]), ([16], [16]), ([], []), ([], []), ([18, 19], [18, 19]), ([20], [20]), ([21], [21]), ([], []), ([], []), ([23, 24], [23, 24]), ([25], [25]), ([26], [26]), ([], []), ([], []), ([28, 29], [28, 29]), ([30], [30]), ([31], [31]), ([], []), ([], []), ([], []), ([33, 34, 35], [33, 34, 35]), ([36], [36]), ([37], [37]), ([], []), ([], []), ([39, 40], [39, 40]), ([41], [41]), ([42], [42]), ([1, 3, 6, 9, 13, 17, 22, 27, 32, 38, 43], [1, 3, 6, 9, 13, 17, 22, 27, 32, 38, 43]), ([44], [44]), ([], [])])
def mE.B3 : List Nat := [0, 1, 0, 4, 0, 16, 48, 0, 128, 384, 0, 1024, 3072, 7168, 0, 16384, 49152, 114688, 0, 0, 786432, 1835008, 3932160, 0, 0, 25165824, 58720256, 125829120, 0, 0, 805306368, 1879048192, 4026531840, 0, 0, 0, 60129542144, 128849018880, 266287972352, 0, 0, 1649267441664, 3848290697216, 8246337208320, 17592186044415, 35184372088831, 0]
theorem mE.tab3 : rtab .any (opsOf Try.f11 3) = mE.T3 := by kernel_rfl
theorem mE.bits3 : waitsOk mE.T3.2 mE.B3 = true := by kernel_rfl
def mE.T8 : Bool × List (List Nat × List Nat) := (true, [([], []), ([0], [0]), ([], []), ([1, 2], [1, 2]), ([3], [3]), ([4], [4]), ([4], [4]), ([5, 3, 0, 1, 2, 3, 4, 5], [5]), ([6, 7, 0, 1, 2, 3, 4, 5, 6, 7], [6])])
def mE.B8 : List Nat := [0, 1, 0, 7, 15, 31, 31, 63, 255]
theorem mE.tab8 : rtab .any (opsOf Try.f11 8) = mE.T8 := by kernel_rfl
theorem mE.bits8 : waitsOk mE.T8.2 mE.B8 = true := by kernel_rfl
def mE.T13 : Bool × List (List Nat × List Nat) := (true, [([], []), ([0], [0]), ([1], [1]), ([], []), ([3], [3]), ([2, 4], [2, 4]), ([5, 2], [5]), ([6], [6]), ([6], [6]), ([8, 6], [6, 8]), ([7, 9, 6], [6, 7, 9]), ([6, 10], [6, 10]), ([11, 6], [11]), ([12], [12]), ([12], [12]), ([14, 12], [12, 14]), ([13, 15, 12], [12, 13, 15]), ([12, 16], [12, 16]), ([17, 12], [17]), ([18], [18]), ([18], [18]), ([20, 18], [18, 20]), ([19, 21, 18], [18, 19, 21]), ([18, 22], [18, 22]), ([23, 18], [23]), ([24], [24]), ([24], [24]), ([26, 24], [24, 26]), ([25, 27, 24], [24, 25, 27]), ([24, 28], [24, 28]), ([29, 24], [29]), ([30], [30]), ([30], [30]), ([32, 30], [30, 32]), ([31, 33, 30], [30, 31, 33]), ([30, 34], [30, 34]), ([35, 30], [35]), ([36], [36]), ([36], [36]), ([38, 36], [36, 38]), ([37, 39, 36], [36, 37, 39]), ([36, 40], [36, 40]), ([41, 36], [41]), ([42], [42]), ([42], [42]), ([44, 42], [42, 44]), ([43, 45, 42], [42, 43, 45]), ([42, 46], [42, 46])])
def mE.B13 : List Nat := [0, 1, 3, 0, 8, 31, 63, 127, 127, 383, 1023, 2047, 4095, 8191, 8191, 24575, 65535, 131071, 262143, 524287, 524287, 1572863, 4194303, 8388607, 16777215, 33554431, 33554431, 100663295, 268435455, 536870911, 1073741823, 2147483647, 2147483647, 6442450943, 17179869183, 34359738367, 68719476735, 137438953471, 137438953471, 412316860415, 1099511627775, 2199023255551, 4398046511103, 8796093022207, 8796093022207, 26388279066623, 70368744177663, 140737488355327]
theorem mE.tab13 : rtab .any (opsOf Try.f11 13) = mE.T13 := by kernel_rfl
theorem mE.bits13 : waitsOk mE.T13.2 mE.B13 = true := by kernel_rfl
def exO : List Nat := [0, 1, 2, 3, 4, 5, 6, 7, 8, 9, 10, 11, 12, 13, 14, 15, 16, 17, 18, 19, 20, 21, 22, 23, 24, 25, 26, 27, 28, 29, 30, 31, 32, 33, 34, 35, 36, 37, 38, 39, 40, 41, 42, 43, 44, 45]
theorem szb {a : Act} {k : Nat} (h : a.tmps.size = 482) (hk : Nat.ble k 482 = true) : Nat.ble k a.tmps.size = true := by rw [h]; exact hk
theorem stepAt_mk {Q : Exit → Act → World → Prop} {B O : List Nat} {I : (Nat → Bool) → Act → World → Prop} {i : Nat} {ops : Array Oper} (h : (Try.f11.body.bind fun c => opsIn c 3) = some ops) (hs : StepAt Try.prog ops Q B O I i) (ops' : Array Oper) (h' : (Try.f11.body.bind fun c => opsIn c 3) = some ops') : StepAt Try.prog ops' Q B O I i := by
 rw [h] at h'
 cases h'
 exact hs
abbrev ExI (w : World) (y246 : List (S40)) (y249 : List (S40)) (y252 : List (S40)) (y255 : List (S40)) (y258 : List (S40)) (y261 : List (S40)) (y264 : List (S40)) (y267 : List (S40)) (y270 : List (S40)) (y273 : List (S62)) (a0_ : Act) (b : Nat → Bool) (a : Act) (w' : World) : Prop := ∃ (v247 : Value) (v250 : Value) (v253 : Value) (v256 : Value) (v259 : Value) (v262 : Value) (v265 : Value) (v268 : Value) (v271 : Value) (v274 : Value) (m5_ : Value) (m6_ : Value) (m8_ : Value) (m9_ : Value) (m12_ : Value) (m13_ : Value) (m16_ : Value) (m17_ : Value) (m21_ : Value) (m22_ : Value) (m26_ : Value) (m27_ : Value) (m31_ : Value) (m32_ : Value) (m37_ : Value) (m38_ : Value) (m42_ : Value) (m43_ : Value), a = putSel a0_ b [(0, 66, .agg #[.int .i64 (-1), .int .i64 0, .slice none 0 0]), (1, 67, .agg #[.int .i64 (-1), .int .i64 0, .slice none 0 0, .int .i64 1]), (2, 68, .agg #[.int .i64 0, .int .i64 1025, .slice none 0 0]), (3, 69, .agg #[.int .i64 0, .int .i64 1025, .slice none 0 0, .int .i64 1]), (4, 70, v247), (5, 71, m5_), (6, 72, m6_), (7, 73, v250), (8, 74, m8_), (9, 75, m9_), (10, 76, .agg #[.int .i64 0, .int .i64 1]), (11, 77, v253), (12, 78, m12_), (13, 79, m13_), (14, 80, .agg #[.int .i64 (-1), .int .i64 0]), (15, 81, v256), (16, 82, m16_), (17, 83, m17_), (18, 84, .agg #[.int .i64 0, .int .i64 0]), (19, 85, .agg #[.int .i64 0, .int .i64 0]), (20, 86, v259), (21, 87, m21_), (22, 88, m22_), (23, 89, .agg #[.int .i64 1, .int .i64 0]), (24, 90, .agg #[.int .i64 0, .int .i64 1]), (25, 91, v262), (26, 92, m26_), (27, 93, m27_), (28, 94, .agg #[.int .i64 1, .int .i64 1]), (29, 95, .agg #[.int .i64 1, .int .i64 0]), (30, 96, v265), (31, 97, m31_), (32, 98, m32_), (33, 99, .agg #[.int .i64 1, .int .i64 1]), (34, 100, .agg #[.int .i64 1, .int .i64 0]), (35, 101, .agg #[.int .i64 9, .int .i64 9]), (36, 102, v268), (37, 103, m37_), (38, 104, m38_), (39, 105, .agg #[.int .i64 1, .int .i64 1]), (40, 106, .agg #[.int .i64 1, .int .i64 2]), (41, 107, v271), (42, 108, m42_), (43, 109, m43_), (44, 110, v274), (45, 111, .int .i64 (y273.length : Int))] ∧ (Below w.heap.size w w') ∧ (b 4 = true → b 44 = false → Kd.R k40 40 w' w.heap.size (fun _ => True) v247 y246) ∧ (b 7 = true → b 44 = false → Kd.R k40 40 w' w.heap.size (fun _ => True) v250 y249) ∧ (b 11 = true → b 44 = false → Kd.R k40 40 w' w.heap.size (fun _ => True) v253 y252) ∧ (b 15 = true → b 44 = false → Kd.R k40 40 w' w.heap.size (fun _ => True) v256 y255) ∧ (b 20 = true → b 44 = false → Kd.R k40 40 w' w.heap.size (fun _ => True) v259 y258) ∧ (b 25 = true → b 44 = false → Kd.R k40 40 w' w.heap.size (fun _ => True) v262 y261) ∧ (b 30 = true → b 44 = false → Kd.R k40 40 w' w.heap.size (fun _ => True) v265 y264) ∧ (b 36 = true → b 44 = false → Kd.R k40 40 w' w.heap.size (fun _ => True) v268 y267) ∧ (b 41 = true → b 44 = false → Kd.R k40 40 w' w.heap.size (fun _ => True) v271 y270) ∧ (b 44 = true → Kd.N k62 62 w' w.heap.size (fun _ => True) v274 y273) ∧ (b 5 = true → (m5_ : Value) = .agg #[.int .i64 (-1), .int .i64 0, v247]) ∧ (b 6 = true → (m6_ : Value) = .agg #[.int .i64 (-1), .int .i64 0, v247, .int .i64 1]) ∧ (b 8 = true → (m8_ : Value) = .agg #[.int .i64 0, .int .i64 0, v250]) ∧ (b 9 = true → (m9_ : Value) = .agg #[.int .i64 0, .int .i64 0, v250, .int .i64 3]) ∧ (b 12 = true → (m12_ : Value) = .agg #[.int .i64 1, .int .i64 1, v253]) ∧ (b 13 = true → (m13_ : Value) = .agg #[.int .i64 1, .int .i64 1, v253, .int .i64 1]) ∧ (b 16 = true → (m16_ : Value) = .agg #[.int .i64 1, .int .i64 1, v256]) ∧ (b 17 = true → (m17_ : Value) = .agg #[.int .i64 1, .int .i64 1, v256, .int .i64 1]) ∧ (b 21 = true → (m21_ : Value) = .agg #[.int .i64 1, .int .i64 1, v259]) ∧ (b 22 = true → (m22_ : Value) = .agg #[.int .i64 1, .int .i64 1, v259, .int .i64 5]) ∧ (b 26 = true → (m26_ : Value) = .agg #[.int .i64 2, .int .i64 2, v262]) ∧ (b 27 = true → (m27_ : Value) = .agg #[.int .i64 2, .int .i64 2, v262, .int .i64 6]) ∧ (b 31 = true → (m31_ : Value) = .agg #[.int .i64 2, .int .i64 2, v265]) ∧ (b 32 = true → (m32_ : Value) = .agg #[.int .i64 2, .int .i64 2, v265, .int .i64 6]) ∧ (b 37 = true → (m37_ : Value) = .agg #[.int .i64 2, .int .i64 2, v268]) ∧ (b 38 = true → (m38_ : Value) = .agg #[.int .i64 2, .int .i64 2, v268, .int .i64 6]) ∧ (b 42 = true → (m42_ : Value) = .agg #[.int .i64 2, .int .i64 2, v271]) ∧ (b 43 = true → (m43_ : Value) = .agg #[.int .i64 2, .int .i64 2, v271, .int .i64 1])
end Go.Proofs.Ytlleokhmgblfnaa.M
end

section
namespace Go.Proofs.Ytlleokhmgblfnaa.M
open Go.RowKit Go.Proofs.YtlleokhmgblfnaaW.PrintWords Go.Proofs.YtlleokhmgblfnaaW.PrintLast Go.Proofs.YtlleokhmgblfnaaW.PrintMore
attribute [local go_sem] max2_int min2_int max_two min_two max_three min_three max_four min_four
theorem k62_openF {W : World} {ok : Nat → Prop} {x : S62} {cs : List Value} (h : Kd.FK k62 W ok x cs) : ∃ A2 c2, cs = [.int .i64 x.f0.f0, .int .i64 x.f0.f1, .slice A2 x.f0.f2.length c2, .int .i64 x.f1] ∧ x.f0.f2.length ≤ c2 ∧ Kd.F k40 W ok A2 x.f0.f2.length x.f0.f2 := by
 obtain ⟨A2, c2, rfl, l2, _⟩ := k62_open (Kd.FK_now h)
 exact ⟨A2, c2, rfl, l2, (fun W' hW => by obtain ⟨A2_, c2_, he, l2_, g2_⟩ := k62_open (h W' hW); injection (Option.some.inj (show some (Value.slice A2 x.f0.f2.length c2) = some (Value.slice A2_ x.f0.f2.length c2_) from congrArg (fun l => l[2]?) he)) with ha_ _ _; rw [ha_]; exact g2_)⟩
theorem k62_mkF (W : World) (ok : Nat → Prop) (x : S62) {A2 : Option Addr} {c2 : Nat} (l2 : x.f0.f2.length ≤ c2) (g2 : Kd.F k40 W ok A2 x.f0.f2.length x.f0.f2) : Kd.FK k62 W ok x [.int .i64 x.f0.f0, .int .i64 x.f0.f1, .slice A2 x.f0.f2.length c2, .int .i64 x.f1] := fun W2 hW => k62_mk W2 x l2 (g2 W2 hW)
end Go.Proofs.Ytlleokhmgblfnaa.M
end
