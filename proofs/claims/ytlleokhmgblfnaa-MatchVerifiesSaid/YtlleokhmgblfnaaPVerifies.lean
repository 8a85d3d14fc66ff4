/- The law MatchVerifies on what its functions compute. -/
import Derived.Test.YtlleokhmgblfnaaPCore
import Derived.Test.YtlleokhmgblfnaaMx30
set_option linter.unusedVariables false
namespace Go.Proofs.Ytlleokhmgblfnaa.P.Ver
open Go.RowKit Go.Proofs.YtlleokhmgblfnaaW.PrintWords Go.Proofs.Ytlleokhmgblfnaa.H Go.Proofs.Ytlleokhmgblfnaa.M Go.Proofs.Ytlleokhmgblfnaa.P

/-! Check -/
theorem rcheck_l0 (L R : Int) (E : List S40) (hl : E.length ≤ 65536) : ∀ (suf pre : List S40) (p : Option S40), E = pre ++ suf → ((p = none ∧ pre = []) ∨ ∃ pre' q, p = some q ∧ pre = pre' ++ [q]) →
    ∀ k, 3 * suf.length < k → torusref30_Check.l0 k pre.length L R E = some (chkGo L R (p.map prE) (suf.map prE)) := by
  intro suf
  induction suf with
  | nil =>
    intro pre p hE hp k hk
    obtain ⟨k, rfl⟩ := fuel hk
    rw [torusref30_Check.l0, if_neg (by rw [hE]; simp)]
    unfold chkGo
    rfl
  | cons y suf ih =>
    intro pre p hE hp k hk
    simp only [List.length_cons] at hk
    obtain ⟨k, rfl⟩ : ∃ k', k = k' + 3 := ⟨k - 3, by omega⟩
    have hlen : E.length = pre.length + (suf.length + 1) := by rw [hE]; simp
    have hy : rd_T40 E pre.length = y := by rw [hE]; exact rd_mid _ _ _
    have e1 : wrap64 ((pre.length : Int) + 1) = (pre ++ [y]).length := by rw [w64 (by omega) (by omega)]; simp
    have hn := ih (pre ++ [y]) (some y) (by rw [hE]; simp) (.inr ⟨pre, y, rfl, rfl⟩) k (by omega)
    obtain ⟨a, b⟩ := y
    have next : a < 0 ∨ L ≤ a ∨ b < 0 ∨ R ≤ b ∨ torusref30_Check.j2 (k + 2) pre.length a b false L R E = some (chkGo L R (p.map prE) (((⟨a, b⟩ : S40) :: suf).map prE)) := by
      by_cases hr : a < 0 ∨ L ≤ a ∨ b < 0 ∨ R ≤ b
      · omega
      · refine .inr (.inr (.inr (.inr ?_)))
        rw [torusref30_Check.j2, if_neg (by simp)]
        rcases hp with ⟨rfl, rfl⟩ | ⟨pre', q, rfl, rfl⟩
        · rw [if_neg (by simp), torusref30_Check.j3, if_neg (by simp), if_neg (by simp), e1, hn]
          show _ = some (chkGo L R none (prE ⟨a, b⟩ :: suf.map prE))
          rw [chkGo, if_neg (by simp only [prE]; exact hr)]
          rfl
        · have hq : rd_T40 E (wrap64 (((pre' ++ [q]).length : Int) - 1)) = q := by
            rw [w64 (by omega) (by omega)]
            have : (((pre' ++ [q]).length : Int) - 1) = pre'.length := by simp
            rw [this, hE, List.append_assoc]
            exact rd_mid _ _ _
          have hpos : ((pre' ++ [q]).length : Int) > 0 := by simp
          have e2 : wrap64 (((pre' ++ [q]).length : Int) - 1) = ((pre' ++ [q]).length : Int) - 1 := w64 (by omega) (by omega)
          obtain ⟨c, d⟩ := q
          rw [if_pos hpos, hq, hy, e2, if_pos (by omega), if_pos (by omega), if_pos (by omega), if_pos (by omega)]
          show _ = some (chkGo L R (some (c, d)) ((a, b) :: suf.map prE))
          rw [chkGo, if_neg hr]
          rw [torusref30_Check.j3]
          by_cases h5 : c = a ∧ d = b
          · obtain ⟨rfl, rfl⟩ := h5
            rw [if_pos (by simp)]
            simp
          · rw [if_neg (by simp; omega), if_pos hpos, e2, if_pos (by omega), if_pos (by omega)]
            have hq' : rd_T40 E (((pre' ++ [(⟨c, d⟩ : S40)]).length : Int) - 1) = ⟨c, d⟩ := by rw [← e2]; exact hq
            have h5' : ¬ ((c, d) : Int × Int) = (a, b) := by simp only [Prod.mk.injEq]; exact h5
            rw [hq', e1, if_neg h5']
            by_cases h6 : c > a
            · rw [if_pos h6, if_pos (by omega)]
            · rw [if_neg h6]
              by_cases h7 : c = a
              · rw [if_pos h7]
                by_cases h8 : d > b
                · rw [if_pos h8, if_pos (by omega)]
                · rw [if_neg h8, if_neg (by omega), hn]
                  rfl
              · rw [if_neg h7, if_neg (by omega), hn]
                rfl
    have bad : a < 0 ∨ L ≤ a ∨ b < 0 ∨ R ≤ b → torusref30_Check.j2 (k + 2) pre.length a b true L R E = some (chkGo L R (p.map prE) (((⟨a, b⟩ : S40) :: suf).map prE)) := fun hr => by
      rw [torusref30_Check.j2, if_pos rfl]
      show _ = some (chkGo L R _ (prE ⟨a, b⟩ :: suf.map prE))
      unfold chkGo
      rw [if_pos (by simp only [prE]; exact hr)]
    rw [torusref30_Check.l0, if_pos (by omega), if_pos (by omega), hy]
    simp only
    by_cases h1 : a < 0
    · rw [if_pos h1]; exact bad (.inl h1)
    · rw [if_neg h1]
      by_cases h2 : a ≥ L
      · rw [if_pos h2]; exact bad (.inr (.inl h2))
      · rw [if_neg h2]
        by_cases h3 : b < 0
        · rw [if_pos h3]; exact bad (.inr (.inr (.inl h3)))
        · rw [if_neg h3]
          by_cases h4 : b ≥ R
          · rw [decide_eq_true h4]; exact bad (.inr (.inr (.inr h4)))
          · rw [decide_eq_false h4]
            rcases next with h | h | h | h | h
            · omega
            · omega
            · omega
            · omega
            · exact h
theorem rcheck_spec (L R : Int) (E : List S40) : ∃ K, ∀ k, K ≤ k → torusref30_Check.f k L R E = some (chk L R (E.map prE)) := by
  refine ⟨3 * E.length + 2, fun k hk => ?_⟩
  obtain ⟨k, rfl⟩ : ∃ k', k = k' + 1 := ⟨k - 1, by omega⟩
  have j0t : torusref30_Check.j0 (k + 1) true L R E = some 1 := by rw [torusref30_Check.j0, if_pos rfl]
  unfold torusref30_Check.f chk
  by_cases h1 : L < 0
  · rw [if_pos h1, if_pos (by omega)]; exact j0t
  · rw [if_neg h1]
    by_cases h2 : L > 1024
    · rw [if_pos h2, if_pos (by omega)]; exact j0t
    · rw [if_neg h2]
      by_cases h3 : R < 0
      · rw [if_pos h3, if_pos (by omega)]; exact j0t
      · rw [if_neg h3]
        by_cases h4 : R > 1024
        · rw [decide_eq_true h4, if_pos (by omega)]; exact j0t
        · rw [decide_eq_false h4, if_neg (by omega), torusref30_Check.j0, if_neg (by simp)]
          by_cases h5 : E.length > 65536
          · rw [if_pos (by omega), if_pos (by simp; omega)]
          · rw [if_neg (by omega), if_neg (by simp; omega)]
            exact rcheck_l0 L R E (by omega) E [] none rfl (.inl ⟨rfl, rfl⟩) k (by omega)


theorem bind_of {α β : Type} {x : Option α} {a : α} {f : α → Option β} (h : x = some a) : x.bind f = f a := by rw [h]; rfl
theorem mem_drop_map {E : List S40} {v x : Int} {i : Int} (hi : 0 ≤ i) (h : i < E.length) :
    decide ((v, x) ∈ (E.drop i.toNat).map prE) = (decide ((rd_T40 E i).f0 = v ∧ (rd_T40 E i).f1 = x) || decide ((v, x) ∈ (E.drop (i + 1).toNat).map prE)) := by
  have e1 : (i + 1).toNat = i.toNat + 1 := by omega
  have hd : E.drop i.toNat = rd_T40 E i :: E.drop (i.toNat + 1) := by
    rw [List.drop_eq_getElem_cons (by omega)]
    unfold rd_T40
    rw [List.getD_eq_getElem?_getD, List.getElem?_eq_getElem (by omega)]
    rfl
  rw [e1, hd, List.map_cons, ← Bool.decide_or]
  congr 1
  rw [List.mem_cons]
  unfold prE
  rw [Prod.mk.injEq]
  apply propext
  constructor
  · rintro (⟨a, b⟩ | h)
    · exact .inl ⟨a.symm, b.symm⟩
    · exact .inr h
  · rintro (⟨a, b⟩ | h)
    · exact .inl ⟨a.symm, b.symm⟩
    · exact .inr h
/-- The inner loop finds the edge. -/
theorem rver_l1 (mate : List Int) (E : List S40) (hl : E.length ≤ 65536) (L R v : Int) (v0 : 0 ≤ v) (v1 : v < mate.length) :
    ∀ (d : Nat) (i : Int) (b : Bool), (E.length : Int) = i + d → 0 ≤ i → ∀ k,
      torusref30_Verify.l1 (k + 1 + d) mate v b E E.length i L R E = torusref30_Verify.l1 (k + 1) mate v (b || decide ((v, rd mate v) ∈ (E.drop i.toNat).map prE)) E E.length E.length L R E := by
  intro d
  induction d with
  | zero =>
    intro i b hd hi k
    have e : i = E.length := by omega
    subst e
    simp
  | succ d ih =>
    intro i b hd hi k
    have hn := fun b => ih (i + 1) b (by omega) (by omega) k
    rw [mem_drop_map hi (by omega), show k + 1 + (d + 1) = (k + 1 + d) + 1 by omega, torusref30_Verify.l1, if_pos (by omega), if_pos hi, if_pos (by omega), w64 (by omega) (by omega)]
    cases b with
    | true => rw [if_pos rfl, hn]; simp
    | false =>
      rw [if_neg (by simp)]
      by_cases h1 : (rd_T40 E i).f0 = v
      · rw [if_pos h1, if_pos v0, if_pos v1, hn]
        congr 1
        simp only [h1, true_and, Bool.false_or]
        rfl
      · rw [if_neg h1, hn]
        congr 1
        simp [h1]
theorem rver_l1' (mate : List Int) (E : List S40) (hl : E.length ≤ 65536) (L R v : Int) (v0 : 0 ≤ v) (v1 : v < mate.length) (hm : mate.length ≤ 1024) (k : Nat) (hk : 1025 ≤ k) (b : Bool) (n : Int) (hn : n = E.length) :
    torusref30_Verify.l1 (k + 1) mate v b E E.length n L R E = if b = true ∧ rd mate v ∉ mate.take v.toNat then torusref30_Verify.l0 k mate (v + 1) L R E else some (false, 0) := by
  rw [torusref30_Verify.l1, if_neg (by omega)]
  cases b with
  | false => rw [if_neg (by simp), if_neg (by simp)]
  | true =>
    have hlen : (mate.take v.toNat).length ≤ 1024 := by rw [List.length_take]; omega
    rw [if_pos rfl, if_pos v0, if_pos (by omega), if_pos v1]
    refine (bind_of (has_spec _ _ (by omega) k (by omega))).trans ?_
    rw [w64 (by omega) (by omega)]
    by_cases h : rd mate v ∈ mate.take v.toNat
    · rw [if_pos (by simpa using h), if_neg (by simp [h])]
    · rw [if_neg (by simpa using h), if_pos ⟨rfl, h⟩]
theorem mul_fuel (d n a : Nat) : (d + 1) * (n + 2) + a = (d * (n + 2) + a + 1) + n + 1 := by rw [Nat.succ_mul]; omega
/-- The reference's loop answers as the program's. -/
theorem rver_l0 (mate : List Int) (E : List S40) (hl : E.length ≤ 65536) (R : Int) (hm : mate.length ≤ 1024) :
    ∀ (d : Nat) (v : Int) (U : Int → Bool), (mate.length : Int) = v + d → 0 ≤ v → (∀ x, x ≠ -1 → (U x = true ↔ x ∈ mate.take v.toNat)) → ∀ a,
      torusref30_Verify.l0 (d * (E.length + 2) + (1026 + a)) mate v mate.length R E = some (verGo (E.map prE) v U (mate.drop v.toNat), 0) := by
  intro d
  induction d with
  | zero =>
    intro v U hd hv hU a
    obtain ⟨k, hk⟩ : ∃ k, 0 * (E.length + 2) + (1026 + a) = k + 1 := ⟨1025 + a, by omega⟩
    rw [hk, torusref30_Verify.l0, if_neg (by omega), List.drop_eq_nil_of_le (by omega), verGo]
  | succ d ih =>
    intro v U hd hv hU a
    have hdr : mate.drop v.toNat = rd mate v :: mate.drop (v + 1).toNat := by
      rw [show (v + 1).toNat = v.toNat + 1 by omega, List.drop_eq_getElem_cons (by omega)]
      unfold rd
      rw [List.getD_eq_getElem?_getD, List.getElem?_eq_getElem (by omega)]
      rfl
    have htk : mate.take (v + 1).toNat = mate.take v.toNat ++ [rd mate v] := by
      rw [show (v + 1).toNat = v.toNat + 1 by omega, List.take_add_one, List.getElem?_eq_getElem (by omega)]
      unfold rd
      rw [List.getD_eq_getElem?_getD, List.getElem?_eq_getElem (by omega)]
      rfl
    rw [mul_fuel, torusref30_Verify.l0, if_pos (by omega), if_pos hv, if_pos (by omega), w64 (by omega) (by omega), hdr, verGo]
    by_cases h1 : rd mate v = -1
    · rw [if_pos h1, if_pos h1]
      have e : d * (E.length + 2) + (1026 + a) + 1 + E.length = d * (E.length + 2) + (1026 + (a + 1 + E.length)) := by omega
      rw [e]
      refine ih (v + 1) U (by omega) (by omega) (fun x hx => ?_) _
      rw [htk, List.mem_append, List.mem_singleton, h1]
      exact ⟨fun h => .inl ((hU x hx).1 h), fun h => (hU x hx).2 (h.resolve_right hx)⟩
    · rw [if_neg h1, if_neg h1]
      have e : d * (E.length + 2) + (1026 + a) + 1 + E.length = (d * (E.length + 2) + (1026 + a)) + 1 + E.length := by omega
      rw [rver_l1 mate E hl _ R v hv (by omega) E.length 0 false (by omega) (by omega), rver_l1' mate E hl _ R v hv (by omega) hm _ (by omega) _ _ rfl]
      simp only [Bool.false_or, decide_eq_true_eq, Int.toNat_zero, List.drop_zero]
      by_cases h2 : (v, rd mate v) ∈ E.map prE
      · by_cases h3 : U (rd mate v) = false
        · have h4 : rd mate v ∉ mate.take v.toNat := fun h => by rw [(hU _ h1).2 h] at h3; cases h3
          rw [if_pos ⟨h2, h4⟩, if_pos ⟨h2, h3⟩]
          refine ih (v + 1) _ (by omega) (by omega) (fun x hx => ?_) _
          rw [htk, List.mem_append, List.mem_singleton, Bool.or_eq_true, decide_eq_true_eq]
          exact ⟨fun h => h.imp (hU x hx).1 id, fun h => h.imp (hU x hx).2 id⟩
        · have h4 : rd mate v ∈ mate.take v.toNat := (hU _ h1).1 (by simpa using h3)
          rw [if_neg (fun h => h.2 h4), if_neg (fun h => h3 h.2)]
      · rw [if_neg (fun h => h2 h.1), if_neg (fun h => h2 h.1)]
theorem at_k {α : Type} {f : Nat → Option α} (hm : ∀ k, LeO (f k) (f (k + 1))) {K : Nat} {r : α} (h : f K = some r) : ∀ k, K ≤ k → f k = some r := by
  intro k hk
  induction k with
  | zero => have : K = 0 := by omega
            subst this; exact h
  | succ k ih =>
    by_cases e : K = k + 1
    · rw [← e]; exact h
    · exact hm k r (ih (by omega))
theorem rver_spec (L R : Int) (E : List S40) (mate : List Int) : ∃ K, ∀ k, K ≤ k → torusref30_Verify.f k L R E mate = some (verF L R (E.map prE) mate) := by
  obtain ⟨K1, h1⟩ := rcheck_spec L R E
  by_cases hc : chk L R (E.map prE) = 0
  · obtain ⟨Ln, Rn, rfl, rfl, g⟩ := chk_gok hc
    rw [hc] at h1
    by_cases hl : (mate.length : Int) = Ln
    · have g1 := g.L1
      have h2 := rver_l0 mate E g.len Rn (by omega) mate.length 0 (fun _ => false) (by omega) (by omega) (fun x _ => by simp) K1
      refine ⟨mate.length * (E.length + 2) + (1026 + K1), fun k hk => ?_⟩
      refine at_k (f := fun k => torusref30_Verify.f k Ln Rn E mate) (fun k => torusref30_Verify.mono _ _ _ _ k) (K := mate.length * (E.length + 2) + (1026 + K1)) ?_ k hk
      show torusref30_Verify.f _ _ _ _ _ = _
      unfold torusref30_Verify.f verF
      refine (bind_of (h1 _ (Nat.le_trans (by omega : K1 ≤ 1026 + K1) (Nat.le_add_left _ _)))).trans ?_
      rw [if_pos rfl, if_pos hl, if_pos hc, if_pos hl, ← hl, h2]
      rfl
    · refine ⟨K1, fun k hk => ?_⟩
      unfold torusref30_Verify.f verF
      refine (bind_of (h1 _ hk)).trans ?_
      rw [if_pos rfl, if_neg hl, if_pos hc, if_neg hl]
  · refine ⟨K1, fun k hk => ?_⟩
    unfold torusref30_Verify.f verF
    refine (bind_of (h1 _ hk)).trans ?_
    rw [if_neg hc, if_neg hc]
theorem given_any (L R : Int) {E : List S40} (h : E.length < 8796093022208) : toruslaw30_given.f L R E = some (L, R, E) := by
  unfold toruslaw30_given.f
  simp only [Option.bind_some]
  rw [if_pos (by simp; omega)]
  rfl
theorem awake_t : toruslaw30_awake.f = some true := rfl
theorem j0_true (k : Nat) (mate : List Int) (L R : Int) (E : List S40) : toruslaw30_MatchVerifies.j0 (k + 1) mate true L R E = some true := by
  rw [toruslaw30_MatchVerifies.j0, if_pos rfl]
  exact bind_of awake_t
theorem j0_false (k : Nat) (mate : List Int) (L R : Int) (E : List S40) (hl : E.length < 8796093022208) (q : Bool × Int) (hm : mate.length ≤ 1000000) (hk : mate.length < k)
    (h1 : match_Verify.f L R E mate = some q) (h2 : torusref30_Verify.f k L R E mate = some q) : toruslaw30_MatchVerifies.j0 (k + 1) mate false L R E = some true := by
  have hcopy : torusref01_Copy.f mate = some mate := by
    unfold torusref01_Copy.f
    refine (bind_of rfl).trans ?_
    rw [if_pos (by simp; omega)]
    rfl
  rw [toruslaw30_MatchVerifies.j0, if_neg (by simp)]
  refine (bind_of hcopy).trans ?_
  refine (bind_of (given_any L R hl)).trans ?_
  refine (bind_of h1).trans ?_
  refine (bind_of h2).trans ?_
  refine (if_pos (by simp)).trans ?_
  refine (if_pos rfl).trans ?_
  refine (bind_of (same_self mate hm k hk)).trans ?_
  refine (if_pos rfl).trans ?_
  exact bind_of awake_t
theorem verifies_true (L R : Int) (E : List S40) (mate : List Int) (hl : E.length < 8796093022208) (hwf : ∀ x ∈ mate, (Lit.int .i64 x).wf = true) : ∃ k, toruslaw30_MatchVerifies.f k L R E mate = some true := by
  obtain ⟨K1, h1⟩ := rcheck_spec L R E
  obtain ⟨K2, h2⟩ := rver_spec L R E mate
  have hlong : ∃ b, ∀ k, K1 ≤ k → toruslaw30_long.f k L R E = some b := by
    by_cases hc : chk L R (E.map prE) = 0
    · by_cases hL : L > 9
      · exact ⟨true, fun k hk => by unfold toruslaw30_long.f; refine (bind_of (h1 k hk)).trans ?_; rw [if_pos hc, if_pos hL]⟩
      · exact ⟨decide (R > 9), fun k hk => by unfold toruslaw30_long.f; refine (bind_of (h1 k hk)).trans ?_; rw [if_pos hc, if_neg hL]⟩
    · exact ⟨false, fun k hk => by unfold toruslaw30_long.f; refine (bind_of (h1 k hk)).trans ?_; rw [if_neg hc]⟩
  obtain ⟨b, hb⟩ := hlong
  have hv : match_Verify.f L R E mate = some (verF L R (E.map prE) mate) := by
    unfold match_Verify.f
    rw [if_pos (List.all_eq_true.2 hwf)]
  obtain ⟨k, hk⟩ : ∃ k, k = K1 + K2 + 2001 := ⟨_, rfl⟩
  have k1 : K1 ≤ k + 1 := by omega
  have k2 : K2 ≤ k := by omega
  have k3 : 2000 < k := by omega
  refine ⟨k + 1, ?_⟩
  unfold toruslaw30_MatchVerifies.f
  refine (bind_of (hb (k + 1) k1)).trans ?_
  cases b with
  | true => exact (if_pos rfl).trans (j0_true ..)
  | false =>
    refine (if_neg (by simp)).trans ?_
    by_cases hlen : (mate.length : Int) > 2000
    · rw [decide_eq_true hlen]; exact j0_true ..
    · rw [decide_eq_false hlen]
      exact j0_false k mate L R E hl _ (by omega) (by omega) hv (h2 k k2)
end Go.Proofs.Ytlleokhmgblfnaa.P.Ver
