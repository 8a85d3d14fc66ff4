/- The law MatchSides on what its functions compute. -/
import Derived.Test.YtlleokhmgblfnaaPFit
import Derived.Test.YtlleokhmgblfnaaPCore
import Derived.Test.YtlleokhmgblfnaaPFree
import Derived.Test.YtlleokhmgblfnaaMx18
import Derived.Test.YtlleokhmgblfnaaMx19
set_option linter.unusedVariables false
namespace Go.Proofs.Ytlleokhmgblfnaa.P
open Go.RowKit Go.Proofs.YtlleokhmgblfnaaW.PrintWords Go.Proofs.Ytlleokhmgblfnaa.H Go.Proofs.Ytlleokhmgblfnaa.M

/-! Turned -/
def hits (w v : Int) : List S40 → List S40
  | [] => []
  | ⟨a, b⟩ :: E => if a = v then if b = w then ⟨w, v⟩ :: hits w v E else hits w v E else hits w v E
theorem turned_l2 (L R w v : Int) (E : List S40) (hl : E.length ≤ 1000) (L' R' : Int) (G : Nat) (s) : ∀ (suf pre out : List S40), E = pre ++ suf → out.length ≤ 1000 + pre.length →
    (∀ k, G ≤ k → torusref30_Turned.l1 k w (v + 1) L R E L' R' (out ++ hits w v suf) = some s) → v < 1000 → 0 ≤ v → ∀ k, G + suf.length < k → torusref30_Turned.l2 k w v E E.length pre.length L R E L' R' out = some s := by
  intro suf
  induction suf with
  | nil =>
    intro pre out hE ho hG hv hv0 k hk
    obtain ⟨k, rfl⟩ : ∃ k', k = k' + 1 := ⟨k - 1, by omega⟩
    rw [torusref30_Turned.l2, if_neg (by rw [hE]; simp), w64 (by omega) (by omega)]
    have := hG k (by simp at hk; omega)
    simpa [hits] using this
  | cons y suf ih =>
    intro pre out hE ho hG hv hv0 k hk
    simp only [List.length_cons] at hk
    obtain ⟨k, rfl⟩ : ∃ k', k = k' + 1 := ⟨k - 1, by omega⟩
    have hlen : E.length = pre.length + (suf.length + 1) := by rw [hE]; simp
    have hy : rd_T40 E pre.length = y := by rw [hE]; exact rd_mid _ _ _
    have e1 : wrap64 ((pre.length : Int) + 1) = (pre ++ [y]).length := by rw [w64 (by omega) (by omega)]; simp
    obtain ⟨a, b⟩ := y
    rw [torusref30_Turned.l2, if_pos (by omega), if_pos (by omega), if_pos (by omega), hy, e1]
    unfold hits at hG
    by_cases h1 : a = v
    · by_cases h2 : b = w
      · rw [if_pos h1, if_pos h2] at hG ⊢
        rw [if_pos (by omega)]
        exact ih (pre ++ [⟨a, b⟩]) (out ++ [⟨w, v⟩]) (by rw [hE]; simp) (by simp; omega) (by simpa using hG) hv hv0 k (by omega)
      · rw [if_pos h1, if_neg h2] at hG ⊢
        exact ih (pre ++ [⟨a, b⟩]) _ (by rw [hE]; simp) (by simp; omega) hG hv hv0 k (by omega)
    · rw [if_neg h1] at hG ⊢
      exact ih (pre ++ [⟨a, b⟩]) _ (by rw [hE]; simp) (by simp; omega) hG hv hv0 k (by omega)
theorem hits_of (w v : Int) : ∀ E : List S40, E.Pairwise (fun a b => lexB (prE a) (prE b)) → (hits w v E = [] ∧ (⟨v, w⟩ : S40) ∉ E) ∨ (hits w v E = [⟨w, v⟩] ∧ (⟨v, w⟩ : S40) ∈ E)
  | [], _ => .inl ⟨rfl, by simp⟩
  | ⟨a, b⟩ :: E, h => by
    rw [List.pairwise_cons] at h
    have ih := hits_of w v E h.2
    unfold hits
    by_cases h1 : a = v
    · by_cases h2 : b = w
      · subst h1 h2
        rw [if_pos rfl, if_pos rfl]
        rcases ih with ⟨i1, i2⟩ | ⟨i1, i2⟩
        · exact .inr ⟨by rw [i1], by simp⟩
        · have := h.1 _ i2
          unfold lexB at this
          omega
      · rw [if_pos h1, if_neg h2]
        have ne : (⟨v, w⟩ : S40) ≠ ⟨a, b⟩ := fun e => by rw [S40.mk.injEq] at e; exact h2 e.2.symm
        simpa [ne] using ih
    · rw [if_neg h1]
      have ne : (⟨v, w⟩ : S40) ≠ ⟨a, b⟩ := fun e => by rw [S40.mk.injEq] at e; exact h1 e.1.symm
      simpa [ne] using ih
structure TI (E : List S40) (w v : Int) (out : List S40) : Prop where
  srt : out.Pairwise (fun a b => lexB (prE a) (prE b))
  mem : ∀ a b : Int, (⟨a, b⟩ : S40) ∈ out ↔ (⟨b, a⟩ : S40) ∈ E ∧ lexB (a, b) (w, v)
  len : out.length ≤ w * 12 + v
theorem turned_t {L R : Nat} {E : List S40} (hL : L ≤ 12) (hR : R ≤ 12) (hl : E.length ≤ 144) (hE : EOK L R E) :
    ∃ K T, (∀ k, K ≤ k → torusref30_Turned.f k L R E = some ((R : Int), (L : Int), T)) ∧ EOK R L T ∧ T.length ≤ 144 ∧ ∀ a b : Int, Adj T a b ↔ Adj E b a := by
  have key1 : ∀ (d : Nat) (w v : Int) (out : List S40), (L : Int) = v + d → 0 ≤ v → 0 ≤ w → w < R → TI E w v out →
      ∃ out', (∀ G s, (∀ k, G ≤ k → torusref30_Turned.l0 k (w + 1) L R E R L out' = some s) → ∀ k, G + d * (E.length + 2) < k → torusref30_Turned.l1 k w v L R E R L out = some s) ∧ TI E (w + 1) 0 out' := by
    intro d
    induction d with
    | zero =>
      intro w v out hd hv hw hw1 hI
      refine ⟨out, fun G s hG k hk => ?_, hI.srt, fun a b => ?_, by have := hI.len; omega⟩
      · obtain ⟨k, rfl⟩ : ∃ k', k = k' + 1 := ⟨k - 1, by omega⟩
        rw [torusref30_Turned.l1, if_neg (by omega), w64 (by omega) (by omega)]
        exact hG k (by omega)
      · rw [hI.mem a b]
        refine and_congr_right (fun h => ?_)
        have := hE.rng _ h
        unfold lexB
        simp only at *
        omega
    | succ d ih =>
      intro w v out hd hv hw hw1 hI
      have hlen := hI.len
      have hh := hits_of w v E hE.srt
      have hI' : TI E w (v + 1) (out ++ hits w v E) := by
        rcases hh with ⟨i1, i2⟩ | ⟨i1, i2⟩
        · rw [i1, List.append_nil]
          refine ⟨hI.srt, fun a b => ?_, by omega⟩
          rw [hI.mem a b]
          refine and_congr_right (fun h => ?_)
          have ne : ¬ (a = w ∧ b = v) := fun ⟨e1, e2⟩ => by subst e1 e2; exact i2 h
          unfold lexB
          simp only
          omega
        · rw [i1]
          refine ⟨List.pairwise_append.2 ⟨hI.srt, by simp, fun x hx y hy => ?_⟩, fun a b => ?_, by simp; omega⟩
          · rw [List.mem_singleton.1 hy]
            obtain ⟨a, b⟩ := x
            exact ((hI.mem a b).1 hx).2
          · rw [List.mem_append, hI.mem a b, List.mem_singleton, S40.mk.injEq]
            constructor
            · rintro (⟨h1, h2⟩ | ⟨rfl, rfl⟩)
              · refine ⟨h1, ?_⟩
                unfold lexB at *
                simp only at *
                omega
              · exact ⟨i2, .inr ⟨rfl, show b < b + 1 by omega⟩⟩
            · rintro ⟨h1, h2⟩
              by_cases e : a = w ∧ b = v
              · exact .inr e
              · refine .inl ⟨h1, ?_⟩
                unfold lexB at *
                simp only at *
                omega
      obtain ⟨out', h1, h2⟩ := ih w (v + 1) (out ++ hits w v E) (by omega) (by omega) hw hw1 hI'
      refine ⟨out', fun G s hG k hk => ?_, h2⟩
      obtain ⟨k, rfl⟩ : ∃ k', k = k' + 1 := ⟨k - 1, by omega⟩
      rw [torusref30_Turned.l1, if_pos (by omega)]
      have e : (d + 1) * (E.length + 2) = d * (E.length + 2) + (E.length + 2) := Nat.succ_mul _ _
      have h3 := turned_l2 L R w v E (by omega) R L (G + d * (E.length + 2) + 1) s E [] out rfl (by simp; omega) (fun k hk => h1 G s hG k (by omega)) (by omega) hv k (by omega)
      simpa using h3
  have key0 : ∀ (d : Nat) (w : Int) (out : List S40), (R : Int) = w + d → 0 ≤ w → TI E w 0 out → ∃ K out', (∀ k, K ≤ k → torusref30_Turned.l0 k w L R E R L out = some ((R : Int), (L : Int), out')) ∧ TI E R 0 out' := by
    intro d
    induction d with
    | zero =>
      intro w out hd hw hI
      have : w = (R : Int) := by omega
      subst this
      refine ⟨1, out, fun k hk => ?_, hI⟩
      obtain ⟨k, rfl⟩ : ∃ k', k = k' + 1 := ⟨k - 1, by omega⟩
      rw [torusref30_Turned.l0, if_neg (by omega)]
    | succ d ih =>
      intro w out hd hw hI
      obtain ⟨out1, h1, hI1⟩ := key1 L w 0 out (by omega) (by omega) hw (by omega) hI
      obtain ⟨K, out2, hK, hI2⟩ := ih (w + 1) out1 (by omega) (by omega) hI1
      refine ⟨K + L * (E.length + 2) + 2, out2, fun k hk => ?_, hI2⟩
      obtain ⟨k, rfl⟩ : ∃ k', k = k' + 1 := ⟨k - 1, by omega⟩
      rw [torusref30_Turned.l0, if_pos (by omega)]
      exact h1 K _ hK k (by omega)
  obtain ⟨K, T, hK, hI⟩ := key0 R 0 [] (by omega) (by omega) ⟨by simp, fun a b => by
    constructor
    · intro h; cases h
    · rintro ⟨h1, h2⟩
      have := hE.rng _ h1
      unfold lexB at h2
      simp only at *
      omega, by simp⟩
  have hlen := hI.len
  have hmem : ∀ a b : Int, (⟨a, b⟩ : S40) ∈ T ↔ (⟨b, a⟩ : S40) ∈ E := fun a b => by
    rw [hI.mem a b]
    refine and_iff_left_of_imp (fun h => ?_)
    have := hE.rng _ h
    exact .inl this.2.2.2
  refine ⟨K, T, hK, ⟨fun e he => ?_, hI.srt⟩, by omega, fun a b => ?_⟩
  · obtain ⟨a, b⟩ := e
    have := hE.rng _ ((hmem a b).1 he)
    simp only at *
    omega
  · rw [adj_mem, adj_mem, hmem]

theorem sides_true (a0 a1 : Int) (bits : List Int) (ha0 : 0 ≤ a0) (ha0' : a0 ≤ 255) (ha1 : 0 ≤ a1) (ha1' : a1 ≤ 255) : ∃ k, toruslaw30_MatchSides.f k a0 a1 bits = some true := by
  obtain ⟨K1, L, R, E, hf, hL, hR, hc, g, hl⟩ := fit_spec a0 a1 bits ha0 ha0' ha1 ha1'
  have hE := eok_of hc
  obtain ⟨K2, T, hT, hTE, hTl, hadj⟩ := turned_t hL hR hl hE
  have hcT := chk_of_eok (by omega) (by omega) (by omega) hTE
  obtain ⟨L', R', e1, e2, gT⟩ := chk_gok hcT
  have e1 : R = L' := by omega
  have e2 : L = R' := by omega
  subst e1 e2
  obtain ⟨n1, m1, b1, l1, r1, n2, m2, b2, l2, r2, K3, c1, c2, hF⟩ := free_done hc g
  obtain ⟨n3, m3, b3, l3, r3, n4, m4, b4, l4, r4, K4, c3, c4, hG⟩ := free_done hcT gT
  obtain ⟨K5, s, hs, hsm⟩ := sized (by omega) (by omega) (by omega) hE
  obtain ⟨K6, t, ht, htm⟩ := sized (by omega) (by omega) (by omega) hTE
  have est : s = t := by
    have h1 := hsm.eq c1.isMax
    have h2 := (c1.isMaxT.congr' (B := Adj T) (fun v w _ _ _ _ => (hadj v w).symm)).eq htm
    omega
  have q1 : sel L (tr l1) = sel L (tr l4) := c1.set_eq c4 (fun v w _ _ _ _ => (hadj w v).symm)
  have q2 : sel R (tr l2) = sel R (tr l3) := c2.set_eq c3 (fun w v _ _ _ _ => (hadj w v).symm)
  have z1 : (sel L (tr l4)).length ≤ L := by rw [sel_length]; exact cnt_le _ _
  have z2 : (sel R (tr l3)).length ≤ R := by rw [sel_length]; exact cnt_le _ _
  have haw : toruslaw30_awake.f = some true := rfl
  refine ⟨K1 + K2 + K3 + K4 + K5 + K6 + L + R + 1, ?_⟩
  unfold toruslaw30_MatchSides.f
  rw [hf _ (by omega)]
  simp only [Option.bind_some]
  rw [hT _ (by omega)]
  simp only [Option.bind_some]
  rw [given_spec _ _ g.len]
  simp only [Option.bind_some]
  rw [hF _ (by omega)]
  simp only [Option.bind_some]
  rw [given_spec _ _ gT.len]
  simp only [Option.bind_some]
  rw [hG _ (by omega)]
  simp only [Option.bind_some, if_true]
  rw [hs _ (by omega)]
  simp only [Option.bind_some]
  rw [ht _ (by omega)]
  simp only [Option.bind_some]
  rw [if_pos (by omega), q1, q2, same_self _ (by omega) _ (by omega)]
  simp only [Option.bind_some, if_true]
  rw [same_self _ (by omega) _ (by omega)]
  simp only [Option.bind_some, if_true]
  rw [haw]
  rfl
end Go.Proofs.Ytlleokhmgblfnaa.P
