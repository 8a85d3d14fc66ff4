/- Greatest ends, with a matching and with a set of left vertices that holds those without a mate and all that alternating paths lead to. -/
import Derived.Test.YtlleokhmgblfnaaPLev
set_option linter.unusedVariables false
namespace Go.Proofs.Ytlleokhmgblfnaa.P
open Go.RowKit Go.Proofs.YtlleokhmgblfnaaW.PrintWords Go.Proofs.Ytlleokhmgblfnaa.H

def msz (n : Nat) (m : List Int) : Nat := cnt n (fun x => decide (0 ≤ rd m x))
theorem phase_spec {next : List (List Int)} {R : Nat} (hn : next.length ≤ 1000000) (hNV : NV next R) {m0 b0 l0 : List Int} :
    ∀ (e : Nat) (v : Int) (m b l : List Int), next.length ≤ v + e → 0 ≤ v → Hole next R m b (-1) → l.length = next.length →
      (∀ x : Int, 0 ≤ x → x < next.length → -1 ≤ rd l x ∧ rd l x ≤ next.length) →
      (∀ x : Int, v ≤ x → x < next.length → rd m x < 0 → rd l x = 0) →
      (∀ x : Int, 0 ≤ x → x < next.length → 0 ≤ rd m0 x → 0 ≤ rd m x) →
      ((∃ x : Int, 0 ≤ x ∧ x < next.length ∧ rd m0 x < 0 ∧ 0 ≤ rd m x) ∨ (m = m0 ∧ b = b0 ∧ Base next.length l0 l ∧ DC next b0 l0 l ∧ ∀ x : Int, 0 ≤ x → x < v → x < next.length → rd m0 x < 0 → rd l x = -1)) →
      ∃ K t, phase next K v m b l = some t ∧ Hole next R t.1 t.2.1 (-1) ∧ t.2.2.length = next.length ∧ (∀ x : Int, 0 ≤ x → x < next.length → 0 ≤ rd m0 x → 0 ≤ rd t.1 x) ∧
        ((∃ x : Int, 0 ≤ x ∧ x < next.length ∧ rd m0 x < 0 ∧ 0 ≤ rd t.1 x) ∨ (t.1 = m0 ∧ t.2.1 = b0 ∧ Base next.length l0 t.2.2 ∧ DC next b0 l0 t.2.2 ∧ ∀ x : Int, 0 ≤ x → x < next.length → rd m0 x < 0 → rd t.2.2 x = -1)) := by
  intro e
  induction e with
  | zero =>
    intro v m b l he hv hg hl hL hfr hmo hp
    refine ⟨1, (m, b, l), by rw [phase, if_neg (by omega)], hg, hl, hmo, ?_⟩
    rcases hp with hp | ⟨p1, p2, p3, p4, p5⟩
    · exact .inl hp
    · exact .inr ⟨p1, p2, p3, p4, fun x h0 h1 => p5 x h0 (by omega) h1⟩
  | succ e ih =>
    intro v m b l he hv hg hl hL hfr hmo hp
    by_cases hlt : v < next.length
    case neg => exact ih v m b l (by omega) hv hg hl hL hfr hmo hp
    by_cases hneg : rd m v < 0
    · have hl0 := hfr v (Int.le_refl _) hlt hneg
      obtain ⟨K1, q, hK1, S⟩ := ext_spec (by omega) hNV hg (next.length + 1) v l hv hlt hl hL (by omega) (by omega)
      have hLq : ∀ x : Int, 0 ≤ x → x < next.length → -1 ≤ rd q.2.2.2 x ∧ rd q.2.2.2 x ≤ next.length := fun x h0 h1 => by
        rcases S.lv x h0 h1 with h | ⟨h, _⟩
        · rw [h]; exact hL x h0 h1
        · rw [h]; omega
      have hfq : ∀ x : Int, v + 1 ≤ x → x < next.length → rd m x < 0 → rd q.2.2.2 x = 0 := fun x h0 h1 h2 => by
        have h3 := hfr x (by omega) h1 h2
        rcases S.lv x (by omega) h1 with h | ⟨h, h' | h'⟩
        · omega
        · omega
        · omega
      obtain ⟨q0, qm, qb, ql⟩ := q
      cases q0 with
      | true =>
        obtain ⟨s1, s2, s3⟩ := S.ok rfl
        have hm0v : rd m0 v < 0 := by
          by_cases h : 0 ≤ rd m0 v
          · have := hmo v hv hlt h; omega
          · omega
        have hqm : ∀ x : Int, 0 ≤ x → x < next.length → 0 ≤ rd m0 x → 0 ≤ rd qm x := fun x h0 h1 h2 => (s2 x h0 h1).2 (.inl (hmo x h0 h1 h2))
        obtain ⟨K2, t, hK2, r⟩ := ih (v + 1) qm qb ql (by omega) (by omega) (s1.neg hneg) S.ll hLq
          (fun x h0 h1 h2 => hfq x h0 h1 (by
            by_cases h : 0 ≤ rd m x
            · have := (s2 x (by omega) h1).2 (.inl h)
              have h2' : rd qm x < 0 := h2
              have this' : 0 ≤ rd qm x := this
              omega
            · omega)) hqm
          (.inl ⟨v, hv, hlt, hm0v, (s2 v hv hlt).2 (.inr rfl)⟩)
        refine ⟨max K1 K2 + 1, t, ?_, r⟩
        rw [phase, if_pos hlt, if_pos hneg, at_rounds (extG_mono_k next v 0 m b l) (Nat.le_max_left K1 K2) hK1]
        exact at_rounds (g := fun k => phase next k (v + 1) qm qb ql) (fun k => phase_mono _ _ _ _ _ _) (Nat.le_max_right K1 K2) hK2
      | false =>
        obtain ⟨s1, s2, s3⟩ := S.no rfl
        have s1' : qm = m := s1
        have s2' : qb = b := s2
        subst s1' s2'
        obtain ⟨K2, t, hK2, r⟩ := ih (v + 1) qm qb ql (by omega) (by omega) hg S.ll hLq hfq hmo
          (by
            rcases hp with hp | ⟨p1, p2, p3, p4, p5⟩
            · exact .inl hp
            · subst p1 p2
              refine .inr ⟨rfl, rfl, fun x h0 h1 => ?_, S.dc rfl l0 p3 p4, fun x h0 h1 h2 h3 => ?_⟩
              · rcases S.lv x h0 h1 with h | ⟨h, _⟩
                · rw [h]; exact p3 x h0 h1
                · exact .inr h
              · by_cases ex : x = v
                · subst ex; exact s3
                · have h4 := p5 x h0 (by omega) h2 h3
                  rcases S.lv x h0 h2 with h | ⟨h, _⟩
                  · exact h.trans h4
                  · exact h)
        refine ⟨max K1 K2 + 1, t, ?_, r⟩
        rw [phase, if_pos hlt, if_pos hneg, at_rounds (extG_mono_k next v 0 qm qb l) (Nat.le_max_left K1 K2) hK1]
        exact at_rounds (g := fun k => phase next k (v + 1) qm qb ql) (fun k => phase_mono _ _ _ _ _ _) (Nat.le_max_right K1 K2) hK2
    · obtain ⟨K, t, hK, r⟩ := ih (v + 1) m b l (by omega) (by omega) hg hl hL (fun x h0 h1 => hfr x (by omega) h1) hmo
        (by
          rcases hp with hp | ⟨p1, p2, p3, p4, p5⟩
          · exact .inl hp
          · refine .inr ⟨p1, p2, p3, p4, fun x h0 h1 h2 h3 => ?_⟩
            by_cases ex : x = v
            · subst ex; rw [p1] at hneg; exact absurd h3 hneg
            · exact p5 x h0 (by omega) h2 h3)
      exact ⟨K + 1, t, by rw [phase, if_pos hlt, if_neg hneg]; exact hK, r⟩

/-- No phase in which an augmenting path was found is in vain. -/
theorem phase_gains {next : List (List Int)} {m b l0 l : List Int} (hI : LInv next m b (-1) 0 true l0 []) (hB : Base next.length l0 l) (hD : DC next b l0 l) (hf : ∀ x : Int, 0 ≤ x → x < next.length → rd m x < 0 → rd l x = -1) : False := by
  have dead : ∀ (i : Nat) (x : Int), 0 ≤ x → x < next.length → rd l0 x = i → rd l x = -1 := by
    intro i
    induction i with
    | zero => intro x h0 h1 h2; exact hf x h0 h1 ((hI.fr x h0 h1).2 h2)
    | succ i ih =>
      intro x h0 h1 h2
      obtain ⟨p, p0, p1, p2, w, hw, p3⟩ := hI.pr x h0 h1 (by omega)
      have hp := ih p p0 p1 (by omega)
      obtain ⟨_, h⟩ := hD p p0 p1 (by omega) hp w hw
      rw [p3] at h
      exact h (by omega)
  obtain ⟨x, x0, x1, x2, w, hw, hb⟩ := hI.fo rfl
  have := hD x x0 x1 x2 (dead (rd l0 x).toNat x x0 x1 (by omega)) w hw
  omega

theorem great_spec {next : List (List Int)} {R : Nat} (hn : next.length ≤ 1000000) (hNV : NV next R) :
    ∀ (d : Nat) (m b l : List Int), Hole next R m b (-1) → l.length = next.length → next.length - msz next.length m < d →
      ∃ K r, great next K m b l = some r ∧ Hole next R r.1 r.2 (-1) ∧ ∃ l', LInv next r.1 r.2 (-1) 0 false l' [] := by
  intro d
  induction d with
  | zero => intro m b l hg hl hd; omega
  | succ d ih =>
    intro m b l hg hl hd
    obtain ⟨K1, s, hK1, hI⟩ := levF_spec hn hNV hg l hl
    obtain ⟨f, l0⟩ := s
    cases f with
    | false =>
      exact ⟨K1 + 1, (m, b), by rw [great, hK1]; rfl, hg, l0, hI⟩
    | true =>
      have hub : unr next.length l0 ≤ next.length := cnt_le _ _
      obtain ⟨K2, t, hK2, h1, h2, h3, h4⟩ := phase_spec hn hNV (m0 := m) (b0 := b) (l0 := l0) next.length 0 m b l0 (by omega) (by omega) hg hI.ll
        (fun x h0 h1 => ⟨hI.lo x h0 h1, by have := hI.hi x h0 h1; simp only at this ⊢; omega⟩) (fun x h0 h1 h2 => (hI.fr x h0 h1).1 h2) (fun x _ _ h => h)
        (.inr ⟨rfl, rfl, fun x _ _ => .inl rfl, fun x h0 h1 h2 h3 => by omega, fun x h0 h1 => by omega⟩)
      have hgain : msz next.length m < msz next.length t.1 := by
        rcases h4 with ⟨x, x0, x1, x2, x3⟩ | ⟨e1, e2, e3, e4, e5⟩
        · unfold msz
          rw [cnt_out (fun y => decide (0 ≤ rd t.1 y)) x next.length x0 x1 (by simpa using x3)]
          refine Nat.lt_succ_of_le (cnt_mono _ (fun y h0 h1 hy => ?_))
          have hy' : 0 ≤ rd m y := by simpa using hy
          have : y ≠ x := fun e => by rw [e] at hy'; omega
          simp [h3 y h0 h1 hy', this]
        · exact absurd (phase_gains hI e3 e4 e5) (by simp)
      have hle : msz next.length t.1 ≤ next.length := cnt_le _ _
      obtain ⟨K3, r, hK3, hr⟩ := ih t.1 t.2.1 t.2.2 h1 h2 (by omega)
      refine ⟨max K1 (max K2 K3) + 1, r, ?_, hr⟩
      rw [great, at_rounds (g := fun k => levF next m b k l) (fun k => levF_mono _ _ _ _ _) (Nat.le_max_left K1 _) hK1]
      simp only [Option.bind_some, if_true]
      rw [at_rounds (g := fun k => phase next k 0 m b l0) (fun k => phase_mono _ _ _ _ _ _) (Nat.le_trans (Nat.le_max_left K2 K3) (Nat.le_max_right K1 _)) hK2]
      exact at_rounds (g := fun k => great next k t.1 t.2.1 t.2.2) (fun k => great_mono _ _ _ _ _) (Nat.le_trans (Nat.le_max_right K2 K3) (Nat.le_max_right K1 _)) hK3

theorem rd_nones (n : Nat) (x : Int) (h0 : 0 ≤ x) (h1 : x < n) : rd (nones n) x = -1 := by
  unfold rd nones
  rw [List.getD_eq_getElem?_getD, List.getElem?_replicate, if_pos (by omega)]
  rfl
/-- What Greatest returns. -/
theorem greatF_spec {next : List (List Int)} {R : Nat} (hn : next.length ≤ 1000000) (hR : R ≤ 1000000) (hNV : NV next R) :
    ∃ K m b, greatF K next R = some (m, b) ∧ Hole next R m b (-1) ∧ ∃ l, LInv next m b (-1) 0 false l [] := by
  have hg : Hole next R (nones next.length) (nones R) (-1) :=
    ⟨by simp [nones], by simp [nones], fun v h0 h1 h2 => by rw [rd_nones _ _ h0 h1] at h2; omega, fun w h0 h1 _ h2 => by rw [rd_nones _ _ h0 h1] at h2; omega⟩
  obtain ⟨K, r, hK, h⟩ := great_spec hn hNV (next.length + 1) (nones next.length) (nones R) (List.replicate next.length 0) hg (by simp) (by omega)
  refine ⟨K, r.1, r.2, ?_, h⟩
  unfold greatF
  rw [if_pos (by omega), if_pos (by omega), if_pos (by omega)]
  exact hK
end Go.Proofs.Ytlleokhmgblfnaa.P
