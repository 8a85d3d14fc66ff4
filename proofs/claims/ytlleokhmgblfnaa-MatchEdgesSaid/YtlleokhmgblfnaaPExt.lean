/- What extG does to a matching: it augments it along a path of rising levels, or marks vertices as dead. -/
import Derived.Test.YtlleokhmgblfnaaEGreat
import Derived.Test.YtlleokhmgblfnaaPCnt
set_option linter.unusedVariables false
namespace Go.Proofs.Ytlleokhmgblfnaa.P
open Go.RowKit Go.Proofs.YtlleokhmgblfnaaW.PrintWords Go.Proofs.Ytlleokhmgblfnaa.H

theorem rd_set (xs : List Int) (i j y : Int) (h0 : 0 ≤ i) (h1 : i < xs.length) (hj : 0 ≤ j) : rd (xs.set i.toNat y) j = if j = i then y else rd xs j := by
  unfold rd
  rw [List.getD_eq_getElem?_getD, List.getD_eq_getElem?_getD, List.getElem?_set]
  by_cases e : j = i
  · subst e
    rw [if_pos rfl, if_pos rfl, if_pos (by omega)]
    rfl
  · rw [if_neg (by omega), if_neg e]
theorem rd_set_eq {xs : List Int} {i y : Int} (h0 : 0 ≤ i) (h1 : i < xs.length) : rd (xs.set i.toNat y) i = y := by rw [rd_set xs i i y h0 h1 h0, if_pos rfl]
theorem rd_set_ne {xs : List Int} {i j y : Int} (h0 : 0 ≤ i) (h1 : i < xs.length) (hj : 0 ≤ j) (hne : j ≠ i) : rd (xs.set i.toNat y) j = rd xs j := by rw [rd_set xs i j y h0 h1 hj, if_neg hne]
theorem rd_mem {xs : List Int} {i : Int} (h0 : 0 ≤ i) (h1 : i < xs.length) : rd xs i ∈ xs := by
  unfold rd
  rw [List.getD_eq_getElem?_getD, List.getElem?_eq_getElem (by omega)]
  exact List.getElem_mem _
theorem mem_rd {xs : List Int} {x : Int} (h : x ∈ xs) : ∃ i : Int, 0 ≤ i ∧ i < xs.length ∧ rd xs i = x := by
  obtain ⟨i, hi, e⟩ := List.getElem_of_mem h
  exact ⟨i, by omega, by omega, by simp [rd, hi, e]⟩

theorem extG_mono_k (next : List (List Int)) (v j : Int) (m b l : List Int) : ∀ k, LeO ((fun k => extG next k v j m b l) k) ((fun k => extG next k v j m b l) (k + 1)) := fun k => extG_mono next k v j m b l
/-- Neighbours are right vertices. -/
def NV (next : List (List Int)) (R : Nat) : Prop := ∀ v : Int, 0 ≤ v → v < next.length → ∀ w ∈ rdL next v, 0 ≤ w ∧ w < R
/-- Mates on both sides fit together, but for the right vertex h, whose mate is out of date and which is nobody's mate. -/
structure Hole (next : List (List Int)) (R : Nat) (m b : List Int) (h : Int) : Prop where
  lm : m.length = next.length
  lb : b.length = R
  mm : ∀ v : Int, 0 ≤ v → v < next.length → 0 ≤ rd m v → rd m v < R ∧ rd m v ∈ rdL next v ∧ rd b (rd m v) = v ∧ rd m v ≠ h
  bb : ∀ w : Int, 0 ≤ w → w < R → w ≠ h → 0 ≤ rd b w → rd b w < next.length ∧ rd m (rd b w) = w
/-- The hole w is given to v: the hole is then where v's mate was. -/
theorem Hole.fill {next : List (List Int)} {R : Nat} {m b : List Int} {w v : Int} (h : Hole next R m b w) (hv0 : 0 ≤ v) (hv1 : v < next.length) (hw0 : 0 ≤ w) (hw1 : w < R) (ha : w ∈ rdL next v) :
    Hole next R (m.set v.toNat w) (b.set w.toNat v) (rd m v) := by
  have l1 := h.lm
  have l2 := h.lb
  refine ⟨by rw [List.length_set]; exact l1, by rw [List.length_set]; exact l2, fun x hx0 hx1 hx => ?_, fun y hy0 hy1 hne hy => ?_⟩
  · by_cases e : x = v
    · subst e
      rw [rd_set_eq hx0 (by omega)] at hx ⊢
      refine ⟨hw1, ha, by rw [rd_set_eq hw0 (by omega)], fun e2 => ?_⟩
      exact (h.mm x hx0 hx1 (e2 ▸ hw0)).2.2.2 e2.symm
    · rw [rd_set_ne hv0 (by omega) hx0 e] at hx ⊢
      obtain ⟨a1, a2, a3, a4⟩ := h.mm x hx0 hx1 hx
      refine ⟨a1, a2, by rw [rd_set_ne hw0 (by omega) hx a4]; exact a3, fun e2 => ?_⟩
      by_cases hv : 0 ≤ rd m v
      · have := (h.mm v hv0 hv1 hv).2.2.1
        rw [← e2, a3] at this
        exact e this
      · omega
  · by_cases e : y = w
    · subst e
      rw [rd_set_eq hy0 (by omega)] at hy ⊢
      exact ⟨hv1, by rw [rd_set_eq hv0 (by omega)]⟩
    · rw [rd_set_ne hw0 (by omega) hy0 e] at hy ⊢
      obtain ⟨a1, a2⟩ := h.bb y hy0 hy1 e hy
      refine ⟨a1, ?_⟩
      rw [rd_set_ne hv0 (by omega) hy]
      · exact a2
      · intro e2
        rw [e2] at a2
        exact hne a2.symm
theorem Hole.other {next : List (List Int)} {R : Nat} {m b : List Int} {w : Int} (h : Hole next R m b (-1)) (hw0 : 0 ≤ w) (hw1 : w < R) (hb : rd b w < 0) : Hole next R m b w :=
  ⟨h.lm, h.lb, fun v a c d => ⟨(h.mm v a c d).1, (h.mm v a c d).2.1, (h.mm v a c d).2.2.1, fun e => by have := (h.mm v a c d).2.2.1; rw [e] at this; omega⟩, fun y a c _ d => h.bb y a c (by omega) d⟩
theorem Hole.neg {next : List (List Int)} {R : Nat} {m b : List Int} {w : Int} (h : Hole next R m b w) (hw : w < 0) : Hole next R m b (-1) :=
  ⟨h.lm, h.lb, fun v a c d => ⟨(h.mm v a c d).1, (h.mm v a c d).2.1, (h.mm v a c d).2.2.1, by omega⟩, fun y a c _ d => h.bb y a c (by omega) d⟩

def Base (n : Nat) (l0 l : List Int) : Prop := ∀ x : Int, 0 ≤ x → x < n → rd l x = rd l0 x ∨ rd l x = -1
def DC (next : List (List Int)) (b l0 l : List Int) : Prop :=
  ∀ x : Int, 0 ≤ x → x < next.length → 0 ≤ rd l0 x → rd l x = -1 → ∀ w ∈ rdL next x, 0 ≤ rd b w ∧ (rd l0 (rd b w) = rd l0 x + 1 → rd l (rd b w) = -1)
structure ExtSpec (next : List (List Int)) (R : Nat) (m b l : List Int) (v : Int) (q : Bool × List Int × List Int × List Int) : Prop where
  ll : q.2.2.2.length = next.length
  lv : ∀ x : Int, 0 ≤ x → x < next.length → rd q.2.2.2 x = rd l x ∨ (rd q.2.2.2 x = -1 ∧ (x = v ∨ rd l v < rd l x))
  ok : q.1 = true → Hole next R q.2.1 q.2.2.1 (rd m v) ∧ (∀ x : Int, 0 ≤ x → x < next.length → (0 ≤ rd q.2.1 x ↔ 0 ≤ rd m x ∨ x = v)) ∧ (∀ x : Int, 0 ≤ x → x < next.length → rd l x < rd l v → rd q.2.1 x = rd m x)
  no : q.1 = false → q.2.1 = m ∧ q.2.2.1 = b ∧ rd q.2.2.2 v = -1
  dc : q.1 = false → ∀ l0, Base next.length l0 l → DC next b l0 l → DC next b l0 q.2.2.2

theorem ext_spec {next : List (List Int)} {R : Nat} (hn : next.length ≤ 35184372088832) (hNV : NV next R) {m b : List Int} (hg : Hole next R m b (-1)) :
    ∀ (d : Nat) (v : Int) (l : List Int), 0 ≤ v → v < next.length → l.length = next.length → (∀ x : Int, 0 ≤ x → x < next.length → -1 ≤ rd l x ∧ rd l x ≤ next.length) → 0 ≤ rd l v → (next.length : Int) < rd l v + d →
      ∃ K q, extG next K v 0 m b l = some q ∧ ExtSpec next R m b l v q := by
  intro d
  induction d with
  | zero => intro v l h0 h1 h2 h3 h4 h5; have := h3 v h0 h1; omega
  | succ d ih =>
    intro v l hv0 hv1 hl hL hlv hd
    have wr : wrap64 (rd l v + 1) = rd l v + 1 := by have := hL v hv0 hv1; unfold wrap64; omega
    have key : ∀ (e : Nat) (j : Int) (l' : List Int), (rdL next v).length ≤ j + e → 0 ≤ j → l'.length = next.length → rd l' v = rd l v →
        (∀ x : Int, 0 ≤ x → x < next.length → rd l' x = rd l x ∨ (rd l' x = -1 ∧ rd l v < rd l x)) →
        (∀ j' : Int, 0 ≤ j' → j' < j → 0 ≤ rd b (rd (rdL next v) j')) →
        (∀ l0, Base next.length l0 l → DC next b l0 l → DC next b l0 l' ∧ (∀ j' : Int, 0 ≤ j' → j' < j → rd l0 (rd b (rd (rdL next v) j')) = rd l0 v + 1 → rd l' (rd b (rd (rdL next v) j')) = -1)) →
        ∃ K q, extG next K v j m b l' = some q ∧ ExtSpec next R m b l v q := by
      intro e
      induction e with
      | zero =>
        intro j l' he hj hl' hlv' hlx hs hp
        refine ⟨1, (false, m, b, l'.set v.toNat (-1)), by rw [extG, if_neg (by omega)], ?_⟩
        refine ⟨by simpa using hl', fun x h0 h1 => ?_, (fun h => by cases h), fun _ => ⟨rfl, rfl, rd_set_eq hv0 (by omega)⟩, fun _ l0 hb0 hd0 => ?_⟩
        · by_cases ex : x = v
          · subst ex
            exact .inr ⟨rd_set_eq h0 (by omega), .inl rfl⟩
          · show rd (l'.set v.toNat (-1)) x = _ ∨ (rd (l'.set v.toNat (-1)) x = -1 ∧ _)
            rw [rd_set_ne hv0 (by omega) h0 ex]
            rcases hlx x h0 h1 with h | ⟨h, h'⟩
            · exact .inl h
            · exact .inr ⟨h, .inr h'⟩
        · obtain ⟨p1, p2⟩ := hp l0 hb0 hd0
          intro x h0 h1 h2 h3 w hw
          show 0 ≤ rd b w ∧ (_ → rd (l'.set v.toNat (-1)) (rd b w) = -1)
          by_cases ex : x = v
          · subst ex
            obtain ⟨i, i0, i1, rfl⟩ := mem_rd hw
            have hb := hs i i0 (by omega)
            refine ⟨hb, fun h4 => ?_⟩
            have h5 := p2 i i0 (by omega) h4
            by_cases ey : rd b (rd (rdL next x) i) = x
            · rw [ey]; exact rd_set_eq h0 (by omega)
            · rw [rd_set_ne h0 (by omega) hb ey]; exact h5
          · have h3' : rd l' x = -1 := by
              have : rd (l'.set v.toNat (-1)) x = -1 := h3
              rwa [rd_set_ne hv0 (by omega) h0 ex] at this
            obtain ⟨hb, h5⟩ := p1 x h0 h1 h2 h3' w hw
            refine ⟨hb, fun h4 => ?_⟩
            by_cases ey : rd b w = v
            · rw [ey]; exact rd_set_eq hv0 (by omega)
            · rw [rd_set_ne hv0 (by omega) hb ey]; exact h5 h4
      | succ e ihe =>
        intro j l' he hj hl' hlv' hlx hs hp
        by_cases hlt : j < (rdL next v).length
        case neg => exact ihe j l' (by omega) hj hl' hlv' hlx hs hp
        obtain ⟨x, hx⟩ : ∃ x, rd (rdL next v) j = x := ⟨_, rfl⟩
        have hxm : x ∈ rdL next v := hx ▸ rd_mem hj hlt
        obtain ⟨hx0, hx1⟩ := hNV v hv0 hv1 x hxm
        obtain ⟨u, hu⟩ : ∃ u, rd b x = u := ⟨_, rfl⟩
        have hlb := hg.lb
        have hlm := hg.lm
        by_cases hu0 : u < 0
        · refine ⟨1, (true, m.set v.toNat x, b.set x.toNat v, l'), by rw [extG, if_pos hlt, hx, if_pos hx0, if_pos (by omega), hu, if_pos hu0], ?_⟩
          refine ⟨hl', fun y h0 h1 => ?_, fun _ => ⟨(hg.other hx0 hx1 (by omega)).fill hv0 hv1 hx0 hx1 hxm, fun y h0 h1 => ?_, fun y h0 h1 h2 => ?_⟩, (fun h => by cases h), (fun h => by cases h)⟩
          · rcases hlx y h0 h1 with h | ⟨h, h'⟩
            · exact .inl h
            · exact .inr ⟨h, .inr h'⟩
          · show 0 ≤ rd (m.set v.toNat x) y ↔ _
            by_cases ey : y = v
            · subst ey; rw [rd_set_eq h0 (by omega)]; simp [hx0]
            · rw [rd_set_ne hv0 (by omega) h0 ey]; simp [ey]
          · exact rd_set_ne hv0 (by omega) h0 (fun ey => by rw [ey] at h2; omega)
        have hu0' : 0 ≤ u := by omega
        obtain ⟨hun, hum⟩ := hg.bb x hx0 hx1 (by omega) (by omega)
        rw [hu] at hun hum
        by_cases hlu : rd l' u = wrap64 (rd l' v + 1)
        · have hlu2 : rd l' u = rd l v + 1 := by rw [hlu, hlv', wr]
          have hL' : ∀ y : Int, 0 ≤ y → y < next.length → -1 ≤ rd l' y ∧ rd l' y ≤ next.length := fun y h0 h1 => by
            rcases hlx y h0 h1 with h | ⟨h, _⟩
            · rw [h]; exact hL y h0 h1
            · rw [h]; omega
          obtain ⟨K1, q, hq, S⟩ := ih u l' hu0' hun hl' hL' (by omega) (by omega)
          have hqx : ∀ y : Int, 0 ≤ y → y < next.length → rd q.2.2.2 y = rd l y ∨ (rd q.2.2.2 y = -1 ∧ rd l v < rd l y) := fun y h0 h1 => by
            rcases S.lv y h0 h1 with h | ⟨h, h' | h'⟩
            · rw [h]; exact hlx y h0 h1
            · rcases hlx y h0 h1 with h2 | ⟨h2, _⟩
              · exact .inr ⟨h, by rw [h'] at h2 ⊢; omega⟩
              · rw [h'] at h2; omega
            · rcases hlx y h0 h1 with h2 | ⟨h2, _⟩
              · exact .inr ⟨h, by omega⟩
              · omega
          obtain ⟨q0, qm, qb, ql⟩ := q
          cases q0 with
          | true =>
            obtain ⟨s1, s2, s3⟩ := S.ok rfl
            refine ⟨K1 + 1, (true, qm.set v.toNat x, qb.set x.toNat v, ql), by rw [extG, if_pos hlt, hx, if_pos hx0, if_pos (by omega), hu, if_neg hu0, if_pos (by omega), if_pos hun, if_pos hlu, hq], ?_⟩
            rw [hum] at s1
            have e1 : rd qm v = rd m v := s3 v hv0 hv1 (by omega)
            have lqm : qm.length = next.length := s1.lm
            refine ⟨S.ll, fun y h0 h1 => ?_, fun _ => ⟨?_, fun y h0 h1 => ?_, fun y h0 h1 h2 => ?_⟩, (fun h => by cases h), (fun h => by cases h)⟩
            · rcases hqx y h0 h1 with h | ⟨h, h'⟩
              · exact .inl h
              · exact .inr ⟨h, .inr h'⟩
            · have := s1.fill hv0 hv1 hx0 hx1 hxm
              rw [e1] at this
              exact this
            · show 0 ≤ rd (qm.set v.toNat x) y ↔ _
              by_cases ey : y = v
              · subst ey; rw [rd_set_eq h0 (by omega)]; simp [hx0]
              · rw [rd_set_ne hv0 (by omega) h0 ey, s2 y h0 h1]
                constructor
                · rintro (h | h)
                  · exact .inl h
                  · subst h; exact .inl (by omega)
                · rintro (h | h)
                  · exact .inl h
                  · exact absurd h ey
            · have ey : y ≠ v := fun ey => by rw [ey] at h2; omega
              show rd (qm.set v.toNat x) y = _
              rw [rd_set_ne hv0 (by omega) h0 ey]
              refine s3 y h0 h1 ?_
              rcases hlx y h0 h1 with h | ⟨h, h'⟩
              · omega
              · omega
          | false =>
            obtain ⟨s1, s2, s3⟩ := S.no rfl
            have s1' : qm = m := s1
            have s2' : qb = b := s2
            subst s1' s2'
            have hqv : rd ql v = rd l v := by
              rcases hqx v hv0 hv1 with h | ⟨h, h'⟩
              · exact h
              · omega
            obtain ⟨K2, q2, hq2, S2⟩ := ihe (j + 1) ql (by omega) (by omega) S.ll hqv hqx
              (fun j' h0 h1 => by
                by_cases ej : j' = j
                · subst ej; rw [hx, hu]; exact hu0'
                · exact hs j' h0 (by omega))
              (fun l0 hb0 hd0 => by
                obtain ⟨p1, p2⟩ := hp l0 hb0 hd0
                have hb1 : Base next.length l0 l' := fun y h0 h1 => by
                  rcases hlx y h0 h1 with h | ⟨h, _⟩
                  · rw [h]; exact hb0 y h0 h1
                  · exact .inr h
                refine ⟨S.dc rfl l0 hb1 p1, fun j' h0 h1 h2 => ?_⟩
                by_cases ej : j' = j
                · subst ej; rw [hx, hu]; exact s3
                · have h3 := p2 j' h0 (by omega) h2
                  have hb3 := hs j' h0 (by omega)
                  have hm3 : rd (rdL next v) j' ∈ rdL next v := rd_mem h0 (by omega)
                  obtain ⟨w0, w1⟩ := hNV v hv0 hv1 _ hm3
                  obtain ⟨b1, _⟩ := hg.bb _ w0 w1 (by omega) hb3
                  rcases S.lv _ hb3 b1 with h | ⟨h, _⟩
                  · exact h.trans h3
                  · exact h)
            refine ⟨max K1 K2 + 1, q2, ?_, S2⟩
            have a1 := at_rounds (extG_mono_k next u 0 qm qb l') (Nat.le_max_left K1 K2) hq
            have a2 := at_rounds (extG_mono_k next v (j + 1) qm qb ql) (Nat.le_max_right K1 K2) hq2
            rw [extG, if_pos hlt, hx, if_pos hx0, if_pos (by omega), hu, if_neg hu0, if_pos (by omega), if_pos hun, if_pos hlu, a1]
            exact a2
        · obtain ⟨K2, q2, hq2, S2⟩ := ihe (j + 1) l' (by omega) (by omega) hl' hlv' hlx
            (fun j' h0 h1 => by
              by_cases ej : j' = j
              · subst ej; rw [hx, hu]; exact hu0'
              · exact hs j' h0 (by omega))
            (fun l0 hb0 hd0 => by
              obtain ⟨p1, p2⟩ := hp l0 hb0 hd0
              refine ⟨p1, fun j' h0 h1 h2 => ?_⟩
              by_cases ej : j' = j
              · subst ej
                rw [hx, hu] at h2 ⊢
                rw [hlv', wr] at hlu
                have b1 := hb0 u hu0' hun
                have b2 := hb0 v hv0 hv1
                have b3 := hlx u hu0' hun
                omega
              · exact p2 j' h0 (by omega) h2)
          refine ⟨K2 + 1, q2, ?_, S2⟩
          rw [extG, if_pos hlt, hx, if_pos hx0, if_pos (by omega), hu, if_neg hu0, if_pos (by omega), if_pos hun, if_neg hlu]
          exact hq2
    exact key (rdL next v).length 0 l (by omega) (by omega) hl rfl (fun x _ _ => .inl rfl) (fun j' h0 h1 => by omega) (fun l0 hb hd => ⟨hd, fun j' h0 h1 => by omega⟩)
end Go.Proofs.Ytlleokhmgblfnaa.P
