/- Greatest ends, with a matching and with a set of left vertices that holds those without a mate and all that alternating paths lead to. -/
import Derived.Test.YtlleokhmgblfnaaPExt
set_option linter.unusedVariables false
namespace Go.Proofs.Ytlleokhmgblfnaa.P
open Go.RowKit Go.Proofs.YtlleokhmgblfnaaW.PrintWords Go.Proofs.Ytlleokhmgblfnaa.H

theorem levA_spec {m : List Int} {n : Nat} (hm : m.length = n) (hn : n ≤ 1000000) : ∀ (d : Nat) (i : Int) (l q : List Int), (n : Int) = i + d → 0 ≤ i → l.length = n →
    (∀ x : Int, 0 ≤ x → x < i → rd l x = if rd m x < 0 then 0 else -1) → (∀ x ∈ q, 0 ≤ x ∧ x < i ∧ rd m x < 0) → (∀ x : Int, 0 ≤ x → x < i → rd m x < 0 → x ∈ q) → (q.length + cnt i.toNat (fun x => decide (0 ≤ rd m x)) = i.toNat) →
    ∃ K l' q', levA m n K i l q = some (l', q') ∧ l'.length = n ∧ (∀ x : Int, 0 ≤ x → x < n → rd l' x = if rd m x < 0 then 0 else -1) ∧ (∀ x ∈ q', 0 ≤ x ∧ x < n ∧ rd m x < 0) ∧ (∀ x : Int, 0 ≤ x → x < n → rd m x < 0 → x ∈ q') ∧ q'.length + cnt n (fun x => decide (0 ≤ rd m x)) = n := by
  intro d
  induction d with
  | zero =>
    intro i l q hd hi hl h1 h2 h3 h4
    have e : i = n := by omega
    subst e
    exact ⟨1, l, q, by rw [levA, if_neg (by omega)], hl, h1, h2, h3, by simpa using h4⟩
  | succ d ih =>
    intro i l q hd hi hl h1 h2 h3 h4
    have ei : (i + 1).toNat = i.toNat + 1 := by omega
    have ec : ((i.toNat : Nat) : Int) = i := by omega
    have cs : cnt (i + 1).toNat (fun x => decide (0 ≤ rd m x)) = cnt i.toNat (fun x => decide (0 ≤ rd m x)) + if decide (0 ≤ rd m i) = true then 1 else 0 := by
      rw [ei, cnt_succ, ec]
    by_cases hneg : rd m i < 0
    · have hq : q.length < 17592186044416 := by have := cnt_le (fun x => decide (0 ≤ rd m x)) i.toNat; omega
      obtain ⟨K, l', q', hK, r⟩ := ih (i + 1) ((l.set i.toNat (-1)).set i.toNat 0) (q ++ [i]) (by omega) (by omega) (by simpa using hl) (fun x h0 hx => by
          by_cases e : x = i
          · subst e
            rw [rd_set_eq h0 (by simp; omega), if_pos hneg]
          · rw [rd_set_ne hi (by simp; omega) h0 e, rd_set_ne hi (by omega) h0 e]
            exact h1 x h0 (by omega)) (fun x hx => by
          rcases List.mem_append.1 hx with hx | hx
          · have := h2 x hx; exact ⟨this.1, by omega, this.2.2⟩
          · rw [List.mem_singleton.1 hx]; exact ⟨hi, by omega, hneg⟩) (fun x h0 hx hm => by
          by_cases e : x = i
          · subst e; simp
          · exact List.mem_append_left _ (h3 x h0 (by omega) hm)) (by
          rw [cs, if_neg (by simp; omega)]
          simp
          omega)
      exact ⟨K + 1, l', q', by rw [levA, if_pos (by omega), if_pos (by omega), if_pos (by omega), if_pos hneg, if_pos hq]; exact hK, r⟩
    · obtain ⟨K, l', q', hK, r⟩ := ih (i + 1) (l.set i.toNat (-1)) q (by omega) (by omega) (by simpa using hl) (fun x h0 hx => by
          by_cases e : x = i
          · subst e
            rw [rd_set_eq h0 (by omega), if_neg hneg]
          · rw [rd_set_ne hi (by omega) h0 e]
            exact h1 x h0 (by omega)) (fun x hx => by have := h2 x hx; exact ⟨this.1, by omega, this.2.2⟩) (fun x h0 hx hm => by
          by_cases e : x = i
          · subst e; exact absurd hm hneg
          · exact h3 x h0 (by omega) hm) (by
          rw [cs, if_pos (by simp; omega)]
          omega)
      exact ⟨K + 1, l', q', by rw [levA, if_pos (by omega), if_pos (by omega), if_pos (by omega), if_neg hneg]; exact hK, r⟩

def unr (n : Nat) (l : List Int) : Nat := cnt n (fun x => decide (rd l x < 0))
/-- What is known of the levels while the queue q is still to be looked at, and of the vertex v (none: -1) the neighbours from the j-th on. -/
structure LInv (next : List (List Int)) (m b : List Int) (v j : Int) (f : Bool) (l q : List Int) : Prop where
  ll : l.length = next.length
  lo : ∀ x : Int, 0 ≤ x → x < next.length → -1 ≤ rd l x
  hi : ∀ x : Int, 0 ≤ x → x < next.length → rd l x + unr next.length l < next.length
  fr : ∀ x : Int, 0 ≤ x → x < next.length → (rd m x < 0 ↔ rd l x = 0)
  qr : ∀ x ∈ q, 0 ≤ x ∧ x < next.length ∧ 0 ≤ rd l x
  pr : ∀ x : Int, 0 ≤ x → x < next.length → 0 < rd l x → ∃ p : Int, 0 ≤ p ∧ p < next.length ∧ rd l p = rd l x - 1 ∧ ∃ w ∈ rdL next p, rd b w = x
  cl : ∀ x : Int, 0 ≤ x → x < next.length → 0 ≤ rd l x → x ∉ q → x ≠ v → ∀ w ∈ rdL next x, (rd b w < 0 → f = true) ∧ (0 ≤ rd b w → 0 ≤ rd l (rd b w))
  cv : 0 ≤ v → ∀ j' : Int, 0 ≤ j' → j' < j → j' < (rdL next v).length → (rd b (rd (rdL next v) j') < 0 → f = true) ∧ (0 ≤ rd b (rd (rdL next v) j') → 0 ≤ rd l (rd b (rd (rdL next v) j')))
  fo : f = true → ∃ x : Int, 0 ≤ x ∧ x < next.length ∧ 0 ≤ rd l x ∧ ∃ w ∈ rdL next x, rd b w < 0

theorem levC_spec {next : List (List Int)} {R : Nat} (hn : next.length ≤ 1000000) (hNV : NV next R) {m b : List Int} (hg : Hole next R m b (-1)) (v : Int) (hv0 : 0 ≤ v) (hv1 : v < next.length) :
    ∀ (e : Nat) (j : Int) (f : Bool) (l q : List Int), (rdL next v).length ≤ j + e → 0 ≤ j → LInv next m b v j f l q → 0 ≤ rd l v → q.length + unr next.length l ≤ next.length →
      ∃ K s, levC b (rdL next v) v K j f l q = some s ∧ LInv next m b (-1) 0 s.1 s.2.1 s.2.2 ∧ s.2.2.length + unr next.length s.2.1 = q.length + unr next.length l := by
  intro e
  induction e with
  | zero =>
    intro j f l q he hj hI hlv hq
    refine ⟨1, (f, l, q), by rw [levC, if_neg (by omega)], ⟨hI.ll, hI.lo, hI.hi, hI.fr, hI.qr, hI.pr, fun x h0 h1 h2 h3 _ w hw => ?_, fun h => by omega, hI.fo⟩, rfl⟩
    by_cases ex : x = v
    · subst ex
      obtain ⟨i, i0, i1, rfl⟩ := mem_rd hw
      exact hI.cv h0 i i0 (by omega) i1
    · exact hI.cl x h0 h1 h2 h3 ex w hw
  | succ e ih =>
    intro j f l q he hj hI hlv hq
    by_cases hlt : j < (rdL next v).length
    case neg => exact ih j f l q (by omega) hj hI hlv hq
    obtain ⟨x, hx⟩ : ∃ x, rd (rdL next v) j = x := ⟨_, rfl⟩
    have hxm : x ∈ rdL next v := hx ▸ rd_mem hj hlt
    obtain ⟨hx0, hx1⟩ := hNV v hv0 hv1 x hxm
    obtain ⟨u, hu⟩ : ∃ u, rd b x = u := ⟨_, rfl⟩
    have hlb := hg.lb
    have hll := hI.ll
    by_cases hu0 : u < 0
    · have hI' : LInv next m b v (j + 1) true l q := by
        refine ⟨hI.ll, hI.lo, hI.hi, hI.fr, hI.qr, hI.pr, fun y h0 h1 h2 h3 h4 w hw => ⟨fun _ => rfl, (hI.cl y h0 h1 h2 h3 h4 w hw).2⟩, fun _ j' h0 h1 h2 => ⟨fun _ => rfl, fun h3 => ?_⟩, fun _ => ⟨v, hv0, hv1, hlv, x, hxm, by omega⟩⟩
        by_cases ej : j' = j
        · subst ej; rw [hx, hu] at h3; omega
        · exact (hI.cv hv0 j' h0 (by omega) h2).2 h3
      obtain ⟨K, s, hK, r⟩ := ih (j + 1) true l q (by omega) (by omega) hI' hlv hq
      exact ⟨K + 1, s, by rw [levC, if_pos hlt, hx, if_pos hx0, if_pos (by omega), hu, if_pos hu0]; exact hK, r⟩
    have hu0' : 0 ≤ u := by omega
    obtain ⟨hun, hum⟩ := hg.bb x hx0 hx1 (by omega) (by omega)
    rw [hu] at hun hum
    by_cases hlu : rd l u < 0
    · have hlu1 : rd l u = -1 := by have := hI.lo u hu0' hun; omega
      have huv : u ≠ v := fun e => by rw [e] at hlu; omega
      have hvb := hI.hi v hv0 hv1
      have hub : unr next.length l ≤ next.length := cnt_le _ _
      have wr : wrap64 (rd l v + 1) = rd l v + 1 := by unfold wrap64; omega
      have hun2 : unr next.length (l.set u.toNat (rd l v + 1)) + 1 = unr next.length l := by
        unfold unr
        rw [cnt_out (fun x => decide (rd l x < 0)) u next.length hu0' hun (by simpa using hlu)]
        congr 1
        refine cnt_congr _ (fun y h0 h1 => ?_)
        by_cases ey : y = u
        · subst ey
          rw [rd_set_eq h0 (by omega)]
          have : ¬ rd l v + 1 < 0 := by omega
          simp [this]
        · rw [rd_set_ne hu0' (by omega) h0 ey]
          have : (y != u) = true := by simpa using ey
          rw [this, Bool.and_true]
      have hset : ∀ y : Int, 0 ≤ y → y ≠ u → rd (l.set u.toNat (rd l v + 1)) y = rd l y := fun y h0 ey => rd_set_ne hu0' (by omega) h0 ey
      have hsetu : rd (l.set u.toNat (rd l v + 1)) u = rd l v + 1 := rd_set_eq hu0' (by omega)
      have hge : ∀ y : Int, 0 ≤ y → 0 ≤ rd l y → 0 ≤ rd (l.set u.toNat (rd l v + 1)) y := fun y h0 h => by
        by_cases ey : y = u
        · subst ey; rw [hsetu]; omega
        · rw [hset y h0 ey]; exact h
      have hI' : LInv next m b v (j + 1) f (l.set u.toNat (rd l v + 1)) (q ++ [u]) := by
       refine ⟨by simpa using hll, fun y h0 h1 => ?_, fun y h0 h1 => ?_, fun y h0 h1 => ?_, fun y hy => ?_, fun y h0 h1 h2 => ?_, fun y h0 h1 h2 h3 h4 w hw => ?_, fun _ j' h0 h1 h2 => ?_, fun h => ?_⟩
       · by_cases ey : y = u
         · subst ey; rw [hsetu]; omega
         · rw [hset y h0 ey]; exact hI.lo y h0 h1
       · by_cases ey : y = u
         · subst ey; rw [hsetu]; omega
         · rw [hset y h0 ey]; have := hI.hi y h0 h1; omega
       · by_cases ey : y = u
         · subst ey; rw [hsetu, hum]; omega
         · rw [hset y h0 ey]; exact hI.fr y h0 h1
       · rcases List.mem_append.1 hy with hy | hy
         · obtain ⟨a1, a2, a3⟩ := hI.qr y hy; exact ⟨a1, a2, hge y a1 a3⟩
         · rw [List.mem_singleton.1 hy]; exact ⟨hu0', hun, by rw [hsetu]; omega⟩
       · by_cases ey : y = u
         · subst ey
           exact ⟨v, hv0, hv1, by rw [hsetu, hset v hv0 huv.symm]; omega, x, hxm, hu⟩
         · rw [hset y h0 ey] at h2
           obtain ⟨p, p0, p1, p2, w, hw, p3⟩ := hI.pr y h0 h1 h2
           have ep : p ≠ u := fun e => by rw [e] at p2; omega
           exact ⟨p, p0, p1, by rw [hset y h0 ey, hset p p0 ep]; exact p2, w, hw, p3⟩
       · have ey : y ≠ u := fun e => h3 (by rw [e]; simp)
         rw [hset y h0 ey] at h2
         obtain ⟨c1, c2⟩ := hI.cl y h0 h1 h2 (fun h => h3 (List.mem_append_left _ h)) h4 w hw
         exact ⟨c1, fun h => hge _ h (c2 h)⟩
       · by_cases ej : j' = j
         · subst ej
           rw [hx, hu]
           exact ⟨fun h => by omega, fun _ => by rw [hsetu]; omega⟩
         · obtain ⟨c1, c2⟩ := hI.cv hv0 j' h0 (by omega) h2
           exact ⟨c1, fun h => hge _ h (c2 h)⟩
       · obtain ⟨y, y0, y1, y2, r⟩ := hI.fo h
         exact ⟨y, y0, y1, hge y y0 y2, r⟩
      obtain ⟨K, s, hK, r1, r2⟩ := ih (j + 1) f (l.set u.toNat (rd l v + 1)) (q ++ [u]) (by omega) (by omega) hI' (by rw [hset v hv0 huv.symm]; omega) (by simp; omega)
      refine ⟨K + 1, s, ?_, r1, by rw [r2]; simp; omega⟩
      rw [levC, if_pos hlt, hx, if_pos hx0, if_pos (by omega), hu, if_neg hu0, if_pos (by omega), if_pos hlu, if_pos (by omega), if_pos (by omega), wr]
      exact hK
    · have hI' : LInv next m b v (j + 1) f l q := by
        refine ⟨hI.ll, hI.lo, hI.hi, hI.fr, hI.qr, hI.pr, hI.cl, fun _ j' h0 h1 h2 => ?_, hI.fo⟩
        by_cases ej : j' = j
        · subst ej
          rw [hx, hu]
          exact ⟨fun h => by omega, fun _ => by omega⟩
        · exact hI.cv hv0 j' h0 (by omega) h2
      obtain ⟨K, s, hK, r⟩ := ih (j + 1) f l q (by omega) (by omega) hI' hlv hq
      exact ⟨K + 1, s, by rw [levC, if_pos hlt, hx, if_pos hx0, if_pos (by omega), hu, if_neg hu0, if_pos (by omega), if_neg hlu]; exact hK, r⟩

theorem levB_spec {next : List (List Int)} {R : Nat} (hn : next.length ≤ 1000000) (hNV : NV next R) {m b : List Int} (hg : Hole next R m b (-1)) :
    ∀ (d : Nat) (f : Bool) (l q : List Int), q.length + unr next.length l ≤ d → d ≤ next.length → LInv next m b (-1) 0 f l q →
      ∃ K s, levB next b K f l q = some s ∧ LInv next m b (-1) 0 s.1 s.2 [] := by
  intro d
  induction d with
  | zero =>
    intro f l q hd hdn hI
    have : q = [] := List.length_eq_zero_iff.1 (by omega)
    subst this
    exact ⟨1, (f, l), rfl, hI⟩
  | succ d ih =>
    intro f l q hd hdn hI
    cases q with
    | nil => exact ⟨1, (f, l), rfl, hI⟩
    | cons v q =>
      obtain ⟨hv0, hv1, hlv⟩ := hI.qr v (by simp)
      simp only [List.length_cons] at hd
      obtain ⟨K1, s, hK1, hI1, he⟩ := levC_spec hn hNV hg v hv0 hv1 (rdL next v).length 0 f l q (by omega) (by omega)
        ⟨hI.ll, hI.lo, hI.hi, hI.fr, fun x hx => hI.qr x (by simp [hx]), hI.pr, fun x h0 h1 h2 h3 h4 w hw => hI.cl x h0 h1 h2 (by simp [h3, h4]) (by omega) w hw, fun _ j' h0 h1 => by omega, hI.fo⟩ hlv (by omega)
      obtain ⟨K2, t, hK2, hI2⟩ := ih s.1 s.2.1 s.2.2 (by omega) (by omega) hI1
      refine ⟨max K1 K2 + 1, t, ?_, hI2⟩
      rw [levB, if_pos hv0, if_pos hv1, at_rounds (g := fun k => levC b (rdL next v) v k 0 f l q) (fun k => levC_mono _ _ _ _ _ _ _ _) (Nat.le_max_left K1 K2) hK1]
      exact at_rounds (g := fun k => levB next b k s.1 s.2.1 s.2.2) (fun k => levB_mono _ _ _ _ _ _) (Nat.le_max_right K1 K2) hK2

theorem levF_spec {next : List (List Int)} {R : Nat} (hn : next.length ≤ 1000000) (hNV : NV next R) {m b : List Int} (hg : Hole next R m b (-1)) (l : List Int) (hl : l.length = next.length) :
    ∃ K s, levF next m b K l = some s ∧ LInv next m b (-1) 0 s.1 s.2 [] := by
  obtain ⟨K1, l1, q1, hK1, a1, a2, a3, a4, a5⟩ := levA_spec hg.lm hn next.length 0 l [] (by omega) (by omega) hl (fun x h0 h1 => by omega) (fun x hx => by cases hx) (fun x h0 h1 => by omega) rfl
  have hu : unr next.length l1 = cnt next.length (fun x => decide (0 ≤ rd m x)) := by
    refine cnt_congr _ (fun x h0 h1 => ?_)
    rw [a2 x h0 h1]
    by_cases h : rd m x < 0
    · rw [if_pos h]
      have : ¬ 0 ≤ rd m x := by omega
      simp [this]
    · rw [if_neg h]
      have : 0 ≤ rd m x := by omega
      simp [this]
  have hI0 : LInv next m b (-1) 0 false l1 q1 := by
   refine ⟨a1, fun x h0 h1 => by rw [a2 x h0 h1]; split <;> omega, fun x h0 h1 => ?_, fun x h0 h1 => by rw [a2 x h0 h1]; split <;> omega, fun x hx => ?_, fun x h0 h1 h2 => ?_, fun x h0 h1 h2 h3 => ?_, fun h => by omega, (fun h => by cases h)⟩
   · rw [a2 x h0 h1]
     split
     · have hx := a4 x h0 h1 (by assumption)
       have : 0 < q1.length := List.length_pos_of_mem hx
       omega
     · have := cnt_le (fun x => decide (0 ≤ rd m x)) next.length
       omega
   · obtain ⟨x0, x1, x2⟩ := a3 x hx
     exact ⟨x0, x1, by rw [a2 x x0 x1, if_pos x2]; omega⟩
   · rw [a2 x h0 h1] at h2
     split at h2 <;> omega
   · rw [a2 x h0 h1] at h2
     split at h2
     · exact absurd (a4 x h0 h1 (by assumption)) h3
     · omega
  obtain ⟨K2, s, hK2, hI⟩ := levB_spec hn hNV hg next.length false l1 q1 (by omega) (Nat.le_refl _) hI0
  refine ⟨max K1 K2, s, ?_, hI⟩
  unfold levF
  rw [at_rounds (g := fun k => levA m next.length k 0 l []) (fun k => levA_mono _ _ _ _ _ _) (Nat.le_max_left K1 K2) hK1]
  exact at_rounds (g := fun k => levB next b k false l1 q1) (fun k => levB_mono _ _ _ _ _ _) (Nat.le_max_right K1 K2) hK2
end Go.Proofs.Ytlleokhmgblfnaa.P

set_option linter.unusedVariables false
namespace Go.Proofs.Ytlleokhmgblfnaa.P
open Go.RowKit Go.Proofs.YtlleokhmgblfnaaW.PrintWords Go.Proofs.Ytlleokhmgblfnaa.H

def msz (n : Nat) (m : List Int) : Nat := cnt n (fun x => decide (0 ≤ rd m x))
theorem phase_spec {next : List (List Int)} {R : Nat} (hn : next.length ≤ 1000000) (hNV : NV next R) {m0 b0 l0 : List Int} :
    ∀ (e : Nat) (v : Int) (m b l : List Int), next.length ≤ v + e → 0 ≤ v → Hole next R m b (-1) → l.length = next.length →
      (∀ x : Int, 0 ≤ x → x < next.length → -1 ≤ rd l x ∧ rd l x ≤ next.length) →
      (∀ x : Int, v ≤ x → x < next.length → rd m x < 0 → rd l x = 0) →
      (∀ x : Int, 0 ≤ x → x < next.length → 0 ≤ rd m0 x → 0 ≤ rd m x) →
      ((∃ x : Int, 0 ≤ x ∧ x < next.length ∧ rd m0 x < 0 ∧ 0 ≤ rd m x) ∨ (m = m0 ∧ b = b0 ∧ Base next.length l0 l ∧ DC next b0 l0 l ∧ ∀ x : Int, 0 ≤ x → x < v → x < next.length → rd m0 x < 0 → rd l x = -1)) →
      ∃ K t, phase next K v m b l = some t ∧ Hole next R t.1 t.2.1 (-1) ∧ t.2.2.length = next.length ∧ (∀ x : Int, 0 ≤ x → x < next.length → 0 ≤ rd m0 x → 0 ≤ rd t.1 x) ∧
        ((∃ x : Int, 0 ≤ x ∧ x < next.length ∧ rd m0 x < 0 ∧ 0 ≤ rd t.1 x) ∨ (t.1 = m0 ∧ t.2.1 = b0 ∧ Base next.length l0 t.2.2 ∧ DC next b0 l0 t.2.2 ∧ ∀ x : Int, 0 ≤ x → x < next.length → rd m0 x < 0 → rd t.2.2 x = -1)) := by
  intro e
  induction e with
  | zero =>
    intro v m b l he hv hg hl hL hfr hmo hp
    refine ⟨1, (m, b, l), by rw [phase, if_neg (by omega)], hg, hl, hmo, ?_⟩
    rcases hp with hp | ⟨p1, p2, p3, p4, p5⟩
    · exact .inl hp
    · exact .inr ⟨p1, p2, p3, p4, fun x h0 h1 => p5 x h0 (by omega) h1⟩
  | succ e ih =>
    intro v m b l he hv hg hl hL hfr hmo hp
    by_cases hlt : v < next.length
    case neg => exact ih v m b l (by omega) hv hg hl hL hfr hmo hp
    by_cases hneg : rd m v < 0
    · have hl0 := hfr v (Int.le_refl _) hlt hneg
      obtain ⟨K1, q, hK1, S⟩ := ext_spec (by omega) hNV hg (next.length + 1) v l hv hlt hl hL (by omega) (by omega)
      have hLq : ∀ x : Int, 0 ≤ x → x < next.length → -1 ≤ rd q.2.2.2 x ∧ rd q.2.2.2 x ≤ next.length := fun x h0 h1 => by
        rcases S.lv x h0 h1 with h | ⟨h, _⟩
        · rw [h]; exact hL x h0 h1
        · rw [h]; omega
      have hfq : ∀ x : Int, v + 1 ≤ x → x < next.length → rd m x < 0 → rd q.2.2.2 x = 0 := fun x h0 h1 h2 => by
        have h3 := hfr x (by omega) h1 h2
        rcases S.lv x (by omega) h1 with h | ⟨h, h' | h'⟩
        · omega
        · omega
        · omega
      obtain ⟨q0, qm, qb, ql⟩ := q
      cases q0 with
      | true =>
        obtain ⟨s1, s2, s3⟩ := S.ok rfl
        have hm0v : rd m0 v < 0 := by
          by_cases h : 0 ≤ rd m0 v
          · have := hmo v hv hlt h; omega
          · omega
        have hqm : ∀ x : Int, 0 ≤ x → x < next.length → 0 ≤ rd m0 x → 0 ≤ rd qm x := fun x h0 h1 h2 => (s2 x h0 h1).2 (.inl (hmo x h0 h1 h2))
        obtain ⟨K2, t, hK2, r⟩ := ih (v + 1) qm qb ql (by omega) (by omega) (s1.neg hneg) S.ll hLq
          (fun x h0 h1 h2 => hfq x h0 h1 (by
            by_cases h : 0 ≤ rd m x
            · have := (s2 x (by omega) h1).2 (.inl h)
              have h2' : rd qm x < 0 := h2
              have this' : 0 ≤ rd qm x := this
              omega
            · omega)) hqm
          (.inl ⟨v, hv, hlt, hm0v, (s2 v hv hlt).2 (.inr rfl)⟩)
        refine ⟨max K1 K2 + 1, t, ?_, r⟩
        rw [phase, if_pos hlt, if_pos hneg, at_rounds (extG_mono_k next v 0 m b l) (Nat.le_max_left K1 K2) hK1]
        exact at_rounds (g := fun k => phase next k (v + 1) qm qb ql) (fun k => phase_mono _ _ _ _ _ _) (Nat.le_max_right K1 K2) hK2
      | false =>
        obtain ⟨s1, s2, s3⟩ := S.no rfl
        have s1' : qm = m := s1
        have s2' : qb = b := s2
        subst s1' s2'
        obtain ⟨K2, t, hK2, r⟩ := ih (v + 1) qm qb ql (by omega) (by omega) hg S.ll hLq hfq hmo
          (by
            rcases hp with hp | ⟨p1, p2, p3, p4, p5⟩
            · exact .inl hp
            · subst p1 p2
              refine .inr ⟨rfl, rfl, fun x h0 h1 => ?_, S.dc rfl l0 p3 p4, fun x h0 h1 h2 h3 => ?_⟩
              · rcases S.lv x h0 h1 with h | ⟨h, _⟩
                · rw [h]; exact p3 x h0 h1
                · exact .inr h
              · by_cases ex : x = v
                · subst ex; exact s3
                · have h4 := p5 x h0 (by omega) h2 h3
                  rcases S.lv x h0 h2 with h | ⟨h, _⟩
                  · exact h.trans h4
                  · exact h)
        refine ⟨max K1 K2 + 1, t, ?_, r⟩
        rw [phase, if_pos hlt, if_pos hneg, at_rounds (extG_mono_k next v 0 qm qb l) (Nat.le_max_left K1 K2) hK1]
        exact at_rounds (g := fun k => phase next k (v + 1) qm qb ql) (fun k => phase_mono _ _ _ _ _ _) (Nat.le_max_right K1 K2) hK2
    · obtain ⟨K, t, hK, r⟩ := ih (v + 1) m b l (by omega) (by omega) hg hl hL (fun x h0 h1 => hfr x (by omega) h1) hmo
        (by
          rcases hp with hp | ⟨p1, p2, p3, p4, p5⟩
          · exact .inl hp
          · refine .inr ⟨p1, p2, p3, p4, fun x h0 h1 h2 h3 => ?_⟩
            by_cases ex : x = v
            · subst ex; rw [p1] at hneg; exact absurd h3 hneg
            · exact p5 x h0 (by omega) h2 h3)
      exact ⟨K + 1, t, by rw [phase, if_pos hlt, if_neg hneg]; exact hK, r⟩

/-- No phase in which an augmenting path was found is in vain. -/
theorem phase_gains {next : List (List Int)} {m b l0 l : List Int} (hI : LInv next m b (-1) 0 true l0 []) (hB : Base next.length l0 l) (hD : DC next b l0 l) (hf : ∀ x : Int, 0 ≤ x → x < next.length → rd m x < 0 → rd l x = -1) : False := by
  have dead : ∀ (i : Nat) (x : Int), 0 ≤ x → x < next.length → rd l0 x = i → rd l x = -1 := by
    intro i
    induction i with
    | zero => intro x h0 h1 h2; exact hf x h0 h1 ((hI.fr x h0 h1).2 h2)
    | succ i ih =>
      intro x h0 h1 h2
      obtain ⟨p, p0, p1, p2, w, hw, p3⟩ := hI.pr x h0 h1 (by omega)
      have hp := ih p p0 p1 (by omega)
      obtain ⟨_, h⟩ := hD p p0 p1 (by omega) hp w hw
      rw [p3] at h
      exact h (by omega)
  obtain ⟨x, x0, x1, x2, w, hw, hb⟩ := hI.fo rfl
  have := hD x x0 x1 x2 (dead (rd l0 x).toNat x x0 x1 (by omega)) w hw
  omega

theorem great_spec {next : List (List Int)} {R : Nat} (hn : next.length ≤ 1000000) (hNV : NV next R) :
    ∀ (d : Nat) (m b l : List Int), Hole next R m b (-1) → l.length = next.length → next.length - msz next.length m < d →
      ∃ K r, great next K m b l = some r ∧ Hole next R r.1 r.2 (-1) ∧ ∃ l', LInv next r.1 r.2 (-1) 0 false l' [] := by
  intro d
  induction d with
  | zero => intro m b l hg hl hd; omega
  | succ d ih =>
    intro m b l hg hl hd
    obtain ⟨K1, s, hK1, hI⟩ := levF_spec hn hNV hg l hl
    obtain ⟨f, l0⟩ := s
    cases f with
    | false =>
      exact ⟨K1 + 1, (m, b), by rw [great, hK1]; rfl, hg, l0, hI⟩
    | true =>
      have hub : unr next.length l0 ≤ next.length := cnt_le _ _
      obtain ⟨K2, t, hK2, h1, h2, h3, h4⟩ := phase_spec hn hNV (m0 := m) (b0 := b) (l0 := l0) next.length 0 m b l0 (by omega) (by omega) hg hI.ll
        (fun x h0 h1 => ⟨hI.lo x h0 h1, by have := hI.hi x h0 h1; simp only at this ⊢; omega⟩) (fun x h0 h1 h2 => (hI.fr x h0 h1).1 h2) (fun x _ _ h => h)
        (.inr ⟨rfl, rfl, fun x _ _ => .inl rfl, fun x h0 h1 h2 h3 => by omega, fun x h0 h1 => by omega⟩)
      have hgain : msz next.length m < msz next.length t.1 := by
        rcases h4 with ⟨x, x0, x1, x2, x3⟩ | ⟨e1, e2, e3, e4, e5⟩
        · unfold msz
          rw [cnt_out (fun y => decide (0 ≤ rd t.1 y)) x next.length x0 x1 (by simpa using x3)]
          refine Nat.lt_succ_of_le (cnt_mono _ (fun y h0 h1 hy => ?_))
          have hy' : 0 ≤ rd m y := by simpa using hy
          have : y ≠ x := fun e => by rw [e] at hy'; omega
          simp [h3 y h0 h1 hy', this]
        · exact absurd (phase_gains hI e3 e4 e5) (by simp)
      have hle : msz next.length t.1 ≤ next.length := cnt_le _ _
      obtain ⟨K3, r, hK3, hr⟩ := ih t.1 t.2.1 t.2.2 h1 h2 (by omega)
      refine ⟨max K1 (max K2 K3) + 1, r, ?_, hr⟩
      rw [great, at_rounds (g := fun k => levF next m b k l) (fun k => levF_mono _ _ _ _ _) (Nat.le_max_left K1 _) hK1]
      simp only [Option.bind_some, if_true]
      rw [at_rounds (g := fun k => phase next k 0 m b l0) (fun k => phase_mono _ _ _ _ _ _) (Nat.le_trans (Nat.le_max_left K2 K3) (Nat.le_max_right K1 _)) hK2]
      exact at_rounds (g := fun k => great next k t.1 t.2.1 t.2.2) (fun k => great_mono _ _ _ _ _) (Nat.le_trans (Nat.le_max_right K2 K3) (Nat.le_max_right K1 _)) hK3

theorem rd_nones (n : Nat) (x : Int) (h0 : 0 ≤ x) (h1 : x < n) : rd (nones n) x = -1 := by
  unfold rd nones
  rw [List.getD_eq_getElem?_getD, List.getElem?_replicate, if_pos (by omega)]
  rfl
/-- What Greatest returns. -/
theorem greatF_spec {next : List (List Int)} {R : Nat} (hn : next.length ≤ 1000000) (hR : R ≤ 1000000) (hNV : NV next R) :
    ∃ K m b, greatF K next R = some (m, b) ∧ Hole next R m b (-1) ∧ ∃ l, LInv next m b (-1) 0 false l [] := by
  have hg : Hole next R (nones next.length) (nones R) (-1) :=
    ⟨by simp [nones], by simp [nones], fun v h0 h1 h2 => by rw [rd_nones _ _ h0 h1] at h2; omega, fun w h0 h1 _ h2 => by rw [rd_nones _ _ h0 h1] at h2; omega⟩
  obtain ⟨K, r, hK, h⟩ := great_spec hn hNV (next.length + 1) (nones next.length) (nones R) (List.replicate next.length 0) hg (by simp) (by omega)
  refine ⟨K, r.1, r.2, ?_, h⟩
  unfold greatF
  rw [if_pos (by omega), if_pos (by omega), if_pos (by omega)]
  exact hK
end Go.Proofs.Ytlleokhmgblfnaa.P
