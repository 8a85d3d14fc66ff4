/- The law MatchMatches: whatever the input, it returns true and the input reads as it did. No conditions. -/
import Derived.Test.YtlleokhmgblfnaaBMatches5
set_option linter.unusedVariables false
set_option linter.unusedSimpArgs false
set_option linter.unusedSectionVars false
section
namespace Go.Proofs.Ytlleokhmgblfnaa.P
open Go.RowKit Go.Proofs.YtlleokhmgblfnaaW.PrintWords Go.Proofs.Ytlleokhmgblfnaa.H
theorem levA_spec {m : List Int} {n : Nat} (hm : m.length = n) (hn : n ≤ 1000000) : ∀ (d : Nat) (i : Int) (l q : List Int), (n : Int) = i + d → 0 ≤ i → l.length = n →
    (∀ x : Int, 0 ≤ x → x < i → rd l x = if rd m x < 0 then 0 else -1) → (∀ x ∈ q, 0 ≤ x ∧ x < i ∧ rd m x < 0) → (∀ x : Int, 0 ≤ x → x < i → rd m x < 0 → x ∈ q) → (q.length + cnt i.toNat (fun x => decide (0 ≤ rd m x)) = i.toNat) →
    ∃ K l' q', levA m n K i l q = some (l', q') ∧ l'.length = n ∧ (∀ x : Int, 0 ≤ x → x < n → rd l' x = if rd m x < 0 then 0 else -1) ∧ (∀ x ∈ q', 0 ≤ x ∧ x < n ∧ rd m x < 0) ∧ (∀ x : Int, 0 ≤ x → x < n → rd m x < 0 → x ∈ q') ∧ q'.length + cnt n (fun x => decide (0 ≤ rd m x)) = n := by
  intro d
  induction d with
  | zero =>
    intro i l q hd hi hl h1 h2 h3 h4
    have e : i = n := by omega
    subst e
    exact ⟨1, l, q, by rw [levA, if_neg (by omega)], hl, h1, h2, h3, by simpa using h4⟩
  | succ d ih =>
    intro i l q hd hi hl h1 h2 h3 h4
    have ei : (i + 1).toNat = i.toNat + 1 := by omega
    have ec : ((i.toNat : Nat) : Int) = i := by omega
    have cs : cnt (i + 1).toNat (fun x => decide (0 ≤ rd m x)) = cnt i.toNat (fun x => decide (0 ≤ rd m x)) + if decide (0 ≤ rd m i) = true then 1 else 0 := by
      rw [ei, cnt_succ, ec]
    by_cases hneg : rd m i < 0
    · have hq : q.length < 17592186044416 := by have := cnt_le (fun x => decide (0 ≤ rd m x)) i.toNat; omega
      obtain ⟨K, l', q', hK, r⟩ := ih (i + 1) ((l.set i.toNat (-1)).set i.toNat 0) (q ++ [i]) (by omega) (by omega) (by simpa using hl) (fun x h0 hx => by
          by_cases e : x = i
          · subst e
            rw [rd_set_eq h0 (by simp; omega), if_pos hneg]
          · rw [rd_set_ne hi (by simp; omega) h0 e, rd_set_ne hi (by omega) h0 e]
            exact h1 x h0 (by omega)) (fun x hx => by
          rcases List.mem_append.1 hx with hx | hx
          · have := h2 x hx; exact ⟨this.1, by omega, this.2.2⟩
          · rw [List.mem_singleton.1 hx]; exact ⟨hi, by omega, hneg⟩) (fun x h0 hx hm => by
          by_cases e : x = i
          · subst e; simp
          · exact List.mem_append_left _ (h3 x h0 (by omega) hm)) (by
          rw [cs, if_neg (by simp; omega)]
          simp
          omega)
      exact ⟨K + 1, l', q', by rw [levA, if_pos (by omega), if_pos (by omega), if_pos (by omega), if_pos hneg, if_pos hq]; exact hK, r⟩
    · obtain ⟨K, l', q', hK, r⟩ := ih (i + 1) (l.set i.toNat (-1)) q (by omega) (by omega) (by simpa using hl) (fun x h0 hx => by
          by_cases e : x = i
          · subst e
            rw [rd_set_eq h0 (by omega), if_neg hneg]
          · rw [rd_set_ne hi (by omega) h0 e]
            exact h1 x h0 (by omega)) (fun x hx => by have := h2 x hx; exact ⟨this.1, by omega, this.2.2⟩) (fun x h0 hx hm => by
          by_cases e : x = i
          · subst e; exact absurd hm hneg
          · exact h3 x h0 (by omega) hm) (by
          rw [cs, if_pos (by simp; omega)]
          omega)
      exact ⟨K + 1, l', q', by rw [levA, if_pos (by omega), if_pos (by omega), if_pos (by omega), if_neg hneg]; exact hK, r⟩
def unr (n : Nat) (l : List Int) : Nat := cnt n (fun x => decide (rd l x < 0))
structure LInv (next : List (List Int)) (m b : List Int) (v j : Int) (f : Bool) (l q : List Int) : Prop where
  ll : l.length = next.length
  lo : ∀ x : Int, 0 ≤ x → x < next.length → -1 ≤ rd l x
  hi : ∀ x : Int, 0 ≤ x → x < next.length → rd l x + unr next.length l < next.length
  fr : ∀ x : Int, 0 ≤ x → x < next.length → (rd m x < 0 ↔ rd l x = 0)
  qr : ∀ x ∈ q, 0 ≤ x ∧ x < next.length ∧ 0 ≤ rd l x
  pr : ∀ x : Int, 0 ≤ x → x < next.length → 0 < rd l x → ∃ p : Int, 0 ≤ p ∧ p < next.length ∧ rd l p = rd l x - 1 ∧ ∃ w ∈ rdL next p, rd b w = x
  cl : ∀ x : Int, 0 ≤ x → x < next.length → 0 ≤ rd l x → x ∉ q → x ≠ v → ∀ w ∈ rdL next x, (rd b w < 0 → f = true) ∧ (0 ≤ rd b w → 0 ≤ rd l (rd b w))
  cv : 0 ≤ v → ∀ j' : Int, 0 ≤ j' → j' < j → j' < (rdL next v).length → (rd b (rd (rdL next v) j') < 0 → f = true) ∧ (0 ≤ rd b (rd (rdL next v) j') → 0 ≤ rd l (rd b (rd (rdL next v) j')))
  fo : f = true → ∃ x : Int, 0 ≤ x ∧ x < next.length ∧ 0 ≤ rd l x ∧ ∃ w ∈ rdL next x, rd b w < 0
theorem levC_spec {next : List (List Int)} {R : Nat} (hn : next.length ≤ 1000000) (hNV : NV next R) {m b : List Int} (hg : Hole next R m b (-1)) (v : Int) (hv0 : 0 ≤ v) (hv1 : v < next.length) :
    ∀ (e : Nat) (j : Int) (f : Bool) (l q : List Int), (rdL next v).length ≤ j + e → 0 ≤ j → LInv next m b v j f l q → 0 ≤ rd l v → q.length + unr next.length l ≤ next.length →
      ∃ K s, levC b (rdL next v) v K j f l q = some s ∧ LInv next m b (-1) 0 s.1 s.2.1 s.2.2 ∧ s.2.2.length + unr next.length s.2.1 = q.length + unr next.length l := by
  intro e
  induction e with
  | zero =>
    intro j f l q he hj hI hlv hq
    refine ⟨1, (f, l, q), by rw [levC, if_neg (by omega)], ⟨hI.ll, hI.lo, hI.hi, hI.fr, hI.qr, hI.pr, fun x h0 h1 h2 h3 _ w hw => ?_, fun h => by omega, hI.fo⟩, rfl⟩
    by_cases ex : x = v
    · subst ex
      obtain ⟨i, i0, i1, rfl⟩ := mem_rd hw
      exact hI.cv h0 i i0 (by omega) i1
    · exact hI.cl x h0 h1 h2 h3 ex w hw
  | succ e ih =>
    intro j f l q he hj hI hlv hq
    by_cases hlt : j < (rdL next v).length
    case neg => exact ih j f l q (by omega) hj hI hlv hq
    obtain ⟨x, hx⟩ : ∃ x, rd (rdL next v) j = x := ⟨_, rfl⟩
    have hxm : x ∈ rdL next v := hx ▸ rd_mem hj hlt
    obtain ⟨hx0, hx1⟩ := hNV v hv0 hv1 x hxm
    obtain ⟨u, hu⟩ : ∃ u, rd b x = u := ⟨_, rfl⟩
    have hlb := hg.lb
    have hll := hI.ll
    by_cases hu0 : u < 0
    · have hI' : LInv next m b v (j + 1) true l q := by
        refine ⟨hI.ll, hI.lo, hI.hi, hI.fr, hI.qr, hI.pr, fun y h0 h1 h2 h3 h4 w hw => ⟨fun _ => rfl, (hI.cl y h0 h1 h2 h3 h4 w hw).2⟩, fun _ j' h0 h1 h2 => ⟨fun _ => rfl, fun h3 => ?_⟩, fun _ => ⟨v, hv0, hv1, hlv, x, hxm, by omega⟩⟩
        by_cases ej : j' = j
        · subst ej; rw [hx, hu] at h3; omega
        · exact (hI.cv hv0 j' h0 (by omega) h2).2 h3
      obtain ⟨K, s, hK, r⟩ := ih (j + 1) true l q (by omega) (by omega) hI' hlv hq
      exact ⟨K + 1, s, by rw [levC, if_pos hlt, hx, if_pos hx0, if_pos (by omega), hu, if_pos hu0]; exact hK, r⟩
    have hu0' : 0 ≤ u := by omega
    obtain ⟨hun, hum⟩ := hg.bb x hx0 hx1 (by omega) (by omega)
    rw [hu] at hun hum
    by_cases hlu : rd l u < 0
    · have hlu1 : rd l u = -1 := by have := hI.lo u hu0' hun; omega
      have huv : u ≠ v := fun e => by rw [e] at hlu; omega
      have hvb := hI.hi v hv0 hv1
      have hub : unr next.length l ≤ next.length := cnt_le _ _
      have wr : wrap64 (rd l v + 1) = rd l v + 1 := by unfold wrap64; omega
      have hun2 : unr next.length (l.set u.toNat (rd l v + 1)) + 1 = unr next.length l := by
        unfold unr
        rw [cnt_out (fun x => decide (rd l x < 0)) u next.length hu0' hun (by simpa using hlu)]
        congr 1
        refine cnt_congr _ (fun y h0 h1 => ?_)
        by_cases ey : y = u
        · subst ey
          rw [rd_set_eq h0 (by omega)]
          have : ¬ rd l v + 1 < 0 := by omega
          simp [this]
        · rw [rd_set_ne hu0' (by omega) h0 ey]
          have : (y != u) = true := by simpa using ey
          rw [this, Bool.and_true]
      have hset : ∀ y : Int, 0 ≤ y → y ≠ u → rd (l.set u.toNat (rd l v + 1)) y = rd l y := fun y h0 ey => rd_set_ne hu0' (by omega) h0 ey
      have hsetu : rd (l.set u.toNat (rd l v + 1)) u = rd l v + 1 := rd_set_eq hu0' (by omega)
      have hge : ∀ y : Int, 0 ≤ y → 0 ≤ rd l y → 0 ≤ rd (l.set u.toNat (rd l v + 1)) y := fun y h0 h => by
        by_cases ey : y = u
        · subst ey; rw [hsetu]; omega
        · rw [hset y h0 ey]; exact h
      have hI' : LInv next m b v (j + 1) f (l.set u.toNat (rd l v + 1)) (q ++ [u]) := by
       refine ⟨by simpa using hll, fun y h0 h1 => ?_, fun y h0 h1 => ?_, fun y h0 h1 => ?_, fun y hy => ?_, fun y h0 h1 h2 => ?_, fun y h0 h1 h2 h3 h4 w hw => ?_, fun _ j' h0 h1 h2 => ?_, fun h => ?_⟩
       · by_cases ey : y = u
         · subst ey; rw [hsetu]; omega
         · rw [hset y h0 ey]; exact hI.lo y h0 h1
       · by_cases ey : y = u
         · subst ey; rw [hsetu]; omega
         · rw [hset y h0 ey]; have := hI.hi y h0 h1; omega
       · by_cases ey : y = u
         · subst ey; rw [hsetu, hum]; omega
         · rw [hset y h0 ey]; exact hI.fr y h0 h1
       · rcases List.mem_append.1 hy with hy | hy
         · obtain ⟨a1, a2, a3⟩ := hI.qr y hy; exact ⟨a1, a2, hge y a1 a3⟩
         · rw [List.mem_singleton.1 hy]; exact ⟨hu0', hun, by rw [hsetu]; omega⟩
       · by_cases ey : y = u
         · subst ey
           exact ⟨v, hv0, hv1, by rw [hsetu, hset v hv0 huv.symm]; omega, x, hxm, hu⟩
         · rw [hset y h0 ey] at h2
           obtain ⟨p, p0, p1, p2, w, hw, p3⟩ := hI.pr y h0 h1 h2
           have ep : p ≠ u := fun e => by rw [e] at p2; omega
           exact ⟨p, p0, p1, by rw [hset y h0 ey, hset p p0 ep]; exact p2, w, hw, p3⟩
       · have ey : y ≠ u := fun e => h3 (by rw [e]; simp)
         rw [hset y h0 ey] at h2
         obtain ⟨c1, c2⟩ := hI.cl y h0 h1 h2 (fun h => h3 (List.mem_append_left _ h)) h4 w hw
         exact ⟨c1, fun h => hge _ h (c2 h)⟩
       · by_cases ej : j' = j
         · subst ej
           rw [hx, hu]
           exact ⟨fun h => by omega, fun _ => by rw [hsetu]; omega⟩
         · obtain ⟨c1, c2⟩ := hI.cv hv0 j' h0 (by omega) h2
           exact ⟨c1, fun h => hge _ h (c2 h)⟩
       · obtain ⟨y, y0, y1, y2, r⟩ := hI.fo h
         exact ⟨y, y0, y1, hge y y0 y2, r⟩
      obtain ⟨K, s, hK, r1, r2⟩ := ih (j + 1) f (l.set u.toNat (rd l v + 1)) (q ++ [u]) (by omega) (by omega) hI' (by rw [hset v hv0 huv.symm]; omega) (by simp; omega)
      refine ⟨K + 1, s, ?_, r1, by rw [r2]; simp; omega⟩
      rw [levC, if_pos hlt, hx, if_pos hx0, if_pos (by omega), hu, if_neg hu0, if_pos (by omega), if_pos hlu, if_pos (by omega), if_pos (by omega), wr]
      exact hK
    · have hI' : LInv next m b v (j + 1) f l q := by
        refine ⟨hI.ll, hI.lo, hI.hi, hI.fr, hI.qr, hI.pr, hI.cl, fun _ j' h0 h1 h2 => ?_, hI.fo⟩
        by_cases ej : j' = j
        · subst ej
          rw [hx, hu]
          exact ⟨fun h => by omega, fun _ => by omega⟩
        · exact hI.cv hv0 j' h0 (by omega) h2
      obtain ⟨K, s, hK, r⟩ := ih (j + 1) f l q (by omega) (by omega) hI' hlv hq
      exact ⟨K + 1, s, by rw [levC, if_pos hlt, hx, if_pos hx0, if_pos (by omega), hu, if_neg hu0, if_pos (by omega), if_neg hlu]; exact hK, r⟩
theorem levB_spec {next : List (List Int)} {R : Nat} (hn : next.length ≤ 1000000) (hNV : NV next R) {m b : List Int} (hg : Hole next R m b (-1)) :
    ∀ (d : Nat) (f : Bool) (l q : List Int), q.length + unr next.length l ≤ d → d ≤ next.length → LInv next m b (-1) 0 f l q →
      ∃ K s, levB next b K f l q = some s ∧ LInv next m b (-1) 0 s.1 s.2 [] := by
  intro d
  induction d with
  | zero =>
    intro f l q hd hdn hI
    have : q = [] := List.length_eq_zero_iff.1 (by omega)
    subst this
    exact ⟨1, (f, l), rfl, hI⟩
  | succ d ih =>
    intro f l q hd hdn hI
    cases q with
    | nil => exact ⟨1, (f, l), rfl, hI⟩
    | cons v q =>
      obtain ⟨hv0, hv1, hlv⟩ := hI.qr v (by simp)
      simp only [List.length_cons] at hd
      obtain ⟨K1, s, hK1, hI1, he⟩ := levC_spec hn hNV hg v hv0 hv1 (rdL next v).length 0 f l q (by omega) (by omega)
        ⟨hI.ll, hI.lo, hI.hi, hI.fr, fun x hx => hI.qr x (by simp [hx]), hI.pr, fun x h0 h1 h2 h3 h4 w hw => hI.cl x h0 h1 h2 (by simp [h3, h4]) (by omega) w hw, fun _ j' h0 h1 => by omega, hI.fo⟩ hlv (by omega)
      obtain ⟨K2, t, hK2, hI2⟩ := ih s.1 s.2.1 s.2.2 (by omega) (by omega) hI1
      refine ⟨max K1 K2 + 1, t, ?_, hI2⟩
      rw [levB, if_pos hv0, if_pos hv1, at_rounds (g := fun k => levC b (rdL next v) v k 0 f l q) (fun k => levC_mono _ _ _ _ _ _ _ _) (Nat.le_max_left K1 K2) hK1]
      exact at_rounds (g := fun k => levB next b k s.1 s.2.1 s.2.2) (fun k => levB_mono _ _ _ _ _ _) (Nat.le_max_right K1 K2) hK2
theorem levF_spec {next : List (List Int)} {R : Nat} (hn : next.length ≤ 1000000) (hNV : NV next R) {m b : List Int} (hg : Hole next R m b (-1)) (l : List Int) (hl : l.length = next.length) :
    ∃ K s, levF next m b K l = some s ∧ LInv next m b (-1) 0 s.1 s.2 [] := by
  obtain ⟨K1, l1, q1, hK1, a1, a2, a3, a4, a5⟩ := levA_spec hg.lm hn next.length 0 l [] (by omega) (by omega) hl (fun x h0 h1 => by omega) (fun x hx => by cases hx) (fun x h0 h1 => by omega) rfl
  have hu : unr next.length l1 = cnt next.length (fun x => decide (0 ≤ rd m x)) := by
    refine cnt_congr _ (fun x h0 h1 => ?_)
    rw [a2 x h0 h1]
    by_cases h : rd m x < 0
    · rw [if_pos h]
      have : ¬ 0 ≤ rd m x := by omega
      simp [this]
    · rw [if_neg h]
      have : 0 ≤ rd m x := by omega
      simp [this]
  have hI0 : LInv next m b (-1) 0 false l1 q1 := by
   refine ⟨a1, fun x h0 h1 => by rw [a2 x h0 h1]; split <;> omega, fun x h0 h1 => ?_, fun x h0 h1 => by rw [a2 x h0 h1]; split <;> omega, fun x hx => ?_, fun x h0 h1 h2 => ?_, fun x h0 h1 h2 h3 => ?_, fun h => by omega, (fun h => by cases h)⟩
   · rw [a2 x h0 h1]
     split
     · have hx := a4 x h0 h1 (by assumption)
       have : 0 < q1.length := List.length_pos_of_mem hx
       omega
     · have := cnt_le (fun x => decide (0 ≤ rd m x)) next.length
       omega
   · obtain ⟨x0, x1, x2⟩ := a3 x hx
     exact ⟨x0, x1, by rw [a2 x x0 x1, if_pos x2]; omega⟩
   · rw [a2 x h0 h1] at h2
     split at h2 <;> omega
   · rw [a2 x h0 h1] at h2
     split at h2
     · exact absurd (a4 x h0 h1 (by assumption)) h3
     · omega
  obtain ⟨K2, s, hK2, hI⟩ := levB_spec hn hNV hg next.length false l1 q1 (by omega) (Nat.le_refl _) hI0
  refine ⟨max K1 K2, s, ?_, hI⟩
  unfold levF
  rw [at_rounds (g := fun k => levA m next.length k 0 l []) (fun k => levA_mono _ _ _ _ _ _) (Nat.le_max_left K1 K2) hK1]
  exact at_rounds (g := fun k => levB next b k false l1 q1) (fun k => levB_mono _ _ _ _ _ _) (Nat.le_max_right K1 K2) hK2
end Go.Proofs.Ytlleokhmgblfnaa.P
namespace Go.Proofs.Ytlleokhmgblfnaa.P
open Go.RowKit Go.Proofs.YtlleokhmgblfnaaW.PrintWords Go.Proofs.Ytlleokhmgblfnaa.H
def msz (n : Nat) (m : List Int) : Nat := cnt n (fun x => decide (0 ≤ rd m x))
theorem phase_spec {next : List (List Int)} {R : Nat} (hn : next.length ≤ 1000000) (hNV : NV next R) {m0 b0 l0 : List Int} :
    ∀ (e : Nat) (v : Int) (m b l : List Int), next.length ≤ v + e → 0 ≤ v → Hole next R m b (-1) → l.length = next.length →
      (∀ x : Int, 0 ≤ x → x < next.length → -1 ≤ rd l x ∧ rd l x ≤ next.length) →
      (∀ x : Int, v ≤ x → x < next.length → rd m x < 0 → rd l x = 0) →
      (∀ x : Int, 0 ≤ x → x < next.length → 0 ≤ rd m0 x → 0 ≤ rd m x) →
      ((∃ x : Int, 0 ≤ x ∧ x < next.length ∧ rd m0 x < 0 ∧ 0 ≤ rd m x) ∨ (m = m0 ∧ b = b0 ∧ Base next.length l0 l ∧ DC next b0 l0 l ∧ ∀ x : Int, 0 ≤ x → x < v → x < next.length → rd m0 x < 0 → rd l x = -1)) →
      ∃ K t, phase next K v m b l = some t ∧ Hole next R t.1 t.2.1 (-1) ∧ t.2.2.length = next.length ∧ (∀ x : Int, 0 ≤ x → x < next.length → 0 ≤ rd m0 x → 0 ≤ rd t.1 x) ∧
        ((∃ x : Int, 0 ≤ x ∧ x < next.length ∧ rd m0 x < 0 ∧ 0 ≤ rd t.1 x) ∨ (t.1 = m0 ∧ t.2.1 = b0 ∧ Base next.length l0 t.2.2 ∧ DC next b0 l0 t.2.2 ∧ ∀ x : Int, 0 ≤ x → x < next.length → rd m0 x < 0 → rd t.2.2 x = -1)) := by
  intro e
  induction e with
  | zero =>
    intro v m b l he hv hg hl hL hfr hmo hp
    refine ⟨1, (m, b, l), by rw [phase, if_neg (by omega)], hg, hl, hmo, ?_⟩
    rcases hp with hp | ⟨p1, p2, p3, p4, p5⟩
    · exact .inl hp
    · exact .inr ⟨p1, p2, p3, p4, fun x h0 h1 => p5 x h0 (by omega) h1⟩
  | succ e ih =>
    intro v m b l he hv hg hl hL hfr hmo hp
    by_cases hlt : v < next.length
    case neg => exact ih v m b l (by omega) hv hg hl hL hfr hmo hp
    by_cases hneg : rd m v < 0
    · have hl0 := hfr v (Int.le_refl _) hlt hneg
      obtain ⟨K1, q, hK1, S⟩ := ext_spec (by omega) hNV hg (next.length + 1) v l hv hlt hl hL (by omega) (by omega)
      have hLq : ∀ x : Int, 0 ≤ x → x < next.length → -1 ≤ rd q.2.2.2 x ∧ rd q.2.2.2 x ≤ next.length := fun x h0 h1 => by
        rcases S.lv x h0 h1 with h | ⟨h, _⟩
        · rw [h]; exact hL x h0 h1
        · rw [h]; omega
      have hfq : ∀ x : Int, v + 1 ≤ x → x < next.length → rd m x < 0 → rd q.2.2.2 x = 0 := fun x h0 h1 h2 => by
        have h3 := hfr x (by omega) h1 h2
        rcases S.lv x (by omega) h1 with h | ⟨h, h' | h'⟩
        · omega
        · omega
        · omega
      obtain ⟨q0, qm, qb, ql⟩ := q
      cases q0 with
      | true =>
        obtain ⟨s1, s2, s3⟩ := S.ok rfl
        have hm0v : rd m0 v < 0 := by
          by_cases h : 0 ≤ rd m0 v
          · have := hmo v hv hlt h; omega
          · omega
        have hqm : ∀ x : Int, 0 ≤ x → x < next.length → 0 ≤ rd m0 x → 0 ≤ rd qm x := fun x h0 h1 h2 => (s2 x h0 h1).2 (.inl (hmo x h0 h1 h2))
        obtain ⟨K2, t, hK2, r⟩ := ih (v + 1) qm qb ql (by omega) (by omega) (s1.neg hneg) S.ll hLq
          (fun x h0 h1 h2 => hfq x h0 h1 (by
            by_cases h : 0 ≤ rd m x
            · have := (s2 x (by omega) h1).2 (.inl h)
              have h2' : rd qm x < 0 := h2
              have this' : 0 ≤ rd qm x := this
              omega
            · omega)) hqm
          (.inl ⟨v, hv, hlt, hm0v, (s2 v hv hlt).2 (.inr rfl)⟩)
        refine ⟨max K1 K2 + 1, t, ?_, r⟩
        rw [phase, if_pos hlt, if_pos hneg, at_rounds (extG_mono_k next v 0 m b l) (Nat.le_max_left K1 K2) hK1]
        exact at_rounds (g := fun k => phase next k (v + 1) qm qb ql) (fun k => phase_mono _ _ _ _ _ _) (Nat.le_max_right K1 K2) hK2
      | false =>
        obtain ⟨s1, s2, s3⟩ := S.no rfl
        have s1' : qm = m := s1
        have s2' : qb = b := s2
        subst s1' s2'
        obtain ⟨K2, t, hK2, r⟩ := ih (v + 1) qm qb ql (by omega) (by omega) hg S.ll hLq hfq hmo
          (by
            rcases hp with hp | ⟨p1, p2, p3, p4, p5⟩
            · exact .inl hp
            · subst p1 p2
              refine .inr ⟨rfl, rfl, fun x h0 h1 => ?_, S.dc rfl l0 p3 p4, fun x h0 h1 h2 h3 => ?_⟩
              · rcases S.lv x h0 h1 with h | ⟨h, _⟩
                · rw [h]; exact p3 x h0 h1
                · exact .inr h
              · by_cases ex : x = v
                · subst ex; exact s3
                · have h4 := p5 x h0 (by omega) h2 h3
                  rcases S.lv x h0 h2 with h | ⟨h, _⟩
                  · exact h.trans h4
                  · exact h)
        refine ⟨max K1 K2 + 1, t, ?_, r⟩
        rw [phase, if_pos hlt, if_pos hneg, at_rounds (extG_mono_k next v 0 qm qb l) (Nat.le_max_left K1 K2) hK1]
        exact at_rounds (g := fun k => phase next k (v + 1) qm qb ql) (fun k => phase_mono _ _ _ _ _ _) (Nat.le_max_right K1 K2) hK2
    · obtain ⟨K, t, hK, r⟩ := ih (v + 1) m b l (by omega) (by omega) hg hl hL (fun x h0 h1 => hfr x (by omega) h1) hmo
        (by
          rcases hp with hp | ⟨p1, p2, p3, p4, p5⟩
          · exact .inl hp
          · refine .inr ⟨p1, p2, p3, p4, fun x h0 h1 h2 h3 => ?_⟩
            by_cases ex : x = v
            · subst ex; rw [p1] at hneg; exact absurd h3 hneg
            · exact p5 x h0 (by omega) h2 h3)
      exact ⟨K + 1, t, by rw [phase, if_pos hlt, if_neg hneg]; exact hK, r⟩
theorem phase_gains {next : List (List Int)} {m b l0 l : List Int} (hI : LInv next m b (-1) 0 true l0 []) (hB : Base next.length l0 l) (hD : DC next b l0 l) (hf : ∀ x : Int, 0 ≤ x → x < next.length → rd m x < 0 → rd l x = -1) : False := by
  have dead : ∀ (i : Nat) (x : Int), 0 ≤ x → x < next.length → rd l0 x = i → rd l x = -1 := by
    intro i
    induction i with
    | zero => intro x h0 h1 h2; exact hf x h0 h1 ((hI.fr x h0 h1).2 h2)
    | succ i ih =>
      intro x h0 h1 h2
      obtain ⟨p, p0, p1, p2, w, hw, p3⟩ := hI.pr x h0 h1 (by omega)
      have hp := ih p p0 p1 (by omega)
      obtain ⟨_, h⟩ := hD p p0 p1 (by omega) hp w hw
      rw [p3] at h
      exact h (by omega)
  obtain ⟨x, x0, x1, x2, w, hw, hb⟩ := hI.fo rfl
  have := hD x x0 x1 x2 (dead (rd l0 x).toNat x x0 x1 (by omega)) w hw
  omega
theorem great_spec {next : List (List Int)} {R : Nat} (hn : next.length ≤ 1000000) (hNV : NV next R) :
    ∀ (d : Nat) (m b l : List Int), Hole next R m b (-1) → l.length = next.length → next.length - msz next.length m < d →
      ∃ K r, great next K m b l = some r ∧ Hole next R r.1 r.2 (-1) ∧ ∃ l', LInv next r.1 r.2 (-1) 0 false l' [] := by
  intro d
  induction d with
  | zero => intro m b l hg hl hd; omega
  | succ d ih =>
    intro m b l hg hl hd
    obtain ⟨K1, s, hK1, hI⟩ := levF_spec hn hNV hg l hl
    obtain ⟨f, l0⟩ := s
    cases f with
    | false =>
      exact ⟨K1 + 1, (m, b), by rw [great, hK1]; rfl, hg, l0, hI⟩
    | true =>
      have hub : unr next.length l0 ≤ next.length := cnt_le _ _
      obtain ⟨K2, t, hK2, h1, h2, h3, h4⟩ := phase_spec hn hNV (m0 := m) (b0 := b) (l0 := l0) next.length 0 m b l0 (by omega) (by omega) hg hI.ll
        (fun x h0 h1 => ⟨hI.lo x h0 h1, by have := hI.hi x h0 h1; simp only at this ⊢; omega⟩) (fun x h0 h1 h2 => (hI.fr x h0 h1).1 h2) (fun x _ _ h => h)
        (.inr ⟨rfl, rfl, fun x _ _ => .inl rfl, fun x h0 h1 h2 h3 => by omega, fun x h0 h1 => by omega⟩)
      have hgain : msz next.length m < msz next.length t.1 := by
        rcases h4 with ⟨x, x0, x1, x2, x3⟩ | ⟨e1, e2, e3, e4, e5⟩
        · unfold msz
          rw [cnt_out (fun y => decide (0 ≤ rd t.1 y)) x next.length x0 x1 (by simpa using x3)]
          refine Nat.lt_succ_of_le (cnt_mono _ (fun y h0 h1 hy => ?_))
          have hy' : 0 ≤ rd m y := by simpa using hy
          have : y ≠ x := fun e => by rw [e] at hy'; omega
          simp [h3 y h0 h1 hy', this]
        · exact absurd (phase_gains hI e3 e4 e5) (by simp)
      have hle : msz next.length t.1 ≤ next.length := cnt_le _ _
      obtain ⟨K3, r, hK3, hr⟩ := ih t.1 t.2.1 t.2.2 h1 h2 (by omega)
      refine ⟨max K1 (max K2 K3) + 1, r, ?_, hr⟩
      rw [great, at_rounds (g := fun k => levF next m b k l) (fun k => levF_mono _ _ _ _ _) (Nat.le_max_left K1 _) hK1]
      simp only [Option.bind_some, if_true]
      rw [at_rounds (g := fun k => phase next k 0 m b l0) (fun k => phase_mono _ _ _ _ _ _) (Nat.le_trans (Nat.le_max_left K2 K3) (Nat.le_max_right K1 _)) hK2]
      exact at_rounds (g := fun k => great next k t.1 t.2.1 t.2.2) (fun k => great_mono _ _ _ _ _) (Nat.le_trans (Nat.le_max_right K2 K3) (Nat.le_max_right K1 _)) hK3
theorem rd_nones (n : Nat) (x : Int) (h0 : 0 ≤ x) (h1 : x < n) : rd (nones n) x = -1 := by
  unfold rd nones
  rw [List.getD_eq_getElem?_getD, List.getElem?_replicate, if_pos (by omega)]
  rfl
theorem greatF_spec {next : List (List Int)} {R : Nat} (hn : next.length ≤ 1000000) (hR : R ≤ 1000000) (hNV : NV next R) :
    ∃ K m b, greatF K next R = some (m, b) ∧ Hole next R m b (-1) ∧ ∃ l, LInv next m b (-1) 0 false l [] := by
  have hg : Hole next R (nones next.length) (nones R) (-1) :=
    ⟨by simp [nones], by simp [nones], fun v h0 h1 h2 => by rw [rd_nones _ _ h0 h1] at h2; omega, fun w h0 h1 _ h2 => by rw [rd_nones _ _ h0 h1] at h2; omega⟩
  obtain ⟨K, r, hK, h⟩ := great_spec hn hNV (next.length + 1) (nones next.length) (nones R) (List.replicate next.length 0) hg (by simp) (by omega)
  refine ⟨K, r.1, r.2, ?_, h⟩
  unfold greatF
  rw [if_pos (by omega), if_pos (by omega), if_pos (by omega)]
  exact hK
end Go.Proofs.Ytlleokhmgblfnaa.P
end

section
namespace Go.Proofs.Ytlleokhmgblfnaa.P
open Go.RowKit Go.Proofs.YtlleokhmgblfnaaW.PrintWords Go.Proofs.Ytlleokhmgblfnaa.H Go.Proofs.Ytlleokhmgblfnaa.M
theorem w64 {x : Int} (h0 : -9223372036854775808 ≤ x) (h1 : x ≤ 9223372036854775807) : wrap64 x = x := by unfold wrap64; omega
theorem fuel {k d : Nat} (h : d < k) : ∃ k', k = k' + 1 := ⟨k - 1, by omega⟩
theorem getD_set {α : Type} (d : α) (xs : List α) (i j : Int) (y : α) (h0 : 0 ≤ i) (h1 : i < xs.length) (hj : 0 ≤ j) : (xs.set i.toNat y).getD j.toNat d = if j = i then y else xs.getD j.toNat d := by
  rw [List.getD_eq_getElem?_getD, List.getD_eq_getElem?_getD, List.getElem?_set]
  by_cases e : j = i
  · subst e
    rw [if_pos rfl, if_pos rfl, if_pos (by omega)]
    rfl
  · rw [if_neg (by omega), if_neg e]
theorem getD_rep {α : Type} (d : α) (n i : Nat) : (List.replicate n d).getD i d = d := by
  rw [List.getD_eq_getElem?_getD, List.getElem?_replicate]
  split <;> rfl
def Adj (E : List S40) (v w : Int) : Prop := ∃ j : Int, 0 ≤ j ∧ j < E.length ∧ (rd_T40 E j).f0 = v ∧ (rd_T40 E j).f1 = w
structure GOK (L R : Nat) (E : List S40) : Prop where
  L1 : L ≤ 1024
  R1 : R ≤ 1024
  len : E.length ≤ 65536
  rng : ∀ j : Int, 0 ≤ j → j < E.length → 0 ≤ (rd_T40 E j).f0 ∧ (rd_T40 E j).f0 < L ∧ 0 ≤ (rd_T40 E j).f1 ∧ (rd_T40 E j).f1 < R
theorem nbr_l0 {L R : Nat} {E : List S40} (g : GOK L R E) :
    ∀ (d : Nat) (i : Int) (x : List (List Int)), (E.length : Int) = i + d → 0 ≤ i → x.length = L →
      (∀ v w : Int, 0 ≤ v → v < L → (w ∈ rd_L5 x v ↔ ∃ j : Int, 0 ≤ j ∧ j < i ∧ (rd_T40 E j).f0 = v ∧ (rd_T40 E j).f1 = w)) →
      (∀ v : Int, 0 ≤ v → v < L → (rd_L5 x v).length ≤ i) →
      ∃ r, (∀ k, d < k → match_Graph_neighbours.l0 k x E E.length i = some r) ∧ r.length = L ∧ (∀ v w : Int, 0 ≤ v → v < L → (w ∈ rd_L5 r v ↔ Adj E v w)) ∧ ∀ v : Int, 0 ≤ v → v < L → (rd_L5 r v).length ≤ 1000000 := by
  have hl := g.len
  intro d
  induction d with
  | zero =>
    intro i x hd hi hx h1 h2
    refine ⟨x, fun k hk => ?_, hx, fun v w h3 h4 => ?_, fun v h3 h4 => by have := h2 v h3 h4; omega⟩
    · obtain ⟨k, rfl⟩ := fuel hk
      rw [match_Graph_neighbours.l0, if_neg (by omega)]
    · rw [h1 v w h3 h4, show i = (E.length : Int) by omega]; rfl
  | succ d ih =>
    intro i x hd hi hx h1 h2
    obtain ⟨a0, a1, a2, a3⟩ := g.rng i hi (by omega)
    obtain ⟨e, he⟩ : ∃ e, rd_T40 E i = e := ⟨_, rfl⟩
    rw [he] at a0 a1 a2 a3
    have hs : ∀ v : Int, 0 ≤ v → rd_L5 (x.set e.f0.toNat ((rd_L5 x e.f0) ++ [e.f1])) v = if v = e.f0 then (rd_L5 x e.f0) ++ [e.f1] else rd_L5 x v := fun v h => getD_set _ x e.f0 v _ a0 (by omega) h
    obtain ⟨r, hr, r1, r2⟩ := ih (i + 1) (x.set e.f0.toNat ((rd_L5 x e.f0) ++ [e.f1])) (by omega) (by omega) (by simpa using hx)
      (fun v w h3 h4 => by
        rw [hs v h3]
        by_cases ev : v = e.f0
        · subst ev
          rw [if_pos rfl, List.mem_append, h1 e.f0 w h3 h4, List.mem_singleton]
          constructor
          · rintro (⟨j, b0, b1, b2⟩ | h)
            · exact ⟨j, b0, by omega, b2⟩
            · exact ⟨i, hi, by omega, by rw [he], by rw [he, h]⟩
          · rintro ⟨j, b0, b1, b2, b3⟩
            by_cases ej : j = i
            · subst ej; rw [he] at b3; exact .inr b3.symm
            · exact .inl ⟨j, b0, by omega, b2, b3⟩
        · rw [if_neg ev, h1 v w h3 h4]
          constructor
          · rintro ⟨j, b0, b1, b2⟩; exact ⟨j, b0, by omega, b2⟩
          · rintro ⟨j, b0, b1, b2, b3⟩
            have ej : j ≠ i := fun ej => by subst ej; rw [he] at b2; exact ev b2.symm
            exact ⟨j, b0, by omega, b2, b3⟩)
      (fun v h3 h4 => by
        rw [hs v h3]
        split
        · have := h2 e.f0 a0 a1; simp; omega
        · have := h2 v h3 h4; omega)
    refine ⟨r, fun k hk => ?_, r1, r2⟩
    obtain ⟨k, rfl⟩ := fuel hk
    have := h2 e.f0 a0 a1
    rw [match_Graph_neighbours.l0, if_pos (by omega), if_pos hi, if_pos (by omega), he, if_pos a0, if_pos (by omega), if_pos (by omega), w64 (by omega) (by omega)]
    exact hr k (by omega)
theorem nbr_spec {L R : Nat} {E : List S40} (g : GOK L R E) :
    ∃ r, (∀ k, E.length < k → match_Graph_neighbours.f k L R E = some r) ∧ r.length = L ∧ (∀ v w : Int, 0 ≤ v → v < L → (w ∈ rdL r v ↔ Adj E v w)) ∧ ∀ v : Int, 0 ≤ v → v < L → (rdL r v).length ≤ 1000000 := by
  have hL := g.L1
  obtain ⟨r, hr, h⟩ := nbr_l0 g E.length 0 (List.replicate L []) (by omega) (by omega) (by simp)
    (fun v w h0 h1 => by
      unfold rd_L5
      rw [getD_rep]
      constructor
      · intro h; cases h
      · rintro ⟨j, b0, b1, _⟩; omega)
    (fun v h0 h1 => by
      unfold rd_L5
      rw [getD_rep]; simp)
  refine ⟨r, fun k hk => ?_, h⟩
  unfold match_Graph_neighbours.f
  rw [if_pos (by omega), if_pos (by omega)]
  exact hr k hk
theorem size_l0 (e : Int) (m : List Int) (hm : m.length ≤ 1000000) : ∀ (d : Nat) (i : Int), (m.length : Int) = i + d → 0 ≤ i →
    ∀ k, d < k → match_Size.l0 k e (cnt i.toNat (fun x => decide (0 ≤ rd m x)) : Nat) m m.length i = some ((msz m.length m : Int), e) := by
  intro d
  induction d with
  | zero =>
    intro i hd hi k hk
    obtain ⟨k, rfl⟩ := fuel hk
    have : i = (m.length : Int) := by omega
    subst this
    rw [match_Size.l0, if_neg (by omega)]
    rfl
  | succ d ih =>
    intro i hd hi k hk
    obtain ⟨k, rfl⟩ := fuel hk
    have ei : (i + 1).toNat = i.toNat + 1 := by omega
    have ec : ((i.toNat : Nat) : Int) = i := by omega
    have := ih (i + 1) (by omega) (by omega) k (by omega)
    rw [ei, cnt_succ, ec] at this
    have hle := cnt_le (fun x => decide (0 ≤ rd m x)) i.toNat
    rw [match_Size.l0, if_pos (by omega), if_pos hi, if_pos (by omega), w64 (x := i + 1) (by omega) (by omega)]
    by_cases h : 0 ≤ rd m i
    · rw [if_pos h, w64 (by omega) (by omega), ← this]
      simp [h]
    · rw [if_neg h, ← this]
      simp [h]
def sel : Nat → (Int → Bool) → List Int
  | 0, _ => []
  | n + 1, p => if p n = true then sel n p ++ [(n : Int)] else sel n p
theorem sel_length (p : Int → Bool) : ∀ n, (sel n p).length = cnt n p
  | 0 => rfl
  | n + 1 => by
    unfold sel cnt
    by_cases h : p n = true
    · rw [if_pos h, if_pos h]; simp [sel_length p n]
    · rw [if_neg h, if_neg h]; simp [sel_length p n]
theorem mem_sel (p : Int → Bool) (x : Int) : ∀ n : Nat, x ∈ sel n p ↔ 0 ≤ x ∧ x < n ∧ p x = true
  | 0 => by
    constructor
    · intro h; cases h
    · rintro ⟨a, b, _⟩; omega
  | n + 1 => by
    have ih := mem_sel p x n
    unfold sel
    by_cases e : x = n
    · subst e
      by_cases h : p n = true
      · rw [if_pos h]; simp [h]; omega
      · rw [if_neg h, ih]; simp [h]
    · by_cases h : p n = true
      · rw [if_pos h, List.mem_append, ih, List.mem_singleton]
        constructor
        · rintro (⟨a, b, c⟩ | h)
          · exact ⟨a, by omega, c⟩
          · exact absurd h e
        · rintro ⟨a, b, c⟩; exact .inl ⟨a, by omega, c⟩
      · rw [if_neg h, ih]
        constructor
        · rintro ⟨a, b, c⟩
          exact ⟨a, by omega, c⟩
        · rintro ⟨a, b, c⟩; exact ⟨a, by omega, c⟩
theorem sel_congr {p q : Int → Bool} : ∀ n : Nat, (∀ i : Int, 0 ≤ i → i < n → p i = q i) → sel n p = sel n q
  | 0, _ => rfl
  | n + 1, h => by
    unfold sel
    rw [sel_congr n (fun i h0 h1 => h i h0 (by omega)), h n (by omega) (by omega)]
theorem chosen_spec (want : Bool) (l : List Bool) (hl : l.length ≤ 1000000) : ∀ k, l.length < k → pairing_Chosen.f k l want = some (sel l.length (fun x => rdOf false l x == want)) := by
  have key : ∀ (d : Nat) (i : Int), (l.length : Int) = i + d → 0 ≤ i → ∀ k, d < k → pairing_Chosen.l0 k want (sel i.toNat (fun x => rdOf false l x == want)) l l.length i = some (sel l.length (fun x => rdOf false l x == want)) := by
    intro d
    induction d with
    | zero =>
      intro i hd hi k hk
      obtain ⟨k, rfl⟩ := fuel hk
      have : i = (l.length : Int) := by omega
      subst this
      rw [pairing_Chosen.l0, if_neg (by omega)]
      rfl
    | succ d ih =>
      intro i hd hi k hk
      obtain ⟨k, rfl⟩ := fuel hk
      have ei : (i + 1).toNat = i.toNat + 1 := by omega
      have ec : ((i.toNat : Nat) : Int) = i := by omega
      have := ih (i + 1) (by omega) (by omega) k (by omega)
      rw [ei, sel, ec] at this
      have hle := cnt_le (fun x => rdOf false l x == want) i.toNat
      rw [pairing_Chosen.l0, if_pos (by omega), if_pos hi, if_pos (by omega), w64 (x := i + 1) (by omega) (by omega)]
      by_cases h : (rdOf false l i == want) = true
      · rw [if_pos h, if_pos (by rw [sel_length]; omega), ← this, if_pos h]
      · rw [if_neg h, ← this, if_neg h]
  exact key l.length 0 (by omega) (by omega)
theorem same_self (a : List Int) (ha : a.length ≤ 1000000) : ∀ k, a.length < k → torusref01_Same.f k a a = some true := by
  have key : ∀ (d : Nat) (i : Int), (a.length : Int) = i + d → 0 ≤ i → ∀ k, d < k → torusref01_Same.l0 k a a i = some true := by
    intro d
    induction d with
    | zero =>
      intro i hd hi k hk
      obtain ⟨k, rfl⟩ := fuel hk
      rw [torusref01_Same.l0, if_neg (by omega)]
    | succ d ih =>
      intro i hd hi k hk
      obtain ⟨k, rfl⟩ := fuel hk
      rw [torusref01_Same.l0, if_pos (by omega), if_pos hi, if_pos (by omega), if_pos rfl, w64 (by omega) (by omega)]
      exact ih (i + 1) (by omega) (by omega) k (by omega)
  intro k hk
  unfold torusref01_Same.f
  rw [if_pos rfl]
  exact key a.length 0 (by omega) (by omega) k hk
theorem has_spec (l : List Int) (x : Int) (hl : l.length ≤ 1000000) : ∀ k, l.length < k → torusref30_Has.f k l x = some (decide (x ∈ l)) := by
  have key : ∀ (d : Nat) (i : Int), (l.length : Int) = i + d → 0 ≤ i → (∀ j : Int, 0 ≤ j → j < i → rd l j ≠ x) → ∀ k, d < k → torusref30_Has.l0 k l x i = some (decide (x ∈ l)) := by
    intro d
    induction d with
    | zero =>
      intro i hd hi hn k hk
      obtain ⟨k, rfl⟩ := fuel hk
      rw [torusref30_Has.l0, if_neg (by omega)]
      have : x ∉ l := fun h => by
        obtain ⟨j, h0, h1, h2⟩ := mem_rd h
        exact hn j h0 (by omega) h2
      simp [this]
    | succ d ih =>
      intro i hd hi hn k hk
      obtain ⟨k, rfl⟩ := fuel hk
      rw [torusref30_Has.l0, if_pos (by omega), if_pos hi]
      by_cases h : rd l i = x
      · rw [if_pos h]
        have : x ∈ l := h ▸ rd_mem hi (by omega)
        simp [this]
      · rw [if_neg h, w64 (by omega) (by omega)]
        refine ih (i + 1) (by omega) (by omega) (fun j h0 h1 => ?_) k (by omega)
        by_cases e : j = i
        · subst e; exact h
        · exact hn j h0 (by omega)
  exact key l.length 0 (by omega) (by omega) (fun j _ _ => by omega)
open Classical in
noncomputable def nearB (E : List S40) (s : List Int) (w : Int) : Bool := decide (∃ j : Int, 0 ≤ j ∧ j < E.length ∧ (rd_T40 E j).f1 = w ∧ (rd_T40 E j).f0 ∈ s)
open Classical in
theorem around_l1 {L R : Nat} {E : List S40} (g : GOK L R E) (s : List Int) (hs : s.length ≤ 1000000) (w : Int) (hw0 : 0 ≤ w) (hw1 : w < R) (out : List Int) (ho : out.length ≤ w) (G : Nat) (r : List Int)
    (hG : ∀ k, G ≤ k → torusref30_Around.l0 k s (if nearB E s w = true then out ++ [w] else out) (w + 1) L R E = some r) :
    ∀ (d : Nat) (i : Int), (E.length : Int) = i + d → 0 ≤ i →
    ∀ k, G + s.length + d < k → torusref30_Around.l1 k s out w (decide (∃ j : Int, 0 ≤ j ∧ j < i ∧ (rd_T40 E j).f1 = w ∧ (rd_T40 E j).f0 ∈ s)) E E.length i L R E = some r := by
  have hl := g.len
  have hR := g.R1
  intro d
  induction d with
  | zero =>
    intro i hd hi k hk
    obtain ⟨k, rfl⟩ := fuel hk
    have : i = (E.length : Int) := by omega
    subst this
    have e : decide (∃ j : Int, 0 ≤ j ∧ j < E.length ∧ (rd_T40 E j).f1 = w ∧ (rd_T40 E j).f0 ∈ s) = nearB E s w := rfl
    have hk1 := hG k (by omega)
    rw [torusref30_Around.l1, if_neg (by omega), w64 (by omega) (by omega), e]
    by_cases h : nearB E s w = true
    · rw [if_pos h, if_pos (by omega)]
      rw [if_pos h] at hk1
      exact hk1
    · rw [if_neg h]
      rw [if_neg h] at hk1
      exact hk1
  | succ d ih =>
    intro i hd hi k hk
    obtain ⟨k, rfl⟩ := fuel hk
    have hk1 := ih (i + 1) (by omega) (by omega) k (by omega)
    have up : (∃ j : Int, 0 ≤ j ∧ j < i ∧ (rd_T40 E j).f1 = w ∧ (rd_T40 E j).f0 ∈ s) → (∃ j : Int, 0 ≤ j ∧ j < i + 1 ∧ (rd_T40 E j).f1 = w ∧ (rd_T40 E j).f0 ∈ s) := fun ⟨j, a, b, c⟩ => ⟨j, a, by omega, c⟩
    have dn : (∃ j : Int, 0 ≤ j ∧ j < i + 1 ∧ (rd_T40 E j).f1 = w ∧ (rd_T40 E j).f0 ∈ s) → (∃ j : Int, 0 ≤ j ∧ j < i ∧ (rd_T40 E j).f1 = w ∧ (rd_T40 E j).f0 ∈ s) ∨ ((rd_T40 E i).f1 = w ∧ (rd_T40 E i).f0 ∈ s) := fun ⟨j, a, b, c⟩ => by
      by_cases e : j = i
      · subst e; exact .inr c
      · exact .inl ⟨j, a, by omega, c⟩
    rw [torusref30_Around.l1, if_pos (by omega), if_pos hi, if_pos (by omega), w64 (by omega) (by omega)]
    by_cases h : ∃ j : Int, 0 ≤ j ∧ j < i ∧ (rd_T40 E j).f1 = w ∧ (rd_T40 E j).f0 ∈ s
    · rw [if_pos (decide_eq_true h)]
      rw [decide_eq_true (up h)] at hk1
      exact hk1
    · rw [if_neg (by simpa using h)]
      by_cases h1 : (rd_T40 E i).f1 = w
      · rw [if_pos h1, has_spec s _ hs k (by omega)]
        have : decide (∃ j : Int, 0 ≤ j ∧ j < i + 1 ∧ (rd_T40 E j).f1 = w ∧ (rd_T40 E j).f0 ∈ s) = decide ((rd_T40 E i).f0 ∈ s) := by
          refine decide_eq_decide.2 ⟨fun h2 => ?_, fun h2 => ⟨i, hi, by omega, h1, h2⟩⟩
          rcases dn h2 with h3 | h3
          · exact absurd h3 h
          · exact h3.2
        rw [this] at hk1
        exact hk1
      · rw [if_neg h1]
        have : decide (∃ j : Int, 0 ≤ j ∧ j < i + 1 ∧ (rd_T40 E j).f1 = w ∧ (rd_T40 E j).f0 ∈ s) = false := by
          refine decide_eq_false (fun h2 => ?_)
          rcases dn h2 with h3 | h3
          · exact absurd h3 h
          · exact h1 h3.1
        rw [this] at hk1
        exact hk1
theorem around_spec {L R : Nat} {E : List S40} (g : GOK L R E) (s : List Int) (hs : s.length ≤ 1000000) :
    ∃ K, ∀ k, K ≤ k → torusref30_Around.f k L R E s = some (sel R (nearB E s)) := by
  have hR := g.R1
  have key : ∀ (d : Nat) (w : Int), (R : Int) = w + d → 0 ≤ w → ∃ K, ∀ k, K ≤ k → torusref30_Around.l0 k s (sel w.toNat (nearB E s)) w L R E = some (sel R (nearB E s)) := by
    intro d
    induction d with
    | zero =>
      intro w hd hw
      refine ⟨1, fun k hk => ?_⟩
      obtain ⟨k, rfl⟩ := fuel hk
      have : w = (R : Int) := by omega
      subst this
      rw [torusref30_Around.l0, if_neg (by omega)]
      rfl
    | succ d ih =>
      intro w hd hw
      obtain ⟨K, hK⟩ := ih (w + 1) (by omega) (by omega)
      have ei : (w + 1).toNat = w.toNat + 1 := by omega
      have ec : ((w.toNat : Nat) : Int) = w := by omega
      rw [ei, sel, ec] at hK
      have hle := cnt_le (nearB E s) w.toNat
      refine ⟨K + s.length + E.length + 2, fun k hk => ?_⟩
      obtain ⟨k, rfl⟩ : ∃ k', k = k' + 1 := ⟨k - 1, by omega⟩
      rw [torusref30_Around.l0, if_pos (by omega)]
      have := around_l1 g s hs w hw (by omega) (sel w.toNat (nearB E s)) (by rw [sel_length]; omega) K _ hK E.length 0 (by omega) (by omega) k (by omega)
      have e0 : ∀ i : Decidable (∃ j : Int, 0 ≤ j ∧ j < 0 ∧ (rd_T40 E j).f1 = w ∧ (rd_T40 E j).f0 ∈ s), @decide _ i = false := fun i => decide_eq_false (by rintro ⟨j, a, b, _⟩; omega)
      rw [e0] at this
      exact this
  exact key R 0 (by omega) (by omega)
end Go.Proofs.Ytlleokhmgblfnaa.P
namespace Go.Proofs.Ytlleokhmgblfnaa.P
open Go.RowKit Go.Proofs.YtlleokhmgblfnaaW.PrintWords Go.Proofs.Ytlleokhmgblfnaa.H Go.Proofs.Ytlleokhmgblfnaa.M
abbrev tr (l : List Bool) (x : Int) : Bool := rdOf false l x
theorem tr_set (l : List Bool) (i j : Int) (y : Bool) (h0 : 0 ≤ i) (h1 : i < l.length) (hj : 0 ≤ j) : tr (l.set i.toNat y) j = if j = i then y else tr l j := getD_set _ _ _ _ _ h0 h1 hj
def Closed (next : List (List Int)) (m b : List Int) (P : Int → Prop) : Prop :=
  (∀ x : Int, 0 ≤ x → x < next.length → rd m x < 0 → P x) ∧ (∀ x : Int, 0 ≤ x → x < next.length → P x → ∀ w ∈ rdL next x, 0 ≤ rd b w → P (rd b w))
structure RInv (next : List (List Int)) (R : Nat) (m b : List Int) (v j : Int) (l r : List Bool) (q : List Int) : Prop where
  ll : l.length = next.length
  lr : r.length = R
  fr : ∀ x : Int, 0 ≤ x → x < next.length → rd m x < 0 → tr l x = true
  qr : ∀ x ∈ q, 0 ≤ x ∧ x < next.length ∧ tr l x = true
  cl : ∀ x : Int, 0 ≤ x → x < next.length → tr l x = true → x ∉ q → x ≠ v → ∀ w ∈ rdL next x, tr r w = true ∧ (0 ≤ rd b w → tr l (rd b w) = true)
  cv : 0 ≤ v → ∀ j' : Int, 0 ≤ j' → j' < j → j' < (rdL next v).length → tr r (rd (rdL next v) j') = true ∧ (0 ≤ rd b (rd (rdL next v) j') → tr l (rd b (rd (rdL next v) j')) = true)
  ri : ∀ w : Int, 0 ≤ w → w < R → tr r w = true → ∃ x : Int, 0 ≤ x ∧ x < next.length ∧ tr l x = true ∧ w ∈ rdL next x
  le : ∀ P : Int → Prop, Closed next m b P → ∀ x : Int, 0 ≤ x → x < next.length → tr l x = true → P x
def un (n : Nat) (l : List Bool) : Nat := cnt n (fun x => !tr l x)
theorem reach_l2 {next : List (List Int)} {R : Nat} (hn : next.length ≤ 1000000) (hNV : NV next R) {m b : List Int} (hg : Hole next R m b (-1)) (v : Int) (hv0 : 0 ≤ v) (hv1 : v < next.length) (hlen : (rdL next v).length ≤ 1000000000000) :
    ∀ (e : Nat) (j : Int) (l r : List Bool) (q : List Int), (rdL next v).length = j + e → 0 ≤ j → RInv next R m b v j l r q → tr l v = true → q.length + un next.length l ≤ next.length →
      ∃ l' r' q', (∀ G s, (∀ k, G ≤ k → pairing_Reach.l1 k next b l' r' q' = some s) → ∀ k, G + e < k → pairing_Reach.l2 k next b l r q (rdL next v) (rdL next v).length j = some s) ∧ RInv next R m b (-1) 0 l' r' q' ∧ q'.length + un next.length l' = q.length + un next.length l := by
  have hlb := hg.lb
  intro e
  induction e with
  | zero =>
    intro j l r q he hj hI hlv hq
    refine ⟨l, r, q, fun G s hG k hk => ?_, ⟨hI.ll, hI.lr, hI.fr, hI.qr, fun x h0 h1 h2 h3 _ w hw => ?_, fun h => by omega, hI.ri, hI.le⟩, rfl⟩
    · obtain ⟨k, rfl⟩ : ∃ k', k = k' + 1 := ⟨k - 1, by omega⟩
      rw [pairing_Reach.l2, if_neg (by omega)]
      exact hG k (by omega)
    · by_cases ex : x = v
      · subst ex
        obtain ⟨i, i0, i1, rfl⟩ := mem_rd hw
        exact hI.cv h0 i i0 (by omega) i1
      · exact hI.cl x h0 h1 h2 h3 ex w hw
  | succ e ih =>
    intro j l r q he hj hI hlv hq
    have hlr := hI.lr
    have hll := hI.ll
    obtain ⟨x, hx⟩ : ∃ x, rd (rdL next v) j = x := ⟨_, rfl⟩
    have hxm : x ∈ rdL next v := hx ▸ rd_mem hj (by omega)
    obtain ⟨hx0, hx1⟩ := hNV v hv0 hv1 x hxm
    obtain ⟨u, hu⟩ : ∃ u, rd b x = u := ⟨_, rfl⟩
    have hrs : ∀ y : Int, 0 ≤ y → tr (r.set x.toNat true) y = if y = x then true else tr r y := fun y h => tr_set r x y true hx0 (by omega) h
    have hru : ∀ y : Int, 0 ≤ y → tr r y = true → tr (r.set x.toNat true) y = true := fun y h h1 => by rw [hrs y h]; split <;> simp [*]
    have hnn : ∀ y : Int, 0 ≤ y → y < next.length → ∀ w ∈ rdL next y, 0 ≤ w := fun y h0 h1 w hw => (hNV y h0 h1 w hw).1
    have step : ∀ l1 q1, RInv next R m b v (j + 1) l1 (r.set x.toNat true) q1 → tr l1 v = true → q1.length + un next.length l1 = q.length + un next.length l →
        (∀ k s, pairing_Reach.l2 k next b l1 (r.set x.toNat true) q1 (rdL next v) (rdL next v).length (wrap64 (j + 1)) = some s → pairing_Reach.l2 (k + 1) next b l r q (rdL next v) (rdL next v).length j = some s) →
        ∃ l' r' q', (∀ G s, (∀ k, G ≤ k → pairing_Reach.l1 k next b l' r' q' = some s) → ∀ k, G + (e + 1) < k → pairing_Reach.l2 k next b l r q (rdL next v) (rdL next v).length j = some s) ∧ RInv next R m b (-1) 0 l' r' q' ∧ q'.length + un next.length l' = q.length + un next.length l := by
      intro l1 q1 hI1 hv hq1 hstep
      obtain ⟨l', r', q', h1, h2, h3⟩ := ih (j + 1) l1 (r.set x.toNat true) q1 (by omega) (by omega) hI1 hv (by omega)
      refine ⟨l', r', q', fun G s hG k hk => ?_, h2, by omega⟩
      obtain ⟨k, rfl⟩ : ∃ k', k = k' + 1 := ⟨k - 1, by omega⟩
      refine hstep k s ?_
      rw [w64 (by omega) (by omega)]
      exact h1 G s hG k (by omega)
    by_cases hu0 : 0 ≤ u
    · obtain ⟨hun, hum⟩ := hg.bb x hx0 hx1 (by omega) (by omega)
      rw [hu] at hun hum
      by_cases hlu : tr l u = true
      · refine step l q ⟨hll, by simpa using hlr, hI.fr, hI.qr, fun y h0 h1 h2 h3 h4 w hw => ?_, fun _ j' h0 h1 h2 => ?_, fun w h0 h1 h2 => ?_, hI.le⟩ hlv rfl (fun k s hk => ?_)
        · obtain ⟨c1, c2⟩ := hI.cl y h0 h1 h2 h3 h4 w hw
          exact ⟨hru w (hnn y h0 h1 w hw) c1, c2⟩
        · by_cases ej : j' = j
          · subst ej
            rw [hx, hu]
            exact ⟨by rw [hrs x hx0, if_pos rfl], fun _ => hlu⟩
          · obtain ⟨c1, c2⟩ := hI.cv hv0 j' h0 (by omega) h2
            exact ⟨hru _ (hnn v hv0 hv1 _ (rd_mem h0 h2)) c1, c2⟩
        · by_cases ew : w = x
          · subst ew; exact ⟨v, hv0, hv1, hlv, hxm⟩
          · rw [hrs w h0, if_neg ew] at h2; exact hI.ri w h0 h1 h2
        · rw [pairing_Reach.l2, if_pos (by omega), if_pos hj, if_pos (by omega), hx, if_pos hx0, if_pos (by omega)]
          simp only [Option.bind_some]
          rw [if_pos (by omega), hu, if_pos hu0, if_pos hu0, if_pos (by omega), if_pos hlu]
          exact hk
      · have hls : ∀ y : Int, 0 ≤ y → tr (l.set u.toNat true) y = if y = u then true else tr l y := fun y h => tr_set l u y true hu0 (by omega) h
        have hlup : ∀ y : Int, 0 ≤ y → tr l y = true → tr (l.set u.toNat true) y = true := fun y h h1 => by rw [hls y h]; split <;> simp [*]
        have huv : u ≠ v := fun e => hlu (e ▸ hlv)
        have hlu' : tr l u = false := by simpa using hlu
        have hun2 : un next.length l = un next.length (l.set u.toNat true) + 1 := by
          unfold un
          rw [cnt_out (fun x => !tr l x) u next.length hu0 hun (by simp [hlu'])]
          congr 1
          refine cnt_congr _ (fun y h0 h1 => ?_)
          rw [hls y h0]
          by_cases ey : y = u
          · subst ey; simp
          · rw [if_neg ey]; simp [ey]
        have hql : q.length < next.length := by omega
        refine step (l.set u.toNat true) (q ++ [u]) ⟨by simpa using hll, by simpa using hlr, fun y h0 h1 h2 => hlup y h0 (hI.fr y h0 h1 h2), fun y hy => ?_, fun y h0 h1 h2 h3 h4 w hw => ?_, fun _ j' h0 h1 h2 => ?_, fun w h0 h1 h2 => ?_, fun P hP y h0 h1 h2 => ?_⟩ (hlup v hv0 hlv) (by simp; omega) (fun k s hk => ?_)
        · rcases List.mem_append.1 hy with hy | hy
          · obtain ⟨a1, a2, a3⟩ := hI.qr y hy; exact ⟨a1, a2, hlup y a1 a3⟩
          · rw [List.mem_singleton.1 hy]; exact ⟨hu0, hun, by rw [hls u hu0, if_pos rfl]⟩
        · have ey : y ≠ u := fun e => h3 (by rw [e]; simp)
          rw [hls y h0, if_neg ey] at h2
          obtain ⟨c1, c2⟩ := hI.cl y h0 h1 h2 (fun h => h3 (List.mem_append_left _ h)) h4 w hw
          exact ⟨hru w (hnn y h0 h1 w hw) c1, fun h => hlup _ h (c2 h)⟩
        · by_cases ej : j' = j
          · subst ej
            rw [hx, hu]
            exact ⟨by rw [hrs x hx0, if_pos rfl], fun _ => by rw [hls u hu0, if_pos rfl]⟩
          · obtain ⟨c1, c2⟩ := hI.cv hv0 j' h0 (by omega) h2
            exact ⟨hru _ (hnn v hv0 hv1 _ (rd_mem h0 h2)) c1, fun h => hlup _ h (c2 h)⟩
        · by_cases ew : w = x
          · subst ew; exact ⟨v, hv0, hv1, hlup v hv0 hlv, hxm⟩
          · rw [hrs w h0, if_neg ew] at h2
            obtain ⟨y, y0, y1, y2, y3⟩ := hI.ri w h0 h1 h2
            exact ⟨y, y0, y1, hlup y y0 y2, y3⟩
        · by_cases ey : y = u
          · subst ey
            have := hP.2 v hv0 hv1 (hI.le P hP v hv0 hv1 hlv) x hxm (by omega)
            rwa [hu] at this
          · rw [hls y h0, if_neg ey] at h2; exact hI.le P hP y h0 h1 h2
        · rw [pairing_Reach.l2, if_pos (by omega), if_pos hj, if_pos (by omega), hx, if_pos hx0, if_pos (by omega)]
          simp only [Option.bind_some]
          rw [if_pos (by omega), hu, if_pos hu0, if_pos hu0, if_pos (by omega), if_neg hlu, if_pos (by omega)]
          exact hk
    · refine step l q ⟨hll, by simpa using hlr, hI.fr, hI.qr, fun y h0 h1 h2 h3 h4 w hw => ?_, fun _ j' h0 h1 h2 => ?_, fun w h0 h1 h2 => ?_, hI.le⟩ hlv rfl (fun k s hk => ?_)
      · obtain ⟨c1, c2⟩ := hI.cl y h0 h1 h2 h3 h4 w hw
        exact ⟨hru w (hnn y h0 h1 w hw) c1, c2⟩
      · by_cases ej : j' = j
        · subst ej
          rw [hx, hu]
          exact ⟨by rw [hrs x hx0, if_pos rfl], fun h => absurd h hu0⟩
        · obtain ⟨c1, c2⟩ := hI.cv hv0 j' h0 (by omega) h2
          exact ⟨hru _ (hnn v hv0 hv1 _ (rd_mem h0 h2)) c1, c2⟩
      · by_cases ew : w = x
        · subst ew; exact ⟨v, hv0, hv1, hlv, hxm⟩
        · rw [hrs w h0, if_neg ew] at h2; exact hI.ri w h0 h1 h2
      · rw [pairing_Reach.l2, if_pos (by omega), if_pos hj, if_pos (by omega), hx, if_pos hx0, if_pos (by omega)]
        simp only [Option.bind_some]
        rw [if_pos (by omega), hu, if_neg hu0]
        exact hk
theorem reach_l1 {next : List (List Int)} {R : Nat} (hn : next.length ≤ 1000000) (hNV : NV next R) (hlen : ∀ v : Int, 0 ≤ v → v < next.length → (rdL next v).length ≤ 1000000000000) {m b : List Int} (hg : Hole next R m b (-1)) :
    ∀ (d : Nat) (l r : List Bool) (q : List Int), q.length + un next.length l ≤ d → d ≤ next.length → RInv next R m b (-1) 0 l r q →
      ∃ K l' r', (∀ k, K ≤ k → pairing_Reach.l1 k next b l r q = some (l', r')) ∧ RInv next R m b (-1) 0 l' r' [] := by
  intro d
  induction d with
  | zero =>
    intro l r q hd hdn hI
    have : q = [] := List.length_eq_zero_iff.1 (by omega)
    subst this
    refine ⟨1, l, r, fun k hk => ?_, hI⟩
    obtain ⟨k, rfl⟩ : ∃ k', k = k' + 1 := ⟨k - 1, by omega⟩
    rfl
  | succ d ih =>
    intro l r q hd hdn hI
    cases q with
    | nil =>
      refine ⟨1, l, r, fun k hk => ?_, hI⟩
      obtain ⟨k, rfl⟩ : ∃ k', k = k' + 1 := ⟨k - 1, by omega⟩
      rfl
    | cons v q =>
      obtain ⟨hv0, hv1, hlv⟩ := hI.qr v (by simp)
      simp only [List.length_cons] at hd
      obtain ⟨l1, r1, q1, h1, hI1, he⟩ := reach_l2 hn hNV hg v hv0 hv1 (hlen v hv0 hv1) (rdL next v).length 0 l r q (by omega) (by omega)
        ⟨hI.ll, hI.lr, hI.fr, fun x hx => hI.qr x (by simp [hx]), fun x h0 h1 h2 h3 h4 w hw => hI.cl x h0 h1 h2 (by simp [h3, h4]) (by omega) w hw, fun _ j' h0 h1 => by omega, hI.ri, hI.le⟩ hlv (by omega)
      obtain ⟨K, l2, r2, hK, hI2⟩ := ih l1 r1 q1 (by omega) (by omega) hI1
      refine ⟨K + (rdL next v).length + 2, l2, r2, fun k hk => ?_, hI2⟩
      obtain ⟨k, rfl⟩ : ∃ k', k = k' + 1 := ⟨k - 1, by omega⟩
      have := h1 K _ hK k (by omega)
      have er : rd (v :: q) 0 = v := rfl
      rw [pairing_Reach.l1, if_pos (by simp), if_pos (by simp), if_pos (by simp; omega), er, if_pos hv0, if_pos hv1]
      exact this
structure RS (next : List (List Int)) (R : Nat) (m b : List Int) (l r : List Bool) : Prop where
  ll : l.length = next.length
  lr : r.length = R
  fr : ∀ x : Int, 0 ≤ x → x < next.length → rd m x < 0 → tr l x = true
  cl : ∀ x : Int, 0 ≤ x → x < next.length → tr l x = true → ∀ w ∈ rdL next x, tr r w = true ∧ (0 ≤ rd b w → tr l (rd b w) = true)
  ri : ∀ w : Int, 0 ≤ w → w < R → tr r w = true → ∃ x : Int, 0 ≤ x ∧ x < next.length ∧ tr l x = true ∧ w ∈ rdL next x
  le : ∀ P : Int → Prop, Closed next m b P → ∀ x : Int, 0 ≤ x → x < next.length → tr l x = true → P x
theorem reach_l0 {next : List (List Int)} {R : Nat} (hn : next.length ≤ 1000000) (hNV : NV next R) (hlen : ∀ v : Int, 0 ≤ v → v < next.length → (rdL next v).length ≤ 1000000000000) {m b : List Int} (hg : Hole next R m b (-1)) (r : List Bool) (hr : r.length = R) (hr0 : ∀ x, tr r x = false) :
    ∀ (d : Nat) (i : Int) (l : List Bool) (q : List Int), (next.length : Int) = i + d → 0 ≤ i → l.length = next.length →
      (∀ x : Int, 0 ≤ x → x < next.length → tr l x = (decide (x < i) && decide (rd m x < 0))) → (∀ x ∈ q, 0 ≤ x ∧ x < i ∧ rd m x < 0) → (∀ x : Int, 0 ≤ x → x < i → rd m x < 0 → x ∈ q) → q.length + un next.length l = next.length →
      ∃ K l' r', (∀ k, K ≤ k → pairing_Reach.l0 k next m b l r q next.length i = some (l', r')) ∧ RS next R m b l' r' := by
  have hlm := hg.lm
  intro d
  induction d with
  | zero =>
    intro i l q hd hi hl h1 h2 h3 h4
    have e : i = next.length := by omega
    subst e
    obtain ⟨K, l', r', hK, hI⟩ := reach_l1 hn hNV hlen hg next.length l r q (by omega) (Nat.le_refl _)
      ⟨hl, hr, fun x a c d => by rw [h1 x a c]; simp [c, d], fun x hx => by obtain ⟨a, c, d⟩ := h2 x hx; exact ⟨a, c, by rw [h1 x a c]; simp [c, d]⟩, fun x a c d e => by
        rw [h1 x a c] at d; simp at d; exact absurd (h3 x a c d.2) e, fun h => by omega, fun w _ _ h => by rw [hr0] at h; (cases h), fun P hP x a c d => by
        rw [h1 x a c] at d; simp at d; exact hP.1 x a c d.2⟩
    refine ⟨K + 1, l', r', fun k hk => ?_, ⟨hI.ll, hI.lr, hI.fr, fun x a c d => hI.cl x a c d (by simp) (by omega), hI.ri, hI.le⟩⟩
    obtain ⟨k, rfl⟩ : ∃ k', k = k' + 1 := ⟨k - 1, by omega⟩
    rw [pairing_Reach.l0, if_neg (by omega)]
    exact hK k (by omega)
  | succ d ih =>
    intro i l q hd hi hl h1 h2 h3 h4
    by_cases hneg : rd m i < 0
    · have hls : ∀ y : Int, 0 ≤ y → tr (l.set i.toNat true) y = if y = i then true else tr l y := fun y h => tr_set l i y true hi (by omega) h
      have hli : tr l i = false := by rw [h1 i hi (by omega)]; simp
      have hun2 : un next.length l = un next.length (l.set i.toNat true) + 1 := by
        unfold un
        rw [cnt_out (fun x => !tr l x) i next.length hi (by omega) (by simp [hli])]
        congr 1
        refine cnt_congr _ (fun y h0 h1 => ?_)
        rw [hls y h0]
        by_cases ey : y = i
        · subst ey; simp
        · rw [if_neg ey]; simp [ey]
      obtain ⟨K, l', r', hK, hS⟩ := ih (i + 1) (l.set i.toNat true) (q ++ [i]) (by omega) (by omega) (by simpa using hl)
        (fun x a c => by
          rw [hls x a]
          by_cases ex : x = i
          · subst ex; simp [hneg]; omega
          · rw [if_neg ex, h1 x a c]
            have : (x < i + 1) = (x < i) := by apply propext; omega
            simp [this])
        (fun x hx => by
          rcases List.mem_append.1 hx with hx | hx
          · have := h2 x hx; exact ⟨this.1, by omega, this.2.2⟩
          · rw [List.mem_singleton.1 hx]; exact ⟨hi, by omega, hneg⟩)
        (fun x a c d => by
          by_cases ex : x = i
          · subst ex; simp
          · exact List.mem_append_left _ (h3 x a (by omega) d))
        (by simp; omega)
      refine ⟨K + 1, l', r', fun k hk => ?_, hS⟩
      obtain ⟨k, rfl⟩ : ∃ k', k = k' + 1 := ⟨k - 1, by omega⟩
      rw [pairing_Reach.l0, if_pos (by omega), if_pos hi, if_pos (by omega), if_pos hneg, if_pos (by omega), if_pos (by omega), w64 (by omega) (by omega)]
      exact hK k (by omega)
    · obtain ⟨K, l', r', hK, hS⟩ := ih (i + 1) l q (by omega) (by omega) hl
        (fun x a c => by
          rw [h1 x a c]
          by_cases ex : x = i
          · subst ex; simp [hneg]
          · have : (x < i + 1) = (x < i) := by apply propext; omega
            simp [this])
        (fun x hx => by have := h2 x hx; exact ⟨this.1, by omega, this.2.2⟩)
        (fun x a c d => by
          by_cases ex : x = i
          · subst ex; exact absurd d hneg
          · exact h3 x a (by omega) d) h4
      refine ⟨K + 1, l', r', fun k hk => ?_, hS⟩
      obtain ⟨k, rfl⟩ : ∃ k', k = k' + 1 := ⟨k - 1, by omega⟩
      rw [pairing_Reach.l0, if_pos (by omega), if_pos hi, if_pos (by omega), if_neg hneg, w64 (by omega) (by omega)]
      exact hK k (by omega)
theorem tr_rep (n : Nat) (x : Int) : tr (List.replicate n false) x = false := getD_rep _ _ _
theorem reach_spec {next : List (List Int)} {R : Nat} (hn : next.length ≤ 1000000) (hR : R ≤ 1000000) (hNV : NV next R) (hlen : ∀ v : Int, 0 ≤ v → v < next.length → (rdL next v).length ≤ 1000000000000) {m b : List Int} (hg : Hole next R m b (-1)) :
    ∃ K l r, (∀ k, K ≤ k → pairing_Reach.f k next m b = some (l, r)) ∧ RS next R m b l r := by
  obtain ⟨K, l, r, hK, hS⟩ := reach_l0 hn hNV hlen hg (List.replicate R false) (by simp) (fun x => tr_rep _ _) next.length 0 (List.replicate next.length false) [] (by omega) (by omega) (by simp)
    (fun x a c => by rw [tr_rep]; have : ¬ x < 0 := by omega
                     simp [this]) (fun x hx => by cases hx) (fun x a c => by omega) (by unfold un; rw [cnt_all _ (fun i _ _ => by rw [tr_rep]; rfl)]; simp)
  refine ⟨K, l, r, fun k hk => ?_, hS⟩
  have hlb := hg.lb
  unfold pairing_Reach.f
  rw [if_pos (by omega), if_pos (by omega), if_pos (by omega), if_pos (by omega), hlb]
  exact hK k hk
end Go.Proofs.Ytlleokhmgblfnaa.P
end

section
namespace Go.Proofs.Ytlleokhmgblfnaa.P
open Go.RowKit Go.Proofs.YtlleokhmgblfnaaW.PrintWords Go.Proofs.Ytlleokhmgblfnaa.H Go.Proofs.Ytlleokhmgblfnaa.M
theorem rd_T40_mem {E : List S40} {j : Int} (h0 : 0 ≤ j) (h1 : j < E.length) : rd_T40 E j ∈ E := by
  unfold rd_T40
  rw [List.getD_eq_getElem?_getD, List.getElem?_eq_getElem (by omega)]
  exact List.getElem_mem _
theorem mem_rd_T40 {E : List S40} {x : S40} (h : x ∈ E) : ∃ i : Int, 0 ≤ i ∧ i < E.length ∧ rd_T40 E i = x := by
  obtain ⟨i, hi, e⟩ := List.getElem_of_mem h
  exact ⟨i, by omega, by omega, by simp [rd_T40, hi, e]⟩
theorem chkGo_rng (L R : Int) : ∀ (E : List (Int × Int)) (p : Option (Int × Int)), chkGo L R p E = 0 → ∀ x ∈ E, 0 ≤ x.1 ∧ x.1 < L ∧ 0 ≤ x.2 ∧ x.2 < R
  | [], _, _, x, hx => by cases hx
  | y :: E, p, h, x, hx => by
    unfold chkGo at h
    split at h
    · omega
    · have ih := chkGo_rng L R E (some y)
      have h2 : chkGo L R (some y) E = 0 := by
        cases p with
        | none => exact h
        | some q =>
          simp only at h
          split at h
          · omega
          · split at h
            · omega
            · exact h
      rcases List.mem_cons.1 hx with e | hx
      · subst e; omega
      · exact ih h2 x hx
theorem chk_gok {L R : Int} {E : List S40} (h : chk L R (E.map prE) = 0) : ∃ Ln Rn : Nat, L = Ln ∧ R = Rn ∧ GOK Ln Rn E := by
  unfold chk at h
  split at h
  · omega
  · split at h
    · omega
    · refine ⟨L.toNat, R.toNat, by omega, by omega, by omega, by omega, by simp at *; omega, fun j h0 h1 => ?_⟩
      have := chkGo_rng L R _ none h (prE (rd_T40 E j)) (List.mem_map_of_mem (rd_T40_mem h0 h1))
      simp only [prE] at this
      omega
def lexB (y x : Int × Int) : Prop := y.1 < x.1 ∨ (y.1 = x.1 ∧ y.2 < x.2)
structure Core (L R : Nat) (A : Int → Int → Prop) (next : List (List Int)) (m b : List Int) (l r : List Bool) : Prop where
  nl : next.length = L
  adj : ∀ v w : Int, 0 ≤ v → v < L → (w ∈ rdL next v ↔ A v w)
  nv : NV next R
  hole : Hole next R m b (-1)
  lin : ∃ lv, LInv next m b (-1) 0 false lv []
  rs : RS next R m b l r
theorem coreA {L R : Nat} {A : Int → Int → Prop} {next : List (List Int)} (hL : L ≤ 1024) (hR : R ≤ 1024) (nl : next.length = L) (adj : ∀ v w : Int, 0 ≤ v → v < L → (w ∈ rdL next v ↔ A v w)) (nv : NV next R) (hlen : ∀ v : Int, 0 ≤ v → v < L → (rdL next v).length ≤ 1000000000000) :
    ∃ m b l r K, Core L R A next m b l r ∧ (∀ k, K ≤ k → pairing_Greatest.f k next R = some (m, b)) ∧ (∀ k, K ≤ k → pairing_Reach.f k next m b = some (l, r)) := by
  obtain ⟨K1, m, b, h2, hole, lin⟩ := greatF_spec (by omega) (by omega) nv
  obtain ⟨K2, l, r, h3, rs⟩ := reach_spec (by omega) (by omega) nv (fun v h0 h1 => hlen v h0 (by omega)) hole
  refine ⟨m, b, l, r, max K1 K2, ⟨nl, adj, nv, hole, lin, rs⟩, fun k hk => ?_, fun k hk => h3 k (by omega)⟩
  exact at_rounds (fun k => pairing_Greatest.mono next R k) (show K1 ≤ k by omega) h2
theorem core {L R : Nat} {E : List S40} (g : GOK L R E) : ∃ next m b l r K, Core L R (Adj E) next m b l r ∧ (∀ k, K ≤ k → match_Graph_neighbours.f k L R E = some next) ∧
    (∀ k, K ≤ k → pairing_Greatest.f k next R = some (m, b)) ∧ (∀ k, K ≤ k → pairing_Reach.f k next m b = some (l, r)) := by
  have hL := g.L1
  have hR := g.R1
  obtain ⟨next, h1, nl, adj, hlen⟩ := nbr_spec g
  have nv : NV next R := fun v h0 h1 w hw => by
    rw [nl] at h1
    obtain ⟨j, j0, j1, j2, j3⟩ := (adj v w h0 h1).1 hw
    have := g.rng j j0 j1
    omega
  obtain ⟨m, b, l, r, K, c, h2, h3⟩ := coreA hL hR nl adj nv (fun v h0 h1 => by have := hlen v h0 h1; omega)
  exact ⟨next, m, b, l, r, max (E.length + 1) K, c, fun k hk => h1 k (by omega), fun k hk => h2 k (by omega), fun k hk => h3 k (by omega)⟩
theorem Core.around {L R : Nat} {A : Int → Int → Prop} {next : List (List Int)} {m b : List Int} {l r : List Bool} (c : Core L R A next m b l r) :
    ∀ w : Int, 0 ≤ w → w < R → tr r w = true → 0 ≤ rd b w ∧ rd b w < L ∧ tr l (rd b w) = true ∧ rd m (rd b w) = w := by
  intro w h0 h1 hw
  obtain ⟨lv, hlv⟩ := c.lin
  have hcl : Closed next m b (fun x => 0 ≤ rd lv x) := by
    refine ⟨fun x a d e => by have := (hlv.fr x a d).1 e; omega, fun x a d e w hw hb => ?_⟩
    exact (hlv.cl x a d e (by simp) (by omega) w hw).2 hb
  obtain ⟨x, x0, x1, x2, x3⟩ := c.rs.ri w h0 h1 hw
  have hx := c.rs.le _ hcl x x0 x1 x2
  have hb : 0 ≤ rd b w := by
    by_cases h : rd b w < 0
    · have := (hlv.cl x x0 x1 hx (by simp) (by omega) w x3).1 h
      cases this
    · omega
  obtain ⟨b1, b2⟩ := c.hole.bb w h0 h1 (by omega) hb
  have := c.nl
  exact ⟨hb, by omega, (c.rs.cl x x0 x1 x2 w x3).2 hb, b2⟩
theorem Core.count {L R : Nat} {A : Int → Int → Prop} {next : List (List Int)} {m b : List Int} {l r : List Bool} (c : Core L R A next m b l r) :
    cnt L (tr l) + msz L m = L + cnt R (tr r) := by
  have nl := c.nl
  have e1 : cnt R (tr r) = cnt L (fun x => tr l x && decide (0 ≤ rd m x)) := by
    refine Nat.le_antisymm (cnt_inj (rd b) L R _ (fun w h0 h1 hw => ?_) (fun w w' h0 h1 h2 h3 hw hw' e => ?_)) (cnt_inj (rd m) R L _ (fun x h0 h1 hx => ?_) (fun x x' h0 h1 h2 h3 hx hx' e => ?_))
    · obtain ⟨a1, a2, a3, a4⟩ := c.around w h0 h1 hw
      exact ⟨a1, a2, by simp [a3, a4, h0]⟩
    · obtain ⟨a1, a2, a3, a4⟩ := c.around w h0 h1 hw
      obtain ⟨b1, b2, b3, b4⟩ := c.around w' h2 h3 hw'
      rw [← a4, ← b4, e]
    · simp at hx
      obtain ⟨a1, a2, a3, a4⟩ := c.hole.mm x h0 (by omega) hx.2
      exact ⟨hx.2, a1, (c.rs.cl x h0 (by omega) hx.1 _ a2).1⟩
    · simp at hx hx'
      have a := (c.hole.mm x h0 (by omega) hx.2).2.2.1
      have b := (c.hole.mm x' h2 (by omega) hx'.2).2.2.1
      rw [← a, ← b, e]
  have e2 : cnt L (fun x => tr l x && !decide (0 ≤ rd m x)) = cnt L (fun x => !decide (0 ≤ rd m x)) := by
    refine cnt_congr _ (fun x h0 h1 => ?_)
    by_cases h : 0 ≤ rd m x
    · simp [h]
    · have : tr l x = true := c.rs.fr x h0 (by omega) (by omega)
      simp [this]
  have e3 := cnt_split (tr l) (fun x => decide (0 ≤ rd m x)) L
  have e4 := cnt_not (fun x => decide (0 ≤ rd m x)) L
  unfold msz
  omega
open Classical in
theorem Core.near {L R : Nat} {E : List S40} {next : List (List Int)} {m b : List Int} {l r : List Bool} (g : GOK L R E) (c : Core L R (Adj E) next m b l r) : sel R (nearB E (sel L (tr l))) = sel R (tr r) := by
  have nl := c.nl
  refine sel_congr _ (fun w h0 h1 => ?_)
  have : nearB E (sel L (tr l)) w = true ↔ tr r w = true := by
    unfold nearB
    rw [decide_eq_true_iff]
    constructor
    · rintro ⟨j, j0, j1, j2, j3⟩
      obtain ⟨a0, a1, a2⟩ := (mem_sel _ _ _).1 j3
      exact (c.rs.cl _ a0 (by omega) a2 w ((c.adj _ w a0 a1).2 ⟨j, j0, j1, rfl, j2⟩)).1
    · intro h
      obtain ⟨x, x0, x1, x2, x3⟩ := c.rs.ri w h0 h1 h
      obtain ⟨j, j0, j1, j2, j3⟩ := (c.adj x w x0 (by omega)).1 x3
      exact ⟨j, j0, j1, j3, (mem_sel _ _ _).2 ⟨by omega, by omega, by rw [j2]; exact x2⟩⟩
  cases h : nearB E (sel L (tr l)) w <;> cases h' : tr r w <;> simp_all
theorem Core.isM {L R : Nat} {A : Int → Int → Prop} {next : List (List Int)} {m b : List Int} {l r : List Bool} (c : Core L R A next m b l r) : IsM L R A (rd m) := by
  have nl := c.nl
  refine ⟨fun v h0 h1 h2 => (c.hole.mm v h0 (by omega) h2).1, fun v h0 h1 h2 => (c.adj v _ h0 h1).1 (c.hole.mm v h0 (by omega) h2).2.1, fun v v' h0 h1 h2 h3 h4 e => ?_⟩
  have a := (c.hole.mm v h0 (by omega) h4).2.2.1
  have b := (c.hole.mm v' h2 (by omega) (e ▸ h4)).2.2.1
  rw [← a, ← b, e]
theorem Core.isMax {L R : Nat} {A : Int → Int → Prop} {next : List (List Int)} {m b : List Int} {l r : List Bool} (c : Core L R A next m b l r) : IsMax L R A (msz L m) := by
  have nl := c.nl
  refine ⟨⟨rd m, c.isM, rfl⟩, fun M hM => ?_⟩
  have := cover_bound hM (fun x => !tr l x) (tr r) (fun v w h0 h1 h2 h3 h => by
    cases h4 : tr l v with
    | false => exact .inl rfl
    | true => exact .inr (c.rs.cl v h0 (by omega) h4 w ((c.adj v w h0 h1).2 h)).1)
  have e := c.count
  have e2 := cnt_not (tr l) L
  omega
theorem given_spec (L R : Int) {E : List S40} (h : E.length ≤ 65536) : toruslaw30_given.f L R E = some (L, R, E) := by
  unfold toruslaw30_given.f
  simp only [Option.bind_some]
  rw [if_pos (by simp; omega)]
  rfl
structure Done (L R : Nat) (E : List S40) (m : List Int) (l r : List Bool) (K : Nat) : Prop where
  max : ∀ k, K ≤ k → match_Maximum.f k L R E = some (m, 0)
  size : ∀ k, K ≤ k → match_Size.f k L R E = some ((msz L m : Int), 0)
  size' : ∀ k, K ≤ k → toruslaw30_size.f k L R E = some (msz L m : Int)
  hall : ∀ k, K ≤ k → match_Hall.f k L R E = some (if cnt L (tr l) = 0 then ([], [], 4) else (sel L (tr l), sel R (tr r), 0))
  cover : ∀ k, K ≤ k → match_Cover.f k L R E = some (sel L (fun x => !tr l x), sel R (tr r), 0)
theorem bool_beq_true (b : Bool) : (b == true) = b := by cases b <;> rfl
theorem bool_beq_false (b : Bool) : (b == false) = !b := by cases b <;> rfl
theorem done {L R : Nat} {E : List S40} (hk : chk L R (E.map prE) = 0) (g : GOK L R E) : ∃ next m b l r K, Core L R (Adj E) next m b l r ∧ Done L R E m l r K := by
  obtain ⟨next, m, b, l, r, K, c, h1, h2, h3⟩ := core g
  have hL := g.L1
  have hR := g.R1
  have nl := c.nl
  have lm := c.hole.lm
  have lb := c.hole.lb
  have ll := c.rs.ll
  have lr := c.rs.lr
  have hc : match_Check.f L R E = some 0 := by unfold match_Check.f; rw [hk]
  have hmx : ∀ k, K ≤ k → match_Maximum.f k L R E = some (m, 0) := fun k hk => by
    unfold match_Maximum.f
    rw [hc]
    simp only [Option.bind_some, if_true]
    rw [h1 k hk]
    simp only [Option.bind_some]
    rw [h2 k hk]
    rfl
  have hsz : ∀ k, K + L + 1 ≤ k → match_Size.f k L R E = some ((msz L m : Int), 0) := fun k hk => by
    unfold match_Size.f
    rw [hmx k (by omega)]
    simp only [Option.bind_some]
    have := size_l0 0 m (by omega) m.length 0 (by omega) (by omega) k (by omega)
    rw [show m.length = L by omega] at this ⊢
    exact this
  refine ⟨next, m, b, l, r, K + L + R + 1, c, fun k hk => hmx k (by omega), fun k hk => hsz k (by omega), fun k hk => ?_, fun k hk => ?_, fun k hk => ?_⟩
  · unfold toruslaw30_size.f
    rw [given_spec _ _ g.len]
    simp only [Option.bind_some]
    rw [hsz k (by omega)]
    rfl
  · unfold match_Hall.f
    rw [hc]
    simp only [Option.bind_some, if_true]
    rw [h1 k (by omega)]
    simp only [Option.bind_some]
    unfold match_reach.f
    rw [h2 k (by omega)]
    simp only [Option.bind_some]
    rw [h3 k (by omega)]
    simp only [Option.bind_some]
    rw [chosen_spec true l (by omega) k (by omega), chosen_spec true r (by omega) k (by omega), show l.length = L by omega, lr]
    simp only [Option.bind_some, bool_beq_true]
    have eq : cnt L (fun x => rdOf false l x) = cnt L (tr l) := rfl
    by_cases h : cnt L (tr l) = 0
    · rw [if_pos h, if_pos (by rw [sel_length, eq]; omega)]
    · rw [if_neg h, if_neg (by rw [sel_length, eq]; omega)]
  · unfold match_Cover.f
    rw [hc]
    simp only [Option.bind_some, if_true]
    rw [h1 k (by omega)]
    simp only [Option.bind_some]
    unfold match_reach.f
    rw [h2 k (by omega)]
    simp only [Option.bind_some]
    rw [h3 k (by omega)]
    simp only [Option.bind_some]
    rw [chosen_spec false l (by omega) k (by omega), chosen_spec true r (by omega) k (by omega), show l.length = L by omega, lr]
    simp only [Option.bind_some, bool_beq_true, bool_beq_false]
end Go.Proofs.Ytlleokhmgblfnaa.P
namespace Go.Proofs.Ytlleokhmgblfnaa.P
open Go.RowKit Go.Proofs.YtlleokhmgblfnaaW.PrintWords Go.Proofs.Ytlleokhmgblfnaa.H Go.Proofs.Ytlleokhmgblfnaa.M
theorem chkGo_pw (L R : Int) : ∀ (E : List (Int × Int)) (p : Option (Int × Int)), chkGo L R p E = 0 → E.Pairwise lexB ∧ ∀ q, p = some q → ∀ y ∈ E, lexB q y
  | [], p, _ => ⟨List.Pairwise.nil, fun _ _ y hy => by cases hy⟩
  | x :: E, p, h => by
    unfold chkGo at h
    split at h
    · omega
    · have ih := chkGo_pw L R E (some x)
      cases p with
      | none =>
        obtain ⟨a, b⟩ := ih h
        exact ⟨List.pairwise_cons.2 ⟨b x rfl, a⟩, fun q hq => by cases hq⟩
      | some q =>
        simp only at h
        split at h
        · omega
        · rename_i h5
          split at h
          · omega
          · rename_i h6
            obtain ⟨a, b⟩ := ih h
            have hqx : lexB q x := by
              unfold lexB
              obtain ⟨q1, q2⟩ := q
              obtain ⟨x1, x2⟩ := x
              simp only [Prod.mk.injEq] at h5 h6 ⊢
              omega
            refine ⟨List.pairwise_cons.2 ⟨b x rfl, a⟩, fun q' hq y hy => ?_⟩
            cases hq
            rcases List.mem_cons.1 hy with e | hy
            · subst e; exact hqx
            · have := b x rfl y hy
              unfold lexB at *
              omega
theorem chkGo_mk (L R : Int) : ∀ (E : List (Int × Int)) (p : Option (Int × Int)), (∀ x ∈ E, 0 ≤ x.1 ∧ x.1 < L ∧ 0 ≤ x.2 ∧ x.2 < R) → E.Pairwise lexB → (∀ q, p = some q → ∀ y ∈ E, lexB q y) → chkGo L R p E = 0
  | [], p, _, _, _ => by unfold chkGo; rfl
  | x :: E, p, hr, hs, hp => by
    have hx := hr x (by simp)
    rw [List.pairwise_cons] at hs
    have ih := chkGo_mk L R E (some x) (fun y hy => hr y (by simp [hy])) hs.2 (fun q hq y hy => by cases hq; exact hs.1 y hy)
    unfold chkGo
    rw [if_neg (by omega)]
    cases p with
    | none => exact ih
    | some q =>
      have := hp q rfl x (by simp)
      unfold lexB at this
      show (if q = x then _ else _) = _
      rw [if_neg (by intro e; subst e; omega), if_neg (by omega)]
      exact ih
theorem adj_mem {E : List S40} {v w : Int} : Adj E v w ↔ (⟨v, w⟩ : S40) ∈ E := by
  constructor
  · rintro ⟨j, j0, j1, rfl, rfl⟩; exact rd_T40_mem j0 j1
  · intro h
    obtain ⟨j, j0, j1, e⟩ := mem_rd_T40 h
    exact ⟨j, j0, j1, by rw [e], by rw [e]⟩
theorem rd_mid (pre suf : List S40) (y : S40) : rd_T40 (pre ++ y :: suf) pre.length = y := by
  unfold rd_T40
  simp
structure EOK (L R : Nat) (E : List S40) : Prop where
  rng : ∀ e ∈ E, 0 ≤ e.f0 ∧ e.f0 < L ∧ 0 ≤ e.f1 ∧ e.f1 < R
  srt : E.Pairwise (fun a b => lexB (prE a) (prE b))
theorem eok_of {L R : Nat} {E : List S40} (h : chk L R (E.map prE) = 0) : EOK L R E := by
  unfold chk at h
  split at h
  · omega
  · split at h
    · omega
    · refine ⟨fun e he => chkGo_rng L R _ none h (prE e) (List.mem_map_of_mem he), ?_⟩
      have := (chkGo_pw L R _ none h).1
      rwa [List.pairwise_map] at this
theorem chk_of_eok {L R : Nat} {E : List S40} (hL : L ≤ 1024) (hR : R ≤ 1024) (hl : E.length ≤ 65536) (h : EOK L R E) : chk L R (E.map prE) = 0 := by
  unfold chk
  rw [if_neg (by omega), if_neg (by simp; omega)]
  refine chkGo_mk L R _ none (fun x hx => ?_) ?_ (fun q hq => by cases hq)
  · obtain ⟨e, he, rfl⟩ := List.mem_map.1 hx
    exact h.rng e he
  · rw [List.pairwise_map]; exact h.srt
end Go.Proofs.Ytlleokhmgblfnaa.P
end

section
namespace Go.Proofs.Ytlleokhmgblfnaa.P
open Go.RowKit Go.Proofs.YtlleokhmgblfnaaW.PrintWords Go.Proofs.Ytlleokhmgblfnaa.H Go.Proofs.Ytlleokhmgblfnaa.M
structure BackOK (L R : Nat) (E : List S40) (back : List Int) : Prop where
  len : back.length = R
  ok : ∀ w : Int, 0 ≤ w → w < R → 0 ≤ rd back w → rd back w < L ∧ Adj E (rd back w) w
  inj : ∀ w w' : Int, 0 ≤ w → w < R → 0 ≤ w' → w' < R → 0 ≤ rd back w → rd back w = rd back w' → w = w'
structure Aug (L R : Nat) (E : List S40) (back : List Int) (seen : List Bool) (v : Int) (B : List Int) : Prop where
  len : B.length = R
  ok : ∀ w : Int, 0 ≤ w → w < R → rd back w ≠ v → 0 ≤ rd B w → rd B w < L ∧ Adj E (rd B w) w
  inj : ∀ w w' : Int, 0 ≤ w → w < R → 0 ≤ w' → w' < R → rd back w ≠ v → rd back w' ≠ v → 0 ≤ rd B w → rd B w = rd B w' → w = w'
  keep : ∀ w : Int, 0 ≤ w → w < R → tr seen w = true → rd B w = rd back w
  img : ∀ x : Int, 0 ≤ x → ((∃ w : Int, 0 ≤ w ∧ w < R ∧ rd back w ≠ v ∧ rd B w = x) ↔ (x = v ∨ ∃ w : Int, 0 ≤ w ∧ w < R ∧ rd back w ≠ v ∧ rd back w = x))
structure FS (L R : Nat) (E : List S40) (back : List Int) (seen : List Bool) (v : Int) (q : Bool × List Int × List Bool) : Prop where
  ls : q.2.2.length = R
  mono : ∀ w : Int, 0 ≤ w → w < R → tr seen w = true → tr q.2.2 w = true
  yes : q.1 = true → Aug L R E back seen v q.2.1
  no : q.1 = false → q.2.1 = back ∧ (∀ w : Int, Adj E v w → tr q.2.2 w = true) ∧ (∀ w : Int, 0 ≤ w → w < R → tr q.2.2 w = true → tr seen w = false → 0 ≤ rd back w ∧ ∀ w' : Int, Adj E (rd back w) w' → tr q.2.2 w' = true)
theorem find_spec {L R : Nat} {E : List S40} (g : GOK L R E) {back : List Int} (hb : BackOK L R E back) :
    ∀ (d : Nat) (seen : List Bool) (v : Int), seen.length = R → 0 ≤ v → v < L → (∀ w : Int, 0 ≤ w → w < R → rd back w = v → tr seen w = true) → cnt R (fun w => !tr seen w) ≤ d →
      ∃ K q, (∀ k, K ≤ k → torusref30_Find.f k L R E v back seen = some q) ∧ FS L R E back seen v q := by
  have hl := g.len
  have hlb := hb.len
  intro d
  induction d with
  | zero =>
    intro seen v hs hv0 hv1 hown hd
    have all : ∀ w : Int, 0 ≤ w → w < R → tr seen w = true := fun w h0 h1 => by
      by_cases h : tr seen w = true
      · exact h
      · rw [cnt_out (fun w => !tr seen w) w R h0 h1 (by simpa using h)] at hd
        omega
    have key : ∀ (e : Nat) (i : Int), (E.length : Int) = i + e → 0 ≤ i → ∀ k, 2 * e < k → torusref30_Find.l0 k v back seen E E.length i L R E = some (false, back, seen) := by
      intro e
      induction e with
      | zero =>
        intro i he hi k hk
        obtain ⟨k, rfl⟩ := fuel hk
        rw [torusref30_Find.l0, if_neg (by omega)]
      | succ e ih =>
        intro i he hi k hk
        obtain ⟨k, rfl⟩ : ∃ k', k = k' + 2 := ⟨k - 2, by omega⟩
        obtain ⟨a0, a1, a2, a3⟩ := g.rng i hi (by omega)
        have hn := ih (i + 1) (by omega) (by omega) k (by omega)
        have e1 : wrap64 (i + 1) = i + 1 := w64 (by omega) (by omega)
        rw [torusref30_Find.l0, if_pos (by omega), if_pos hi, if_pos (by omega)]
        by_cases h : (rd_T40 E i).f0 = v
        · rw [if_pos h, if_pos a2, if_pos (by omega), torusref30_Find.j1, if_pos (all _ a2 a3), e1]
          exact hn
        · rw [if_neg h, torusref30_Find.j1, if_pos rfl, e1]
          exact hn
    refine ⟨2 * E.length + 2, (false, back, seen), fun k hk => ?_, hs, fun _ _ _ h => h, (fun h => by cases h), fun _ => ⟨rfl, fun w hw => ?_, fun w h0 h1 h2 h3 => ?_⟩⟩
    · obtain ⟨k, rfl⟩ : ∃ k', k = k' + 1 := ⟨k - 1, by omega⟩
      rw [torusref30_Find.f]
      exact key E.length 0 (by omega) (by omega) k (by omega)
    · obtain ⟨j, j0, j1, j2, j3⟩ := hw
      have := g.rng j j0 j1
      exact all w (by omega) (by omega)
    · have h2' : tr seen w = true := h2
      rw [h2'] at h3; cases h3
  | succ d ih =>
    intro seen v hs hv0 hv1 hown hd
    have key : ∀ (e : Nat) (i : Int) (s : List Bool), (E.length : Int) = i + e → 0 ≤ i → s.length = R → (∀ w : Int, 0 ≤ w → w < R → tr seen w = true → tr s w = true) →
        (∀ j : Int, 0 ≤ j → j < i → (rd_T40 E j).f0 = v → tr s (rd_T40 E j).f1 = true) →
        (∀ w : Int, 0 ≤ w → w < R → tr s w = true → tr seen w = false → 0 ≤ rd back w ∧ ∀ w' : Int, Adj E (rd back w) w' → tr s w' = true) →
        ∃ K q, (∀ k, K ≤ k → torusref30_Find.l0 k v back s E E.length i L R E = some q) ∧ FS L R E back seen v q := by
      intro e
      induction e with
      | zero =>
        intro i s he hi hsl hmo hse hcl
        refine ⟨1, (false, back, s), fun k hk => ?_, hsl, hmo, (fun h => by cases h), fun _ => ⟨rfl, fun w hw => ?_, hcl⟩⟩
        · obtain ⟨k, rfl⟩ : ∃ k', k = k' + 1 := ⟨k - 1, by omega⟩
          rw [torusref30_Find.l0, if_neg (by omega)]
        · obtain ⟨j, j0, j1, j2, j3⟩ := hw
          have := hse j j0 (by omega) j2
          rwa [j3] at this
      | succ e ihe =>
        intro i s he hi hsl hmo hse hcl
        obtain ⟨a0, a1, a2, a3⟩ := g.rng i hi (by omega)
        have e1 : wrap64 (i + 1) = i + 1 := w64 (by omega) (by omega)
        have skip : (∀ k, torusref30_Find.l0 (k + 2) v back s E E.length i L R E = torusref30_Find.l0 k v back s E E.length (i + 1) L R E) → ((rd_T40 E i).f0 = v → tr s (rd_T40 E i).f1 = true) →
            ∃ K q, (∀ k, K ≤ k → torusref30_Find.l0 k v back s E E.length i L R E = some q) ∧ FS L R E back seen v q := fun h1 h2 => by
          obtain ⟨K, q, hK, S⟩ := ihe (i + 1) s (by omega) (by omega) hsl hmo (fun j j0 j1 j2 => by
            by_cases ej : j = i
            · subst ej; exact h2 j2
            · exact hse j j0 (by omega) j2) hcl
          refine ⟨K + 2, q, fun k hk => ?_, S⟩
          obtain ⟨k, rfl⟩ : ∃ k', k = k' + 2 := ⟨k - 2, by omega⟩
          rw [h1]
          exact hK k (by omega)
        by_cases hv : (rd_T40 E i).f0 = v
        case neg =>
          refine skip (fun k => ?_) (fun h => absurd h hv)
          rw [torusref30_Find.l0, if_pos (by omega), if_pos hi, if_pos (by omega), if_neg hv, torusref30_Find.j1, if_pos rfl, e1]
        obtain ⟨x, hx⟩ : ∃ x, (rd_T40 E i).f1 = x := ⟨_, rfl⟩
        rw [hx] at a2 a3
        by_cases hsx : tr s x = true
        · refine skip (fun k => ?_) (fun _ => by rw [hx]; exact hsx)
          rw [torusref30_Find.l0, if_pos (by omega), if_pos hi, if_pos (by omega), if_pos hv, hx, if_pos a2, if_pos (by omega), torusref30_Find.j1, if_pos hsx, e1]
        have hsx' : tr s x = false := by simpa using hsx
        have hax : Adj E v x := ⟨i, hi, by omega, hv, hx⟩
        have hseen : tr seen x = false := by
          by_cases h : tr seen x = true
          · exact absurd (hmo x a2 a3 h) hsx
          · simpa using h
        have step : ∀ k, torusref30_Find.l0 (k + 2) v back s E E.length i L R E = (if (rd back x) < 0 then (some (true, (back.set x.toNat v), s.set x.toNat true)) else ((torusref30_Find.f k L R E (rd back x) back (s.set x.toNat true)).bind fun bt337 => (if bt337.1 = true then (some (true, (bt337.2.1.set x.toNat v), bt337.2.2)) else (torusref30_Find.l0 k v bt337.2.1 bt337.2.2 E E.length (i + 1) L R E)))) := fun k => by
          rw [torusref30_Find.l0, if_pos (by omega), if_pos hi, if_pos (by omega), if_pos hv, hx, if_pos a2, if_pos (by omega), torusref30_Find.j1, if_neg hsx, if_pos a2, if_pos (by omega)]
          simp only [Option.bind_some]
          rw [if_pos (by omega), e1]
        have hss : ∀ y : Int, 0 ≤ y → tr (s.set x.toNat true) y = if y = x then true else tr s y := fun y h => tr_set s x y true a2 (by omega) h
        have hsup : ∀ y : Int, 0 ≤ y → tr s y = true → tr (s.set x.toNat true) y = true := fun y h h1 => by rw [hss y h]; split <;> simp [*]
        by_cases hbx : rd back x < 0
        · refine ⟨2, (true, back.set x.toNat v, s.set x.toNat true), fun k hk => ?_, by simpa using hsl, fun w h0 h1 h2 => hsup w h0 (hmo w h0 h1 h2), fun _ => ?_, (fun h => by cases h)⟩
          · obtain ⟨k, rfl⟩ : ∃ k', k = k' + 2 := ⟨k - 2, by omega⟩
            rw [step, if_pos hbx]
          · have hbs : ∀ y : Int, 0 ≤ y → rd (back.set x.toNat v) y = if y = x then v else rd back y := fun y h => rd_set back x y v a2 (by omega) h
            show Aug L R E back seen v (back.set x.toNat v)
            refine ⟨by simpa using hlb, fun w h0 h1 h2 h3 => ?_, fun w w' h0 h1 h2 h3 h4 h5 h6 h7 => ?_, fun w h0 h1 h2 => ?_, fun y hy => ?_⟩
            · rw [hbs w h0] at h3 ⊢
              by_cases ew : w = x
              · subst ew; rw [if_pos rfl]; exact ⟨hv1, hax⟩
              · rw [if_neg ew] at h3 ⊢; exact hb.ok w h0 h1 h3
            · rw [hbs w h0] at h6 h7
              rw [hbs w' h2] at h7
              by_cases ew : w = x
              · by_cases ew' : w' = x
                · rw [ew, ew']
                · rw [if_pos ew, if_neg ew'] at h7; exact absurd h7.symm h5
              · by_cases ew' : w' = x
                · rw [if_neg ew, if_pos ew'] at h7; exact absurd h7 h4
                · rw [if_neg ew] at h6
                  rw [if_neg ew, if_neg ew'] at h7
                  exact hb.inj w w' h0 h1 h2 h3 h6 h7
            · rw [hbs w h0, if_neg (fun e => by rw [e, hseen] at h2; cases h2)]
            · constructor
              · rintro ⟨w, w0, w1, w2, w3⟩
                rw [hbs w w0] at w3
                by_cases ew : w = x
                · rw [if_pos ew] at w3; exact .inl w3.symm
                · rw [if_neg ew] at w3; exact .inr ⟨w, w0, w1, w2, w3⟩
              · rintro (e | ⟨w, w0, w1, w2, w3⟩)
                · exact ⟨x, a2, a3, by omega, by rw [hbs x a2, if_pos rfl, e]⟩
                · exact ⟨w, w0, w1, w2, by rw [hbs w w0, if_neg (fun e => by subst e; omega)]; exact w3⟩
        · obtain ⟨u, hu⟩ : ∃ u, rd back x = u := ⟨_, rfl⟩
          have hu0 : 0 ≤ u := by omega
          obtain ⟨hu1, hua⟩ := hb.ok x a2 a3 (by omega)
          rw [hu] at hu1 hua
          have huv : u ≠ v := fun e => by
            have := hown x a2 a3 (hu.trans e)
            rw [hseen] at this; cases this
          have hcn : cnt R (fun w => !tr s w) ≤ cnt R (fun w => !tr seen w) := cnt_mono _ (fun w h0 h1 h2 => by
            cases h : tr seen w with
            | false => rfl
            | true => rw [hmo w h0 h1 h] at h2; cases h2)
          have hcs : cnt R (fun w => !tr s w) = cnt R (fun w => !tr (s.set x.toNat true) w) + 1 := by
            rw [cnt_out (fun w => !tr s w) x R a2 a3 (by simp [hsx'])]
            congr 1
            refine cnt_congr _ (fun y h0 h1 => ?_)
            rw [hss y h0]
            by_cases ey : y = x
            · subst ey; simp
            · rw [if_neg ey]; simp [ey]
          obtain ⟨K1, q, hK1, S⟩ := ih (s.set x.toNat true) u (by simpa using hsl) hu0 hu1 (fun w h0 h1 h2 => by
            have : w = x := hb.inj w x h0 h1 a2 a3 (by omega) (by omega)
            rw [hss w h0, if_pos this]) (by omega)
          obtain ⟨q0, qb, qs⟩ := q
          have xone : ∀ w : Int, 0 ≤ w → w < R → (rd back w ≠ u ↔ w ≠ x) := fun w h0 h1 => by
            constructor
            · intro h e; subst e; exact h hu
            · intro h e; exact h (hb.inj w x h0 h1 a2 a3 (by omega) (by omega))
          cases q0 with
          | true =>
            have A := S.yes rfl
            have Al : qb.length = R := A.len
            refine ⟨K1 + 2, (true, qb.set x.toNat v, qs), fun k hk => ?_, S.ls, fun w h0 h1 h2 => S.mono w h0 h1 (hsup w h0 (hmo w h0 h1 h2)), fun _ => ?_, (fun h => by cases h)⟩
            · obtain ⟨k, rfl⟩ : ∃ k', k = k' + 2 := ⟨k - 2, by omega⟩
              rw [step, if_neg hbx, hu, hK1 k (by omega)]
              rfl
            · have hbs : ∀ y : Int, 0 ≤ y → rd (qb.set x.toNat v) y = if y = x then v else rd qb y := fun y h => rd_set qb x y v a2 (by omega) h
              have hold : ∀ w : Int, 0 ≤ w → w < R → rd back w = v → w ≠ x ∧ rd qb w = v := fun w h0 h1 h2 => by
                have hsw := hown w h0 h1 h2
                have ne : w ≠ x := fun e => by rw [e, hseen] at hsw; cases hsw
                exact ⟨ne, by rw [A.keep w h0 h1 (hsup w h0 (hmo w h0 h1 hsw))]; exact h2⟩
              show Aug L R E back seen v (qb.set x.toNat v)
              refine ⟨by simpa using Al, fun w h0 h1 h2 h3 => ?_, fun w w' h0 h1 h2 h3 h4 h5 h6 h7 => ?_, fun w h0 h1 h2 => ?_, fun y hy => ?_⟩
              · rw [hbs w h0] at h3 ⊢
                by_cases ew : w = x
                · subst ew; rw [if_pos rfl]; exact ⟨hv1, hax⟩
                · rw [if_neg ew] at h3 ⊢; exact A.ok w h0 h1 ((xone w h0 h1).2 ew) h3
              · have cross : ∀ w' : Int, 0 ≤ w' → w' < R → w' ≠ x → rd back w' ≠ v → rd qb w' = v → False := fun w' h2 h3 ne h5 h7 => by
                  rcases (A.img v hv0).1 ⟨w', h2, h3, (xone w' h2 h3).2 ne, h7⟩ with h | ⟨y, y0, y1, y2, y3⟩
                  · exact huv h.symm
                  · obtain ⟨z1, z2⟩ := hold y y0 y1 y3
                    have := A.inj w' y h2 h3 y0 y1 ((xone w' h2 h3).2 ne) y2 (by show 0 ≤ rd qb w'; omega) (by show rd qb w' = rd qb y; rw [h7, z2])
                    subst this
                    exact h5 y3
                rw [hbs w h0] at h6 h7
                rw [hbs w' h2] at h7
                by_cases ew : w = x
                · by_cases ew' : w' = x
                  · rw [ew, ew']
                  · rw [if_pos ew, if_neg ew'] at h7
                    exact (cross w' h2 h3 ew' h5 h7.symm).elim
                · by_cases ew' : w' = x
                  · rw [if_neg ew, if_pos ew'] at h7
                    exact (cross w h0 h1 ew h4 h7).elim
                  · rw [if_neg ew] at h6
                    rw [if_neg ew, if_neg ew'] at h7
                    exact A.inj w w' h0 h1 h2 h3 ((xone w h0 h1).2 ew) ((xone w' h2 h3).2 ew') h6 h7
              · have ne : w ≠ x := fun e => by rw [e, hseen] at h2; cases h2
                rw [hbs w h0, if_neg ne]
                exact A.keep w h0 h1 (hsup w h0 (hmo w h0 h1 h2))
              · constructor
                · rintro ⟨w, w0, w1, w2, w3⟩
                  rw [hbs w w0] at w3
                  by_cases ew : w = x
                  · rw [if_pos ew] at w3; exact .inl w3.symm
                  · rw [if_neg ew] at w3
                    rcases (A.img y hy).1 ⟨w, w0, w1, (xone w w0 w1).2 ew, w3⟩ with h | ⟨z, z0, z1, z2, z3⟩
                    · exact .inr ⟨x, a2, a3, by rw [hu]; exact huv, by rw [hu, h]⟩
                    · by_cases ez : rd back z = v
                      · exact .inl (by rw [← z3, ez])
                      · exact .inr ⟨z, z0, z1, ez, z3⟩
                · have back' : (∃ z : Int, 0 ≤ z ∧ z < R ∧ rd back z ≠ u ∧ rd qb z = y) → ∃ w : Int, 0 ≤ w ∧ w < R ∧ rd back w ≠ v ∧ rd (qb.set x.toNat v) w = y := by
                    rintro ⟨z, z0, z1, z2, z3⟩
                    by_cases ez : rd back z = v
                    · obtain ⟨c1, c2⟩ := hold z z0 z1 ez
                      exact ⟨x, a2, a3, by rw [hu]; exact huv, by rw [hbs x a2, if_pos rfl, ← z3, c2]⟩
                    · exact ⟨z, z0, z1, ez, by rw [hbs z z0, if_neg ((xone z z0 z1).1 z2)]; exact z3⟩
                  rintro (e | ⟨w, w0, w1, w2, w3⟩)
                  · exact ⟨x, a2, a3, by rw [hu]; exact huv, by rw [hbs x a2, if_pos rfl, e]⟩
                  · by_cases ew : w = x
                    · exact back' ((A.img y hy).2 (.inl (by rw [← w3, ew, hu])))
                    · exact back' ((A.img y hy).2 (.inr ⟨w, w0, w1, (xone w w0 w1).2 ew, w3⟩))
          | false =>
            obtain ⟨n1, n2, n3⟩ := S.no rfl
            have n1' : qb = back := n1
            subst n1'
            have Sm : ∀ w : Int, 0 ≤ w → w < R → tr (s.set x.toNat true) w = true → tr qs w = true := S.mono
            have Sl : qs.length = R := S.ls
            have hin : ∀ w' : Int, ∀ y, Adj E y w' → 0 ≤ w' ∧ w' < R := fun w' y ⟨j, j0, j1, j2, j3⟩ => by
              have := g.rng j j0 j1
              omega
            obtain ⟨K2, q2, hK2, S2⟩ := ihe (i + 1) qs (by omega) (by omega) Sl (fun w h0 h1 h2 => Sm w h0 h1 (hsup w h0 (hmo w h0 h1 h2)))
              (fun j j0 j1 j2 => by
                have := g.rng j j0 (by omega)
                by_cases ej : j = i
                · subst ej
                  rw [hx]
                  exact Sm x a2 a3 (by rw [hss x a2, if_pos rfl])
                · exact Sm _ this.2.2.1 this.2.2.2 (hsup _ this.2.2.1 (hse j j0 (by omega) j2)))
              (fun w h0 h1 h2 h3 => by
                by_cases ew : w = x
                · subst ew
                  rw [hu]
                  exact ⟨hu0, n2⟩
                · by_cases hsw : tr s w = true
                  · obtain ⟨c1, c2⟩ := hcl w h0 h1 hsw h3
                    exact ⟨c1, fun w' hw' => by
                      obtain ⟨d0, d1⟩ := hin w' _ hw'
                      exact Sm w' d0 d1 (hsup w' d0 (c2 w' hw'))⟩
                  · exact n3 w h0 h1 h2 (by rw [hss w h0, if_neg ew]; simpa using hsw))
            refine ⟨max K1 K2 + 2, q2, fun k hk => ?_, S2⟩
            obtain ⟨k, rfl⟩ : ∃ k', k = k' + 2 := ⟨k - 2, by omega⟩
            rw [step, if_neg hbx, hu, hK1 k (by omega)]
            exact hK2 k (by omega)
    obtain ⟨K, q, hK, S⟩ := key E.length 0 seen (by omega) (by omega) hs (fun _ _ _ h => h) (fun j j0 j1 => by omega) (fun w h0 h1 h2 h3 => by rw [h2] at h3; cases h3)
    refine ⟨K + 1, q, fun k hk => ?_, S⟩
    obtain ⟨k, rfl⟩ : ∃ k', k = k' + 1 := ⟨k - 1, by omega⟩
    rw [torusref30_Find.f]
    exact hK k (by omega)
end Go.Proofs.Ytlleokhmgblfnaa.P
end

section
namespace Go.Proofs.Ytlleokhmgblfnaa.P
open Go.RowKit Go.Proofs.YtlleokhmgblfnaaW.PrintWords Go.Proofs.Ytlleokhmgblfnaa.H Go.Proofs.Ytlleokhmgblfnaa.M
open Classical in
noncomputable def mt (R : Nat) (back : List Int) (x : Int) : Int := if h : ∃ w : Int, 0 ≤ w ∧ w < R ∧ rd back w = x then Classical.choose h else -1
theorem mt_yes {R : Nat} {back : List Int} {x : Int} (h : 0 ≤ mt R back x) : mt R back x < R ∧ rd back (mt R back x) = x := by
  unfold mt at h ⊢
  split
  · rename_i h2
    have := Classical.choose_spec h2
    exact ⟨this.2.1, this.2.2⟩
  · rename_i h2; rw [dif_neg h2] at h; omega
theorem mt_of {R : Nat} {back : List Int} {x w : Int} (h0 : 0 ≤ w) (h1 : w < R) (h2 : rd back w = x) : 0 ≤ mt R back x := by
  unfold mt
  rw [dif_pos ⟨w, h0, h1, h2⟩]
  exact (Classical.choose_spec (⟨w, h0, h1, h2⟩ : ∃ w : Int, 0 ≤ w ∧ w < R ∧ rd back w = x)).1
theorem has_mt (R : Nat) (back : List Int) (x : Int) : has (mt R back) x = true ↔ ∃ w : Int, 0 ≤ w ∧ w < R ∧ rd back w = x := by
  unfold has
  rw [decide_eq_true_iff]
  constructor
  · intro h; exact ⟨_, h, mt_yes h⟩
  · rintro ⟨w, h0, h1, h2⟩; exact mt_of h0 h1 h2
theorem isM_mt {L R : Nat} {E : List S40} {back : List Int} (hb : BackOK L R E back) (n : Nat) : IsM n R (Adj E) (mt R back) := by
  refine ⟨fun v h0 h1 h2 => (mt_yes h2).1, fun v h0 h1 h2 => ?_, fun v v' h0 h1 h2 h3 h4 e => ?_⟩
  · obtain ⟨a, d⟩ := mt_yes h2
    have := (hb.ok _ h2 a (by omega)).2
    rwa [d] at this
  · rw [← (mt_yes h4).2, e, (mt_yes (e ▸ h4)).2]
structure NI (L R : Nat) (E : List S40) (v n : Nat) (back : List Int) : Prop where
  ok : BackOK L R E back
  lt : ∀ w : Int, 0 ≤ w → w < R → rd back w < v
  size : msize v (mt R back) = n
  max : IsMax v R (Adj E) n
theorem ni_yes {L R : Nat} {E : List S40} {v n : Nat} {back B : List Int} {seen : List Bool} (h : NI L R E v n back) (hA : Aug L R E back seen v B) : NI L R E (v + 1) (n + 1) B := by
  have good : ∀ w : Int, 0 ≤ w → w < R → rd back w ≠ v := fun w h0 h1 => by have := h.lt w h0 h1; omega
  have hok : BackOK L R E B := ⟨hA.len, fun w h0 h1 h2 => hA.ok w h0 h1 (good w h0 h1) h2, fun w w' h0 h1 h2 h3 h4 e => hA.inj w w' h0 h1 h2 h3 (good w h0 h1) (good w' h2 h3) h4 e⟩
  have img : ∀ x : Int, 0 ≤ x → (has (mt R B) x = true ↔ x = v ∨ has (mt R back) x = true) := fun x hx => by
    rw [has_mt, has_mt]
    have := hA.img x hx
    constructor
    · rintro ⟨w, h0, h1, h2⟩
      rcases this.1 ⟨w, h0, h1, good w h0 h1, h2⟩ with e | ⟨y, y0, y1, y2, y3⟩
      · exact .inl e
      · exact .inr ⟨y, y0, y1, y3⟩
    · rintro (e | ⟨w, h0, h1, h2⟩)
      · obtain ⟨y, y0, y1, y2, y3⟩ := this.2 (.inl e); exact ⟨y, y0, y1, y3⟩
      · obtain ⟨y, y0, y1, y2, y3⟩ := this.2 (.inr ⟨w, h0, h1, good w h0 h1, h2⟩); exact ⟨y, y0, y1, y3⟩
  have hsz : msize (v + 1) (mt R B) = n + 1 := by
    unfold msize
    rw [cnt_succ, if_pos ((img v (by omega)).2 (.inl rfl)), ← h.size]
    unfold msize
    congr 1
    refine cnt_congr _ (fun x h0 h1 => ?_)
    have hx := img x h0
    have : x ≠ v := by omega
    cases ha : has (mt R B) x <;> cases hb : has (mt R back) x <;> simp_all
  refine ⟨hok, fun w h0 h1 => ?_, hsz, ⟨mt R B, isM_mt hok _, hsz⟩, fun M hM => ?_⟩
  · by_cases hw : 0 ≤ rd B w
    · rcases (img (rd B w) hw).1 ((has_mt _ _ _).2 ⟨w, h0, h1, rfl⟩) with e | e
      · omega
      · obtain ⟨y, y0, y1, y2⟩ := (has_mt _ _ _).1 e
        have := h.lt y y0 y1
        omega
    · omega
  · have := h.max.all M ⟨fun x a d f => hM.lt x a (by omega) f, fun x a d f => hM.adj x a (by omega) f, fun x x' a d a' d' f e => hM.inj x x' a (by omega) a' (by omega) f e⟩
    unfold msize at *
    rw [cnt_succ]
    split <;> omega
theorem ni_no {L R : Nat} {E : List S40} {v n : Nat} {back : List Int} {S : List Bool} (g : GOK L R E) (h : NI L R E v n back) (hv : ∀ w : Int, Adj E v w → tr S w = true) (hc : ∀ w : Int, 0 ≤ w → w < R → tr S w = true → 0 ≤ rd back w ∧ ∀ w' : Int, Adj E (rd back w) w' → tr S w' = true) : NI L R E (v + 1) n back := by
  have hvn : has (mt R back) v = false := by
    cases hh : has (mt R back) v with
    | false => rfl
    | true =>
      obtain ⟨w, h0, h1, h2⟩ := (has_mt _ _ _).1 hh
      have := h.lt w h0 h1
      omega
  have hsz : msize (v + 1) (mt R back) = n := by
    rw [← h.size]
    unfold msize
    rw [cnt_succ, hvn]
    rfl
  refine ⟨h.ok, fun w h0 h1 => by have := h.lt w h0 h1; omega, hsz, ⟨mt R back, isM_mt h.ok _, hsz⟩, fun M hM => ?_⟩
  -- the matching is changed so that it leaves v out
  let Z : Int → Bool := fun x => has (mt R back) x && tr S (mt R back x)
  let MS : Int → Bool := fun x => has M x && tr S (M x)
  let MN : Int → Bool := fun x => has M x && !tr S (M x)
  let M' : Int → Int := fun x => if Z x = true then mt R back x else if MS x = true then -1 else M x
  have zM : ∀ x : Int, Z x = true → 0 ≤ mt R back x ∧ mt R back x < R ∧ rd back (mt R back x) = x ∧ tr S (mt R back x) = true := fun x hx => by
    have hx : (has (mt R back) x && tr S (mt R back x)) = true := hx
    rw [Bool.and_eq_true] at hx
    have h0 : 0 ≤ mt R back x := by simpa [has] using hx.1
    exact ⟨h0, (mt_yes h0).1, (mt_yes h0).2, hx.2⟩
  have zN : ∀ x : Int, 0 ≤ x → x < v + 1 → Z x = true → MN x = false := fun x h0 h1 hx => by
    obtain ⟨a1, a2, a3, a4⟩ := zM x hx
    by_cases hm : has M x = true
    · have h2 : 0 ≤ M x := by simpa [has] using hm
      have := (hc _ a1 a2 a4).2 (M x) (by rw [a3]; exact hM.adj x h0 (by omega) h2)
      show (has M x && !tr S (M x)) = false
      rw [this]; simp
    · show (has M x && !tr S (M x)) = false
      simp [hm]
  have m1 : ∀ x : Int, Z x = true → M' x = mt R back x := fun x hx => if_pos hx
  have m2 : ∀ x : Int, ¬ Z x = true → 0 ≤ M' x → M' x = M x ∧ 0 ≤ M x ∧ tr S (M x) = false := fun x hx h0 => by
    have e : M' x = if MS x = true then -1 else M x := if_neg hx
    rw [e] at h0 ⊢
    by_cases hs : MS x = true
    · rw [if_pos hs] at h0; omega
    · rw [if_neg hs] at h0 ⊢
      refine ⟨rfl, h0, ?_⟩
      have hs : ¬ (has M x && tr S (M x)) = true := hs
      cases ht : tr S (M x) with
      | false => rfl
      | true => rw [ht] at hs; simp [has, h0] at hs
  have hM' : IsM v R (Adj E) M' := by
    refine ⟨fun x h0 h1 h2 => ?_, fun x h0 h1 h2 => ?_, fun x x' h0 h1 h2 h3 h4 e => ?_⟩
    · by_cases hz : Z x = true
      · rw [m1 x hz]; exact (zM x hz).2.1
      · obtain ⟨a1, a2, a3⟩ := m2 x hz h2
        rw [a1]; exact hM.lt x h0 (by omega) a2
    · by_cases hz : Z x = true
      · rw [m1 x hz]; exact (isM_mt h.ok v).adj x h0 h1 (zM x hz).1
      · obtain ⟨a1, a2, a3⟩ := m2 x hz h2
        rw [a1]; exact hM.adj x h0 (by omega) a2
    · by_cases hz : Z x = true
      · by_cases hz' : Z x' = true
        · rw [m1 x hz, m1 x' hz'] at e
          rw [← (zM x hz).2.2.1, ← (zM x' hz').2.2.1, e]
        · obtain ⟨a1, a2, a3⟩ := m2 x' hz' (by omega)
          rw [m1 x hz, a1] at e
          rw [← e, (zM x hz).2.2.2] at a3
          cases a3
      · obtain ⟨a1, a2, a3⟩ := m2 x hz h4
        by_cases hz' : Z x' = true
        · rw [a1, m1 x' hz'] at e
          rw [e, (zM x' hz').2.2.2] at a3
          cases a3
        · obtain ⟨b1, b2, b3⟩ := m2 x' hz' (by omega)
          rw [a1, b1] at e
          exact hM.inj x x' h0 (by omega) h2 (by omega) a2 e
  have hle := h.max.all M' hM'
  have c1 : msize (v + 1) M = cnt (v + 1) MS + cnt (v + 1) MN := cnt_split (has M) (fun x => tr S (M x)) (v + 1)
  have c2 : cnt (v + 1) MS ≤ cnt R (tr S) := cnt_inj M R (v + 1) _ (fun x h0 h1 hx => by
      have hx : (has M x && tr S (M x)) = true := hx
      rw [Bool.and_eq_true] at hx
      have h2 : 0 ≤ M x := by simpa [has] using hx.1
      exact ⟨h2, hM.lt x h0 h1 h2, hx.2⟩) (fun x x' h0 h1 h2 h3 h4 h5 e => by
      have hx : (has M x && tr S (M x)) = true := h4
      rw [Bool.and_eq_true] at hx
      exact hM.inj x x' h0 h1 h2 h3 (by simpa [has] using hx.1) e)
  have c3 : cnt R (tr S) ≤ cnt v Z := cnt_inj (rd back) v R _ (fun w h0 h1 hw => by
      obtain ⟨a1, a2⟩ := hc w h0 h1 hw
      have b1 := mt_of (x := rd back w) h0 h1 rfl
      obtain ⟨b2, b3⟩ := mt_yes b1
      have : mt R back (rd back w) = w := h.ok.inj _ w b1 b2 h0 h1 (by omega) b3
      refine ⟨a1, h.lt w h0 h1, ?_⟩
      show (has (mt R back) (rd back w) && tr S (mt R back (rd back w))) = true
      rw [this, hw, (has_mt R back _).2 ⟨w, h0, h1, rfl⟩]
      rfl) (fun w w' h0 h1 h2 h3 h4 h5 e => h.ok.inj w w' h0 h1 h2 h3 (hc w h0 h1 h4).1 e)
  have c4 : cnt (v + 1) MN = cnt v MN := by
    rw [cnt_succ]
    have : MN v = false := by
      by_cases hm : has M v = true
      · have h2 : 0 ≤ M v := by simpa [has] using hm
        have := hv (M v) (hM.adj v (by omega) (by omega) h2)
        show (has M v && !tr S (M v)) = false
        rw [this]; simp
      · show (has M v && !tr S (M v)) = false
        simp [hm]
    rw [this]
    rfl
  have c5 : msize v M' = cnt v (fun x => has M' x && Z x) + cnt v (fun x => has M' x && !Z x) := cnt_split (has M') Z v
  have c6 : cnt v Z ≤ cnt v (fun x => has M' x && Z x) := cnt_mono v (fun x h0 h1 hz => by
    have : has M' x = true := by unfold has; rw [m1 x hz]; simpa using (zM x hz).1
    rw [this, hz]
    rfl)
  have c7 : cnt v MN ≤ cnt v (fun x => has M' x && !Z x) := cnt_mono v (fun x h0 h1 hn => by
    have hz : ¬ Z x = true := fun hz => by rw [zN x h0 (by omega) hz] at hn; cases hn
    have hn' : (has M x && !tr S (M x)) = true := hn
    rw [Bool.and_eq_true] at hn'
    have hms : ¬ MS x = true := fun hs => by
      have hs : (has M x && tr S (M x)) = true := hs
      rw [Bool.and_eq_true] at hs
      rw [hs.2] at hn'
      simp at hn'
    have e : M' x = M x := (if_neg hz).trans (if_neg hms)
    have : has M' x = true := by unfold has; rw [e]; simpa [has] using hn'.1
    rw [this]
    simpa using hz)
  omega
theorem number_l1 {L R : Nat} {E : List S40} (g : GOK L R E) : ∀ (d v n : Nat) (back : List Int), L = v + d → n ≤ v → NI L R E v n back →
    ∃ K s : Nat, (∀ k, K ≤ k → torusref30_Number.l1 k back n v L R E = some (s : Int)) ∧ IsMax L R (Adj E) s := by
  have hL := g.L1
  have hR := g.R1
  intro d
  induction d with
  | zero =>
    intro v n back hd hn hI
    have : v = L := by omega
    subst this
    refine ⟨1, n, fun k hk => ?_, hI.max⟩
    obtain ⟨k, rfl⟩ : ∃ k', k = k' + 1 := ⟨k - 1, by omega⟩
    rw [torusref30_Number.l1, if_neg (by omega)]
  | succ d ih =>
    intro v n back hd hn hI
    have ht : ∀ x, tr (List.replicate R false) x = false := fun x => tr_rep _ _
    obtain ⟨K1, q, hK1, S⟩ := find_spec g hI.ok R (List.replicate R false) v (by simp) (by omega) (by omega) (fun w h0 h1 h2 => by have := hI.lt w h0 h1; omega) (cnt_le _ _)
    have e1 : wrap64 ((v : Int) + 1) = ((v + 1 : Nat) : Int) := by rw [w64 (by omega) (by omega)]; rfl
    have e2 : wrap64 ((n : Int) + 1) = ((n + 1 : Nat) : Int) := by rw [w64 (by omega) (by omega)]; rfl
    have eR : ((R : Int)).toNat = R := rfl
    obtain ⟨q0, qb, qs⟩ := q
    cases q0 with
    | true =>
      obtain ⟨K2, s, hK2, hs⟩ := ih (v + 1) (n + 1) qb (by omega) (by omega) (ni_yes hI (S.yes rfl))
      refine ⟨max K1 K2 + 1, s, fun k hk => ?_, hs⟩
      obtain ⟨k, rfl⟩ : ∃ k', k = k' + 1 := ⟨k - 1, by omega⟩
      rw [torusref30_Number.l1, if_pos (by omega), if_pos (by omega), if_pos (by omega), eR, hK1 k (by omega)]
      simp only [Option.bind_some]
      rw [if_pos trivial, e1, e2]
      exact hK2 k (by omega)
    | false =>
      obtain ⟨n1, n2, n3⟩ := S.no rfl
      have n1' : qb = back := n1
      subst n1'
      obtain ⟨K2, s, hK2, hs⟩ := ih (v + 1) n qb (by omega) (by omega) (ni_no g hI n2 (fun w h0 h1 h2 => n3 w h0 h1 h2 (ht w)))
      refine ⟨max K1 K2 + 1, s, fun k hk => ?_, hs⟩
      obtain ⟨k, rfl⟩ : ∃ k', k = k' + 1 := ⟨k - 1, by omega⟩
      rw [torusref30_Number.l1, if_pos (by omega), if_pos (by omega), if_pos (by omega), eR, hK1 k (by omega)]
      simp only [Option.bind_some]
      rw [if_neg (by simp), e1]
      exact hK2 k (by omega)
theorem number_spec {L R : Nat} {E : List S40} (g : GOK L R E) : ∃ K s : Nat, (∀ k, K ≤ k → torusref30_Number.f k L R E = some (s : Int)) ∧ IsMax L R (Adj E) s := by
  have hL := g.L1
  have hR := g.R1
  have key : ∀ (d : Nat) (i : Int) (x : List Int), (R : Int) = i + d → 0 ≤ i → x.length = R → (∀ w : Int, 0 ≤ w → w < i → rd x w = -1) →
      ∃ x', x'.length = R ∧ (∀ w : Int, 0 ≤ w → w < R → rd x' w = -1) ∧ ∀ G s, (∀ k, G ≤ k → torusref30_Number.l1 k x' 0 0 L R E = some s) → ∀ k, G + d < k → torusref30_Number.l0 k x i L R E = some s := by
    intro d
    induction d with
    | zero =>
      intro i x hd hi hx h1
      refine ⟨x, hx, fun w a b => h1 w a (by omega), fun G s hG k hk => ?_⟩
      obtain ⟨k, rfl⟩ : ∃ k', k = k' + 1 := ⟨k - 1, by omega⟩
      rw [torusref30_Number.l0, if_neg (by omega)]
      exact hG k (by omega)
    | succ d ih =>
      intro i x hd hi hx h1
      obtain ⟨x', a1, a2, a3⟩ := ih (i + 1) (x.set i.toNat (-1)) (by omega) (by omega) (by simpa using hx) (fun w a b => by
        rw [rd_set x i w (-1) hi (by omega) a]
        by_cases e : w = i
        · rw [if_pos e]
        · rw [if_neg e]; exact h1 w a (by omega))
      refine ⟨x', a1, a2, fun G s hG k hk => ?_⟩
      obtain ⟨k, rfl⟩ : ∃ k', k = k' + 1 := ⟨k - 1, by omega⟩
      rw [torusref30_Number.l0, if_pos (by omega), if_pos hi, if_pos (by omega), w64 (by omega) (by omega)]
      exact a3 G s hG k (by omega)
  obtain ⟨x', a1, a2, a3⟩ := key R 0 (List.replicate R 0) (by omega) (by omega) (by simp) (fun w a b => by omega)
  have hok : BackOK L R E x' := ⟨a1, fun w h0 h1 h2 => by rw [a2 w h0 h1] at h2; omega, fun w w' h0 h1 h2 h3 h4 _ => by rw [a2 w h0 h1] at h4; omega⟩
  obtain ⟨K, s, hK, hs⟩ := number_l1 g L 0 0 x' (by omega) (by omega) ⟨hok, fun w h0 h1 => by rw [a2 w h0 h1]; omega, rfl, ⟨⟨mt R x', isM_mt hok _, rfl⟩, fun M _ => Nat.le_refl _⟩⟩
  refine ⟨K + R + 1, s, fun k hk => ?_, hs⟩
  unfold torusref30_Number.f
  rw [if_pos (by omega), if_pos (by omega)]
  exact a3 K s hK k (by omega)
end Go.Proofs.Ytlleokhmgblfnaa.P
end

section
namespace Go.Proofs.Ytlleokhmgblfnaa.P
open Go.RowKit Go.Proofs.YtlleokhmgblfnaaW.PrintWords Go.Proofs.Ytlleokhmgblfnaa.H Go.Proofs.Ytlleokhmgblfnaa.M
def FreeV (n R : Nat) (A : Int → Int → Prop) (s : Nat) (v : Int) : Prop := ∃ M, IsM n R A M ∧ msize n M = s ∧ ¬ 0 ≤ M v
section
variable {L R : Nat} {A : Int → Int → Prop} {next : List (List Int)} {m b : List Int} {l r : List Bool}
theorem Core.level_free (c : Core L R A next m b l r) (lv : List Int) (hlv : LInv next m b (-1) 0 false lv []) :
    ∀ (i : Nat) (x : Int), 0 ≤ x → x < L → rd lv x = i → ∃ M, IsM L R A M ∧ msize L M = msz L m ∧ ¬ 0 ≤ M x ∧ ∀ y : Int, 0 ≤ y → y < L → (i : Int) < rd lv y → M y = rd m y := by
  have nl := c.nl
  intro i
  induction i with
  | zero =>
    intro x h0 h1 h2
    have := (hlv.fr x h0 (by omega)).2 (by simpa using h2)
    exact ⟨rd m, c.isM, rfl, by omega, fun _ _ _ _ => rfl⟩
  | succ i ih =>
    intro x h0 h1 h2
    obtain ⟨p, p0, p1, p2, w, hw, p3⟩ := hlv.pr x h0 (by omega) (by omega)
    obtain ⟨M, hM, e, hp, hag⟩ := ih p p0 (by omega) (by omega)
    obtain ⟨w0, w1⟩ := c.nv p p0 p1 w hw
    have hmx : rd m x = w := by
      have := (c.hole.bb w w0 w1 (by omega) (by omega)).2
      rwa [p3] at this
    have hMx : M x = w := by rw [hag x h0 h1 (by omega), hmx]
    have hpx : p ≠ x := fun e => by subst e; omega
    have hap : A p w := (c.adj p w p0 (by omega)).1 hw
    refine ⟨fun y => if y = p then w else if y = x then -1 else M y, ⟨fun v a d f => ?_, fun v a d f => ?_, fun v v' a d a' d' f g => ?_⟩, ?_, ?_, fun y a d f => ?_⟩
    · by_cases ev : v = p
      · simp only [if_pos ev]; exact w1
      · by_cases ex : v = x
        · simp only [if_neg ev, if_pos ex] at f; omega
        · simp only [if_neg ev, if_neg ex] at f ⊢; exact hM.lt v a d f
    · by_cases ev : v = p
      · simp only [if_pos ev]; rw [ev]; exact hap
      · by_cases ex : v = x
        · simp only [if_neg ev, if_pos ex] at f; omega
        · simp only [if_neg ev, if_neg ex] at f ⊢; exact hM.adj v a d f
    · by_cases ev : v = p
      · by_cases ev' : v' = p
        · rw [ev, ev']
        · by_cases ex' : v' = x
          · simp only [if_pos ev, if_neg ev', if_pos ex'] at g; omega
          · simp only [if_pos ev, if_neg ev', if_neg ex'] at g
            exact absurd (hM.inj v' x a' d' h0 h1 (by omega) (by omega)) ex'
      · by_cases ex : v = x
        · simp only [if_neg ev, if_pos ex] at f; omega
        · simp only [if_neg ev, if_neg ex] at f g
          by_cases ev' : v' = p
          · simp only [if_pos ev'] at g
            exact absurd (hM.inj v x a d h0 h1 f (by omega)) ex
          · by_cases ex' : v' = x
            · simp only [if_neg ev', if_pos ex'] at g; omega
            · simp only [if_neg ev', if_neg ex'] at g
              exact hM.inj v v' a d a' d' f g
    · rw [← e]
      unfold msize
      rw [cnt_out (has M) x L h0 h1 (by unfold has; rw [hMx]; simpa using w0), ← cnt_put (fun i => has M i && i != x) p L p0 (by omega) (by simp [has]; omega)]
      refine cnt_congr L (fun y _ _ => ?_)
      unfold has
      by_cases ev : y = p
      · simp [ev, w0]
      · by_cases ex : y = x
        · subst ex; simp [ev]
        · have a1 : (y != x) = true := by simpa using ex
          have a2 : (y == p) = false := by simpa using ev
          simp [ev, ex, a1, a2]
    · simp only [if_neg hpx.symm, if_true]; omega
    · have ev : y ≠ p := fun e => by subst e; omega
      have ex : y ≠ x := fun e => by subst e; omega
      simp only [if_neg ev, if_neg ex]
      exact hag y a d (by omega)
theorem Core.le_ν (c : Core L R A next m b l r) : cnt L (fun x => !tr l x) + cnt R (tr r) = msz L m := by
  have e := c.count
  have e2 := cnt_not (tr l) L
  omega
theorem Core.cov (c : Core L R A next m b l r) (v w : Int) (h0 : 0 ≤ v) (h1 : v < L) (h : A v w) (hl : tr l v = true) : tr r w = true := by
  have nl := c.nl
  exact (c.rs.cl v h0 (by omega) hl w ((c.adj v w h0 h1).2 h)).1
theorem Core.free_iff (c : Core L R A next m b l r) (v : Int) (h0 : 0 ≤ v) (h1 : v < L) : tr l v = true ↔ FreeV L R A (msz L m) v := by
  have nl := c.nl
  constructor
  · intro h
    obtain ⟨lv, hlv⟩ := c.lin
    have hcl : Closed next m b (fun x => 0 ≤ rd lv x) := by
      refine ⟨fun x a d e => by have := (hlv.fr x a d).1 e; omega, fun x a d e w hw hb => ?_⟩
      exact (hlv.cl x a d e (by simp) (by omega) w hw).2 hb
    have hv := c.rs.le _ hcl v h0 (by omega) h
    obtain ⟨M, hM, e, hp, _⟩ := c.level_free lv hlv (rd lv v).toNat v h0 h1 (by omega)
    exact ⟨M, hM, e, hp⟩
  · rintro ⟨M, hM, e, hv⟩
    by_cases h : tr l v = true
    · exact h
    · exfalso
      have hM' : IsM L R (fun x w => A x w ∧ x ≠ v) M := ⟨hM.lt, fun x a d f => ⟨hM.adj x a d f, fun e => by subst e; exact hv f⟩, hM.inj⟩
      have := cover_bound hM' (fun x => !tr l x && x != v) (tr r) (fun x w a d a' d' ⟨f, g⟩ => by
        cases h4 : tr l x with
        | false => left; simp [g]
        | true => right; exact c.cov x w a d f h4)
      have e1 := cnt_out (fun x => !tr l x) v L h0 h1 (by simpa using h)
      have e2 := c.le_ν
      omega
theorem IsM.congr {n R : Nat} {A B : Int → Int → Prop} {M : Int → Int} (h : IsM n R A M) (e : ∀ v w : Int, 0 ≤ v → v < n → 0 ≤ w → w < R → A v w → B v w) : IsM n R B M :=
  ⟨h.lt, fun v a d f => e v (M v) a d f (h.lt v a d f) (h.adj v a d f), h.inj⟩
theorem IsMax.congr' {n R : Nat} {A B : Int → Int → Prop} {s : Nat} (h : IsMax n R A s) (e : ∀ v w : Int, 0 ≤ v → v < n → 0 ≤ w → w < R → (A v w ↔ B v w)) : IsMax n R B s := by
  obtain ⟨M, hM, hs⟩ := h.some
  exact ⟨⟨M, hM.congr (fun v w a d a' d' f => (e v w a d a' d').1 f), hs⟩, fun M hM => h.all M (hM.congr (fun v w a d a' d' f => (e v w a d a' d').2 f))⟩
theorem Core.isMaxT (c : Core L R A next m b l r) : IsMax R L (fun w v => A v w) (msz L m) := by
  have nl := c.nl
  have hb : ∀ w : Int, 0 ≤ w → w < R → 0 ≤ rd b w → rd b w < L ∧ rd m (rd b w) = w := fun w h0 h1 h2 => by
    have := c.hole.bb w h0 h1 (by omega) h2
    rwa [nl] at this
  have hm : IsM R L (fun w v => A v w) (rd b) := by
    refine ⟨fun w h0 h1 h2 => (hb w h0 h1 h2).1, fun w h0 h1 h2 => ?_, fun w w' h0 h1 h2 h3 h4 e => ?_⟩
    · obtain ⟨a1, a2⟩ := hb w h0 h1 h2
      have := (c.hole.mm (rd b w) h2 (by omega) (by omega)).2.1
      rw [a2] at this
      exact (c.adj _ w h2 a1).1 this
    · rw [← (hb w h0 h1 h4).2, ← (hb w' h2 h3 (by omega)).2, e]
  refine ⟨⟨rd b, hm, ?_⟩, fun M hM => ?_⟩
  · unfold msize msz has
    refine Nat.le_antisymm (cnt_inj (rd b) L R _ (fun w h0 h1 h2 => ?_) (fun w w' h0 h1 h2 h3 h4 h5 e => ?_)) (cnt_inj (rd m) R L _ (fun v h0 h1 h2 => ?_) (fun v v' h0 h1 h2 h3 h4 h5 e => ?_))
    · have h2 : 0 ≤ rd b w := by simpa using h2
      obtain ⟨a1, a2⟩ := hb w h0 h1 h2
      exact ⟨h2, a1, by rw [a2]; simpa using h0⟩
    · exact hm.inj w w' h0 h1 h2 h3 (by simpa using h4) e
    · have h2 : 0 ≤ rd m v := by simpa using h2
      obtain ⟨a1, a2, a3, a4⟩ := c.hole.mm v h0 (by omega) h2
      exact ⟨h2, a1, by rw [a3]; simpa using h0⟩
    · exact c.isM.inj v v' h0 h1 h2 h3 (by simpa using h4) e
  · have := cover_bound hM (tr r) (fun x => !tr l x) (fun w v a d a' d' f => by
      cases h4 : tr l v with
      | false => right; rfl
      | true => left; exact c.cov v w a' d' f h4)
    have e2 := c.le_ν
    omega
end
structure TInv (next : List (List Int)) (R : Nat) (v j : Int) (out : List (List Int)) : Prop where
  len : out.length = R
  mem : ∀ w x : Int, 0 ≤ w → w < R → (x ∈ rd_L5 out w ↔ (0 ≤ x ∧ x < v ∧ w ∈ rd_L5 next x) ∨ (x = v ∧ ∃ j' : Int, 0 ≤ j' ∧ j' < j ∧ rd (rd_L5 next v) j' = w))
  size : ∀ w : Int, 0 ≤ w → w < R → (rd_L5 out w).length ≤ v * 1000000 + j
theorem turned_l1 {next : List (List Int)} {R : Nat} (hn : next.length ≤ 1024) (hNV : NV next R) (n : Int) (v : Int) (hv0 : 0 ≤ v) (hv1 : v < next.length) (hlen : (rd_L5 next v).length ≤ 1000000) :
    ∀ (e : Nat) (j : Int) (out : List (List Int)), (rd_L5 next v).length = j + e → 0 ≤ j → TInv next R v j out →
      ∃ out', (∀ G s, (∀ k, G ≤ k → pairing_Turned.l0 k out' next n (v + 1) = some s) → ∀ k, G + e < k → pairing_Turned.l1 k out v next n v (rd_L5 next v) (rd_L5 next v).length j = some s) ∧ TInv next R (v + 1) 0 out' := by
  intro e
  induction e with
  | zero =>
    intro j out he hj hI
    refine ⟨out, fun G s hG k hk => ?_, hI.len, fun w x h0 h1 => ?_, fun w h0 h1 => by have := hI.size w h0 h1; omega⟩
    · obtain ⟨k, rfl⟩ : ∃ k', k = k' + 1 := ⟨k - 1, by omega⟩
      rw [pairing_Turned.l1, if_neg (by omega), w64 (by omega) (by omega)]
      exact hG k (by omega)
    · rw [hI.mem w x h0 h1]
      constructor
      · rintro (⟨a, d, f⟩ | ⟨rfl, j', a, d, f⟩)
        · exact .inl ⟨a, by omega, f⟩
        · exact .inl ⟨hv0, by omega, by rw [← f]; exact rd_mem a (by omega)⟩
      · rintro (⟨a, d, f⟩ | ⟨_, j', a, d, _⟩)
        · by_cases ex : x = v
          · subst ex
            obtain ⟨i, i0, i1, i2⟩ := mem_rd f
            exact .inr ⟨rfl, i, i0, by omega, i2⟩
          · exact .inl ⟨a, by omega, f⟩
        · omega
  | succ e ih =>
    intro j out he hj hI
    have hol := hI.len
    obtain ⟨w, hw⟩ : ∃ w, rd (rd_L5 next v) j = w := ⟨_, rfl⟩
    have hwm : w ∈ rd_L5 next v := hw ▸ rd_mem hj (by omega)
    obtain ⟨hw0, hw1⟩ := hNV v hv0 hv1 w hwm
    have hs : ∀ y : Int, 0 ≤ y → rd_L5 (out.set w.toNat ((rd_L5 out w) ++ [v])) y = if y = w then (rd_L5 out w) ++ [v] else rd_L5 out y := fun y h => getD_set _ out w y _ hw0 (by omega) h
    have hsz := hI.size w hw0 hw1
    obtain ⟨out', h1, h2⟩ := ih (j + 1) (out.set w.toNat ((rd_L5 out w) ++ [v])) (by omega) (by omega) ⟨by simpa using hol, fun y x a d => by
        rw [hs y a]
        by_cases ey : y = w
        · subst ey
          rw [if_pos rfl, List.mem_append, hI.mem y x a d, List.mem_singleton]
          constructor
          · rintro ((h | ⟨f, j', g, h, i⟩) | h)
            · exact .inl h
            · exact .inr ⟨f, j', g, by omega, i⟩
            · exact .inr ⟨h, j, hj, by omega, hw⟩
          · rintro (h | ⟨f, j', g, h, i⟩)
            · exact .inl (.inl h)
            · exact .inr f
        · rw [if_neg ey, hI.mem y x a d]
          constructor
          · rintro (h | ⟨f, j', g, h, i⟩)
            · exact .inl h
            · exact .inr ⟨f, j', g, by omega, i⟩
          · rintro (h | ⟨f, j', g, h, i⟩)
            · exact .inl h
            · have ej : j' ≠ j := fun ej => by subst ej; exact ey (i.symm.trans hw)
              exact .inr ⟨f, j', g, by omega, i⟩, fun y a d => by
        rw [hs y a]
        split
        · simp; omega
        · have := hI.size y a d; omega⟩
    refine ⟨out', fun G s hG k hk => ?_, h2⟩
    obtain ⟨k, rfl⟩ : ∃ k', k = k' + 1 := ⟨k - 1, by omega⟩
    rw [pairing_Turned.l1, if_pos (by omega), if_pos hj, if_pos (by omega), hw, if_pos hw0, if_pos (by omega), if_pos (by omega), w64 (by omega) (by omega)]
    exact h1 G s hG k (by omega)
theorem turned_spec {next : List (List Int)} {R : Nat} (hn : next.length ≤ 1024) (hR : R ≤ 1024) (hNV : NV next R) (hlen : ∀ v : Int, 0 ≤ v → v < next.length → (rd_L5 next v).length ≤ 1000000) :
    ∃ K out, (∀ k, K ≤ k → pairing_Turned.f k next R = some out) ∧ out.length = R ∧ (∀ w x : Int, 0 ≤ w → w < R → (x ∈ rdL out w ↔ 0 ≤ x ∧ x < next.length ∧ w ∈ rdL next x)) ∧ ∀ w : Int, 0 ≤ w → w < R → (rdL out w).length ≤ 1000000000000 := by
  have key : ∀ (d : Nat) (v : Int) (out : List (List Int)), (next.length : Int) = v + d → 0 ≤ v → TInv next R v 0 out → ∃ K out', (∀ k, K ≤ k → pairing_Turned.l0 k out next next.length v = some out') ∧ TInv next R next.length 0 out' := by
    intro d
    induction d with
    | zero =>
      intro v out hd hv hI
      have : v = (next.length : Int) := by omega
      subst this
      refine ⟨1, out, fun k hk => ?_, hI⟩
      obtain ⟨k, rfl⟩ : ∃ k', k = k' + 1 := ⟨k - 1, by omega⟩
      rw [pairing_Turned.l0, if_neg (by omega)]
    | succ d ih =>
      intro v out hd hv hI
      obtain ⟨out1, h1, hI1⟩ := turned_l1 hn hNV next.length v hv (by omega) (hlen v hv (by omega)) (rd_L5 next v).length 0 out (by omega) (by omega) hI
      obtain ⟨K, out2, hK, hI2⟩ := ih (v + 1) out1 (by omega) (by omega) hI1
      refine ⟨K + (rd_L5 next v).length + 2, out2, fun k hk => ?_, hI2⟩
      obtain ⟨k, rfl⟩ : ∃ k', k = k' + 1 := ⟨k - 1, by omega⟩
      rw [pairing_Turned.l0, if_pos (by omega), if_pos hv, if_pos (by omega)]
      exact h1 K _ hK k (by omega)
  obtain ⟨K, out, hK, hI⟩ := key next.length 0 (List.replicate R []) (by omega) (by omega) ⟨by simp, fun w x h0 h1 => by
    unfold rd_L5
    rw [getD_rep]
    constructor
    · intro h; cases h
    · rintro (⟨a, d, _⟩ | ⟨_, j', a, d, _⟩) <;> omega, fun w h0 h1 => by
    unfold rd_L5
    rw [getD_rep]; simp⟩
  refine ⟨K, out, fun k hk => ?_, hI.len, fun w x h0 h1 => ?_, fun w h0 h1 => ?_⟩
  · unfold pairing_Turned.f
    rw [if_pos (by omega), if_pos (by omega)]
    exact hK k hk
  · refine (hI.mem w x h0 h1).trans ?_
    constructor
    · rintro (h | ⟨_, j', a, d, _⟩)
      · exact h
      · omega
    · exact .inl
  · have := hI.size w h0 h1
    show (rd_L5 out w).length ≤ _
    omega
theorem free_done {L R : Nat} {E : List S40} (hk : chk L R (E.map prE) = 0) (g : GOK L R E) : ∃ next m b l r next' m' b' l' r' K, Core L R (Adj E) next m b l r ∧ Core R L (fun w v => Adj E v w) next' m' b' l' r' ∧
    (∀ k, K ≤ k → match_Free.f k L R E = some (sel L (tr l), sel R (tr l'), 0)) := by
  have hL := g.L1
  have hR := g.R1
  obtain ⟨next, h1, nl, adj, hlen⟩ := nbr_spec g
  have nv : NV next R := fun v h0 h1 w hw => by
    rw [nl] at h1
    obtain ⟨j, j0, j1, j2, j3⟩ := (adj v w h0 h1).1 hw
    have := g.rng j j0 j1
    omega
  obtain ⟨m, b, l, r, K1, c, h2, h3⟩ := coreA hL hR nl adj nv (fun v h0 h1 => by have := hlen v h0 h1; omega)
  obtain ⟨K2, out, h4, ol, om, os⟩ := turned_spec (by omega) hR nv (fun v h0 h1 => hlen v h0 (by omega))
  have nv' : NV out L := fun w h0 h1 x hx => by
    rw [ol] at h1
    obtain ⟨a, d, _⟩ := (om w x h0 h1).1 hx
    exact ⟨a, by omega⟩
  obtain ⟨m', b', l', r', K3, c', h5, h6⟩ := coreA (A := fun w v => Adj E v w) hR hL ol (fun w x h0 h1 => by
    rw [om w x h0 h1]
    constructor
    · rintro ⟨a, d, f⟩; exact (adj x w a (by omega)).1 f
    · intro h
      obtain ⟨j, j0, j1, j2, j3⟩ := id h
      have := g.rng j j0 j1
      exact ⟨by omega, by omega, (adj x w (by omega) (by omega)).2 h⟩) nv' (fun w h0 h1 => os w h0 (by omega))
  have ll := c.rs.ll
  have ll' := c'.rs.ll
  refine ⟨next, m, b, l, r, out, m', b', l', r', K1 + K2 + K3 + L + R + E.length + 1, c, c', fun k hk => ?_⟩
  have hc : match_Check.f L R E = some 0 := by unfold match_Check.f; rw [‹chk _ _ _ = 0›]
  unfold match_Free.f
  rw [hc]
  simp only [Option.bind_some, if_true]
  rw [h1 k (by omega)]
  simp only [Option.bind_some]
  unfold match_reach.f
  rw [h2 k (by omega)]
  simp only [Option.bind_some]
  rw [h3 k (by omega)]
  simp only [Option.bind_some]
  rw [h4 k (by omega)]
  simp only [Option.bind_some]
  rw [h5 k (by omega)]
  simp only [Option.bind_some]
  rw [h6 k (by omega)]
  simp only [Option.bind_some]
  rw [chosen_spec true l (by omega) k (by omega), chosen_spec true l' (by omega) k (by omega), show l.length = L by omega, show l'.length = R by omega]
  simp only [Option.bind_some, bool_beq_true]
end Go.Proofs.Ytlleokhmgblfnaa.P
end

section
namespace Go.Proofs.Ytlleokhmgblfnaa.P
open Go.RowKit Go.Proofs.YtlleokhmgblfnaaW.PrintWords Go.Proofs.Ytlleokhmgblfnaa.H Go.Proofs.Ytlleokhmgblfnaa.M
def keepE (v w : Int) (e : S40) : Bool := !(e.f0 == v) && !(e.f1 == w)
theorem without_spec (L R v w : Int) (E : List S40) (hl : E.length ≤ 65536) : ∀ k, E.length < k → torusref30_Without.f k L R E v w = some (L, R, E.filter (keepE v w)) := by
  have key : ∀ (suf pre out : List S40), E = pre ++ suf → out.length ≤ pre.length → ∀ k, suf.length < k → torusref30_Without.l0 k v w E E.length pre.length L R out = some (L, R, out ++ suf.filter (keepE v w)) := by
    intro suf
    induction suf with
    | nil =>
      intro pre out hE ho k hk
      obtain ⟨k, rfl⟩ := fuel hk
      rw [torusref30_Without.l0, if_neg (by rw [hE]; simp)]
      simp
    | cons y suf ih =>
      intro pre out hE ho k hk
      obtain ⟨k, rfl⟩ := fuel hk
      have hlen : E.length = pre.length + (suf.length + 1) := by rw [hE]; simp
      have hy : rd_T40 E pre.length = y := by rw [hE]; exact rd_mid _ _ _
      have e1 : wrap64 ((pre.length : Int) + 1) = (pre ++ [y]).length := by rw [w64 (by omega) (by omega)]; simp
      obtain ⟨y0, y1⟩ := y
      have ih' := fun out ho => ih (pre ++ [⟨y0, y1⟩]) out (by rw [hE]; simp) ho k (by simp at hk; omega)
      rw [torusref30_Without.l0, if_pos (by omega), if_pos (by omega), if_pos (by omega), hy, e1]
      by_cases h1 : y0 = v
      · rw [if_pos h1, ih' out (by simp; omega)]
        simp [keepE, h1]
      · by_cases h2 : y1 = w
        · rw [if_neg h1, if_pos h2, ih' out (by simp; omega)]
          simp [keepE, h2]
        · rw [if_neg h1, if_neg h2, if_pos (by omega), ih' _ (by simp; omega)]
          rw [List.filter_cons, if_pos (by simp [keepE, h1, h2])]
          simp
  intro k hk
  exact key E [] [] rfl (by simp) k hk
theorem eok_filter {L R : Nat} {E : List S40} (p : S40 → Bool) (h : EOK L R E) : EOK L R (E.filter p) :=
  ⟨fun e he => h.rng e (List.mem_filter.1 he).1, h.srt.filter p⟩
end Go.Proofs.Ytlleokhmgblfnaa.P
end

section
namespace Go.Proofs.Ytlleokhmgblfnaa.P
open Go.RowKit Go.Proofs.YtlleokhmgblfnaaW.PrintWords Go.Proofs.Ytlleokhmgblfnaa.H Go.Proofs.Ytlleokhmgblfnaa.M
theorem rcheck_l0 (L R : Int) (E : List S40) (hl : E.length ≤ 65536) : ∀ (suf pre : List S40) (p : Option S40), E = pre ++ suf → ((p = none ∧ pre = []) ∨ ∃ pre' q, p = some q ∧ pre = pre' ++ [q]) →
    ∀ k, 3 * suf.length < k → torusref30_Check.l0 k pre.length L R E = some (chkGo L R (p.map prE) (suf.map prE)) := by
  intro suf
  induction suf with
  | nil =>
    intro pre p hE hp k hk
    obtain ⟨k, rfl⟩ := fuel hk
    rw [torusref30_Check.l0, if_neg (by rw [hE]; simp)]
    unfold chkGo
    rfl
  | cons y suf ih =>
    intro pre p hE hp k hk
    simp only [List.length_cons] at hk
    obtain ⟨k, rfl⟩ : ∃ k', k = k' + 3 := ⟨k - 3, by omega⟩
    have hlen : E.length = pre.length + (suf.length + 1) := by rw [hE]; simp
    have hy : rd_T40 E pre.length = y := by rw [hE]; exact rd_mid _ _ _
    have e1 : wrap64 ((pre.length : Int) + 1) = (pre ++ [y]).length := by rw [w64 (by omega) (by omega)]; simp
    have hn := ih (pre ++ [y]) (some y) (by rw [hE]; simp) (.inr ⟨pre, y, rfl, rfl⟩) k (by omega)
    obtain ⟨a, b⟩ := y
    have next : a < 0 ∨ L ≤ a ∨ b < 0 ∨ R ≤ b ∨ torusref30_Check.j2 (k + 2) pre.length a b false L R E = some (chkGo L R (p.map prE) (((⟨a, b⟩ : S40) :: suf).map prE)) := by
      by_cases hr : a < 0 ∨ L ≤ a ∨ b < 0 ∨ R ≤ b
      · omega
      · refine .inr (.inr (.inr (.inr ?_)))
        rw [torusref30_Check.j2, if_neg (by simp)]
        rcases hp with ⟨rfl, rfl⟩ | ⟨pre', q, rfl, rfl⟩
        · rw [if_neg (by simp), torusref30_Check.j3, if_neg (by simp), if_neg (by simp), e1, hn]
          show _ = some (chkGo L R none (prE ⟨a, b⟩ :: suf.map prE))
          rw [chkGo, if_neg (by simp only [prE]; exact hr)]
          rfl
        · have hq : rd_T40 E (wrap64 (((pre' ++ [q]).length : Int) - 1)) = q := by
            rw [w64 (by omega) (by omega)]
            have : (((pre' ++ [q]).length : Int) - 1) = pre'.length := by simp
            rw [this, hE, List.append_assoc]
            exact rd_mid _ _ _
          have hpos : ((pre' ++ [q]).length : Int) > 0 := by simp
          have e2 : wrap64 (((pre' ++ [q]).length : Int) - 1) = ((pre' ++ [q]).length : Int) - 1 := w64 (by omega) (by omega)
          obtain ⟨c, d⟩ := q
          rw [if_pos hpos, hq, hy, e2, if_pos (by omega), if_pos (by omega), if_pos (by omega), if_pos (by omega)]
          show _ = some (chkGo L R (some (c, d)) ((a, b) :: suf.map prE))
          rw [chkGo, if_neg hr]
          rw [torusref30_Check.j3]
          by_cases h5 : c = a ∧ d = b
          · obtain ⟨rfl, rfl⟩ := h5
            rw [if_pos (by simp)]
            simp
          · rw [if_neg (by simp; omega), if_pos hpos, e2, if_pos (by omega), if_pos (by omega)]
            have hq' : rd_T40 E (((pre' ++ [(⟨c, d⟩ : S40)]).length : Int) - 1) = ⟨c, d⟩ := by rw [← e2]; exact hq
            have h5' : ¬ ((c, d) : Int × Int) = (a, b) := by simp only [Prod.mk.injEq]; exact h5
            rw [hq', e1, if_neg h5']
            by_cases h6 : c > a
            · rw [if_pos h6, if_pos (by omega)]
            · rw [if_neg h6]
              by_cases h7 : c = a
              · rw [if_pos h7]
                by_cases h8 : d > b
                · rw [if_pos h8, if_pos (by omega)]
                · rw [if_neg h8, if_neg (by omega), hn]
                  rfl
              · rw [if_neg h7, if_neg (by omega), hn]
                rfl
    have bad : a < 0 ∨ L ≤ a ∨ b < 0 ∨ R ≤ b → torusref30_Check.j2 (k + 2) pre.length a b true L R E = some (chkGo L R (p.map prE) (((⟨a, b⟩ : S40) :: suf).map prE)) := fun hr => by
      rw [torusref30_Check.j2, if_pos rfl]
      show _ = some (chkGo L R _ (prE ⟨a, b⟩ :: suf.map prE))
      unfold chkGo
      rw [if_pos (by simp only [prE]; exact hr)]
    rw [torusref30_Check.l0, if_pos (by omega), if_pos (by omega), hy]
    simp only
    by_cases h1 : a < 0
    · rw [if_pos h1]; exact bad (.inl h1)
    · rw [if_neg h1]
      by_cases h2 : a ≥ L
      · rw [if_pos h2]; exact bad (.inr (.inl h2))
      · rw [if_neg h2]
        by_cases h3 : b < 0
        · rw [if_pos h3]; exact bad (.inr (.inr (.inl h3)))
        · rw [if_neg h3]
          by_cases h4 : b ≥ R
          · rw [decide_eq_true h4]; exact bad (.inr (.inr (.inr h4)))
          · rw [decide_eq_false h4]
            rcases next with h | h | h | h | h
            · omega
            · omega
            · omega
            · omega
            · exact h
theorem rcheck_spec (L R : Int) (E : List S40) : ∃ K, ∀ k, K ≤ k → torusref30_Check.f k L R E = some (chk L R (E.map prE)) := by
  refine ⟨3 * E.length + 2, fun k hk => ?_⟩
  obtain ⟨k, rfl⟩ : ∃ k', k = k' + 1 := ⟨k - 1, by omega⟩
  have j0t : torusref30_Check.j0 (k + 1) true L R E = some 1 := by rw [torusref30_Check.j0, if_pos rfl]
  unfold torusref30_Check.f chk
  by_cases h1 : L < 0
  · rw [if_pos h1, if_pos (by omega)]; exact j0t
  · rw [if_neg h1]
    by_cases h2 : L > 1024
    · rw [if_pos h2, if_pos (by omega)]; exact j0t
    · rw [if_neg h2]
      by_cases h3 : R < 0
      · rw [if_pos h3, if_pos (by omega)]; exact j0t
      · rw [if_neg h3]
        by_cases h4 : R > 1024
        · rw [decide_eq_true h4, if_pos (by omega)]; exact j0t
        · rw [decide_eq_false h4, if_neg (by omega), torusref30_Check.j0, if_neg (by simp)]
          by_cases h5 : E.length > 65536
          · rw [if_pos (by omega), if_pos (by simp; omega)]
          · rw [if_neg (by omega), if_neg (by simp; omega)]
            exact rcheck_l0 L R E (by omega) E [] none rfl (.inl ⟨rfl, rfl⟩) k (by omega)
theorem rsame_self (L R : Int) (E : List S40) (hl : E.length ≤ 8796093022208) : ∃ K, ∀ k, K ≤ k → torusref30_Same.f k L R E L R E = some true := by
  have key : ∀ (d : Nat) (i : Int), (E.length : Int) = i + d → 0 ≤ i → ∀ k, d < k → torusref30_Same.l0 k i L R E L R E = some true := by
    intro d
    induction d with
    | zero =>
      intro i hd hi k hk
      obtain ⟨k, rfl⟩ := fuel hk
      rw [torusref30_Same.l0, if_neg (by omega)]
    | succ d ih =>
      intro i hd hi k hk
      obtain ⟨k, rfl⟩ := fuel hk
      rw [torusref30_Same.l0, if_pos (by omega), if_pos hi, if_pos (by omega), if_neg (by simp), w64 (by omega) (by omega)]
      exact ih (i + 1) (by omega) (by omega) k (by omega)
  refine ⟨E.length + 3, fun k hk => ?_⟩
  obtain ⟨k, rfl⟩ : ∃ k', k = k' + 1 := ⟨k - 1, by omega⟩
  unfold torusref30_Same.f
  rw [if_pos rfl, if_pos rfl, show ((E.length : Int) != (E.length : Int)) = false by simp, torusref30_Same.j0, if_neg (by simp)]
  exact key E.length 0 (by omega) (by omega) k (by omega)
theorem freeV_of {n R : Nat} {A : Int → Int → Prop} {s t : Nat} {v : Int} (h : IsMax n R A s) (k : IsMax n R (fun x w => A x w ∧ x ≠ v) t) : t = s ↔ FreeV n R A s v := by
  constructor
  · rintro rfl
    obtain ⟨M, hM, e⟩ := k.some
    by_cases hv : 0 ≤ M v ∧ 0 ≤ v ∧ v < n
    · exact absurd rfl (hM.adj v hv.2.1 hv.2.2 hv.1).2
    · by_cases hr : 0 ≤ v ∧ v < n
      · exact ⟨M, ⟨hM.lt, fun x a d f => (hM.adj x a d f).1, hM.inj⟩, e, by omega⟩
      · refine ⟨fun x => if x = v then -1 else M x, ⟨fun x a d f => ?_, fun x a d f => ?_, fun x x' a d a' d' f g => ?_⟩, ?_, by simp⟩
        · have : x ≠ v := fun e => by subst e; omega
          simp only [if_neg this] at f ⊢; exact hM.lt x a d f
        · have : x ≠ v := fun e => by subst e; omega
          simp only [if_neg this] at f ⊢; exact (hM.adj x a d f).1
        · have h1 : x ≠ v := fun e => by subst e; omega
          have h2 : x' ≠ v := fun e => by subst e; omega
          simp only [if_neg h1, if_neg h2] at f g; exact hM.inj x x' a d a' d' f g
        · rw [← e]
          unfold msize
          refine cnt_congr _ (fun x a d => ?_)
          have : x ≠ v := fun e => by subst e; omega
          unfold has
          simp only [if_neg this]
  · rintro ⟨M, hM, e, hv⟩
    have h1 := k.all M ⟨hM.lt, fun x a d f => ⟨hM.adj x a d f, fun e => by subst e; exact hv f⟩, hM.inj⟩
    obtain ⟨M', hM', e'⟩ := k.some
    have h2 := h.all M' ⟨hM'.lt, fun x a d f => (hM'.adj x a d f).1, hM'.inj⟩
    omega
theorem gok_eok {L R : Nat} {E : List S40} (hL : L ≤ 1024) (hR : R ≤ 1024) (hl : E.length ≤ 65536) (h : EOK L R E) : GOK L R E := by
  obtain ⟨L', R', e1, e2, g⟩ := chk_gok (chk_of_eok hL hR hl h)
  have e1 : L = L' := by omega
  have e2 : R = R' := by omega
  subst e1 e2
  exact g
theorem wo_left {L R : Nat} {E : List S40} (g : GOK L R E) (hE : EOK L R E) {s : Nat} (hs : IsMax L R (Adj E) s) (v : Int) :
    ∃ K t : Nat, (∀ k, K ≤ k → torusref30_Number.f k L R (E.filter (keepE v (-1))) = some (t : Int)) ∧ (t = s ↔ FreeV L R (Adj E) s v) := by
  have hlw : (E.filter (keepE v (-1))).length ≤ E.length := List.length_filter_le _ _
  have hl := g.len
  obtain ⟨K, t, hK, ht⟩ := number_spec (gok_eok g.L1 g.R1 (by omega) (eok_filter (keepE v (-1)) hE))
  refine ⟨K, t, hK, freeV_of hs (ht.congr' (fun x w h0 h1 h2 h3 => ?_))⟩
  rw [adj_mem, adj_mem, List.mem_filter]
  have : w ≠ -1 := by omega
  simp [keepE, this]
theorem wo_right {L R : Nat} {E : List S40} (g : GOK L R E) (hE : EOK L R E) {s : Nat} (hs : IsMax R L (fun w v => Adj E v w) s) (w : Int) :
    ∃ K t : Nat, (∀ k, K ≤ k → torusref30_Number.f k L R (E.filter (keepE (-1) w)) = some (t : Int)) ∧ (t = s ↔ FreeV R L (fun w v => Adj E v w) s w) := by
  have hlw : (E.filter (keepE (-1) w)).length ≤ E.length := List.length_filter_le _ _
  have hl := g.len
  have g' := gok_eok g.L1 g.R1 (show (E.filter (keepE (-1) w)).length ≤ 65536 by omega) (eok_filter (keepE (-1) w) hE)
  obtain ⟨K, t, hK, ht⟩ := number_spec g'
  obtain ⟨next, m, b, l, r, _, c, _⟩ := core g'
  have ht' : IsMax R L (fun y x => Adj (E.filter (keepE (-1) w)) x y) t := by rw [ht.eq c.isMax]; exact c.isMaxT
  refine ⟨K, t, hK, freeV_of hs (ht'.congr' (fun y x h0 h1 h2 h3 => ?_))⟩
  rw [adj_mem, adj_mem, List.mem_filter]
  have : x ≠ -1 := by omega
  simp [keepE, this]
section
variable {L R : Nat} {E : List S40} {next : List (List Int)} {m b : List Int} {l r : List Bool} {next' : List (List Int)} {m' b' : List Int} {l' r' : List Bool}
theorem rfree_l1 (g : GOK L R E) (hE : EOK L R E) (c : Core L R (Adj E) next m b l r) (c' : Core R L (fun w v => Adj E v w) next' m' b' l' r') (out : List Int) :
    ∀ (d w : Nat), R = w + d → ∃ K, ∀ k, K ≤ k → torusref30_Free.l1 k (msz L m : Nat) out (sel w (tr l')) w L R E = some (out, sel R (tr l'), 0) := by
  have hR := g.R1
  intro d
  induction d with
  | zero =>
    intro w hd
    have : w = R := by omega
    subst this
    refine ⟨1, fun k hk => ?_⟩
    obtain ⟨k, rfl⟩ : ∃ k', k = k' + 1 := ⟨k - 1, by omega⟩
    rw [torusref30_Free.l1, if_neg (by omega)]
  | succ d ih =>
    intro w hd
    obtain ⟨K1, hK1⟩ := ih (w + 1) (by omega)
    obtain ⟨K2, t, ht, hf⟩ := wo_right g hE c.isMaxT w
    have e1 : wrap64 ((w : Int) + 1) = ((w + 1 : Nat) : Int) := by rw [w64 (by omega) (by omega)]; rfl
    have es : msz L m = msz R m' := c.isMaxT.eq c'.isMax
    have hif : t = msz L m ↔ tr l' w = true := by rw [hf, c'.free_iff w (by omega) (by omega), es]
    have hle := cnt_le (tr l') w
    refine ⟨K1 + K2 + E.length + 2, fun k hk => ?_⟩
    obtain ⟨k, rfl⟩ : ∃ k', k = k' + 1 := ⟨k - 1, by omega⟩
    have hk1 := hK1 k (by omega)
    rw [sel] at hk1
    rw [torusref30_Free.l1, if_pos (by omega), without_spec _ _ _ _ _ g.len k (by omega)]
    simp only [Option.bind_some]
    rw [ht k (by omega)]
    simp only [Option.bind_some]
    rw [e1]
    by_cases h : tr l' w = true
    · rw [if_pos h] at hk1
      rw [if_pos (by rw [hif.2 h]), if_pos (by rw [sel_length]; omega)]
      exact hk1
    · rw [if_neg h] at hk1
      rw [if_neg (fun e => h (hif.1 (by omega)))]
      exact hk1
theorem rfree_l0 (g : GOK L R E) (hE : EOK L R E) (c : Core L R (Adj E) next m b l r) (c' : Core R L (fun w v => Adj E v w) next' m' b' l' r') :
    ∀ (d v : Nat), L = v + d → ∃ K, ∀ k, K ≤ k → torusref30_Free.l0 k (msz L m : Nat) (sel v (tr l)) v L R E = some (sel L (tr l), sel R (tr l'), 0) := by
  have hL := g.L1
  intro d
  induction d with
  | zero =>
    intro v hd
    have : v = L := by omega
    subst this
    obtain ⟨K, hK⟩ := rfree_l1 g hE c c' (sel v (tr l)) R 0 (by omega)
    refine ⟨K + 1, fun k hk => ?_⟩
    obtain ⟨k, rfl⟩ : ∃ k', k = k' + 1 := ⟨k - 1, by omega⟩
    rw [torusref30_Free.l0, if_neg (by omega)]
    exact hK k (by omega)
  | succ d ih =>
    intro v hd
    obtain ⟨K1, hK1⟩ := ih (v + 1) (by omega)
    obtain ⟨K2, t, ht, hf⟩ := wo_left g hE c.isMax v
    have e1 : wrap64 ((v : Int) + 1) = ((v + 1 : Nat) : Int) := by rw [w64 (by omega) (by omega)]; rfl
    have hif : t = msz L m ↔ tr l v = true := by rw [hf, c.free_iff v (by omega) (by omega)]
    have hle := cnt_le (tr l) v
    refine ⟨K1 + K2 + E.length + 2, fun k hk => ?_⟩
    obtain ⟨k, rfl⟩ : ∃ k', k = k' + 1 := ⟨k - 1, by omega⟩
    have hk1 := hK1 k (by omega)
    rw [sel] at hk1
    rw [torusref30_Free.l0, if_pos (by omega), without_spec _ _ _ _ _ g.len k (by omega)]
    simp only [Option.bind_some]
    rw [ht k (by omega)]
    simp only [Option.bind_some]
    rw [e1]
    by_cases h : tr l v = true
    · rw [if_pos h] at hk1
      rw [if_pos (by rw [hif.2 h]), if_pos (by rw [sel_length]; omega)]
      exact hk1
    · rw [if_neg h] at hk1
      rw [if_neg (fun e => h (hif.1 (by omega)))]
      exact hk1
theorem rfree_spec (hk : chk L R (E.map prE) = 0) (g : GOK L R E) (c : Core L R (Adj E) next m b l r) (c' : Core R L (fun w v => Adj E v w) next' m' b' l' r') :
    ∃ K, ∀ k, K ≤ k → torusref30_Free.f k L R E = some (sel L (tr l), sel R (tr l'), 0) := by
  obtain ⟨K1, h1⟩ := rcheck_spec L R E
  obtain ⟨K2, s, h2, hs⟩ := number_spec g
  obtain ⟨K3, h3⟩ := rfree_l0 g (eok_of hk) c c' L 0 (by omega)
  have es : s = msz L m := hs.eq c.isMax
  refine ⟨K1 + K2 + K3, fun k hk' => ?_⟩
  unfold torusref30_Free.f
  rw [h1 k (by omega), hk]
  simp only [Option.bind_some, if_true]
  rw [h2 k (by omega), es]
  exact h3 k (by omega)
theorem rcover_spec (hk : chk L R (E.map prE) = 0) (g : GOK L R E) (c : Core L R (Adj E) next m b l r) (c' : Core R L (fun w v => Adj E v w) next' m' b' l' r') :
    ∃ K, ∀ k, K ≤ k → torusref30_Cover.f k L R E = some (sel L (fun x => !tr l x), sel R (tr r), 0) := by
  have hL := g.L1
  obtain ⟨K1, h1⟩ := rfree_spec hk g c c'
  have hle := cnt_le (tr l) L
  have hsl : (sel L (tr l)).length ≤ 1000000 := by rw [sel_length]; omega
  obtain ⟨K2, h2⟩ := around_spec g (sel L (tr l)) hsl
  have key : ∀ (d v : Nat), L = v + d → ∃ K, ∀ k, K ≤ k → torusref30_Cover.l0 k (sel L (tr l)) (sel v (fun x => !tr l x)) v L R E = some (sel L (fun x => !tr l x), sel R (tr r), 0) := by
    intro d
    induction d with
    | zero =>
      intro v hd
      have : v = L := by omega
      subst this
      refine ⟨K2 + 1, fun k hk => ?_⟩
      obtain ⟨k, rfl⟩ : ∃ k', k = k' + 1 := ⟨k - 1, by omega⟩
      rw [torusref30_Cover.l0, if_neg (by omega), h2 k (by omega), c.near g]
      rfl
    | succ d ih =>
      intro v hd
      obtain ⟨K, hK⟩ := ih (v + 1) (by omega)
      have e1 : wrap64 ((v : Int) + 1) = ((v + 1 : Nat) : Int) := by rw [w64 (by omega) (by omega)]; rfl
      have hle := cnt_le (fun x => !tr l x) v
      refine ⟨K + (sel L (tr l)).length + 2, fun k hk => ?_⟩
      obtain ⟨k, rfl⟩ : ∃ k', k = k' + 1 := ⟨k - 1, by omega⟩
      have hk1 := hK k (by omega)
      rw [sel] at hk1
      rw [torusref30_Cover.l0, if_pos (by omega), has_spec _ _ hsl k (by omega)]
      simp only [Option.bind_some]
      rw [e1]
      by_cases h : tr l v = true
      · rw [if_neg (by rw [h]; simp)] at hk1
        rw [if_pos (by simp only [decide_eq_true_eq]; exact (mem_sel _ _ _).2 ⟨by omega, by omega, h⟩)]
        exact hk1
      · rw [if_pos (by simpa using h)] at hk1
        rw [if_neg (by simp only [decide_eq_true_eq]; exact fun hh => h ((mem_sel _ _ _).1 hh).2.2), if_pos (by rw [sel_length]; omega)]
        exact hk1
  obtain ⟨K3, h3⟩ := key L 0 (by omega)
  refine ⟨K1 + K3, fun k hk' => ?_⟩
  unfold torusref30_Cover.f
  rw [h1 k (by omega)]
  simp only [Option.bind_some, if_true]
  exact h3 k (by omega)
theorem rhall_spec (hk : chk L R (E.map prE) = 0) (g : GOK L R E) (c : Core L R (Adj E) next m b l r) (c' : Core R L (fun w v => Adj E v w) next' m' b' l' r') :
    ∃ K, ∀ k, K ≤ k → torusref30_Hall.f k L R E = some (if cnt L (tr l) = 0 then ([], [], 4) else (sel L (tr l), sel R (tr r), 0)) := by
  have hL := g.L1
  obtain ⟨K1, h1⟩ := rfree_spec hk g c c'
  have hle := cnt_le (tr l) L
  have hsl : (sel L (tr l)).length ≤ 1000000 := by rw [sel_length]; omega
  have hln : (sel L (tr l)).length = cnt L (tr l) := sel_length _ _
  obtain ⟨K2, h2⟩ := around_spec g (sel L (tr l)) hsl
  refine ⟨K1 + K2, fun k hk' => ?_⟩
  unfold torusref30_Hall.f
  rw [h1 k (by omega)]
  simp only [Option.bind_some, if_true]
  by_cases h : cnt L (tr l) = 0
  · rw [if_pos (by omega), if_pos h]
  · rw [if_neg (by omega), if_neg h, h2 k (by omega), c.near g]
    rfl
end
end Go.Proofs.Ytlleokhmgblfnaa.P
end

section
namespace Go.Proofs.Ytlleokhmgblfnaa.P
open Go.RowKit Go.Proofs.YtlleokhmgblfnaaW.PrintWords Go.Proofs.Ytlleokhmgblfnaa.H Go.Proofs.Ytlleokhmgblfnaa.M
theorem same_nil (k : Nat) : torusref01_Same.f (k + 1) [] [] = some true := same_self [] (by simp) (k + 1) (by simp)
theorem same_upto (a : List Int) (ha : a.length ≤ 1024) : ∀ k, 1025 ≤ k → torusref01_Same.f k a a = some true := fun k hk => same_self a (by omega) k (by omega)
theorem given_any (L R : Int) {E : List S40} (h : E.length < 8796093022208) : toruslaw30_given.f L R E = some (L, R, E) := by
  unfold toruslaw30_given.f
  simp only [Option.bind_some]
  rw [if_pos (by simp; omega)]
  rfl
theorem awake_t : toruslaw30_awake.f = some true := rfl
theorem matches_bad (L R : Int) (E : List S40) (hl : E.length < 8796093022208) (hc : chk L R (E.map prE) ≠ 0) : ∃ k, toruslaw30_MatchMatches.f k L R E = some true := by
  obtain ⟨c, hcc⟩ : ∃ c, chk L R (E.map prE) = c := ⟨_, rfl⟩
  rw [hcc] at hc
  obtain ⟨K1, h1⟩ := rcheck_spec L R E
  rw [hcc] at h1
  obtain ⟨K2, h2⟩ := rsame_self L R E (by omega)
  have hm : match_Check.f L R E = some c := by unfold match_Check.f; rw [hcc]
  have hmax : ∀ k, match_Maximum.f k L R E = some ([], c) := fun k => by
    unfold match_Maximum.f; rw [hm]; simp only [Option.bind_some]; rw [if_neg hc]
  have hsize : ∀ k, match_Size.f (k + 1) L R E = some (0, c) := fun k => by
    unfold match_Size.f; rw [hmax]; simp only [Option.bind_some]; rw [match_Size.l0, if_neg (by simp)]
  have hrs : ∀ k, K1 ≤ k → torusref30_Size.f k L R E = some (0, c) := fun k hk => by
    unfold torusref30_Size.f; rw [h1 k hk]; simp only [Option.bind_some]; rw [if_neg hc]
  have hfree : ∀ k, match_Free.f k L R E = some ([], [], c) := fun k => by
    unfold match_Free.f; rw [hm]; simp only [Option.bind_some]; rw [if_neg hc]
  have hrf : ∀ k, K1 ≤ k → torusref30_Free.f k L R E = some ([], [], c) := fun k hk => by
    unfold torusref30_Free.f; rw [h1 k hk]; simp only [Option.bind_some]; rw [if_neg hc]
  have hcov : ∀ k, match_Cover.f k L R E = some ([], [], c) := fun k => by
    unfold match_Cover.f; rw [hm]; simp only [Option.bind_some]; rw [if_neg hc]
  have hrc : ∀ k, K1 ≤ k → torusref30_Cover.f k L R E = some ([], [], c) := fun k hk => by
    unfold torusref30_Cover.f; rw [hrf k hk]; simp only [Option.bind_some]; rw [if_neg hc]
  have hhall : ∀ k, match_Hall.f k L R E = some ([], [], c) := fun k => by
    unfold match_Hall.f; rw [hm]; simp only [Option.bind_some]; rw [if_neg hc]
  have hrh : ∀ k, K1 ≤ k → torusref30_Hall.f k L R E = some ([], [], c) := fun k hk => by
    unfold torusref30_Hall.f; rw [hrf k hk]; simp only [Option.bind_some]; rw [if_neg hc]
  have ne : (c != c) = false := by simp
  obtain ⟨k, hk⟩ : ∃ k, k = K1 + K2 + 1 := ⟨_, rfl⟩
  refine ⟨k + 3, ?_⟩
  unfold toruslaw30_MatchMatches.f toruslaw30_long.f
  rw [h1 _ (by omega)]
  simp only [Option.bind_some]
  rw [if_neg hc]
  simp only [Option.bind_some]
  rw [if_neg (by simp), given_any L R hl]
  simp only [Option.bind_some]
  rw [hsize, hrs _ (by omega), hm]
  simp only [Option.bind_some]
  rw [if_pos trivial, if_pos trivial, ne, toruslaw30_MatchMatches.j0, if_neg (by simp), hfree, hrf _ (by omega)]
  simp only [Option.bind_some]
  rw [same_nil]
  simp only [Option.bind_some]
  rw [if_pos trivial, if_pos trivial, ne, toruslaw30_MatchMatches.j1, if_neg (by simp), hcov, hrc _ (by omega)]
  simp only [Option.bind_some]
  rw [same_nil]
  simp only [Option.bind_some]
  rw [if_pos trivial, if_pos trivial, ne, toruslaw30_MatchMatches.j2, if_neg (by simp), hhall, hrh _ (by omega)]
  simp only [Option.bind_some]
  rw [hk, same_nil]
  simp only [Option.bind_some]
  rw [if_pos trivial, if_pos trivial, if_pos trivial, h2 _ (by omega)]
  simp only [Option.bind_some]
  rw [if_pos trivial, awake_t]
  rfl
theorem matches_good (L R : Int) (E : List S40) (hc : chk L R (E.map prE) = 0) : ∃ k, toruslaw30_MatchMatches.f k L R E = some true := by
  obtain ⟨K1, h1⟩ := rcheck_spec L R E
  rw [hc] at h1
  obtain ⟨Ln, Rn, rfl, rfl, g⟩ := chk_gok hc
  have hL := g.L1
  have hR := g.R1
  have hl := g.len
  have hm : match_Check.f Ln Rn E = some 0 := by unfold match_Check.f; rw [hc]
  by_cases big : Ln > 9 ∨ Rn > 9
  · refine ⟨K1, ?_⟩
    unfold toruslaw30_MatchMatches.f toruslaw30_long.f
    rw [h1 _ (by omega)]
    simp only [Option.bind_some, if_true]
    by_cases h : (Ln : Int) > 9
    · rw [if_pos h]
      simp only [Option.bind_some, if_true]
      rw [awake_t]
      rfl
    · rw [if_neg h, decide_eq_true (by omega)]
      simp only [Option.bind_some, if_true]
      rw [awake_t]
      rfl
  obtain ⟨n1, m1, b1, l1, r1, n2, m2, b2, l2, r2, K2, c1, c2, hfree⟩ := free_done hc g
  obtain ⟨n3, m3, b3, l3, r3, K3, c3, D⟩ := done hc g
  obtain ⟨K4, h4⟩ := rfree_spec hc g c1 c2
  obtain ⟨K5, h5⟩ := rcover_spec hc g c3 c2
  obtain ⟨K6, h6⟩ := rhall_spec hc g c3 c2
  obtain ⟨K7, h7⟩ := rsame_self Ln Rn E (by omega)
  obtain ⟨K8, s, h8, hs⟩ := number_spec g
  have es : s = msz Ln m3 := hs.eq c3.isMax
  have hrs : ∀ k, K1 ≤ k → K8 ≤ k → torusref30_Size.f k Ln Rn E = some (((msz Ln m3 : Nat) : Int), 0) := fun k hk hk' => by
    unfold torusref30_Size.f; rw [h1 k hk]; simp only [Option.bind_some, if_true]; rw [h8 k hk', es]; rfl
  have lsel : ∀ (n : Nat) (p : Int → Bool), n ≤ 1024 → (sel n p).length ≤ 1024 := fun n p hn => by
    have := cnt_le p n; rw [sel_length]; omega
  have ne : ((0 : Int) != 0) = false := by simp
  obtain ⟨k, hk⟩ : ∃ k, k = K1 + K2 + K3 + K4 + K5 + K6 + K7 + K8 + 1025 := ⟨_, rfl⟩
  have hhall : ∃ a b e, (a.length ≤ 1024 ∧ b.length ≤ 1024) ∧ match_Hall.f k Ln Rn E = some (a, b, e) ∧ torusref30_Hall.f k Ln Rn E = some (a, b, e) := by
    by_cases h : cnt Ln (tr l3) = 0
    · exact ⟨[], [], 4, ⟨by simp, by simp⟩, by rw [D.hall k (by omega), if_pos h], by rw [h6 k (by omega), if_pos h]⟩
    · exact ⟨_, _, 0, ⟨lsel Ln (tr l3) (by omega), lsel Rn (tr r3) (by omega)⟩, by rw [D.hall k (by omega), if_neg h], by rw [h6 k (by omega), if_neg h]⟩
  obtain ⟨ha, hb, he, ⟨hal, hbl⟩, hh1, hh2⟩ := hhall
  refine ⟨k + 3, ?_⟩
  unfold toruslaw30_MatchMatches.f toruslaw30_long.f
  rw [h1 _ (by omega)]
  simp only [Option.bind_some, if_true]
  rw [if_neg (by omega), decide_eq_false (by omega)]
  simp only [Option.bind_some]
  rw [if_neg (by simp), given_spec _ _ hl]
  simp only [Option.bind_some]
  rw [D.size _ (by omega), hrs _ (by omega) (by omega), hm]
  simp only [Option.bind_some]
  rw [if_pos trivial, if_pos trivial, ne, toruslaw30_MatchMatches.j0, if_neg (by simp), hfree _ (by omega), h4 _ (by omega)]
  simp only [Option.bind_some]
  rw [same_upto _ (lsel _ _ hL) _ (by omega), same_upto _ (lsel _ _ hR) _ (by omega)]
  simp only [Option.bind_some]
  rw [if_pos trivial, if_pos trivial, ne, toruslaw30_MatchMatches.j1, if_neg (by simp), D.cover _ (by omega), h5 _ (by omega)]
  simp only [Option.bind_some]
  rw [same_upto _ (lsel _ _ hL) _ (by omega), same_upto _ (lsel _ _ hR) _ (by omega)]
  simp only [Option.bind_some]
  rw [if_pos trivial, if_pos trivial, ne, toruslaw30_MatchMatches.j2, if_neg (by simp), hh1, hh2]
  simp only [Option.bind_some]
  rw [same_upto ha hal _ (by omega), same_upto hb hbl _ (by omega)]
  simp only [Option.bind_some]
  rw [if_pos trivial, if_pos trivial, if_pos trivial, h7 _ (by omega)]
  simp only [Option.bind_some]
  rw [if_pos trivial, awake_t]
  rfl
theorem matches_true (L R : Int) (E : List S40) (hl : E.length < 8796093022208) : ∃ k, toruslaw30_MatchMatches.f k L R E = some true := by
  by_cases hc : chk L R (E.map prE) = 0
  · exact matches_good L R E hc
  · exact matches_bad L R E hl hc
end Go.Proofs.Ytlleokhmgblfnaa.P
end

section
namespace Go.Proofs.Ytlleokhmgblfnaa.RBits
open Go.ChangeShapes Go.WideShapes Go.ChangeAt Go.RowKit
open Go.ChangeMaps (open_string shut_string)
theorem own : ownKnob Try.prog.godebug = none := by kernel_rfl
theorem laidOut : laidOutB Try.prog = true := by kernel_rfl
end Go.Proofs.Ytlleokhmgblfnaa.RBits
end

section
namespace Go.Proofs.Ytlleokhmgblfnaa.RGraph
open Go.ChangeShapes Go.WideShapes Go.ChangeAt Go.RowKit Go.Proofs.YtlleokhmgblfnaaW.PrintWords Go.Proofs.Ytlleokhmgblfnaa.M
theorem cells27 : Try.prog.cellsOf 27 = 3 := by kernel_rfl
theorem cells40 : Try.prog.cellsOf 40 = 2 := by kernel_rfl
theorem cells3 : Try.prog.cellsOf 3 = 1 := by kernel_rfl
theorem bytes40 : Try.prog.bytesOf 40 = 16 := by kernel_rfl
section
variable {H : Type} {enc : TypeId × Value → H} {W : World} {sp : Nat → Bool} {held : Bool}
theorem pair_of {m : Nat} {cs : List Value} {x : DataW H × List MemPlace} (h : DataW.trod enc Try.prog W 0 sp held m 40 cs = some x) (hl : cs.length = 2) : ∃ a b : Int, cs = [.int .i64 a, .int .i64 b] := by
  obtain ⟨xs, n, _, _, _, hx, hf⟩ := DataW.trod_array Try.underlying40 h
  match cs, hl with
  | [c0, c1], _ =>
    have h0 := hf 0 (by omega)
    have h1 := hf 1 (by omega)
    rw [cells3] at h0 h1
    obtain ⟨y0, e0⟩ : ∃ y, xs[0]? = some y := ⟨_, List.getElem?_eq_getElem (by omega)⟩
    obtain ⟨y1, e1⟩ : ∃ y, xs[1]? = some y := ⟨_, List.getElem?_eq_getElem (by omega)⟩
    rw [e0] at h0
    rw [e1] at h1
    obtain ⟨a, ea, _, _⟩ := DataW.trod_int Try.underlying3 h0
    obtain ⟨b, eb, _, _⟩ := DataW.trod_int Try.underlying3 h1
    simp at ea eb
    exact ⟨a, b, by rw [ea, eb]⟩
theorem open_edges {m : Nat} {c : Value} {y : DataW H × List MemPlace} (h : DataW.trod enc Try.prog W 0 sp held m 25 [c] = some y) (hw : ∀ n ∈ y.1.weights Try.prog 25, n ≤ reachBytes) :
    ∃ (A : Option Addr) (len cap : Nat) (E : List S40), c = .slice A len cap ∧ E.length = len ∧ len ≤ cap ∧ Kd.C k40 W A E.length E ∧ len < 8796093022208 := by
  rcases DataW.trod_slice Try.underlying25 h with ⟨hcs, _⟩ | ⟨a, len, cap, elems, rest, n, _, hcs, rfl, hb, hl, hm, hlen, hel, hsp, hns⟩
  · injection hcs with hcs _
    subst hcs
    exact ⟨none, 0, 0, [], rfl, rfl, Nat.le_refl _, ⟨rfl, by simp, fun h => absurd h (by simp)⟩, by omega⟩
  · injection hcs with hcs _
    subst hcs
    have hbytes : len < 8796093022208 := by
      have := hw ((elems.length + rest.length) * 16) (by simp [DataW.weights, Try.underlying25, bytes40])
      have : (elems.length + rest.length) * 16 ≤ 140737488351232 := this
      omega
    have each : ∀ i : Nat, i < len → ∃ e : S40, ∀ (j : Nat) u, [Value.int .i64 e.f0, .int .i64 e.f1][j]? = some u → W.cell? (a.add (i * 2 + j)) = some u := fun i hi => by
      have h1 := hel i hi
      rw [cells40, List.getElem?_eq_getElem (by omega), Option.bind_eq_some_iff] at h1
      obtain ⟨cs, hcs, ht⟩ := h1
      obtain ⟨_, hl2, hce⟩ := World.cells?_some hcs
      obtain ⟨x, y, rfl⟩ := pair_of ht hl2
      refine ⟨⟨x, y⟩, fun j u hj => ?_⟩
      have hj2 : j < 2 := by
        have := (List.getElem?_eq_some_iff.1 hj).1
        simpa using this
      have := hce j hj2
      rw [hj] at this
      rw [← this, Go.Deep.add_add]
    have ex : ∃ E : List S40, E.length = len ∧ ∀ (i : Nat) e, E[i]? = some e → ∀ (j : Nat) u, [Value.int .i64 e.f0, .int .i64 e.f1][j]? = some u → W.cell? (a.add (i * 2 + j)) = some u := by
      clear hlen hel hsp hns hbytes hl hw h
      induction len with
      | zero => exact ⟨[], rfl, fun i e h => by simp at h⟩
      | succ len ih =>
        obtain ⟨E, e1, e2⟩ := ih (fun i hi => each i (by omega))
        obtain ⟨x, hx⟩ := each len (by omega)
        refine ⟨E ++ [x], by simp [e1], fun i e h => ?_⟩
        by_cases hi : i < len
        · rw [List.getElem?_append_left (by omega)] at h; exact e2 i e h
        · have : i = len := by
            have := (List.getElem?_eq_some_iff.1 h).1
            simp at this
            omega
          subst this
          rw [← e1] at h
          simp at h
          subst h
          exact hx
    obtain ⟨E, e1, e2⟩ := ex
    refine ⟨some a, len, cap, E, rfl, e1, hl, ⟨rfl, by omega, fun _ => ⟨a, rfl, fun j p hp => ⟨_, rfl, k40_mk W p, fun i u hu => e2 j p hp i u hu⟩⟩⟩, hbytes⟩
theorem open_graph {r : Reach} {b0 : Nat} {v : Value} {d : DataW H} {p : List MemPlace}
    (hv : Value.okWide Try.prog W r b0 27 v) (h : DataW.Trod enc Try.prog W 0 (fun _ => true) true 27 v d p) (hw : ∀ n ∈ d.weights Try.prog 27, n ≤ reachBytes) :
    ∃ (L R : Int) (A : Option Addr) (len cap : Nat) (E : List S40), v = .agg #[.int .i64 L, .int .i64 R, .slice A len cap] ∧ E.length = len ∧ len ≤ cap ∧ Kd.C k40 W A E.length E ∧ len < 8796093022208 := by
  obtain ⟨v0, v1, v2, y0, y1, y2, n, rfl, hd, _, h0, h1, h2⟩ := Go.Joins.open_agg3 Try.underlying27 (by kernel_rfl) cells27 hv h
  obtain ⟨L, e0, _, w0⟩ := DataW.trod_int Try.underlying3 h0
  obtain ⟨R, e1, _, w1⟩ := DataW.trod_int Try.underlying3 h1
  injection e0 with e0 _
  injection e1 with e1 _
  subst e0 e1
  obtain ⟨A, len, cap, E, rfl, a1, a2, a3, a4⟩ := open_edges h2 (fun n hn => hw n (by
    rw [hd]
    simp [DataW.weights, DataW.weightsEach, Try.underlying27, hn]))
  exact ⟨L, R, A, len, cap, E, rfl, a1, a2, a3, a4⟩
end
end Go.Proofs.Ytlleokhmgblfnaa.RGraph
end

section
namespace Go.Proofs.Ytlleokhmgblfnaa.matchMatches
open Go.ChangeShapes Go.WideShapes Go.ChangeAt Go.RowKit Go.Proofs.YtlleokhmgblfnaaW.PrintWords
theorem walk (L R : Int) (A : Option Addr) (len cap : Nat) (E : List M.S40) (w : World) (h0 : E.length = len) (h1 : len ≤ cap) (hr : Kd.C M.k40 w A E.length E) (h2 : len < 8796093022208) :
    Calls Try.prog 5 #[.agg #[.int .i64 L, .int .i64 R, .slice A len cap]] w fun e w' => e = .returned (.bool true) ∧ Below w.heap.size w w' := by
  subst h0
  obtain ⟨k, hk⟩ := P.matches_true L R E h2
  exact M.toruslaw30_MatchMatches.calls k L R A cap E true w hr h1 hk rfl
set_option maxRecDepth 100000 in
theorem lifted (os : Os) (started : os.Started) (H : Type) (enc : TypeId × Value → H) :
    ReturnsInHanded {} Try.checked os 5 .any (Rows.matchMatchesSpec.pre6 enc Try.prog Try.f5 Rows.matchMatchesRow.domain false) (Rows.matchMatchesSpec.post enc Try.prog Try.f5 false true false false) := by
  refine returnsInHanded_of_change_sized (C := Try.checked) RBits.own started (by kernel_rfl) Try.func5
    (ChangeSpec.witness6 (enc := enc) (C := Try.checked) false ⟨#[], #[.agg #[.int .i64 0, .int .i64 0, .slice none 0 0]], []⟩ 8 (by kernel_rfl) (by kernel_rfl) (by kernel_rfl) (by kernel_rfl)) ?_
  intro W base args ds gs before hval0 hW hcnd hsz0 _
  have hval : ∀ (j : Nat) t v, Try.f5.params[j]? = some t → args[j]? = some v → Value.okWide Try.prog W .any base t v := hval0
  have hsz : (DataW.weightsEach Try.prog (Try.f5.params.toList ++ Rows.matchMatchesSpec.plain.varTypes Try.prog) (ds ++ gs)).all (· ≤ reachBytes) = true := hsz0
  have hW' := hW
  obtain ⟨p, q, hA0, hV, rfl, hfz, hnd⟩ := hW
  have hA : DataW.TrodAll enc Try.prog W 0 (fun _ => true) true Try.f5.params.toList args.toList ds p := hA0
  rw [Try.params5] at hA hval hsz
  obtain ⟨v0, vs0, d0, ds0, p0, q0, hargs, rfl, rfl, h0, r0⟩ := trodAll_cons hA
  obtain ⟨rfl, rfl, rfl⟩ := trodAll_nil r0
  obtain rfl : args = #[v0] := by cases args; simp_all
  obtain ⟨rfl, rfl⟩ := trodVars_none hV
  have k0 := h0
  have lt0 : ∀ x ∈ p0, x.block < W.heap.size := by obtain ⟨m, hm⟩ := k0; exact DataW.trod_lt m _ _ _ hm
  have hw : ∀ n ∈ d0.weights Try.prog 27, n ≤ reachBytes := fun n hn => by
    have := List.all_eq_true.1 hsz _ (DataW.weights_mem_each (j := 0) (t := 27) (d := d0) rfl rfl n hn)
    simpa using this
  obtain ⟨L, R, A, len, cap, E, rfl, e1, e2, e3, e4⟩ := RGraph.open_graph (hval 0 27 v0 rfl rfl) h0 hw
  clear hA0 hval0 hsz0 hsz
  refine (walk L R A len cap E W e1 e2 e3 e4).mono fun e W' ⟨he, bel⟩ => ?_
  subst he
  exact ⟨_, rfl, _, _, _, [], _, [], hW', trodAll_mk1 (shut_bool Try.underlying4 _), (trodAll_cons_mk (Below.trod RBits.laidOut (by kernel_rfl) (of_decide_eq_true (by kernel_rfl)) k0 bel lt0) trodAll_mk0), rfl, bel.frame _, fun h => by cases h⟩
theorem over : Rows.matchMatchesRow.holds Try.pinned (OpenSpec.ofChange Rows.matchMatchesSpec) :=
  OpenClaim.holds_of_wide 5 Try.f5 rfl rfl rfl rfl rfl rfl rfl ⟨rfl, rfl, rfl, rfl, rfl⟩ rfl rfl rfl rfl rfl (by kernel_rfl) Try.func5 (by kernel_rfl)
    (of_decide_eq_true (by kernel_rfl)) (by unfold Func.isWrapper; first | (rw [if_pos (by decide +kernel)]; kernel_rfl) | (rw [if_neg (by decide +kernel)]; exact ⟨rfl, rfl⟩))
    (fun os started H enc _ => lifted os started H enc)
theorem proved : Rows.MatchMatchesSaid := over
end Go.Proofs.Ytlleokhmgblfnaa.matchMatches
namespace Go.Proofs.Ytlleokhmgblfnaa
theorem matchMatches_holds : Rows.MatchMatchesSaid := matchMatches.proved
end Go.Proofs.Ytlleokhmgblfnaa
end
