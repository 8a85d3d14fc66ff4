/- The law MatchRegular: whatever the input, it returns true and the input reads as it did. No conditions. -/
import Derived.Test.YtlleokhmgblfnaaBReg3
set_option linter.unusedVariables false
set_option linter.unusedSimpArgs false
set_option linter.unusedSectionVars false
section
namespace Go.Proofs.Ytlleokhmgblfnaa.P
open Go.RowKit Go.Proofs.YtlleokhmgblfnaaW.PrintWords Go.Proofs.Ytlleokhmgblfnaa.H
def inc (X Y : Int → Int) (v : Int) : Int → Bool := fun j => decide (X j = v ∨ Y j = v)
theorem cnt_up (p : Int → Bool) {i k : Nat} (h : i ≤ k) : cnt i p ≤ cnt k p := by
  induction k with
  | zero => have : i = 0 := by omega
            subst this; exact Nat.le_refl _
  | succ k ih =>
    by_cases e : i = k + 1
    · rw [e]; exact Nat.le_refl _
    · rw [cnt_succ]; have := ih (by omega); omega
section
variable {n m L : Int} {e : Nat} {X Y : Int → Int} {T : Tab} {O : Int → Int} {a b : Int}
theorem lack {i : Nat} (h : Inv n m X Y i T O) (hi : i < e) (hm : 0 ≤ m) {v : Int} (v0 : 0 ≤ v) (v1 : v < n) (hv : X i = v ∨ Y i = v) (hd : (cnt e (inc X Y v) : Int) ≤ m) : ∃ c, 0 ≤ c ∧ c < m ∧ T v c < 0 := by
  apply Classical.byContradiction
  intro hn
  have all : ∀ c, 0 ≤ c → c < m → 0 ≤ T v c ∧ T v c < i ∧ (X (T v c) = v ∨ Y (T v c) = v) ∧ O (T v c) = c := fun c c0 c1 => by
    rcases h.row v c v0 v1 c0 c1 with h1 | h1
    · exact absurd ⟨c, c0, c1, by omega⟩ hn
    · exact h1
  have h1 := cnt_inj (p := fun _ => true) (fun c => T v c) i m.toNat (inc X Y v) (fun c c0 c1 _ => by
      have := all c c0 (by omega)
      exact ⟨this.1, this.2.1, by unfold inc; simpa using this.2.2.1⟩)
    (fun c d c0 c1 d0 d1 _ _ hcd => by
      have e1 := (all c c0 (by omega)).2.2.2
      have e2 := (all d d0 (by omega)).2.2.2
      have hcd' : T v c = T v d := hcd
      rw [← e1, ← e2, hcd'])
  rw [cnt_all m.toNat (fun _ _ _ => rfl)] at h1
  have h2 := cnt_up (inc X Y v) (show i + 1 ≤ e by omega)
  have h3 : inc X Y v (i : Int) = true := by unfold inc; simpa using hv
  rw [cnt_succ, h3] at h2
  simp only [if_true] at h2
  omega
theorem next_ok {i : Nat} (g : Gr n m e L X Y) (h : Inv n m X Y i T O) (hi : i < e) (a0 : 0 ≤ a) (a1 : a < m) (hx : T (X i) a = -1) (hy : T (Y i) a = -1) :
    Inv n m X Y ((i : Int) + 1) (upd (upd T (X i) a i) (Y i) a i) (updO O i a) := by
  have nv : ∀ j : Int, 0 ≤ j → j < i → ∀ v, (X j = v ∨ Y j = v) → ¬ ((X i = v ∨ Y i = v) ∧ a = O j) := fun j j0 j1 v hv hc => by
    have e1 := h.at_ j0 j1 hv
    rw [← hc.2] at e1
    rcases hc.1 with rfl | rfl <;> omega
  have old : ∀ j : Int, j < i → updO O i a j = O j := fun j hj => by unfold updO; rw [if_neg (by omega)]
  have new : updO O i a i = a := by unfold updO; rw [if_pos rfl]
  have key : ∀ j : Int, 0 ≤ j → j < (i : Int) + 1 → ∀ v, (X j = v ∨ Y j = v) → upd (upd T (X i) a i) (Y i) a i v (updO O i a j) = j := fun j j0 j1 v hv => by
    rw [upd2]
    by_cases hj : j = i
    · subst hj
      rw [new, if_pos ⟨hv, rfl⟩]
    · rw [old j (by omega), if_neg (nv j j0 (by omega) v hv)]
      exact h.at_ j0 (by omega) hv
  refine ⟨fun j j0 j1 => ?_, fun v c v0 v1 c0 c1 => ?_, fun j j0 j1 => key j j0 j1 _ (.inl rfl), fun j j0 j1 => key j j0 j1 _ (.inr rfl)⟩
  · by_cases hj : j = i
    · rw [hj, new]; exact ⟨a0, a1⟩
    · rw [old j (by omega)]; exact h.col j j0 (by omega)
  · rw [upd2]
    by_cases hc : (X i = v ∨ Y i = v) ∧ a = c
    · rw [if_pos hc]
      exact .inr ⟨by omega, by omega, hc.1, by rw [new]; exact hc.2⟩
    · rw [if_neg hc]
      rcases h.row v c v0 v1 c0 c1 with h1 | ⟨h1, h2, h3, h4⟩
      · exact .inl h1
      · exact .inr ⟨h1, by omega, h3, by rw [old _ h2]; exact h4⟩
theorem main_ok (g : Gr n m e L X Y) (L0 : 0 ≤ L) (Ln : L ≤ n) (he : e ≤ 65536) (hm : 0 ≤ m) (hd : ∀ v, 0 ≤ v → v < n → (cnt e (inc X Y v) : Int) ≤ m) (K : Nat) (hK : e < K) (hKm : m < K) :
    ∀ (d i : Nat) (T : Tab) (O : Int → Int), i + d = e → Inv n m X Y i T O → ∀ k, d < k → ∃ O', mainF n m e X Y K k i T O = some O' ∧ ∃ T', Inv n m X Y e T' O'
  | 0, i, T, O, hi, h, k, hk => by
    obtain ⟨k, rfl⟩ : ∃ k', k = k' + 1 := ⟨k - 1, by omega⟩
    refine ⟨O, ?_, T, by have : i = e := by omega
                         rw [← this]; exact h⟩
    unfold mainF
    rw [if_neg (by omega)]
  | d + 1, i, T, O, hi, h, k, hk => by
    obtain ⟨k, rfl⟩ : ∃ k', k = k' + 1 := ⟨k - 1, by omega⟩
    have x0 := g.x0 i (by omega) (by omega)
    have x1 := g.x1 i (by omega) (by omega)
    have y0 := g.y0 i (by omega) (by omega)
    have y1 := g.y1 i (by omega) (by omega)
    obtain ⟨ca, ca0, ca1, ca2⟩ := lack h (by omega) hm x0 (by omega) (.inl rfl) (hd _ x0 (by omega))
    obtain ⟨cb, cb0, cb1, cb2⟩ := lack h (by omega) hm (by omega) y1 (.inr rfl) (hd _ (by omega) y1)
    obtain ⟨a, ha, a0, a1, a2⟩ := miss_some m (T (X i)) ca ca1 ca2 K 0 ca0 (by omega)
    obtain ⟨b, hb, b0, b1, b2⟩ := miss_some m (T (Y i)) cb cb1 cb2 K 0 cb0 (by omega)
    have ta : T (X i) a = -1 := by
      rcases h.row (X i) a x0 (by omega) a0 a1 with h1 | h1
      · exact h1
      · omega
    have tb : T (Y i) b = -1 := by
      rcases h.row (Y i) b (by omega) y1 b0 b1 with h1 | h1
      · exact h1
      · omega
    unfold mainF
    rw [if_pos (by omega), ha]
    simp only [Option.bind_some]
    rw [hb]
    simp only [Option.bind_some]
    by_cases hab : a = b
    · rw [if_pos hab]
      rw [← hab] at tb
      have := main_ok g L0 Ln he hm hd K hK hKm d (i + 1) _ _ (by omega) (by have := next_ok g h (by omega) a0 a1 ta tb; simpa using this) k (by omega)
      simpa using this
    · rw [if_neg hab]
      obtain ⟨T3, O3, h3, h4, h5, h6⟩ := flip_ok (K := K) (L := L) (e := e) (w := Y i) (a := a) (b := b) ⟨g, h, by omega, L0, Ln, y0, y1, a0, a1, b0, b1, hab, tb⟩ (by omega) (by omega) (by omega)
      rw [h3]
      simp only [Option.bind_some]
      have := main_ok g L0 Ln he hm hd K hK hKm d (i + 1) _ _ (by omega) (by have := next_ok g h4 (by omega) a0 a1 (h6 _ x0 x1 ta) h5; simpa using this) k (by omega)
      simpa using this
theorem inv_start (X Y : Int → Int) : Inv n m X Y ((0 : Nat) : Int) (fun _ _ => -1) (fun _ => 0) :=
  ⟨fun j j0 j1 => by omega, fun _ _ _ _ _ _ => .inl rfl, fun j j0 j1 => by omega, fun j j0 j1 => by omega⟩
theorem proper {i : Int} (h : Inv n m X Y i T O) {j k : Int} (j0 : 0 ≤ j) (j1 : j < i) (k0 : 0 ≤ k) (k1 : k < i) (hn : j ≠ k) {v : Int} (hj : X j = v ∨ Y j = v) (hk : X k = v ∨ Y k = v) : O j ≠ O k := fun ho => by
  have e1 := h.at_ j0 j1 hj
  have e2 := h.at_ k0 k1 hk
  rw [ho, e2] at e1
  exact hn e1.symm
end
end Go.Proofs.Ytlleokhmgblfnaa.P
end

section
namespace Go.Proofs.Ytlleokhmgblfnaa.P
open Go.RowKit Go.Proofs.YtlleokhmgblfnaaW.PrintWords Go.Proofs.Ytlleokhmgblfnaa.H
theorem degS_two (x y : Int) (h : x ≠ y) (D : Int → Int) (mo : Int) (v : Int) : (degS [x, y] D mo).1 v = D v + if v = x ∨ v = y then 1 else 0 := by
  unfold degS degS degS updO
  simp only
  by_cases h1 : v = y
  · subst h1
    rw [if_pos rfl, if_neg (Ne.symm h), if_pos (.inr rfl)]
  · rw [if_neg h1]
    by_cases h2 : v = x
    · subst h2
      rw [if_pos rfl, if_pos (.inl rfl)]
    · rw [if_neg h2, if_neg (by rintro (h3 | h3); exact h2 h3; exact h1 h3)]
      omega
theorem degS_most (x y : Int) (h : x ≠ y) (D : Int → Int) (mo : Int) : mo ≤ (degS [x, y] D mo).2 ∧ D x + 1 ≤ (degS [x, y] D mo).2 ∧ D y + 1 ≤ (degS [x, y] D mo).2 ∧ ((degS [x, y] D mo).2 = mo ∨ (degS [x, y] D mo).2 = D x + 1 ∨ (degS [x, y] D mo).2 = D y + 1) := by
  unfold degS degS degS updO
  simp only
  rw [if_neg (Ne.symm h)]
  split <;> split <;> omega
theorem deg_go {L n m : Int} {E : List (Int × Int)} {X Y : Int → Int} (hXY : ∀ pre x suf, E = pre ++ x :: suf → X pre.length = x.1 ∧ Y pre.length = L + x.2) (g : Gr n m E.length L X Y) (L0 : 0 ≤ L) (Ln : L ≤ n) :
    ∀ (suf pre : List (Int × Int)) (D : Int → Int) (mo : Int), E = pre ++ suf → (∀ v, D v = cnt pre.length (inc X Y v)) → (∀ v, D v ≤ mo) → 0 ≤ mo → (mo = 0 ∨ ∃ v, 0 ≤ v ∧ v < n ∧ mo ≤ cnt pre.length (inc X Y v)) →
      (∀ v, (cnt E.length (inc X Y v) : Int) ≤ degF L suf D mo) ∧ 0 ≤ degF L suf D mo ∧ (degF L suf D mo = 0 ∨ ∃ v, 0 ≤ v ∧ v < n ∧ degF L suf D mo ≤ cnt E.length (inc X Y v))
  | [], pre, D, mo, hE, hD, hm, m0, ha => by
    have : E = pre := by simpa using hE
    subst this
    exact ⟨fun v => by rw [← hD v]; exact hm v, m0, ha⟩
  | x :: suf, pre, D, mo, hE, hD, hm, m0, ha => by
    have h1 := hXY pre x suf hE
    have hlen : E.length = pre.length + (suf.length + 1) := by rw [hE]; simp
    have x0 := g.x0 pre.length (by omega) (by omega)
    have x1 := g.x1 pre.length (by omega) (by omega)
    have y0 := g.y0 pre.length (by omega) (by omega)
    have y1 := g.y1 pre.length (by omega) (by omega)
    rw [h1.1] at x0 x1
    rw [h1.2] at y0 y1
    have hne : x.1 ≠ L + x.2 := by omega
    have hmo := degS_most x.1 (L + x.2) hne D mo
    have hcnt : ∀ v, (cnt (pre.length + 1) (inc X Y v) : Int) = D v + if v = x.1 ∨ v = L + x.2 then 1 else 0 := fun v => by
      rw [cnt_succ, hD v]
      unfold inc
      rw [h1.1, h1.2]
      by_cases h2 : v = x.1 ∨ v = L + x.2
      · rw [if_pos h2, if_pos (by simp; omega)]; omega
      · rw [if_neg h2, if_neg (by simp; omega)]; omega
    have := deg_go hXY g L0 Ln suf (pre ++ [x]) (degS [x.1, L + x.2] D mo).1 (degS [x.1, L + x.2] D mo).2 (by rw [hE]; simp)
      (fun v => by rw [degS_two _ _ hne, List.length_append]; exact (hcnt v).symm)
      (fun v => by
        rw [degS_two _ _ hne]
        have := hm v
        by_cases h2 : v = x.1 ∨ v = L + x.2
        · rw [if_pos h2]
          rcases h2 with rfl | rfl <;> omega
        · rw [if_neg h2]; omega)
      (by omega)
      (by
        rw [List.length_append]
        show _ ∨ ∃ v, 0 ≤ v ∧ v < n ∧ _ ≤ ((cnt (pre.length + 1) (inc X Y v) : Nat) : Int)
        rcases hmo.2.2.2 with e | e | e
        · rcases ha with ha | ⟨v, v0, v1, hv⟩
          · exact .inl (by omega)
          · refine .inr ⟨v, v0, v1, ?_⟩
            rw [e, cnt_succ]
            omega
        · refine .inr ⟨x.1, x0, by omega, ?_⟩
          rw [hcnt, if_pos (.inl rfl)]; omega
        · refine .inr ⟨L + x.2, by omega, y1, ?_⟩
          rw [hcnt, if_pos (.inr rfl)]; omega)
    unfold degF
    exact this
end Go.Proofs.Ytlleokhmgblfnaa.P
end

section
namespace Go.Proofs.Ytlleokhmgblfnaa.P
open Go.RowKit Go.Proofs.YtlleokhmgblfnaaW.PrintWords Go.Proofs.Ytlleokhmgblfnaa.H
theorem levA_spec {m : List Int} {n : Nat} (hm : m.length = n) (hn : n ≤ 1000000) : ∀ (d : Nat) (i : Int) (l q : List Int), (n : Int) = i + d → 0 ≤ i → l.length = n →
    (∀ x : Int, 0 ≤ x → x < i → rd l x = if rd m x < 0 then 0 else -1) → (∀ x ∈ q, 0 ≤ x ∧ x < i ∧ rd m x < 0) → (∀ x : Int, 0 ≤ x → x < i → rd m x < 0 → x ∈ q) → (q.length + cnt i.toNat (fun x => decide (0 ≤ rd m x)) = i.toNat) →
    ∃ K l' q', levA m n K i l q = some (l', q') ∧ l'.length = n ∧ (∀ x : Int, 0 ≤ x → x < n → rd l' x = if rd m x < 0 then 0 else -1) ∧ (∀ x ∈ q', 0 ≤ x ∧ x < n ∧ rd m x < 0) ∧ (∀ x : Int, 0 ≤ x → x < n → rd m x < 0 → x ∈ q') ∧ q'.length + cnt n (fun x => decide (0 ≤ rd m x)) = n := by
  intro d
  induction d with
  | zero =>
    intro i l q hd hi hl h1 h2 h3 h4
    have e : i = n := by omega
    subst e
    exact ⟨1, l, q, by rw [levA, if_neg (by omega)], hl, h1, h2, h3, by simpa using h4⟩
  | succ d ih =>
    intro i l q hd hi hl h1 h2 h3 h4
    have ei : (i + 1).toNat = i.toNat + 1 := by omega
    have ec : ((i.toNat : Nat) : Int) = i := by omega
    have cs : cnt (i + 1).toNat (fun x => decide (0 ≤ rd m x)) = cnt i.toNat (fun x => decide (0 ≤ rd m x)) + if decide (0 ≤ rd m i) = true then 1 else 0 := by
      rw [ei, cnt_succ, ec]
    by_cases hneg : rd m i < 0
    · have hq : q.length < 17592186044416 := by have := cnt_le (fun x => decide (0 ≤ rd m x)) i.toNat; omega
      obtain ⟨K, l', q', hK, r⟩ := ih (i + 1) ((l.set i.toNat (-1)).set i.toNat 0) (q ++ [i]) (by omega) (by omega) (by simpa using hl) (fun x h0 hx => by
          by_cases e : x = i
          · subst e
            rw [rd_set_eq h0 (by simp; omega), if_pos hneg]
          · rw [rd_set_ne hi (by simp; omega) h0 e, rd_set_ne hi (by omega) h0 e]
            exact h1 x h0 (by omega)) (fun x hx => by
          rcases List.mem_append.1 hx with hx | hx
          · have := h2 x hx; exact ⟨this.1, by omega, this.2.2⟩
          · rw [List.mem_singleton.1 hx]; exact ⟨hi, by omega, hneg⟩) (fun x h0 hx hm => by
          by_cases e : x = i
          · subst e; simp
          · exact List.mem_append_left _ (h3 x h0 (by omega) hm)) (by
          rw [cs, if_neg (by simp; omega)]
          simp
          omega)
      exact ⟨K + 1, l', q', by rw [levA, if_pos (by omega), if_pos (by omega), if_pos (by omega), if_pos hneg, if_pos hq]; exact hK, r⟩
    · obtain ⟨K, l', q', hK, r⟩ := ih (i + 1) (l.set i.toNat (-1)) q (by omega) (by omega) (by simpa using hl) (fun x h0 hx => by
          by_cases e : x = i
          · subst e
            rw [rd_set_eq h0 (by omega), if_neg hneg]
          · rw [rd_set_ne hi (by omega) h0 e]
            exact h1 x h0 (by omega)) (fun x hx => by have := h2 x hx; exact ⟨this.1, by omega, this.2.2⟩) (fun x h0 hx hm => by
          by_cases e : x = i
          · subst e; exact absurd hm hneg
          · exact h3 x h0 (by omega) hm) (by
          rw [cs, if_pos (by simp; omega)]
          omega)
      exact ⟨K + 1, l', q', by rw [levA, if_pos (by omega), if_pos (by omega), if_pos (by omega), if_neg hneg]; exact hK, r⟩
def unr (n : Nat) (l : List Int) : Nat := cnt n (fun x => decide (rd l x < 0))
structure LInv (next : List (List Int)) (m b : List Int) (v j : Int) (f : Bool) (l q : List Int) : Prop where
  ll : l.length = next.length
  lo : ∀ x : Int, 0 ≤ x → x < next.length → -1 ≤ rd l x
  hi : ∀ x : Int, 0 ≤ x → x < next.length → rd l x + unr next.length l < next.length
  fr : ∀ x : Int, 0 ≤ x → x < next.length → (rd m x < 0 ↔ rd l x = 0)
  qr : ∀ x ∈ q, 0 ≤ x ∧ x < next.length ∧ 0 ≤ rd l x
  pr : ∀ x : Int, 0 ≤ x → x < next.length → 0 < rd l x → ∃ p : Int, 0 ≤ p ∧ p < next.length ∧ rd l p = rd l x - 1 ∧ ∃ w ∈ rdL next p, rd b w = x
  cl : ∀ x : Int, 0 ≤ x → x < next.length → 0 ≤ rd l x → x ∉ q → x ≠ v → ∀ w ∈ rdL next x, (rd b w < 0 → f = true) ∧ (0 ≤ rd b w → 0 ≤ rd l (rd b w))
  cv : 0 ≤ v → ∀ j' : Int, 0 ≤ j' → j' < j → j' < (rdL next v).length → (rd b (rd (rdL next v) j') < 0 → f = true) ∧ (0 ≤ rd b (rd (rdL next v) j') → 0 ≤ rd l (rd b (rd (rdL next v) j')))
  fo : f = true → ∃ x : Int, 0 ≤ x ∧ x < next.length ∧ 0 ≤ rd l x ∧ ∃ w ∈ rdL next x, rd b w < 0
theorem levC_spec {next : List (List Int)} {R : Nat} (hn : next.length ≤ 1000000) (hNV : NV next R) {m b : List Int} (hg : Hole next R m b (-1)) (v : Int) (hv0 : 0 ≤ v) (hv1 : v < next.length) :
    ∀ (e : Nat) (j : Int) (f : Bool) (l q : List Int), (rdL next v).length ≤ j + e → 0 ≤ j → LInv next m b v j f l q → 0 ≤ rd l v → q.length + unr next.length l ≤ next.length →
      ∃ K s, levC b (rdL next v) v K j f l q = some s ∧ LInv next m b (-1) 0 s.1 s.2.1 s.2.2 ∧ s.2.2.length + unr next.length s.2.1 = q.length + unr next.length l := by
  intro e
  induction e with
  | zero =>
    intro j f l q he hj hI hlv hq
    refine ⟨1, (f, l, q), by rw [levC, if_neg (by omega)], ⟨hI.ll, hI.lo, hI.hi, hI.fr, hI.qr, hI.pr, fun x h0 h1 h2 h3 _ w hw => ?_, fun h => by omega, hI.fo⟩, rfl⟩
    by_cases ex : x = v
    · subst ex
      obtain ⟨i, i0, i1, rfl⟩ := mem_rd hw
      exact hI.cv h0 i i0 (by omega) i1
    · exact hI.cl x h0 h1 h2 h3 ex w hw
  | succ e ih =>
    intro j f l q he hj hI hlv hq
    by_cases hlt : j < (rdL next v).length
    case neg => exact ih j f l q (by omega) hj hI hlv hq
    obtain ⟨x, hx⟩ : ∃ x, rd (rdL next v) j = x := ⟨_, rfl⟩
    have hxm : x ∈ rdL next v := hx ▸ rd_mem hj hlt
    obtain ⟨hx0, hx1⟩ := hNV v hv0 hv1 x hxm
    obtain ⟨u, hu⟩ : ∃ u, rd b x = u := ⟨_, rfl⟩
    have hlb := hg.lb
    have hll := hI.ll
    by_cases hu0 : u < 0
    · have hI' : LInv next m b v (j + 1) true l q := by
        refine ⟨hI.ll, hI.lo, hI.hi, hI.fr, hI.qr, hI.pr, fun y h0 h1 h2 h3 h4 w hw => ⟨fun _ => rfl, (hI.cl y h0 h1 h2 h3 h4 w hw).2⟩, fun _ j' h0 h1 h2 => ⟨fun _ => rfl, fun h3 => ?_⟩, fun _ => ⟨v, hv0, hv1, hlv, x, hxm, by omega⟩⟩
        by_cases ej : j' = j
        · subst ej; rw [hx, hu] at h3; omega
        · exact (hI.cv hv0 j' h0 (by omega) h2).2 h3
      obtain ⟨K, s, hK, r⟩ := ih (j + 1) true l q (by omega) (by omega) hI' hlv hq
      exact ⟨K + 1, s, by rw [levC, if_pos hlt, hx, if_pos hx0, if_pos (by omega), hu, if_pos hu0]; exact hK, r⟩
    have hu0' : 0 ≤ u := by omega
    obtain ⟨hun, hum⟩ := hg.bb x hx0 hx1 (by omega) (by omega)
    rw [hu] at hun hum
    by_cases hlu : rd l u < 0
    · have hlu1 : rd l u = -1 := by have := hI.lo u hu0' hun; omega
      have huv : u ≠ v := fun e => by rw [e] at hlu; omega
      have hvb := hI.hi v hv0 hv1
      have hub : unr next.length l ≤ next.length := cnt_le _ _
      have wr : wrap64 (rd l v + 1) = rd l v + 1 := by unfold wrap64; omega
      have hun2 : unr next.length (l.set u.toNat (rd l v + 1)) + 1 = unr next.length l := by
        unfold unr
        rw [cnt_out (fun x => decide (rd l x < 0)) u next.length hu0' hun (by simpa using hlu)]
        congr 1
        refine cnt_congr _ (fun y h0 h1 => ?_)
        by_cases ey : y = u
        · subst ey
          rw [rd_set_eq h0 (by omega)]
          have : ¬ rd l v + 1 < 0 := by omega
          simp [this]
        · rw [rd_set_ne hu0' (by omega) h0 ey]
          have : (y != u) = true := by simpa using ey
          rw [this, Bool.and_true]
      have hset : ∀ y : Int, 0 ≤ y → y ≠ u → rd (l.set u.toNat (rd l v + 1)) y = rd l y := fun y h0 ey => rd_set_ne hu0' (by omega) h0 ey
      have hsetu : rd (l.set u.toNat (rd l v + 1)) u = rd l v + 1 := rd_set_eq hu0' (by omega)
      have hge : ∀ y : Int, 0 ≤ y → 0 ≤ rd l y → 0 ≤ rd (l.set u.toNat (rd l v + 1)) y := fun y h0 h => by
        by_cases ey : y = u
        · subst ey; rw [hsetu]; omega
        · rw [hset y h0 ey]; exact h
      have hI' : LInv next m b v (j + 1) f (l.set u.toNat (rd l v + 1)) (q ++ [u]) := by
       refine ⟨by simpa using hll, fun y h0 h1 => ?_, fun y h0 h1 => ?_, fun y h0 h1 => ?_, fun y hy => ?_, fun y h0 h1 h2 => ?_, fun y h0 h1 h2 h3 h4 w hw => ?_, fun _ j' h0 h1 h2 => ?_, fun h => ?_⟩
       · by_cases ey : y = u
         · subst ey; rw [hsetu]; omega
         · rw [hset y h0 ey]; exact hI.lo y h0 h1
       · by_cases ey : y = u
         · subst ey; rw [hsetu]; omega
         · rw [hset y h0 ey]; have := hI.hi y h0 h1; omega
       · by_cases ey : y = u
         · subst ey; rw [hsetu, hum]; omega
         · rw [hset y h0 ey]; exact hI.fr y h0 h1
       · rcases List.mem_append.1 hy with hy | hy
         · obtain ⟨a1, a2, a3⟩ := hI.qr y hy; exact ⟨a1, a2, hge y a1 a3⟩
         · rw [List.mem_singleton.1 hy]; exact ⟨hu0', hun, by rw [hsetu]; omega⟩
       · by_cases ey : y = u
         · subst ey
           exact ⟨v, hv0, hv1, by rw [hsetu, hset v hv0 huv.symm]; omega, x, hxm, hu⟩
         · rw [hset y h0 ey] at h2
           obtain ⟨p, p0, p1, p2, w, hw, p3⟩ := hI.pr y h0 h1 h2
           have ep : p ≠ u := fun e => by rw [e] at p2; omega
           exact ⟨p, p0, p1, by rw [hset y h0 ey, hset p p0 ep]; exact p2, w, hw, p3⟩
       · have ey : y ≠ u := fun e => h3 (by rw [e]; simp)
         rw [hset y h0 ey] at h2
         obtain ⟨c1, c2⟩ := hI.cl y h0 h1 h2 (fun h => h3 (List.mem_append_left _ h)) h4 w hw
         exact ⟨c1, fun h => hge _ h (c2 h)⟩
       · by_cases ej : j' = j
         · subst ej
           rw [hx, hu]
           exact ⟨fun h => by omega, fun _ => by rw [hsetu]; omega⟩
         · obtain ⟨c1, c2⟩ := hI.cv hv0 j' h0 (by omega) h2
           exact ⟨c1, fun h => hge _ h (c2 h)⟩
       · obtain ⟨y, y0, y1, y2, r⟩ := hI.fo h
         exact ⟨y, y0, y1, hge y y0 y2, r⟩
      obtain ⟨K, s, hK, r1, r2⟩ := ih (j + 1) f (l.set u.toNat (rd l v + 1)) (q ++ [u]) (by omega) (by omega) hI' (by rw [hset v hv0 huv.symm]; omega) (by simp; omega)
      refine ⟨K + 1, s, ?_, r1, by rw [r2]; simp; omega⟩
      rw [levC, if_pos hlt, hx, if_pos hx0, if_pos (by omega), hu, if_neg hu0, if_pos (by omega), if_pos hlu, if_pos (by omega), if_pos (by omega), wr]
      exact hK
    · have hI' : LInv next m b v (j + 1) f l q := by
        refine ⟨hI.ll, hI.lo, hI.hi, hI.fr, hI.qr, hI.pr, hI.cl, fun _ j' h0 h1 h2 => ?_, hI.fo⟩
        by_cases ej : j' = j
        · subst ej
          rw [hx, hu]
          exact ⟨fun h => by omega, fun _ => by omega⟩
        · exact hI.cv hv0 j' h0 (by omega) h2
      obtain ⟨K, s, hK, r⟩ := ih (j + 1) f l q (by omega) (by omega) hI' hlv hq
      exact ⟨K + 1, s, by rw [levC, if_pos hlt, hx, if_pos hx0, if_pos (by omega), hu, if_neg hu0, if_pos (by omega), if_neg hlu]; exact hK, r⟩
theorem levB_spec {next : List (List Int)} {R : Nat} (hn : next.length ≤ 1000000) (hNV : NV next R) {m b : List Int} (hg : Hole next R m b (-1)) :
    ∀ (d : Nat) (f : Bool) (l q : List Int), q.length + unr next.length l ≤ d → d ≤ next.length → LInv next m b (-1) 0 f l q →
      ∃ K s, levB next b K f l q = some s ∧ LInv next m b (-1) 0 s.1 s.2 [] := by
  intro d
  induction d with
  | zero =>
    intro f l q hd hdn hI
    have : q = [] := List.length_eq_zero_iff.1 (by omega)
    subst this
    exact ⟨1, (f, l), rfl, hI⟩
  | succ d ih =>
    intro f l q hd hdn hI
    cases q with
    | nil => exact ⟨1, (f, l), rfl, hI⟩
    | cons v q =>
      obtain ⟨hv0, hv1, hlv⟩ := hI.qr v (by simp)
      simp only [List.length_cons] at hd
      obtain ⟨K1, s, hK1, hI1, he⟩ := levC_spec hn hNV hg v hv0 hv1 (rdL next v).length 0 f l q (by omega) (by omega)
        ⟨hI.ll, hI.lo, hI.hi, hI.fr, fun x hx => hI.qr x (by simp [hx]), hI.pr, fun x h0 h1 h2 h3 h4 w hw => hI.cl x h0 h1 h2 (by simp [h3, h4]) (by omega) w hw, fun _ j' h0 h1 => by omega, hI.fo⟩ hlv (by omega)
      obtain ⟨K2, t, hK2, hI2⟩ := ih s.1 s.2.1 s.2.2 (by omega) (by omega) hI1
      refine ⟨max K1 K2 + 1, t, ?_, hI2⟩
      rw [levB, if_pos hv0, if_pos hv1, at_rounds (g := fun k => levC b (rdL next v) v k 0 f l q) (fun k => levC_mono _ _ _ _ _ _ _ _) (Nat.le_max_left K1 K2) hK1]
      exact at_rounds (g := fun k => levB next b k s.1 s.2.1 s.2.2) (fun k => levB_mono _ _ _ _ _ _) (Nat.le_max_right K1 K2) hK2
theorem levF_spec {next : List (List Int)} {R : Nat} (hn : next.length ≤ 1000000) (hNV : NV next R) {m b : List Int} (hg : Hole next R m b (-1)) (l : List Int) (hl : l.length = next.length) :
    ∃ K s, levF next m b K l = some s ∧ LInv next m b (-1) 0 s.1 s.2 [] := by
  obtain ⟨K1, l1, q1, hK1, a1, a2, a3, a4, a5⟩ := levA_spec hg.lm hn next.length 0 l [] (by omega) (by omega) hl (fun x h0 h1 => by omega) (fun x hx => by cases hx) (fun x h0 h1 => by omega) rfl
  have hu : unr next.length l1 = cnt next.length (fun x => decide (0 ≤ rd m x)) := by
    refine cnt_congr _ (fun x h0 h1 => ?_)
    rw [a2 x h0 h1]
    by_cases h : rd m x < 0
    · rw [if_pos h]
      have : ¬ 0 ≤ rd m x := by omega
      simp [this]
    · rw [if_neg h]
      have : 0 ≤ rd m x := by omega
      simp [this]
  have hI0 : LInv next m b (-1) 0 false l1 q1 := by
   refine ⟨a1, fun x h0 h1 => by rw [a2 x h0 h1]; split <;> omega, fun x h0 h1 => ?_, fun x h0 h1 => by rw [a2 x h0 h1]; split <;> omega, fun x hx => ?_, fun x h0 h1 h2 => ?_, fun x h0 h1 h2 h3 => ?_, fun h => by omega, (fun h => by cases h)⟩
   · rw [a2 x h0 h1]
     split
     · have hx := a4 x h0 h1 (by assumption)
       have : 0 < q1.length := List.length_pos_of_mem hx
       omega
     · have := cnt_le (fun x => decide (0 ≤ rd m x)) next.length
       omega
   · obtain ⟨x0, x1, x2⟩ := a3 x hx
     exact ⟨x0, x1, by rw [a2 x x0 x1, if_pos x2]; omega⟩
   · rw [a2 x h0 h1] at h2
     split at h2 <;> omega
   · rw [a2 x h0 h1] at h2
     split at h2
     · exact absurd (a4 x h0 h1 (by assumption)) h3
     · omega
  obtain ⟨K2, s, hK2, hI⟩ := levB_spec hn hNV hg next.length false l1 q1 (by omega) (Nat.le_refl _) hI0
  refine ⟨max K1 K2, s, ?_, hI⟩
  unfold levF
  rw [at_rounds (g := fun k => levA m next.length k 0 l []) (fun k => levA_mono _ _ _ _ _ _) (Nat.le_max_left K1 K2) hK1]
  exact at_rounds (g := fun k => levB next b k false l1 q1) (fun k => levB_mono _ _ _ _ _ _) (Nat.le_max_right K1 K2) hK2
end Go.Proofs.Ytlleokhmgblfnaa.P
namespace Go.Proofs.Ytlleokhmgblfnaa.P
open Go.RowKit Go.Proofs.YtlleokhmgblfnaaW.PrintWords Go.Proofs.Ytlleokhmgblfnaa.H
def msz (n : Nat) (m : List Int) : Nat := cnt n (fun x => decide (0 ≤ rd m x))
theorem phase_spec {next : List (List Int)} {R : Nat} (hn : next.length ≤ 1000000) (hNV : NV next R) {m0 b0 l0 : List Int} :
    ∀ (e : Nat) (v : Int) (m b l : List Int), next.length ≤ v + e → 0 ≤ v → Hole next R m b (-1) → l.length = next.length →
      (∀ x : Int, 0 ≤ x → x < next.length → -1 ≤ rd l x ∧ rd l x ≤ next.length) →
      (∀ x : Int, v ≤ x → x < next.length → rd m x < 0 → rd l x = 0) →
      (∀ x : Int, 0 ≤ x → x < next.length → 0 ≤ rd m0 x → 0 ≤ rd m x) →
      ((∃ x : Int, 0 ≤ x ∧ x < next.length ∧ rd m0 x < 0 ∧ 0 ≤ rd m x) ∨ (m = m0 ∧ b = b0 ∧ Base next.length l0 l ∧ DC next b0 l0 l ∧ ∀ x : Int, 0 ≤ x → x < v → x < next.length → rd m0 x < 0 → rd l x = -1)) →
      ∃ K t, phase next K v m b l = some t ∧ Hole next R t.1 t.2.1 (-1) ∧ t.2.2.length = next.length ∧ (∀ x : Int, 0 ≤ x → x < next.length → 0 ≤ rd m0 x → 0 ≤ rd t.1 x) ∧
        ((∃ x : Int, 0 ≤ x ∧ x < next.length ∧ rd m0 x < 0 ∧ 0 ≤ rd t.1 x) ∨ (t.1 = m0 ∧ t.2.1 = b0 ∧ Base next.length l0 t.2.2 ∧ DC next b0 l0 t.2.2 ∧ ∀ x : Int, 0 ≤ x → x < next.length → rd m0 x < 0 → rd t.2.2 x = -1)) := by
  intro e
  induction e with
  | zero =>
    intro v m b l he hv hg hl hL hfr hmo hp
    refine ⟨1, (m, b, l), by rw [phase, if_neg (by omega)], hg, hl, hmo, ?_⟩
    rcases hp with hp | ⟨p1, p2, p3, p4, p5⟩
    · exact .inl hp
    · exact .inr ⟨p1, p2, p3, p4, fun x h0 h1 => p5 x h0 (by omega) h1⟩
  | succ e ih =>
    intro v m b l he hv hg hl hL hfr hmo hp
    by_cases hlt : v < next.length
    case neg => exact ih v m b l (by omega) hv hg hl hL hfr hmo hp
    by_cases hneg : rd m v < 0
    · have hl0 := hfr v (Int.le_refl _) hlt hneg
      obtain ⟨K1, q, hK1, S⟩ := ext_spec (by omega) hNV hg (next.length + 1) v l hv hlt hl hL (by omega) (by omega)
      have hLq : ∀ x : Int, 0 ≤ x → x < next.length → -1 ≤ rd q.2.2.2 x ∧ rd q.2.2.2 x ≤ next.length := fun x h0 h1 => by
        rcases S.lv x h0 h1 with h | ⟨h, _⟩
        · rw [h]; exact hL x h0 h1
        · rw [h]; omega
      have hfq : ∀ x : Int, v + 1 ≤ x → x < next.length → rd m x < 0 → rd q.2.2.2 x = 0 := fun x h0 h1 h2 => by
        have h3 := hfr x (by omega) h1 h2
        rcases S.lv x (by omega) h1 with h | ⟨h, h' | h'⟩
        · omega
        · omega
        · omega
      obtain ⟨q0, qm, qb, ql⟩ := q
      cases q0 with
      | true =>
        obtain ⟨s1, s2, s3⟩ := S.ok rfl
        have hm0v : rd m0 v < 0 := by
          by_cases h : 0 ≤ rd m0 v
          · have := hmo v hv hlt h; omega
          · omega
        have hqm : ∀ x : Int, 0 ≤ x → x < next.length → 0 ≤ rd m0 x → 0 ≤ rd qm x := fun x h0 h1 h2 => (s2 x h0 h1).2 (.inl (hmo x h0 h1 h2))
        obtain ⟨K2, t, hK2, r⟩ := ih (v + 1) qm qb ql (by omega) (by omega) (s1.neg hneg) S.ll hLq
          (fun x h0 h1 h2 => hfq x h0 h1 (by
            by_cases h : 0 ≤ rd m x
            · have := (s2 x (by omega) h1).2 (.inl h)
              have h2' : rd qm x < 0 := h2
              have this' : 0 ≤ rd qm x := this
              omega
            · omega)) hqm
          (.inl ⟨v, hv, hlt, hm0v, (s2 v hv hlt).2 (.inr rfl)⟩)
        refine ⟨max K1 K2 + 1, t, ?_, r⟩
        rw [phase, if_pos hlt, if_pos hneg, at_rounds (extG_mono_k next v 0 m b l) (Nat.le_max_left K1 K2) hK1]
        exact at_rounds (g := fun k => phase next k (v + 1) qm qb ql) (fun k => phase_mono _ _ _ _ _ _) (Nat.le_max_right K1 K2) hK2
      | false =>
        obtain ⟨s1, s2, s3⟩ := S.no rfl
        have s1' : qm = m := s1
        have s2' : qb = b := s2
        subst s1' s2'
        obtain ⟨K2, t, hK2, r⟩ := ih (v + 1) qm qb ql (by omega) (by omega) hg S.ll hLq hfq hmo
          (by
            rcases hp with hp | ⟨p1, p2, p3, p4, p5⟩
            · exact .inl hp
            · subst p1 p2
              refine .inr ⟨rfl, rfl, fun x h0 h1 => ?_, S.dc rfl l0 p3 p4, fun x h0 h1 h2 h3 => ?_⟩
              · rcases S.lv x h0 h1 with h | ⟨h, _⟩
                · rw [h]; exact p3 x h0 h1
                · exact .inr h
              · by_cases ex : x = v
                · subst ex; exact s3
                · have h4 := p5 x h0 (by omega) h2 h3
                  rcases S.lv x h0 h2 with h | ⟨h, _⟩
                  · exact h.trans h4
                  · exact h)
        refine ⟨max K1 K2 + 1, t, ?_, r⟩
        rw [phase, if_pos hlt, if_pos hneg, at_rounds (extG_mono_k next v 0 qm qb l) (Nat.le_max_left K1 K2) hK1]
        exact at_rounds (g := fun k => phase next k (v + 1) qm qb ql) (fun k => phase_mono _ _ _ _ _ _) (Nat.le_max_right K1 K2) hK2
    · obtain ⟨K, t, hK, r⟩ := ih (v + 1) m b l (by omega) (by omega) hg hl hL (fun x h0 h1 => hfr x (by omega) h1) hmo
        (by
          rcases hp with hp | ⟨p1, p2, p3, p4, p5⟩
          · exact .inl hp
          · refine .inr ⟨p1, p2, p3, p4, fun x h0 h1 h2 h3 => ?_⟩
            by_cases ex : x = v
            · subst ex; rw [p1] at hneg; exact absurd h3 hneg
            · exact p5 x h0 (by omega) h2 h3)
      exact ⟨K + 1, t, by rw [phase, if_pos hlt, if_neg hneg]; exact hK, r⟩
theorem phase_gains {next : List (List Int)} {m b l0 l : List Int} (hI : LInv next m b (-1) 0 true l0 []) (hB : Base next.length l0 l) (hD : DC next b l0 l) (hf : ∀ x : Int, 0 ≤ x → x < next.length → rd m x < 0 → rd l x = -1) : False := by
  have dead : ∀ (i : Nat) (x : Int), 0 ≤ x → x < next.length → rd l0 x = i → rd l x = -1 := by
    intro i
    induction i with
    | zero => intro x h0 h1 h2; exact hf x h0 h1 ((hI.fr x h0 h1).2 h2)
    | succ i ih =>
      intro x h0 h1 h2
      obtain ⟨p, p0, p1, p2, w, hw, p3⟩ := hI.pr x h0 h1 (by omega)
      have hp := ih p p0 p1 (by omega)
      obtain ⟨_, h⟩ := hD p p0 p1 (by omega) hp w hw
      rw [p3] at h
      exact h (by omega)
  obtain ⟨x, x0, x1, x2, w, hw, hb⟩ := hI.fo rfl
  have := hD x x0 x1 x2 (dead (rd l0 x).toNat x x0 x1 (by omega)) w hw
  omega
theorem great_spec {next : List (List Int)} {R : Nat} (hn : next.length ≤ 1000000) (hNV : NV next R) :
    ∀ (d : Nat) (m b l : List Int), Hole next R m b (-1) → l.length = next.length → next.length - msz next.length m < d →
      ∃ K r, great next K m b l = some r ∧ Hole next R r.1 r.2 (-1) ∧ ∃ l', LInv next r.1 r.2 (-1) 0 false l' [] := by
  intro d
  induction d with
  | zero => intro m b l hg hl hd; omega
  | succ d ih =>
    intro m b l hg hl hd
    obtain ⟨K1, s, hK1, hI⟩ := levF_spec hn hNV hg l hl
    obtain ⟨f, l0⟩ := s
    cases f with
    | false =>
      exact ⟨K1 + 1, (m, b), by rw [great, hK1]; rfl, hg, l0, hI⟩
    | true =>
      have hub : unr next.length l0 ≤ next.length := cnt_le _ _
      obtain ⟨K2, t, hK2, h1, h2, h3, h4⟩ := phase_spec hn hNV (m0 := m) (b0 := b) (l0 := l0) next.length 0 m b l0 (by omega) (by omega) hg hI.ll
        (fun x h0 h1 => ⟨hI.lo x h0 h1, by have := hI.hi x h0 h1; simp only at this ⊢; omega⟩) (fun x h0 h1 h2 => (hI.fr x h0 h1).1 h2) (fun x _ _ h => h)
        (.inr ⟨rfl, rfl, fun x _ _ => .inl rfl, fun x h0 h1 h2 h3 => by omega, fun x h0 h1 => by omega⟩)
      have hgain : msz next.length m < msz next.length t.1 := by
        rcases h4 with ⟨x, x0, x1, x2, x3⟩ | ⟨e1, e2, e3, e4, e5⟩
        · unfold msz
          rw [cnt_out (fun y => decide (0 ≤ rd t.1 y)) x next.length x0 x1 (by simpa using x3)]
          refine Nat.lt_succ_of_le (cnt_mono _ (fun y h0 h1 hy => ?_))
          have hy' : 0 ≤ rd m y := by simpa using hy
          have : y ≠ x := fun e => by rw [e] at hy'; omega
          simp [h3 y h0 h1 hy', this]
        · exact absurd (phase_gains hI e3 e4 e5) (by simp)
      have hle : msz next.length t.1 ≤ next.length := cnt_le _ _
      obtain ⟨K3, r, hK3, hr⟩ := ih t.1 t.2.1 t.2.2 h1 h2 (by omega)
      refine ⟨max K1 (max K2 K3) + 1, r, ?_, hr⟩
      rw [great, at_rounds (g := fun k => levF next m b k l) (fun k => levF_mono _ _ _ _ _) (Nat.le_max_left K1 _) hK1]
      simp only [Option.bind_some, if_true]
      rw [at_rounds (g := fun k => phase next k 0 m b l0) (fun k => phase_mono _ _ _ _ _ _) (Nat.le_trans (Nat.le_max_left K2 K3) (Nat.le_max_right K1 _)) hK2]
      exact at_rounds (g := fun k => great next k t.1 t.2.1 t.2.2) (fun k => great_mono _ _ _ _ _) (Nat.le_trans (Nat.le_max_right K2 K3) (Nat.le_max_right K1 _)) hK3
theorem rd_nones (n : Nat) (x : Int) (h0 : 0 ≤ x) (h1 : x < n) : rd (nones n) x = -1 := by
  unfold rd nones
  rw [List.getD_eq_getElem?_getD, List.getElem?_replicate, if_pos (by omega)]
  rfl
theorem greatF_spec {next : List (List Int)} {R : Nat} (hn : next.length ≤ 1000000) (hR : R ≤ 1000000) (hNV : NV next R) :
    ∃ K m b, greatF K next R = some (m, b) ∧ Hole next R m b (-1) ∧ ∃ l, LInv next m b (-1) 0 false l [] := by
  have hg : Hole next R (nones next.length) (nones R) (-1) :=
    ⟨by simp [nones], by simp [nones], fun v h0 h1 h2 => by rw [rd_nones _ _ h0 h1] at h2; omega, fun w h0 h1 _ h2 => by rw [rd_nones _ _ h0 h1] at h2; omega⟩
  obtain ⟨K, r, hK, h⟩ := great_spec hn hNV (next.length + 1) (nones next.length) (nones R) (List.replicate next.length 0) hg (by simp) (by omega)
  refine ⟨K, r.1, r.2, ?_, h⟩
  unfold greatF
  rw [if_pos (by omega), if_pos (by omega), if_pos (by omega)]
  exact hK
end Go.Proofs.Ytlleokhmgblfnaa.P
end

section
namespace Go.Proofs.Ytlleokhmgblfnaa.P
open Go.RowKit Go.Proofs.YtlleokhmgblfnaaW.PrintWords Go.Proofs.Ytlleokhmgblfnaa.H Go.Proofs.Ytlleokhmgblfnaa.M
theorem w64 {x : Int} (h0 : -9223372036854775808 ≤ x) (h1 : x ≤ 9223372036854775807) : wrap64 x = x := by unfold wrap64; omega
theorem fuel {k d : Nat} (h : d < k) : ∃ k', k = k' + 1 := ⟨k - 1, by omega⟩
theorem getD_set {α : Type} (d : α) (xs : List α) (i j : Int) (y : α) (h0 : 0 ≤ i) (h1 : i < xs.length) (hj : 0 ≤ j) : (xs.set i.toNat y).getD j.toNat d = if j = i then y else xs.getD j.toNat d := by
  rw [List.getD_eq_getElem?_getD, List.getD_eq_getElem?_getD, List.getElem?_set]
  by_cases e : j = i
  · subst e
    rw [if_pos rfl, if_pos rfl, if_pos (by omega)]
    rfl
  · rw [if_neg (by omega), if_neg e]
theorem getD_rep {α : Type} (d : α) (n i : Nat) : (List.replicate n d).getD i d = d := by
  rw [List.getD_eq_getElem?_getD, List.getElem?_replicate]
  split <;> rfl
def Adj (E : List S40) (v w : Int) : Prop := ∃ j : Int, 0 ≤ j ∧ j < E.length ∧ (rd_T40 E j).f0 = v ∧ (rd_T40 E j).f1 = w
structure GOK (L R : Nat) (E : List S40) : Prop where
  L1 : L ≤ 1024
  R1 : R ≤ 1024
  len : E.length ≤ 65536
  rng : ∀ j : Int, 0 ≤ j → j < E.length → 0 ≤ (rd_T40 E j).f0 ∧ (rd_T40 E j).f0 < L ∧ 0 ≤ (rd_T40 E j).f1 ∧ (rd_T40 E j).f1 < R
theorem nbr_l0 {L R : Nat} {E : List S40} (g : GOK L R E) :
    ∀ (d : Nat) (i : Int) (x : List (List Int)), (E.length : Int) = i + d → 0 ≤ i → x.length = L →
      (∀ v w : Int, 0 ≤ v → v < L → (w ∈ rd_L5 x v ↔ ∃ j : Int, 0 ≤ j ∧ j < i ∧ (rd_T40 E j).f0 = v ∧ (rd_T40 E j).f1 = w)) →
      (∀ v : Int, 0 ≤ v → v < L → (rd_L5 x v).length ≤ i) →
      ∃ r, (∀ k, d < k → match_Graph_neighbours.l0 k x E E.length i = some r) ∧ r.length = L ∧ (∀ v w : Int, 0 ≤ v → v < L → (w ∈ rd_L5 r v ↔ Adj E v w)) ∧ ∀ v : Int, 0 ≤ v → v < L → (rd_L5 r v).length ≤ 1000000 := by
  have hl := g.len
  intro d
  induction d with
  | zero =>
    intro i x hd hi hx h1 h2
    refine ⟨x, fun k hk => ?_, hx, fun v w h3 h4 => ?_, fun v h3 h4 => by have := h2 v h3 h4; omega⟩
    · obtain ⟨k, rfl⟩ := fuel hk
      rw [match_Graph_neighbours.l0, if_neg (by omega)]
    · rw [h1 v w h3 h4, show i = (E.length : Int) by omega]; rfl
  | succ d ih =>
    intro i x hd hi hx h1 h2
    obtain ⟨a0, a1, a2, a3⟩ := g.rng i hi (by omega)
    obtain ⟨e, he⟩ : ∃ e, rd_T40 E i = e := ⟨_, rfl⟩
    rw [he] at a0 a1 a2 a3
    have hs : ∀ v : Int, 0 ≤ v → rd_L5 (x.set e.f0.toNat ((rd_L5 x e.f0) ++ [e.f1])) v = if v = e.f0 then (rd_L5 x e.f0) ++ [e.f1] else rd_L5 x v := fun v h => getD_set _ x e.f0 v _ a0 (by omega) h
    obtain ⟨r, hr, r1, r2⟩ := ih (i + 1) (x.set e.f0.toNat ((rd_L5 x e.f0) ++ [e.f1])) (by omega) (by omega) (by simpa using hx)
      (fun v w h3 h4 => by
        rw [hs v h3]
        by_cases ev : v = e.f0
        · subst ev
          rw [if_pos rfl, List.mem_append, h1 e.f0 w h3 h4, List.mem_singleton]
          constructor
          · rintro (⟨j, b0, b1, b2⟩ | h)
            · exact ⟨j, b0, by omega, b2⟩
            · exact ⟨i, hi, by omega, by rw [he], by rw [he, h]⟩
          · rintro ⟨j, b0, b1, b2, b3⟩
            by_cases ej : j = i
            · subst ej; rw [he] at b3; exact .inr b3.symm
            · exact .inl ⟨j, b0, by omega, b2, b3⟩
        · rw [if_neg ev, h1 v w h3 h4]
          constructor
          · rintro ⟨j, b0, b1, b2⟩; exact ⟨j, b0, by omega, b2⟩
          · rintro ⟨j, b0, b1, b2, b3⟩
            have ej : j ≠ i := fun ej => by subst ej; rw [he] at b2; exact ev b2.symm
            exact ⟨j, b0, by omega, b2, b3⟩)
      (fun v h3 h4 => by
        rw [hs v h3]
        split
        · have := h2 e.f0 a0 a1; simp; omega
        · have := h2 v h3 h4; omega)
    refine ⟨r, fun k hk => ?_, r1, r2⟩
    obtain ⟨k, rfl⟩ := fuel hk
    have := h2 e.f0 a0 a1
    rw [match_Graph_neighbours.l0, if_pos (by omega), if_pos hi, if_pos (by omega), he, if_pos a0, if_pos (by omega), if_pos (by omega), w64 (by omega) (by omega)]
    exact hr k (by omega)
theorem nbr_spec {L R : Nat} {E : List S40} (g : GOK L R E) :
    ∃ r, (∀ k, E.length < k → match_Graph_neighbours.f k L R E = some r) ∧ r.length = L ∧ (∀ v w : Int, 0 ≤ v → v < L → (w ∈ rdL r v ↔ Adj E v w)) ∧ ∀ v : Int, 0 ≤ v → v < L → (rdL r v).length ≤ 1000000 := by
  have hL := g.L1
  obtain ⟨r, hr, h⟩ := nbr_l0 g E.length 0 (List.replicate L []) (by omega) (by omega) (by simp)
    (fun v w h0 h1 => by
      unfold rd_L5
      rw [getD_rep]
      constructor
      · intro h; cases h
      · rintro ⟨j, b0, b1, _⟩; omega)
    (fun v h0 h1 => by
      unfold rd_L5
      rw [getD_rep]; simp)
  refine ⟨r, fun k hk => ?_, h⟩
  unfold match_Graph_neighbours.f
  rw [if_pos (by omega), if_pos (by omega)]
  exact hr k hk
theorem size_l0 (e : Int) (m : List Int) (hm : m.length ≤ 1000000) : ∀ (d : Nat) (i : Int), (m.length : Int) = i + d → 0 ≤ i →
    ∀ k, d < k → match_Size.l0 k e (cnt i.toNat (fun x => decide (0 ≤ rd m x)) : Nat) m m.length i = some ((msz m.length m : Int), e) := by
  intro d
  induction d with
  | zero =>
    intro i hd hi k hk
    obtain ⟨k, rfl⟩ := fuel hk
    have : i = (m.length : Int) := by omega
    subst this
    rw [match_Size.l0, if_neg (by omega)]
    rfl
  | succ d ih =>
    intro i hd hi k hk
    obtain ⟨k, rfl⟩ := fuel hk
    have ei : (i + 1).toNat = i.toNat + 1 := by omega
    have ec : ((i.toNat : Nat) : Int) = i := by omega
    have := ih (i + 1) (by omega) (by omega) k (by omega)
    rw [ei, cnt_succ, ec] at this
    have hle := cnt_le (fun x => decide (0 ≤ rd m x)) i.toNat
    rw [match_Size.l0, if_pos (by omega), if_pos hi, if_pos (by omega), w64 (x := i + 1) (by omega) (by omega)]
    by_cases h : 0 ≤ rd m i
    · rw [if_pos h, w64 (by omega) (by omega), ← this]
      simp [h]
    · rw [if_neg h, ← this]
      simp [h]
def sel : Nat → (Int → Bool) → List Int
  | 0, _ => []
  | n + 1, p => if p n = true then sel n p ++ [(n : Int)] else sel n p
theorem sel_length (p : Int → Bool) : ∀ n, (sel n p).length = cnt n p
  | 0 => rfl
  | n + 1 => by
    unfold sel cnt
    by_cases h : p n = true
    · rw [if_pos h, if_pos h]; simp [sel_length p n]
    · rw [if_neg h, if_neg h]; simp [sel_length p n]
theorem chosen_spec (want : Bool) (l : List Bool) (hl : l.length ≤ 1000000) : ∀ k, l.length < k → pairing_Chosen.f k l want = some (sel l.length (fun x => rdOf false l x == want)) := by
  have key : ∀ (d : Nat) (i : Int), (l.length : Int) = i + d → 0 ≤ i → ∀ k, d < k → pairing_Chosen.l0 k want (sel i.toNat (fun x => rdOf false l x == want)) l l.length i = some (sel l.length (fun x => rdOf false l x == want)) := by
    intro d
    induction d with
    | zero =>
      intro i hd hi k hk
      obtain ⟨k, rfl⟩ := fuel hk
      have : i = (l.length : Int) := by omega
      subst this
      rw [pairing_Chosen.l0, if_neg (by omega)]
      rfl
    | succ d ih =>
      intro i hd hi k hk
      obtain ⟨k, rfl⟩ := fuel hk
      have ei : (i + 1).toNat = i.toNat + 1 := by omega
      have ec : ((i.toNat : Nat) : Int) = i := by omega
      have := ih (i + 1) (by omega) (by omega) k (by omega)
      rw [ei, sel, ec] at this
      have hle := cnt_le (fun x => rdOf false l x == want) i.toNat
      rw [pairing_Chosen.l0, if_pos (by omega), if_pos hi, if_pos (by omega), w64 (x := i + 1) (by omega) (by omega)]
      by_cases h : (rdOf false l i == want) = true
      · rw [if_pos h, if_pos (by rw [sel_length]; omega), ← this, if_pos h]
      · rw [if_neg h, ← this, if_neg h]
  exact key l.length 0 (by omega) (by omega)
end Go.Proofs.Ytlleokhmgblfnaa.P
namespace Go.Proofs.Ytlleokhmgblfnaa.P
open Go.RowKit Go.Proofs.YtlleokhmgblfnaaW.PrintWords Go.Proofs.Ytlleokhmgblfnaa.H Go.Proofs.Ytlleokhmgblfnaa.M
abbrev tr (l : List Bool) (x : Int) : Bool := rdOf false l x
theorem tr_set (l : List Bool) (i j : Int) (y : Bool) (h0 : 0 ≤ i) (h1 : i < l.length) (hj : 0 ≤ j) : tr (l.set i.toNat y) j = if j = i then y else tr l j := getD_set _ _ _ _ _ h0 h1 hj
def Closed (next : List (List Int)) (m b : List Int) (P : Int → Prop) : Prop :=
  (∀ x : Int, 0 ≤ x → x < next.length → rd m x < 0 → P x) ∧ (∀ x : Int, 0 ≤ x → x < next.length → P x → ∀ w ∈ rdL next x, 0 ≤ rd b w → P (rd b w))
structure RInv (next : List (List Int)) (R : Nat) (m b : List Int) (v j : Int) (l r : List Bool) (q : List Int) : Prop where
  ll : l.length = next.length
  lr : r.length = R
  fr : ∀ x : Int, 0 ≤ x → x < next.length → rd m x < 0 → tr l x = true
  qr : ∀ x ∈ q, 0 ≤ x ∧ x < next.length ∧ tr l x = true
  cl : ∀ x : Int, 0 ≤ x → x < next.length → tr l x = true → x ∉ q → x ≠ v → ∀ w ∈ rdL next x, tr r w = true ∧ (0 ≤ rd b w → tr l (rd b w) = true)
  cv : 0 ≤ v → ∀ j' : Int, 0 ≤ j' → j' < j → j' < (rdL next v).length → tr r (rd (rdL next v) j') = true ∧ (0 ≤ rd b (rd (rdL next v) j') → tr l (rd b (rd (rdL next v) j')) = true)
  ri : ∀ w : Int, 0 ≤ w → w < R → tr r w = true → ∃ x : Int, 0 ≤ x ∧ x < next.length ∧ tr l x = true ∧ w ∈ rdL next x
  le : ∀ P : Int → Prop, Closed next m b P → ∀ x : Int, 0 ≤ x → x < next.length → tr l x = true → P x
def un (n : Nat) (l : List Bool) : Nat := cnt n (fun x => !tr l x)
theorem reach_l2 {next : List (List Int)} {R : Nat} (hn : next.length ≤ 1000000) (hNV : NV next R) {m b : List Int} (hg : Hole next R m b (-1)) (v : Int) (hv0 : 0 ≤ v) (hv1 : v < next.length) (hlen : (rdL next v).length ≤ 1000000000000) :
    ∀ (e : Nat) (j : Int) (l r : List Bool) (q : List Int), (rdL next v).length = j + e → 0 ≤ j → RInv next R m b v j l r q → tr l v = true → q.length + un next.length l ≤ next.length →
      ∃ l' r' q', (∀ G s, (∀ k, G ≤ k → pairing_Reach.l1 k next b l' r' q' = some s) → ∀ k, G + e < k → pairing_Reach.l2 k next b l r q (rdL next v) (rdL next v).length j = some s) ∧ RInv next R m b (-1) 0 l' r' q' ∧ q'.length + un next.length l' = q.length + un next.length l := by
  have hlb := hg.lb
  intro e
  induction e with
  | zero =>
    intro j l r q he hj hI hlv hq
    refine ⟨l, r, q, fun G s hG k hk => ?_, ⟨hI.ll, hI.lr, hI.fr, hI.qr, fun x h0 h1 h2 h3 _ w hw => ?_, fun h => by omega, hI.ri, hI.le⟩, rfl⟩
    · obtain ⟨k, rfl⟩ : ∃ k', k = k' + 1 := ⟨k - 1, by omega⟩
      rw [pairing_Reach.l2, if_neg (by omega)]
      exact hG k (by omega)
    · by_cases ex : x = v
      · subst ex
        obtain ⟨i, i0, i1, rfl⟩ := mem_rd hw
        exact hI.cv h0 i i0 (by omega) i1
      · exact hI.cl x h0 h1 h2 h3 ex w hw
  | succ e ih =>
    intro j l r q he hj hI hlv hq
    have hlr := hI.lr
    have hll := hI.ll
    obtain ⟨x, hx⟩ : ∃ x, rd (rdL next v) j = x := ⟨_, rfl⟩
    have hxm : x ∈ rdL next v := hx ▸ rd_mem hj (by omega)
    obtain ⟨hx0, hx1⟩ := hNV v hv0 hv1 x hxm
    obtain ⟨u, hu⟩ : ∃ u, rd b x = u := ⟨_, rfl⟩
    have hrs : ∀ y : Int, 0 ≤ y → tr (r.set x.toNat true) y = if y = x then true else tr r y := fun y h => tr_set r x y true hx0 (by omega) h
    have hru : ∀ y : Int, 0 ≤ y → tr r y = true → tr (r.set x.toNat true) y = true := fun y h h1 => by rw [hrs y h]; split <;> simp [*]
    have hnn : ∀ y : Int, 0 ≤ y → y < next.length → ∀ w ∈ rdL next y, 0 ≤ w := fun y h0 h1 w hw => (hNV y h0 h1 w hw).1
    have step : ∀ l1 q1, RInv next R m b v (j + 1) l1 (r.set x.toNat true) q1 → tr l1 v = true → q1.length + un next.length l1 = q.length + un next.length l →
        (∀ k s, pairing_Reach.l2 k next b l1 (r.set x.toNat true) q1 (rdL next v) (rdL next v).length (wrap64 (j + 1)) = some s → pairing_Reach.l2 (k + 1) next b l r q (rdL next v) (rdL next v).length j = some s) →
        ∃ l' r' q', (∀ G s, (∀ k, G ≤ k → pairing_Reach.l1 k next b l' r' q' = some s) → ∀ k, G + (e + 1) < k → pairing_Reach.l2 k next b l r q (rdL next v) (rdL next v).length j = some s) ∧ RInv next R m b (-1) 0 l' r' q' ∧ q'.length + un next.length l' = q.length + un next.length l := by
      intro l1 q1 hI1 hv hq1 hstep
      obtain ⟨l', r', q', h1, h2, h3⟩ := ih (j + 1) l1 (r.set x.toNat true) q1 (by omega) (by omega) hI1 hv (by omega)
      refine ⟨l', r', q', fun G s hG k hk => ?_, h2, by omega⟩
      obtain ⟨k, rfl⟩ : ∃ k', k = k' + 1 := ⟨k - 1, by omega⟩
      refine hstep k s ?_
      rw [w64 (by omega) (by omega)]
      exact h1 G s hG k (by omega)
    by_cases hu0 : 0 ≤ u
    · obtain ⟨hun, hum⟩ := hg.bb x hx0 hx1 (by omega) (by omega)
      rw [hu] at hun hum
      by_cases hlu : tr l u = true
      · refine step l q ⟨hll, by simpa using hlr, hI.fr, hI.qr, fun y h0 h1 h2 h3 h4 w hw => ?_, fun _ j' h0 h1 h2 => ?_, fun w h0 h1 h2 => ?_, hI.le⟩ hlv rfl (fun k s hk => ?_)
        · obtain ⟨c1, c2⟩ := hI.cl y h0 h1 h2 h3 h4 w hw
          exact ⟨hru w (hnn y h0 h1 w hw) c1, c2⟩
        · by_cases ej : j' = j
          · subst ej
            rw [hx, hu]
            exact ⟨by rw [hrs x hx0, if_pos rfl], fun _ => hlu⟩
          · obtain ⟨c1, c2⟩ := hI.cv hv0 j' h0 (by omega) h2
            exact ⟨hru _ (hnn v hv0 hv1 _ (rd_mem h0 h2)) c1, c2⟩
        · by_cases ew : w = x
          · subst ew; exact ⟨v, hv0, hv1, hlv, hxm⟩
          · rw [hrs w h0, if_neg ew] at h2; exact hI.ri w h0 h1 h2
        · rw [pairing_Reach.l2, if_pos (by omega), if_pos hj, if_pos (by omega), hx, if_pos hx0, if_pos (by omega)]
          simp only [Option.bind_some]
          rw [if_pos (by omega), hu, if_pos hu0, if_pos hu0, if_pos (by omega), if_pos hlu]
          exact hk
      · have hls : ∀ y : Int, 0 ≤ y → tr (l.set u.toNat true) y = if y = u then true else tr l y := fun y h => tr_set l u y true hu0 (by omega) h
        have hlup : ∀ y : Int, 0 ≤ y → tr l y = true → tr (l.set u.toNat true) y = true := fun y h h1 => by rw [hls y h]; split <;> simp [*]
        have huv : u ≠ v := fun e => hlu (e ▸ hlv)
        have hlu' : tr l u = false := by simpa using hlu
        have hun2 : un next.length l = un next.length (l.set u.toNat true) + 1 := by
          unfold un
          rw [cnt_out (fun x => !tr l x) u next.length hu0 hun (by simp [hlu'])]
          congr 1
          refine cnt_congr _ (fun y h0 h1 => ?_)
          rw [hls y h0]
          by_cases ey : y = u
          · subst ey; simp
          · rw [if_neg ey]; simp [ey]
        have hql : q.length < next.length := by omega
        refine step (l.set u.toNat true) (q ++ [u]) ⟨by simpa using hll, by simpa using hlr, fun y h0 h1 h2 => hlup y h0 (hI.fr y h0 h1 h2), fun y hy => ?_, fun y h0 h1 h2 h3 h4 w hw => ?_, fun _ j' h0 h1 h2 => ?_, fun w h0 h1 h2 => ?_, fun P hP y h0 h1 h2 => ?_⟩ (hlup v hv0 hlv) (by simp; omega) (fun k s hk => ?_)
        · rcases List.mem_append.1 hy with hy | hy
          · obtain ⟨a1, a2, a3⟩ := hI.qr y hy; exact ⟨a1, a2, hlup y a1 a3⟩
          · rw [List.mem_singleton.1 hy]; exact ⟨hu0, hun, by rw [hls u hu0, if_pos rfl]⟩
        · have ey : y ≠ u := fun e => h3 (by rw [e]; simp)
          rw [hls y h0, if_neg ey] at h2
          obtain ⟨c1, c2⟩ := hI.cl y h0 h1 h2 (fun h => h3 (List.mem_append_left _ h)) h4 w hw
          exact ⟨hru w (hnn y h0 h1 w hw) c1, fun h => hlup _ h (c2 h)⟩
        · by_cases ej : j' = j
          · subst ej
            rw [hx, hu]
            exact ⟨by rw [hrs x hx0, if_pos rfl], fun _ => by rw [hls u hu0, if_pos rfl]⟩
          · obtain ⟨c1, c2⟩ := hI.cv hv0 j' h0 (by omega) h2
            exact ⟨hru _ (hnn v hv0 hv1 _ (rd_mem h0 h2)) c1, fun h => hlup _ h (c2 h)⟩
        · by_cases ew : w = x
          · subst ew; exact ⟨v, hv0, hv1, hlup v hv0 hlv, hxm⟩
          · rw [hrs w h0, if_neg ew] at h2
            obtain ⟨y, y0, y1, y2, y3⟩ := hI.ri w h0 h1 h2
            exact ⟨y, y0, y1, hlup y y0 y2, y3⟩
        · by_cases ey : y = u
          · subst ey
            have := hP.2 v hv0 hv1 (hI.le P hP v hv0 hv1 hlv) x hxm (by omega)
            rwa [hu] at this
          · rw [hls y h0, if_neg ey] at h2; exact hI.le P hP y h0 h1 h2
        · rw [pairing_Reach.l2, if_pos (by omega), if_pos hj, if_pos (by omega), hx, if_pos hx0, if_pos (by omega)]
          simp only [Option.bind_some]
          rw [if_pos (by omega), hu, if_pos hu0, if_pos hu0, if_pos (by omega), if_neg hlu, if_pos (by omega)]
          exact hk
    · refine step l q ⟨hll, by simpa using hlr, hI.fr, hI.qr, fun y h0 h1 h2 h3 h4 w hw => ?_, fun _ j' h0 h1 h2 => ?_, fun w h0 h1 h2 => ?_, hI.le⟩ hlv rfl (fun k s hk => ?_)
      · obtain ⟨c1, c2⟩ := hI.cl y h0 h1 h2 h3 h4 w hw
        exact ⟨hru w (hnn y h0 h1 w hw) c1, c2⟩
      · by_cases ej : j' = j
        · subst ej
          rw [hx, hu]
          exact ⟨by rw [hrs x hx0, if_pos rfl], fun h => absurd h hu0⟩
        · obtain ⟨c1, c2⟩ := hI.cv hv0 j' h0 (by omega) h2
          exact ⟨hru _ (hnn v hv0 hv1 _ (rd_mem h0 h2)) c1, c2⟩
      · by_cases ew : w = x
        · subst ew; exact ⟨v, hv0, hv1, hlv, hxm⟩
        · rw [hrs w h0, if_neg ew] at h2; exact hI.ri w h0 h1 h2
      · rw [pairing_Reach.l2, if_pos (by omega), if_pos hj, if_pos (by omega), hx, if_pos hx0, if_pos (by omega)]
        simp only [Option.bind_some]
        rw [if_pos (by omega), hu, if_neg hu0]
        exact hk
theorem reach_l1 {next : List (List Int)} {R : Nat} (hn : next.length ≤ 1000000) (hNV : NV next R) (hlen : ∀ v : Int, 0 ≤ v → v < next.length → (rdL next v).length ≤ 1000000000000) {m b : List Int} (hg : Hole next R m b (-1)) :
    ∀ (d : Nat) (l r : List Bool) (q : List Int), q.length + un next.length l ≤ d → d ≤ next.length → RInv next R m b (-1) 0 l r q →
      ∃ K l' r', (∀ k, K ≤ k → pairing_Reach.l1 k next b l r q = some (l', r')) ∧ RInv next R m b (-1) 0 l' r' [] := by
  intro d
  induction d with
  | zero =>
    intro l r q hd hdn hI
    have : q = [] := List.length_eq_zero_iff.1 (by omega)
    subst this
    refine ⟨1, l, r, fun k hk => ?_, hI⟩
    obtain ⟨k, rfl⟩ : ∃ k', k = k' + 1 := ⟨k - 1, by omega⟩
    rfl
  | succ d ih =>
    intro l r q hd hdn hI
    cases q with
    | nil =>
      refine ⟨1, l, r, fun k hk => ?_, hI⟩
      obtain ⟨k, rfl⟩ : ∃ k', k = k' + 1 := ⟨k - 1, by omega⟩
      rfl
    | cons v q =>
      obtain ⟨hv0, hv1, hlv⟩ := hI.qr v (by simp)
      simp only [List.length_cons] at hd
      obtain ⟨l1, r1, q1, h1, hI1, he⟩ := reach_l2 hn hNV hg v hv0 hv1 (hlen v hv0 hv1) (rdL next v).length 0 l r q (by omega) (by omega)
        ⟨hI.ll, hI.lr, hI.fr, fun x hx => hI.qr x (by simp [hx]), fun x h0 h1 h2 h3 h4 w hw => hI.cl x h0 h1 h2 (by simp [h3, h4]) (by omega) w hw, fun _ j' h0 h1 => by omega, hI.ri, hI.le⟩ hlv (by omega)
      obtain ⟨K, l2, r2, hK, hI2⟩ := ih l1 r1 q1 (by omega) (by omega) hI1
      refine ⟨K + (rdL next v).length + 2, l2, r2, fun k hk => ?_, hI2⟩
      obtain ⟨k, rfl⟩ : ∃ k', k = k' + 1 := ⟨k - 1, by omega⟩
      have := h1 K _ hK k (by omega)
      have er : rd (v :: q) 0 = v := rfl
      rw [pairing_Reach.l1, if_pos (by simp), if_pos (by simp), if_pos (by simp; omega), er, if_pos hv0, if_pos hv1]
      exact this
structure RS (next : List (List Int)) (R : Nat) (m b : List Int) (l r : List Bool) : Prop where
  ll : l.length = next.length
  lr : r.length = R
  fr : ∀ x : Int, 0 ≤ x → x < next.length → rd m x < 0 → tr l x = true
  cl : ∀ x : Int, 0 ≤ x → x < next.length → tr l x = true → ∀ w ∈ rdL next x, tr r w = true ∧ (0 ≤ rd b w → tr l (rd b w) = true)
  ri : ∀ w : Int, 0 ≤ w → w < R → tr r w = true → ∃ x : Int, 0 ≤ x ∧ x < next.length ∧ tr l x = true ∧ w ∈ rdL next x
  le : ∀ P : Int → Prop, Closed next m b P → ∀ x : Int, 0 ≤ x → x < next.length → tr l x = true → P x
theorem reach_l0 {next : List (List Int)} {R : Nat} (hn : next.length ≤ 1000000) (hNV : NV next R) (hlen : ∀ v : Int, 0 ≤ v → v < next.length → (rdL next v).length ≤ 1000000000000) {m b : List Int} (hg : Hole next R m b (-1)) (r : List Bool) (hr : r.length = R) (hr0 : ∀ x, tr r x = false) :
    ∀ (d : Nat) (i : Int) (l : List Bool) (q : List Int), (next.length : Int) = i + d → 0 ≤ i → l.length = next.length →
      (∀ x : Int, 0 ≤ x → x < next.length → tr l x = (decide (x < i) && decide (rd m x < 0))) → (∀ x ∈ q, 0 ≤ x ∧ x < i ∧ rd m x < 0) → (∀ x : Int, 0 ≤ x → x < i → rd m x < 0 → x ∈ q) → q.length + un next.length l = next.length →
      ∃ K l' r', (∀ k, K ≤ k → pairing_Reach.l0 k next m b l r q next.length i = some (l', r')) ∧ RS next R m b l' r' := by
  have hlm := hg.lm
  intro d
  induction d with
  | zero =>
    intro i l q hd hi hl h1 h2 h3 h4
    have e : i = next.length := by omega
    subst e
    obtain ⟨K, l', r', hK, hI⟩ := reach_l1 hn hNV hlen hg next.length l r q (by omega) (Nat.le_refl _)
      ⟨hl, hr, fun x a c d => by rw [h1 x a c]; simp [c, d], fun x hx => by obtain ⟨a, c, d⟩ := h2 x hx; exact ⟨a, c, by rw [h1 x a c]; simp [c, d]⟩, fun x a c d e => by
        rw [h1 x a c] at d; simp at d; exact absurd (h3 x a c d.2) e, fun h => by omega, fun w _ _ h => by rw [hr0] at h; (cases h), fun P hP x a c d => by
        rw [h1 x a c] at d; simp at d; exact hP.1 x a c d.2⟩
    refine ⟨K + 1, l', r', fun k hk => ?_, ⟨hI.ll, hI.lr, hI.fr, fun x a c d => hI.cl x a c d (by simp) (by omega), hI.ri, hI.le⟩⟩
    obtain ⟨k, rfl⟩ : ∃ k', k = k' + 1 := ⟨k - 1, by omega⟩
    rw [pairing_Reach.l0, if_neg (by omega)]
    exact hK k (by omega)
  | succ d ih =>
    intro i l q hd hi hl h1 h2 h3 h4
    by_cases hneg : rd m i < 0
    · have hls : ∀ y : Int, 0 ≤ y → tr (l.set i.toNat true) y = if y = i then true else tr l y := fun y h => tr_set l i y true hi (by omega) h
      have hli : tr l i = false := by rw [h1 i hi (by omega)]; simp
      have hun2 : un next.length l = un next.length (l.set i.toNat true) + 1 := by
        unfold un
        rw [cnt_out (fun x => !tr l x) i next.length hi (by omega) (by simp [hli])]
        congr 1
        refine cnt_congr _ (fun y h0 h1 => ?_)
        rw [hls y h0]
        by_cases ey : y = i
        · subst ey; simp
        · rw [if_neg ey]; simp [ey]
      obtain ⟨K, l', r', hK, hS⟩ := ih (i + 1) (l.set i.toNat true) (q ++ [i]) (by omega) (by omega) (by simpa using hl)
        (fun x a c => by
          rw [hls x a]
          by_cases ex : x = i
          · subst ex; simp [hneg]; omega
          · rw [if_neg ex, h1 x a c]
            have : (x < i + 1) = (x < i) := by apply propext; omega
            simp [this])
        (fun x hx => by
          rcases List.mem_append.1 hx with hx | hx
          · have := h2 x hx; exact ⟨this.1, by omega, this.2.2⟩
          · rw [List.mem_singleton.1 hx]; exact ⟨hi, by omega, hneg⟩)
        (fun x a c d => by
          by_cases ex : x = i
          · subst ex; simp
          · exact List.mem_append_left _ (h3 x a (by omega) d))
        (by simp; omega)
      refine ⟨K + 1, l', r', fun k hk => ?_, hS⟩
      obtain ⟨k, rfl⟩ : ∃ k', k = k' + 1 := ⟨k - 1, by omega⟩
      rw [pairing_Reach.l0, if_pos (by omega), if_pos hi, if_pos (by omega), if_pos hneg, if_pos (by omega), if_pos (by omega), w64 (by omega) (by omega)]
      exact hK k (by omega)
    · obtain ⟨K, l', r', hK, hS⟩ := ih (i + 1) l q (by omega) (by omega) hl
        (fun x a c => by
          rw [h1 x a c]
          by_cases ex : x = i
          · subst ex; simp [hneg]
          · have : (x < i + 1) = (x < i) := by apply propext; omega
            simp [this])
        (fun x hx => by have := h2 x hx; exact ⟨this.1, by omega, this.2.2⟩)
        (fun x a c d => by
          by_cases ex : x = i
          · subst ex; exact absurd d hneg
          · exact h3 x a (by omega) d) h4
      refine ⟨K + 1, l', r', fun k hk => ?_, hS⟩
      obtain ⟨k, rfl⟩ : ∃ k', k = k' + 1 := ⟨k - 1, by omega⟩
      rw [pairing_Reach.l0, if_pos (by omega), if_pos hi, if_pos (by omega), if_neg hneg, w64 (by omega) (by omega)]
      exact hK k (by omega)
theorem tr_rep (n : Nat) (x : Int) : tr (List.replicate n false) x = false := getD_rep _ _ _
theorem reach_spec {next : List (List Int)} {R : Nat} (hn : next.length ≤ 1000000) (hR : R ≤ 1000000) (hNV : NV next R) (hlen : ∀ v : Int, 0 ≤ v → v < next.length → (rdL next v).length ≤ 1000000000000) {m b : List Int} (hg : Hole next R m b (-1)) :
    ∃ K l r, (∀ k, K ≤ k → pairing_Reach.f k next m b = some (l, r)) ∧ RS next R m b l r := by
  obtain ⟨K, l, r, hK, hS⟩ := reach_l0 hn hNV hlen hg (List.replicate R false) (by simp) (fun x => tr_rep _ _) next.length 0 (List.replicate next.length false) [] (by omega) (by omega) (by simp)
    (fun x a c => by rw [tr_rep]; have : ¬ x < 0 := by omega
                     simp [this]) (fun x hx => by cases hx) (fun x a c => by omega) (by unfold un; rw [cnt_all _ (fun i _ _ => by rw [tr_rep]; rfl)]; simp)
  refine ⟨K, l, r, fun k hk => ?_, hS⟩
  have hlb := hg.lb
  unfold pairing_Reach.f
  rw [if_pos (by omega), if_pos (by omega), if_pos (by omega), if_pos (by omega), hlb]
  exact hK k hk
end Go.Proofs.Ytlleokhmgblfnaa.P
end

section
namespace Go.Proofs.Ytlleokhmgblfnaa.P
open Go.RowKit Go.Proofs.YtlleokhmgblfnaaW.PrintWords Go.Proofs.Ytlleokhmgblfnaa.H Go.Proofs.Ytlleokhmgblfnaa.M
theorem rd_T40_mem {E : List S40} {j : Int} (h0 : 0 ≤ j) (h1 : j < E.length) : rd_T40 E j ∈ E := by
  unfold rd_T40
  rw [List.getD_eq_getElem?_getD, List.getElem?_eq_getElem (by omega)]
  exact List.getElem_mem _
theorem chkGo_rng (L R : Int) : ∀ (E : List (Int × Int)) (p : Option (Int × Int)), chkGo L R p E = 0 → ∀ x ∈ E, 0 ≤ x.1 ∧ x.1 < L ∧ 0 ≤ x.2 ∧ x.2 < R
  | [], _, _, x, hx => by cases hx
  | y :: E, p, h, x, hx => by
    unfold chkGo at h
    split at h
    · omega
    · have ih := chkGo_rng L R E (some y)
      have h2 : chkGo L R (some y) E = 0 := by
        cases p with
        | none => exact h
        | some q =>
          simp only at h
          split at h
          · omega
          · split at h
            · omega
            · exact h
      rcases List.mem_cons.1 hx with e | hx
      · subst e; omega
      · exact ih h2 x hx
theorem chk_gok {L R : Int} {E : List S40} (h : chk L R (E.map prE) = 0) : ∃ Ln Rn : Nat, L = Ln ∧ R = Rn ∧ GOK Ln Rn E := by
  unfold chk at h
  split at h
  · omega
  · split at h
    · omega
    · refine ⟨L.toNat, R.toNat, by omega, by omega, by omega, by omega, by simp at *; omega, fun j h0 h1 => ?_⟩
      have := chkGo_rng L R _ none h (prE (rd_T40 E j)) (List.mem_map_of_mem (rd_T40_mem h0 h1))
      simp only [prE] at this
      omega
def lexB (y x : Int × Int) : Prop := y.1 < x.1 ∨ (y.1 = x.1 ∧ y.2 < x.2)
structure Core (L R : Nat) (A : Int → Int → Prop) (next : List (List Int)) (m b : List Int) (l r : List Bool) : Prop where
  nl : next.length = L
  adj : ∀ v w : Int, 0 ≤ v → v < L → (w ∈ rdL next v ↔ A v w)
  nv : NV next R
  hole : Hole next R m b (-1)
  lin : ∃ lv, LInv next m b (-1) 0 false lv []
  rs : RS next R m b l r
theorem coreA {L R : Nat} {A : Int → Int → Prop} {next : List (List Int)} (hL : L ≤ 1024) (hR : R ≤ 1024) (nl : next.length = L) (adj : ∀ v w : Int, 0 ≤ v → v < L → (w ∈ rdL next v ↔ A v w)) (nv : NV next R) (hlen : ∀ v : Int, 0 ≤ v → v < L → (rdL next v).length ≤ 1000000000000) :
    ∃ m b l r K, Core L R A next m b l r ∧ (∀ k, K ≤ k → pairing_Greatest.f k next R = some (m, b)) ∧ (∀ k, K ≤ k → pairing_Reach.f k next m b = some (l, r)) := by
  obtain ⟨K1, m, b, h2, hole, lin⟩ := greatF_spec (by omega) (by omega) nv
  obtain ⟨K2, l, r, h3, rs⟩ := reach_spec (by omega) (by omega) nv (fun v h0 h1 => hlen v h0 (by omega)) hole
  refine ⟨m, b, l, r, max K1 K2, ⟨nl, adj, nv, hole, lin, rs⟩, fun k hk => ?_, fun k hk => h3 k (by omega)⟩
  exact at_rounds (fun k => pairing_Greatest.mono next R k) (show K1 ≤ k by omega) h2
theorem core {L R : Nat} {E : List S40} (g : GOK L R E) : ∃ next m b l r K, Core L R (Adj E) next m b l r ∧ (∀ k, K ≤ k → match_Graph_neighbours.f k L R E = some next) ∧
    (∀ k, K ≤ k → pairing_Greatest.f k next R = some (m, b)) ∧ (∀ k, K ≤ k → pairing_Reach.f k next m b = some (l, r)) := by
  have hL := g.L1
  have hR := g.R1
  obtain ⟨next, h1, nl, adj, hlen⟩ := nbr_spec g
  have nv : NV next R := fun v h0 h1 w hw => by
    rw [nl] at h1
    obtain ⟨j, j0, j1, j2, j3⟩ := (adj v w h0 h1).1 hw
    have := g.rng j j0 j1
    omega
  obtain ⟨m, b, l, r, K, c, h2, h3⟩ := coreA hL hR nl adj nv (fun v h0 h1 => by have := hlen v h0 h1; omega)
  exact ⟨next, m, b, l, r, max (E.length + 1) K, c, fun k hk => h1 k (by omega), fun k hk => h2 k (by omega), fun k hk => h3 k (by omega)⟩
theorem Core.around {L R : Nat} {A : Int → Int → Prop} {next : List (List Int)} {m b : List Int} {l r : List Bool} (c : Core L R A next m b l r) :
    ∀ w : Int, 0 ≤ w → w < R → tr r w = true → 0 ≤ rd b w ∧ rd b w < L ∧ tr l (rd b w) = true ∧ rd m (rd b w) = w := by
  intro w h0 h1 hw
  obtain ⟨lv, hlv⟩ := c.lin
  have hcl : Closed next m b (fun x => 0 ≤ rd lv x) := by
    refine ⟨fun x a d e => by have := (hlv.fr x a d).1 e; omega, fun x a d e w hw hb => ?_⟩
    exact (hlv.cl x a d e (by simp) (by omega) w hw).2 hb
  obtain ⟨x, x0, x1, x2, x3⟩ := c.rs.ri w h0 h1 hw
  have hx := c.rs.le _ hcl x x0 x1 x2
  have hb : 0 ≤ rd b w := by
    by_cases h : rd b w < 0
    · have := (hlv.cl x x0 x1 hx (by simp) (by omega) w x3).1 h
      cases this
    · omega
  obtain ⟨b1, b2⟩ := c.hole.bb w h0 h1 (by omega) hb
  have := c.nl
  exact ⟨hb, by omega, (c.rs.cl x x0 x1 x2 w x3).2 hb, b2⟩
theorem Core.count {L R : Nat} {A : Int → Int → Prop} {next : List (List Int)} {m b : List Int} {l r : List Bool} (c : Core L R A next m b l r) :
    cnt L (tr l) + msz L m = L + cnt R (tr r) := by
  have nl := c.nl
  have e1 : cnt R (tr r) = cnt L (fun x => tr l x && decide (0 ≤ rd m x)) := by
    refine Nat.le_antisymm (cnt_inj (rd b) L R _ (fun w h0 h1 hw => ?_) (fun w w' h0 h1 h2 h3 hw hw' e => ?_)) (cnt_inj (rd m) R L _ (fun x h0 h1 hx => ?_) (fun x x' h0 h1 h2 h3 hx hx' e => ?_))
    · obtain ⟨a1, a2, a3, a4⟩ := c.around w h0 h1 hw
      exact ⟨a1, a2, by simp [a3, a4, h0]⟩
    · obtain ⟨a1, a2, a3, a4⟩ := c.around w h0 h1 hw
      obtain ⟨b1, b2, b3, b4⟩ := c.around w' h2 h3 hw'
      rw [← a4, ← b4, e]
    · simp at hx
      obtain ⟨a1, a2, a3, a4⟩ := c.hole.mm x h0 (by omega) hx.2
      exact ⟨hx.2, a1, (c.rs.cl x h0 (by omega) hx.1 _ a2).1⟩
    · simp at hx hx'
      have a := (c.hole.mm x h0 (by omega) hx.2).2.2.1
      have b := (c.hole.mm x' h2 (by omega) hx'.2).2.2.1
      rw [← a, ← b, e]
  have e2 : cnt L (fun x => tr l x && !decide (0 ≤ rd m x)) = cnt L (fun x => !decide (0 ≤ rd m x)) := by
    refine cnt_congr _ (fun x h0 h1 => ?_)
    by_cases h : 0 ≤ rd m x
    · simp [h]
    · have : tr l x = true := c.rs.fr x h0 (by omega) (by omega)
      simp [this]
  have e3 := cnt_split (tr l) (fun x => decide (0 ≤ rd m x)) L
  have e4 := cnt_not (fun x => decide (0 ≤ rd m x)) L
  unfold msz
  omega
theorem Core.isM {L R : Nat} {A : Int → Int → Prop} {next : List (List Int)} {m b : List Int} {l r : List Bool} (c : Core L R A next m b l r) : IsM L R A (rd m) := by
  have nl := c.nl
  refine ⟨fun v h0 h1 h2 => (c.hole.mm v h0 (by omega) h2).1, fun v h0 h1 h2 => (c.adj v _ h0 h1).1 (c.hole.mm v h0 (by omega) h2).2.1, fun v v' h0 h1 h2 h3 h4 e => ?_⟩
  have a := (c.hole.mm v h0 (by omega) h4).2.2.1
  have b := (c.hole.mm v' h2 (by omega) (e ▸ h4)).2.2.1
  rw [← a, ← b, e]
theorem Core.isMax {L R : Nat} {A : Int → Int → Prop} {next : List (List Int)} {m b : List Int} {l r : List Bool} (c : Core L R A next m b l r) : IsMax L R A (msz L m) := by
  have nl := c.nl
  refine ⟨⟨rd m, c.isM, rfl⟩, fun M hM => ?_⟩
  have := cover_bound hM (fun x => !tr l x) (tr r) (fun v w h0 h1 h2 h3 h => by
    cases h4 : tr l v with
    | false => exact .inl rfl
    | true => exact .inr (c.rs.cl v h0 (by omega) h4 w ((c.adj v w h0 h1).2 h)).1)
  have e := c.count
  have e2 := cnt_not (tr l) L
  omega
theorem given_spec (L R : Int) {E : List S40} (h : E.length ≤ 65536) : toruslaw30_given.f L R E = some (L, R, E) := by
  unfold toruslaw30_given.f
  simp only [Option.bind_some]
  rw [if_pos (by simp; omega)]
  rfl
structure Done (L R : Nat) (E : List S40) (m : List Int) (l r : List Bool) (K : Nat) : Prop where
  max : ∀ k, K ≤ k → match_Maximum.f k L R E = some (m, 0)
  size : ∀ k, K ≤ k → match_Size.f k L R E = some ((msz L m : Int), 0)
  size' : ∀ k, K ≤ k → toruslaw30_size.f k L R E = some (msz L m : Int)
  hall : ∀ k, K ≤ k → match_Hall.f k L R E = some (if cnt L (tr l) = 0 then ([], [], 4) else (sel L (tr l), sel R (tr r), 0))
  cover : ∀ k, K ≤ k → match_Cover.f k L R E = some (sel L (fun x => !tr l x), sel R (tr r), 0)
theorem bool_beq_true (b : Bool) : (b == true) = b := by cases b <;> rfl
theorem bool_beq_false (b : Bool) : (b == false) = !b := by cases b <;> rfl
theorem done {L R : Nat} {E : List S40} (hk : chk L R (E.map prE) = 0) (g : GOK L R E) : ∃ next m b l r K, Core L R (Adj E) next m b l r ∧ Done L R E m l r K := by
  obtain ⟨next, m, b, l, r, K, c, h1, h2, h3⟩ := core g
  have hL := g.L1
  have hR := g.R1
  have nl := c.nl
  have lm := c.hole.lm
  have lb := c.hole.lb
  have ll := c.rs.ll
  have lr := c.rs.lr
  have hc : match_Check.f L R E = some 0 := by unfold match_Check.f; rw [hk]
  have hmx : ∀ k, K ≤ k → match_Maximum.f k L R E = some (m, 0) := fun k hk => by
    unfold match_Maximum.f
    rw [hc]
    simp only [Option.bind_some, if_true]
    rw [h1 k hk]
    simp only [Option.bind_some]
    rw [h2 k hk]
    rfl
  have hsz : ∀ k, K + L + 1 ≤ k → match_Size.f k L R E = some ((msz L m : Int), 0) := fun k hk => by
    unfold match_Size.f
    rw [hmx k (by omega)]
    simp only [Option.bind_some]
    have := size_l0 0 m (by omega) m.length 0 (by omega) (by omega) k (by omega)
    rw [show m.length = L by omega] at this ⊢
    exact this
  refine ⟨next, m, b, l, r, K + L + R + 1, c, fun k hk => hmx k (by omega), fun k hk => hsz k (by omega), fun k hk => ?_, fun k hk => ?_, fun k hk => ?_⟩
  · unfold toruslaw30_size.f
    rw [given_spec _ _ g.len]
    simp only [Option.bind_some]
    rw [hsz k (by omega)]
    rfl
  · unfold match_Hall.f
    rw [hc]
    simp only [Option.bind_some, if_true]
    rw [h1 k (by omega)]
    simp only [Option.bind_some]
    unfold match_reach.f
    rw [h2 k (by omega)]
    simp only [Option.bind_some]
    rw [h3 k (by omega)]
    simp only [Option.bind_some]
    rw [chosen_spec true l (by omega) k (by omega), chosen_spec true r (by omega) k (by omega), show l.length = L by omega, lr]
    simp only [Option.bind_some, bool_beq_true]
    have eq : cnt L (fun x => rdOf false l x) = cnt L (tr l) := rfl
    by_cases h : cnt L (tr l) = 0
    · rw [if_pos h, if_pos (by rw [sel_length, eq]; omega)]
    · rw [if_neg h, if_neg (by rw [sel_length, eq]; omega)]
  · unfold match_Cover.f
    rw [hc]
    simp only [Option.bind_some, if_true]
    rw [h1 k (by omega)]
    simp only [Option.bind_some]
    unfold match_reach.f
    rw [h2 k (by omega)]
    simp only [Option.bind_some]
    rw [h3 k (by omega)]
    simp only [Option.bind_some]
    rw [chosen_spec false l (by omega) k (by omega), chosen_spec true r (by omega) k (by omega), show l.length = L by omega, lr]
    simp only [Option.bind_some, bool_beq_true, bool_beq_false]
end Go.Proofs.Ytlleokhmgblfnaa.P
namespace Go.Proofs.Ytlleokhmgblfnaa.P
open Go.RowKit Go.Proofs.YtlleokhmgblfnaaW.PrintWords Go.Proofs.Ytlleokhmgblfnaa.H Go.Proofs.Ytlleokhmgblfnaa.M
theorem chkGo_mk (L R : Int) : ∀ (E : List (Int × Int)) (p : Option (Int × Int)), (∀ x ∈ E, 0 ≤ x.1 ∧ x.1 < L ∧ 0 ≤ x.2 ∧ x.2 < R) → E.Pairwise lexB → (∀ q, p = some q → ∀ y ∈ E, lexB q y) → chkGo L R p E = 0
  | [], p, _, _, _ => by unfold chkGo; rfl
  | x :: E, p, hr, hs, hp => by
    have hx := hr x (by simp)
    rw [List.pairwise_cons] at hs
    have ih := chkGo_mk L R E (some x) (fun y hy => hr y (by simp [hy])) hs.2 (fun q hq y hy => by cases hq; exact hs.1 y hy)
    unfold chkGo
    rw [if_neg (by omega)]
    cases p with
    | none => exact ih
    | some q =>
      have := hp q rfl x (by simp)
      unfold lexB at this
      show (if q = x then _ else _) = _
      rw [if_neg (by intro e; subst e; omega), if_neg (by omega)]
      exact ih
theorem rd_mid (pre suf : List S40) (y : S40) : rd_T40 (pre ++ y :: suf) pre.length = y := by
  unfold rd_T40
  simp
structure EOK (L R : Nat) (E : List S40) : Prop where
  rng : ∀ e ∈ E, 0 ≤ e.f0 ∧ e.f0 < L ∧ 0 ≤ e.f1 ∧ e.f1 < R
  srt : E.Pairwise (fun a b => lexB (prE a) (prE b))
theorem chk_of_eok {L R : Nat} {E : List S40} (hL : L ≤ 1024) (hR : R ≤ 1024) (hl : E.length ≤ 65536) (h : EOK L R E) : chk L R (E.map prE) = 0 := by
  unfold chk
  rw [if_neg (by omega), if_neg (by simp; omega)]
  refine chkGo_mk L R _ none (fun x hx => ?_) ?_ (fun q hq => by cases hq)
  · obtain ⟨e, he, rfl⟩ := List.mem_map.1 hx
    exact h.rng e he
  · rw [List.pairwise_map]; exact h.srt
end Go.Proofs.Ytlleokhmgblfnaa.P
end

section
namespace Go.Proofs.Ytlleokhmgblfnaa.P
open Go.RowKit Go.Proofs.YtlleokhmgblfnaaW.PrintWords Go.Proofs.Ytlleokhmgblfnaa.H Go.Proofs.Ytlleokhmgblfnaa.M
def fX (E : List S40) (j : Int) : Int := (rd_T40 E j).f0
def fY (E : List S40) (j : Int) : Int := (rd_T40 E j).f1
def at0 (E : List S40) (v : Int) : Int → Bool := fun j => decide (fX E j = v)
def at1 (E : List S40) (v : Int) : Int → Bool := fun j => decide (fY E j = v)
theorem rdE_map (E : List S40) {j : Int} (j0 : 0 ≤ j) (j1 : j < E.length) : rdE (E.map prE) j = (fX E j, fY E j) := by
  unfold rdE fX fY rd_T40
  rw [List.getD_eq_getElem?_getD, List.getD_eq_getElem?_getD, List.getElem?_map, List.getElem?_eq_getElem (by omega)]
  rfl
structure Coloured (L R : Nat) (E : List S40) (M : Int) (O : Int → Int) : Prop where
  m0 : 0 ≤ M
  rng : ∀ j : Int, 0 ≤ j → j < E.length → 0 ≤ O j ∧ O j < M
  apart : ∀ j k : Int, 0 ≤ j → j < E.length → 0 ≤ k → k < E.length → j ≠ k → (fX E j = fX E k ∨ fY E j = fY E k) → O j ≠ O k
  some_ : M = 0 ∨ (∃ v : Int, 0 ≤ v ∧ v < L ∧ M ≤ cnt E.length (at0 E v)) ∨ (∃ v : Int, 0 ≤ v ∧ v < R ∧ M ≤ cnt E.length (at1 E v))
  le0 : ∀ v : Int, 0 ≤ v → v < L → (cnt E.length (at0 E v) : Int) ≤ M
  le1 : ∀ v : Int, 0 ≤ v → v < R → (cnt E.length (at1 E v) : Int) ≤ M
theorem colours_spec {L R : Nat} {E : List S40} (hk : chk L R (E.map prE) = 0) (g : GOK L R E) :
    ∃ (M : Int) (O : Int → Int), match_Colours.f L R E = some ((List.range E.length).map (fun i : Nat => O (i : Int)), 0) ∧ Coloured L R E M O := by
  have gl := g.len
  have hX : ∀ j : Int, 0 ≤ j → j < E.length → eX (E.map prE) j = fX E j := fun j j0 j1 => by unfold eX; rw [rdE_map E j0 j1]
  have hY : ∀ j : Int, 0 ≤ j → j < E.length → eY L (E.map prE) j = L + fY E j := fun j j0 j1 => by unfold eY; rw [rdE_map E j0 j1]
  have hr : ∀ j : Int, 0 ≤ j → j < E.length → 0 ≤ fX E j ∧ fX E j < L ∧ 0 ≤ fY E j ∧ fY E j < R := fun j j0 j1 => by
    have := g.rng j j0 j1
    exact this
  have hlen : (E.map prE).length = E.length := by simp
  obtain ⟨M, hM⟩ : ∃ M, degF L (E.map prE) (fun _ => 0) 0 = M := ⟨_, rfl⟩
  have gr : Gr ((L : Int) + R) M (E.map prE).length L (eX (E.map prE)) (eY L (E.map prE)) := by
    rw [hlen]
    exact ⟨fun j j0 j1 => by rw [hX j j0 j1]; exact (hr j j0 j1).1, fun j j0 j1 => by rw [hX j j0 j1]; exact (hr j j0 j1).2.1, fun j j0 j1 => by rw [hY j j0 j1]; have := hr j j0 j1; omega, fun j j0 j1 => by rw [hY j j0 j1]; have := hr j j0 j1; omega⟩
  have hd := deg_go (E := E.map prE) (L := L) (n := (L : Int) + R) (m := M) (X := eX (E.map prE)) (Y := eY L (E.map prE)) (fun pre x suf he => by
      have : rdE (E.map prE) pre.length = x := by rw [he]; unfold rdE; simp
      unfold eX eY
      rw [this]
      exact ⟨rfl, rfl⟩) gr (by omega) (by omega) (E.map prE) [] (fun _ => 0) 0 (by simp) (fun v => by simp [cnt]) (fun v => by simp) (by omega) (.inl rfl)
  rw [hM, hlen] at hd
  obtain ⟨hd1, hd2, hd3⟩ := hd
  have hMe : M ≤ E.length := by
    rcases hd3 with h | ⟨v, _, _, h⟩
    · omega
    · have := cnt_le (inc (eX (E.map prE)) (eY L (E.map prE)) v) E.length
      omega
  rw [hlen] at gr
  obtain ⟨O, h1, T', h2⟩ := main_ok gr (by omega) (by omega) (by omega) hd2 (fun v _ _ => hd1 v) (2 * E.length + 5) (by omega) (by omega) E.length 0 (fun _ _ => -1) (fun _ => 0) (by omega) (inv_start _ _) (E.length + 1) (by omega)
  have c0 : ∀ v : Int, v < L → cnt E.length (inc (eX (E.map prE)) (eY L (E.map prE)) v) = cnt E.length (at0 E v) := fun v hv => cnt_congr _ fun j j0 j1 => by
    unfold inc at0
    rw [hX j j0 j1, hY j j0 j1]
    have := hr j j0 j1
    exact decide_eq_decide.2 ⟨fun h => by omega, fun h => .inl h⟩
  have c1 : ∀ v : Int, 0 ≤ v → cnt E.length (inc (eX (E.map prE)) (eY L (E.map prE)) (L + v)) = cnt E.length (at1 E v) := fun v hv => cnt_congr _ fun j j0 j1 => by
    unfold inc at1
    rw [hX j j0 j1, hY j j0 j1]
    have := hr j j0 j1
    exact decide_eq_decide.2 ⟨fun h => by omega, fun h => .inr (by omega)⟩
  refine ⟨M, O, ?_, hd2, h2.col, fun j k j0 j1 k0 k1 hjk hv => ?_, ?_, fun v v0 v1 => by rw [← c0 v v1]; exact hd1 v, fun v v0 v1 => by rw [← c1 v v0]; exact hd1 _⟩
  · unfold match_Colours.f colF
    rw [if_pos hk, hM, hlen]
    have h1' : mainF ((L : Int) + R) M E.length (eX (E.map prE)) (eY L (E.map prE)) (2 * E.length + 5) (E.length + 1) 0 (fun _ _ => -1) (fun _ => 0) = some O := by simpa using h1
    rw [h1']
    rfl
  · rcases hv with hv | hv
    · exact proper h2 j0 j1 k0 k1 hjk (v := fX E j) (.inl (hX j j0 j1)) (.inl (by rw [hX k k0 k1, hv]))
    · exact proper h2 j0 j1 k0 k1 hjk (v := L + fY E j) (.inr (hY j j0 j1)) (.inr (by rw [hY k k0 k1, hv]))
  · rcases hd3 with h | ⟨v, v0, v1, h⟩
    · exact .inl h
    · by_cases hv : v < L
      · rw [c0 v hv] at h
        exact .inr (.inl ⟨v, v0, hv, h⟩)
      · have e : v = L + (v - L) := by omega
        rw [e, c1 _ (by omega)] at h
        exact .inr (.inr ⟨v - L, by omega, by omega, h⟩)
end Go.Proofs.Ytlleokhmgblfnaa.P
end

section
namespace Go.Proofs.Ytlleokhmgblfnaa.P
open Go.RowKit Go.Proofs.YtlleokhmgblfnaaW.PrintWords Go.Proofs.Ytlleokhmgblfnaa.H Go.Proofs.Ytlleokhmgblfnaa.M
section
variable {L R : Nat} {A : Int → Int → Prop} {next : List (List Int)} {m b : List Int} {l r : List Bool}
theorem IsM.congr {n R : Nat} {A B : Int → Int → Prop} {M : Int → Int} (h : IsM n R A M) (e : ∀ v w : Int, 0 ≤ v → v < n → 0 ≤ w → w < R → A v w → B v w) : IsM n R B M :=
  ⟨h.lt, fun v a d f => e v (M v) a d f (h.lt v a d f) (h.adj v a d f), h.inj⟩
end
end Go.Proofs.Ytlleokhmgblfnaa.P
end

section
namespace Go.Proofs.Ytlleokhmgblfnaa.P.Reg
open Go.RowKit Go.Proofs.YtlleokhmgblfnaaW.PrintWords Go.Proofs.YtlleokhmgblfnaaW.PrintMore Go.Proofs.Ytlleokhmgblfnaa.H Go.Proofs.Ytlleokhmgblfnaa.M Go.Proofs.Ytlleokhmgblfnaa.P
def tst (n d v w : Int) : Bool := decide (Int.tmod (w - v + n) n < d)
theorem tmod_case {n v w : Int} (v0 : 0 ≤ v) (v1 : v < n) (w0 : 0 ≤ w) (w1 : w < n) : Int.tmod (w - v + n) n = if v ≤ w then w - v else w - v + n := by
  rw [Int.tmod_eq_emod_of_nonneg (by omega)]
  by_cases h : v ≤ w
  · rw [if_pos h, Int.add_emod_right]
    exact Int.emod_eq_of_lt (by omega) (by omega)
  · rw [if_neg h]
    exact Int.emod_eq_of_lt (by omega) (by omega)
theorem cnt_below (d : Int) (d0 : 0 ≤ d) : ∀ n : Nat, d ≤ n → (cnt n (fun r => decide (r < d)) : Int) = d := by
  have key : ∀ n : Nat, (cnt n (fun r => decide (r < d)) : Int) = if d ≤ n then d else n := fun n => by
    induction n with
    | zero => simp [cnt]; omega
    | succ n ih =>
      rw [cnt_succ]
      by_cases h : (n : Int) < d
      · rw [if_neg (by omega)] at ih
        rw [show decide ((n : Int) < d) = true by simpa using h]
        simp only [if_true]
        split <;> omega
      · rw [if_pos (by omega)] at ih
        rw [show decide ((n : Int) < d) = false by simpa using h, if_neg (by simp), if_pos (by omega)]
        omega
  intro n h
  rw [key n, if_pos h]
section
variable {n : Nat} {d : Int}
theorem row_cnt (d0 : 0 ≤ d) (dn : d ≤ n) {v : Int} (v0 : 0 ≤ v) (v1 : v < n) : (cnt n (fun w => tst n d v w) : Int) = d := by
  have h1 : cnt n (fun w => tst n d v w) ≤ cnt n (fun r => decide (r < d)) := cnt_inj (fun w => if v ≤ w then w - v else w - v + n) n n _ (fun w w0 w1 h => by
      unfold tst at h
      rw [tmod_case v0 v1 w0 w1] at h
      refine ⟨?_, ?_, h⟩
      · show 0 ≤ if v ≤ w then w - v else w - v + (n : Int); split <;> omega
      · show (if v ≤ w then w - v else w - v + (n : Int)) < n; split <;> omega)
    (fun w x w0 w1 x0 x1 _ _ h => by
      have h' : (if v ≤ w then w - v else w - v + (n : Int)) = if v ≤ x then x - v else x - v + (n : Int) := h
      split at h' <;> split at h' <;> omega)
  have h2 : cnt n (fun r => decide (r < d)) ≤ cnt n (fun w => tst n d v w) := cnt_inj (fun r => if r + v < n then r + v else r + v - n) n n _ (fun r r0 r1 h => by
      have hb : 0 ≤ (if r + v < n then r + v else r + v - (n : Int)) ∧ (if r + v < n then r + v else r + v - (n : Int)) < n := by split <;> omega
      refine ⟨hb.1, hb.2, ?_⟩
      unfold tst
      show decide (Int.tmod ((if r + v < n then r + v else r + v - (n : Int)) - v + n) n < d) = true
      rw [tmod_case v0 v1 hb.1 hb.2]
      have hd : r < d := by simpa using h
      simp only [decide_eq_true_eq]
      split <;> split <;> omega)
    (fun w x w0 w1 x0 x1 _ _ h => by
      have h' : (if w + v < n then w + v else w + v - (n : Int)) = if x + v < n then x + v else x + v - (n : Int) := h
      split at h' <;> split at h' <;> omega)
  have h3 := cnt_below d d0 n dn
  omega
theorem col_cnt (d0 : 0 ≤ d) (dn : d ≤ n) {w : Int} (w0 : 0 ≤ w) (w1 : w < n) : (cnt n (fun v => tst n d v w) : Int) ≤ d := by
  have h1 : cnt n (fun v => tst n d v w) ≤ cnt n (fun r => decide (r < d)) := cnt_inj (fun v => if v ≤ w then w - v else w - v + n) n n _ (fun v v0 v1 h => by
      unfold tst at h
      rw [tmod_case v0 v1 w0 w1] at h
      refine ⟨?_, ?_, h⟩
      · show 0 ≤ if v ≤ w then w - v else w - v + (n : Int); split <;> omega
      · show (if v ≤ w then w - v else w - v + (n : Int)) < n; split <;> omega)
    (fun v x v0 v1 x0 x1 _ _ h => by
      have h' : (if v ≤ w then w - v else w - v + (n : Int)) = if x ≤ w then w - x else w - x + (n : Int) := h
      split at h' <;> split at h' <;> omega)
  have h3 := cnt_below d d0 n dn
  omega
end
theorem rd_pre (E : List S40) (x : S40) {j : Int} (j0 : 0 ≤ j) (j1 : j < E.length) : rd_T40 (E ++ [x]) j = rd_T40 E j := by
  unfold rd_T40
  rw [List.getD_eq_getElem?_getD, List.getD_eq_getElem?_getD, List.getElem?_append_left (by omega)]
theorem app0 (E : List S40) (x : S40) (u : Int) : cnt (E ++ [x]).length (at0 (E ++ [x]) u) = cnt E.length (at0 E u) + if x.f0 = u then 1 else 0 := by
  have hl : (E ++ [x]).length = E.length + 1 := by simp
  rw [hl, cnt_succ]
  have e1 : cnt E.length (at0 (E ++ [x]) u) = cnt E.length (at0 E u) := cnt_congr _ fun j j0 j1 => by unfold at0 fX; rw [rd_pre E x j0 j1]
  have e2 : at0 (E ++ [x]) u (E.length : Int) = decide (x.f0 = u) := by unfold at0 fX; rw [show E ++ [x] = E ++ x :: [] from rfl, rd_mid]
  rw [e1, e2]
  by_cases h : x.f0 = u <;> simp [h]
theorem app1 (E : List S40) (x : S40) (u : Int) : cnt (E ++ [x]).length (at1 (E ++ [x]) u) = cnt E.length (at1 E u) + if x.f1 = u then 1 else 0 := by
  have hl : (E ++ [x]).length = E.length + 1 := by simp
  rw [hl, cnt_succ]
  have e1 : cnt E.length (at1 (E ++ [x]) u) = cnt E.length (at1 E u) := cnt_congr _ fun j j0 j1 => by unfold at1 fY; rw [rd_pre E x j0 j1]
  have e2 : at1 (E ++ [x]) u (E.length : Int) = decide (x.f1 = u) := by unfold at1 fY; rw [show E ++ [x] = E ++ x :: [] from rfl, rd_mid]
  rw [e1, e2]
  by_cases h : x.f1 = u <;> simp [h]
theorem cnt_next (p : Int → Bool) {i : Int} (i0 : 0 ≤ i) : cnt (i + 1).toNat p = cnt i.toNat p + if p i then 1 else 0 := by
  rw [show (i + 1).toNat = i.toNat + 1 by omega, cnt_succ, show ((i.toNat : Nat) : Int) = i by omega]
structure RInv (n : Nat) (d v w : Int) (E : List S40) : Prop where
  ok : EOK n n E
  last : ∀ e ∈ E, e.f0 < v ∨ (e.f0 = v ∧ e.f1 < w)
  c0 : ∀ u : Int, 0 ≤ u → (cnt E.length (at0 E u) : Int) = if u < v then d else if u = v then cnt w.toNat (fun x => tst n d v x) else 0
  c1 : ∀ u : Int, 0 ≤ u → u < n → cnt E.length (at1 E u) = cnt v.toNat (fun x => tst n d x u) + if u < w ∧ tst n d v u = true then 1 else 0
  len : (E.length : Int) = v * d + cnt w.toNat (fun x => tst n d v x)
  cap : (E.length : Int) ≤ v * 40 + w
section
variable {n : Nat} {d v w : Int} {E : List S40}
theorem RInv.skip (h : RInv n d v w E) (w0 : 0 ≤ w) (ht : tst n d v w = false) : RInv n d v (w + 1) E := by
  have hc : cnt (w + 1).toNat (fun x => tst n d v x) = cnt w.toNat (fun x => tst n d v x) := by rw [cnt_next _ w0, ht]; simp
  refine ⟨h.ok, fun e he => ?_, fun u u0 => by rw [hc]; exact h.c0 u u0, fun u u0 u1 => ?_, by rw [hc]; exact h.len, by have := h.cap; omega⟩
  · have := h.last e he
    omega
  · rw [h.c1 u u0 u1]
    congr 1
    by_cases e : u = w
    · subst e
      rw [if_neg (by simp [ht]), if_neg (by simp [ht])]
    · by_cases h2 : u < w ∧ tst n d v u = true
      · rw [if_pos h2, if_pos ⟨by omega, h2.2⟩]
      · rw [if_neg h2, if_neg (fun h3 => h2 ⟨by omega, h3.2⟩)]
theorem RInv.put (h : RInv n d v w E) (v0 : 0 ≤ v) (v1 : v < n) (w0 : 0 ≤ w) (w1 : w < n) (ht : tst n d v w = true) : RInv n d v (w + 1) (E ++ [⟨v, w⟩]) := by
  have hc : cnt (w + 1).toNat (fun x => tst n d v x) = cnt w.toNat (fun x => tst n d v x) + 1 := by rw [cnt_next _ w0, ht]; simp
  refine ⟨⟨fun e he => ?_, ?_⟩, fun e he => ?_, fun u u0 => ?_, fun u u0 u1 => ?_, ?_, ?_⟩
  · rcases List.mem_append.1 he with he | he
    · exact h.ok.rng e he
    · rw [List.mem_singleton.1 he]; exact ⟨v0, v1, w0, w1⟩
  · rw [List.pairwise_append]
    refine ⟨h.ok.srt, List.pairwise_singleton _ _, fun e he y hy => ?_⟩
    rw [List.mem_singleton.1 hy]
    exact h.last e he
  · rcases List.mem_append.1 he with he | he
    · have := h.last e he; omega
    · rw [List.mem_singleton.1 he]; exact .inr ⟨rfl, by show w < w + 1; omega⟩
  · rw [app0, hc]
    show ((cnt E.length (at0 E u) + (if v = u then 1 else 0) : Nat) : Int) = _
    have := h.c0 u u0
    by_cases e : v = u
    · subst e
      rw [if_neg (by omega), if_pos rfl] at this
      rw [if_pos rfl, if_neg (by omega), if_pos rfl]
      omega
    · rw [if_neg e]
      by_cases e2 : u < v
      · rw [if_pos e2] at this ⊢
        omega
      · rw [if_neg e2, if_neg (fun h => e h.symm)] at this ⊢
        omega
  · rw [app1, h.c1 u u0 u1, Nat.add_assoc]
    congr 1
    show _ + (if w = u then 1 else 0) = _
    by_cases e : w = u
    · subst e
      rw [if_pos rfl, if_neg (by omega), if_pos ⟨by omega, ht⟩]
    · rw [if_neg e]
      by_cases h2 : u < w ∧ tst n d v u = true
      · rw [if_pos h2, if_pos ⟨by omega, h2.2⟩]
      · rw [if_neg h2, if_neg (fun h3 => h2 ⟨by omega, h3.2⟩)]
  · rw [hc, List.length_append]
    have := h.len
    simp
    omega
  · rw [List.length_append]
    have := h.cap
    simp
    omega
theorem RInv.next (h : RInv n d v n E) (hn : n ≤ 40) (v0 : 0 ≤ v) (v1 : v < n) (d0 : 0 ≤ d) (dn : d ≤ n) : RInv n d (v + 1) 0 E := by
  have hr := row_cnt d0 dn v0 v1
  have hz : (cnt (0 : Int).toNat (fun x => tst n d (v + 1) x) : Int) = 0 := rfl
  have hnn : ((n : Nat) : Int).toNat = n := by omega
  refine ⟨h.ok, fun e he => by have := h.last e he; omega, fun u u0 => ?_, fun u u0 u1 => ?_, ?_, by have := h.cap; omega⟩
  · rw [h.c0 u u0, hnn, hr, hz]
    by_cases e : u < v
    · rw [if_pos e, if_pos (by omega)]
    · rw [if_neg e]
      by_cases e2 : u = v
      · rw [if_pos e2, if_pos (by omega)]
      · rw [if_neg e2, if_neg (by omega)]
        split <;> rfl
  · rw [h.c1 u u0 u1, cnt_next _ v0, Nat.add_assoc]
    congr 1
    rw [if_neg (c := u < 0 ∧ tst n d (v + 1) u = true) (by omega)]
    by_cases e : tst n d v u = true
    · rw [if_pos ⟨u1, e⟩, if_pos e]
    · rw [if_neg (fun h => e h.2), if_neg e]
  · rw [h.len, hnn, hr, hz, Int.add_mul]
    omega
end
end Go.Proofs.Ytlleokhmgblfnaa.P.Reg
end

section
namespace Go.Proofs.Ytlleokhmgblfnaa.P
open Go.RowKit Go.Proofs.YtlleokhmgblfnaaW.PrintWords Go.Proofs.Ytlleokhmgblfnaa.H Go.Proofs.Ytlleokhmgblfnaa.M
def Low (m : List Int) : Prop := ∀ x ∈ m, -1 ≤ x
theorem low_set {m : List Int} (h : Low m) (i : Nat) {x : Int} (hx : 0 ≤ x) : Low (m.set i x) := fun y hy => by
  rcases List.mem_or_eq_of_mem_set hy with h1 | h1
  · exact h y h1
  · omega
theorem extG_low (next : List (List Int)) : ∀ k v j m b l q, extG next k v j m b l = some q → Low m → Low q.2.1 := by
  intro k
  induction k with
  | zero => intro v j m b l q h; exact absurd h (by simp [extG])
  | succ k ih =>
    intro v j m b l q h hm
    rw [extG] at h
    split at h
    · split at h
      · rename_i h0
        split at h
        · split at h
          · cases h
            exact low_set hm _ h0
          · split at h
            · split at h
              · split at h
                · cases hq : extG next k (rd b (rd (rdL next v) j)) 0 m b l with
                  | none => rw [hq] at h; cases h
                  | some t =>
                    rw [hq] at h
                    have ht := ih _ _ _ _ _ _ hq hm
                    obtain ⟨t0, tm, tb, tl⟩ := t
                    cases t0 with
                    | true =>
                      have h' : some (true, tm.set v.toNat (rd (rdL next v) j), tb.set (rd (rdL next v) j).toNat v, tl) = some q := h
                      cases h'
                      exact low_set ht _ h0
                    | false => exact ih _ _ _ _ _ _ h ht
                · exact ih _ _ _ _ _ _ h hm
              · cases h
            · cases h
        · cases h
      · cases h
    · cases h
      exact hm
theorem phase_low (next : List (List Int)) : ∀ k v m b l t, phase next k v m b l = some t → Low m → Low t.1 := by
  intro k
  induction k with
  | zero => intro v m b l t h; exact absurd h (by simp [phase])
  | succ k ih =>
    intro v m b l t h hm
    rw [phase] at h
    split at h
    · split at h
      · cases hq : extG next k v 0 m b l with
        | none => rw [hq] at h; cases h
        | some q =>
          rw [hq] at h
          exact ih _ _ _ _ _ h (extG_low next k v 0 m b l q hq hm)
      · exact ih _ _ _ _ _ h hm
    · cases h
      exact hm
theorem great_low (next : List (List Int)) : ∀ k m b l r, great next k m b l = some r → Low m → Low r.1 := by
  intro k
  induction k with
  | zero => intro m b l r h; exact absurd h (by simp [great])
  | succ k ih =>
    intro m b l r h hm
    rw [great] at h
    cases hs : levF next m b k l with
    | none => rw [hs] at h; cases h
    | some s =>
      rw [hs] at h
      simp only [Option.bind_some] at h
      split at h
      · cases hp : phase next k 0 m b s.2 with
        | none => rw [hp] at h; cases h
        | some t =>
          rw [hp] at h
          exact ih _ _ _ _ h (phase_low next k 0 m b s.2 t hp hm)
      · cases h
        exact hm
theorem greatF_low {next : List (List Int)} {k : Nat} {R : Int} {r : List Int × List Int} (h : greatF k next R = some r) : Low r.1 := by
  unfold greatF at h
  split at h
  · split at h
    · split at h
      · refine great_low next k _ _ _ r h (fun x hx => ?_)
        unfold nones at hx
        rw [(List.mem_replicate.1 hx).2]
        omega
      · cases h
    · cases h
  · cases h
theorem max_low {L R : Int} {E : List S40} {k : Nat} {m : List Int} {e : Int} (h : match_Maximum.f k L R E = some (m, e)) : Low m := by
  unfold match_Maximum.f at h
  cases hc : match_Check.f L R E with
  | none => rw [hc] at h; cases h
  | some c =>
    rw [hc] at h
    simp only [Option.bind_some] at h
    split at h
    · cases hn : match_Graph_neighbours.f k L R E with
      | none => rw [hn] at h; cases h
      | some next =>
        rw [hn] at h
        simp only [Option.bind_some] at h
        cases hg : pairing_Greatest.f k next R with
        | none => rw [hg] at h; cases h
        | some r =>
          rw [hg] at h
          cases h
          exact greatF_low hg
    · cases h
      intro x hx
      cases hx
end Go.Proofs.Ytlleokhmgblfnaa.P
end

section
namespace Go.Proofs.Ytlleokhmgblfnaa.P
open Go.RowKit Go.Proofs.YtlleokhmgblfnaaW.PrintWords Go.Proofs.Ytlleokhmgblfnaa.H Go.Proofs.Ytlleokhmgblfnaa.M
theorem count_spec (m : List Int) (hm : m.length ≤ 1000000) (hlow : Low m) : ∀ k, m.length < k → toruslaw30_count.f k m = some ((msz m.length m : Nat) : Int) := by
  have key : ∀ (d : Nat) (i : Int), (m.length : Int) = i + d → 0 ≤ i → ∀ k, d < k → toruslaw30_count.l0 k (cnt i.toNat (fun x => decide (0 ≤ rd m x)) : Nat) m m.length i = some ((msz m.length m : Nat) : Int) := by
    intro d
    induction d with
    | zero =>
      intro i hd hi k hk
      obtain ⟨k, rfl⟩ := fuel hk
      have : i = (m.length : Int) := by omega
      subst this
      rw [toruslaw30_count.l0, if_neg (by omega)]
      rfl
    | succ d ih =>
      intro i hd hi k hk
      obtain ⟨k, rfl⟩ := fuel hk
      have ei : (i + 1).toNat = i.toNat + 1 := by omega
      have ec : ((i.toNat : Nat) : Int) = i := by omega
      have := ih (i + 1) (by omega) (by omega) k (by omega)
      rw [ei, cnt_succ, ec] at this
      have hle := cnt_le (fun x => decide (0 ≤ rd m x)) i.toNat
      have hl := hlow _ (rd_mem hi (show i < m.length by omega))
      rw [toruslaw30_count.l0, if_pos (by omega), if_pos hi, if_pos (by omega), w64 (x := i + 1) (by omega) (by omega)]
      by_cases h : 0 ≤ rd m i
      · rw [if_neg (by omega), w64 (by omega) (by omega), ← this]
        simp [h]
      · rw [if_pos (by omega), ← this]
        simp [h]
  exact key m.length 0 (by omega) (by omega)
theorem bind_of {α β : Type} {x : Option α} {a : α} {f : α → Option β} (h : x = some a) : x.bind f = f a := by rw [h]; rfl
end Go.Proofs.Ytlleokhmgblfnaa.P
end

section
namespace Go.Proofs.Ytlleokhmgblfnaa.RBits
open Go.ChangeShapes Go.WideShapes Go.ChangeAt Go.RowKit
open Go.ChangeMaps (open_string shut_string)
theorem own : ownKnob Try.prog.godebug = none := by kernel_rfl
theorem wf_u8 {a : Int} (h : (Lit.int .u8 a).wf = true) : 0 ≤ a ∧ a ≤ 255 := by
  have e1 : IntKind.u8.min = 0 := by decide
  have e2 : IntKind.u8.max = 255 := by decide
  simp only [Lit.wf, e1, e2, Bool.and_eq_true, decide_eq_true_eq] at h
  exact h
end Go.Proofs.Ytlleokhmgblfnaa.RBits
end

section
namespace Go.Proofs.Ytlleokhmgblfnaa.P.Reg
open Go.RowKit Go.Proofs.YtlleokhmgblfnaaW.PrintWords Go.Proofs.YtlleokhmgblfnaaW.PrintMore Go.Proofs.Ytlleokhmgblfnaa.H Go.Proofs.Ytlleokhmgblfnaa.M Go.Proofs.Ytlleokhmgblfnaa.P
theorem rd_cs (O : Int → Int) (n : Nat) {j : Int} (j0 : 0 ≤ j) (j1 : j < n) : rd ((List.range n).map fun i : Nat => O (i : Int)) j = O j := by
  unfold rd
  rw [List.getD_eq_getElem?_getD, List.getElem?_map, List.getElem?_range (by omega)]
  show O ((j.toNat : Nat) : Int) = O j
  rw [show ((j.toNat : Nat) : Int) = j by omega]
section
variable {n : Nat} {d : Int}
theorem reg_l1 (n1 : 1 ≤ n) (n40 : n ≤ 40) {v : Int} (v0 : 0 ≤ v) (v1 : v < n) : ∀ (dd : Nat) (w : Int) (E : List S40), (n : Int) = w + dd → 0 ≤ w → RInv n d v w E →
    ∃ E', RInv n d v n E' ∧ ∀ k, toruslaw30_MatchRegular.l1 (k + 1 + dd) n d v w n n E = toruslaw30_MatchRegular.l0 k n d (v + 1) n n E' := by
  intro dd
  induction dd with
  | zero =>
    intro w E hd hw h
    have e : w = n := by omega
    subst e
    exact ⟨E, h, fun k => by rw [toruslaw30_MatchRegular.l1, if_neg (by omega), w64 (by omega) (by omega)]⟩
  | succ dd ih =>
    intro w E hd hw h
    have hcap := h.cap
    by_cases ht : Int.tmod (w - v + n) n < d
    · obtain ⟨E', h1, h2⟩ := ih (w + 1) _ (by omega) (by omega) (h.put v0 v1 hw (by omega) (by unfold tst; simpa using ht))
      refine ⟨E', h1, fun k => ?_⟩
      rw [show k + 1 + (dd + 1) = (k + 1 + dd) + 1 by omega, toruslaw30_MatchRegular.l1, if_pos (by omega), if_neg (by omega), w64 (x := w - v) (by omega) (by omega), w64 (x := w - v + n) (by omega) (by omega), w64 (x := w + 1) (by omega) (by omega), if_pos ht, if_pos (by omega)]
      exact h2 k
    · obtain ⟨E', h1, h2⟩ := ih (w + 1) _ (by omega) (by omega) (h.skip hw (by unfold tst; simpa using ht))
      refine ⟨E', h1, fun k => ?_⟩
      rw [show k + 1 + (dd + 1) = (k + 1 + dd) + 1 by omega, toruslaw30_MatchRegular.l1, if_pos (by omega), if_neg (by omega), w64 (x := w - v) (by omega) (by omega), w64 (x := w - v + n) (by omega) (by omega), w64 (x := w + 1) (by omega) (by omega), if_neg ht]
      exact h2 k
theorem mul_fuel (dd n a : Nat) : (dd + 1) * (n + 2) + a = ((dd * (n + 2) + a) + 1 + n) + 1 := by rw [Nat.succ_mul]; omega
theorem reg_l0 (n1 : 1 ≤ n) (n40 : n ≤ 40) (d0 : 0 ≤ d) (dn : d ≤ n) : ∀ (dd : Nat) (v : Int) (E : List S40), (n : Int) = v + dd → 0 ≤ v → RInv n d v 0 E →
    ∃ E', RInv n d n 0 E' ∧ ∀ a, toruslaw30_MatchRegular.l0 (dd * (n + 2) + a) n d v n n E = toruslaw30_MatchRegular.l0 a n d n n n E' := by
  intro dd
  induction dd with
  | zero =>
    intro v E hd hv h
    have e : v = n := by omega
    subst e
    exact ⟨E, h, fun a => by rw [show 0 * (n + 2) + a = a by omega]⟩
  | succ dd ih =>
    intro v E hd hv h
    obtain ⟨E1, h1, e1⟩ := reg_l1 n1 n40 hv (by omega) n 0 E (by omega) (by omega) h
    obtain ⟨E2, h2, e2⟩ := ih (v + 1) E1 (by omega) (by omega) (h1.next n40 hv (by omega) d0 dn)
    refine ⟨E2, h2, fun a => ?_⟩
    rw [mul_fuel, toruslaw30_MatchRegular.l0, if_pos (by omega), e1, e2]
theorem start : RInv n d 0 0 [] :=
  ⟨⟨fun e he => (List.not_mem_nil he).elim, List.Pairwise.nil⟩, fun e he => (List.not_mem_nil he).elim, fun u u0 => by rw [if_neg (by omega)]; split <;> rfl, fun u u0 u1 => by rw [if_neg (by omega)]; rfl, by simp [cnt], by simp⟩
variable {E : List S40} {M : Int} {O : Int → Int}
theorem deg0 (h : RInv n d n 0 E) {u : Int} (u0 : 0 ≤ u) (u1 : u < n) : (cnt E.length (at0 E u) : Int) = d := by rw [h.c0 u u0, if_pos u1]
theorem deg1 (h : RInv n d n 0 E) (d0 : 0 ≤ d) (dn : d ≤ n) {u : Int} (u0 : 0 ≤ u) (u1 : u < n) : (cnt E.length (at1 E u) : Int) ≤ d := by
  have h1 := h.c1 u u0 u1
  rw [if_neg (fun h => by omega), show ((n : Nat) : Int).toNat = n by omega] at h1
  have h2 := col_cnt d0 dn u0 u1
  omega
theorem most (h : RInv n d n 0 E) (hc : Coloured n n E M O) (n1 : 1 ≤ n) (d0 : 0 ≤ d) (dn : d ≤ n) : M = d := by
  have h1 := hc.le0 0 (by omega) (by omega)
  rw [deg0 h (by omega) (by omega)] at h1
  rcases hc.some_ with h2 | ⟨v, v0, v1, h2⟩ | ⟨v, v0, v1, h2⟩
  · omega
  · rw [deg0 h v0 v1] at h2; omega
  · have := deg1 h d0 dn v0 v1; omega
theorem has_edge (h : RInv n d n 0 E) (hc : Coloured n n E d O) {x v : Int} (x0 : 0 ≤ x) (x1 : x < d) (v0 : 0 ≤ v) (v1 : v < n) : ∃ j : Int, 0 ≤ j ∧ j < E.length ∧ fX E j = v ∧ O j = x := by
  apply Classical.byContradiction
  intro hn
  have h1 := cnt_inj (p := at0 E v) O d.toNat E.length (fun c => true && c != x) (fun j j0 j1 hj => by
      have hr := hc.rng j j0 j1
      refine ⟨hr.1, by omega, ?_⟩
      unfold at0 at hj
      have hv : fX E j = v := by simpa using hj
      have : O j ≠ x := fun e => hn ⟨j, j0, j1, hv, e⟩
      simpa using this)
    (fun j k j0 j1 k0 k1 hj hk e => by
      unfold at0 at hj hk
      have hjv : fX E j = v := by simpa using hj
      have hkv : fX E k = v := by simpa using hk
      apply Classical.byContradiction
      intro hne
      exact hc.apart j k j0 j1 k0 k1 hne (.inl (by rw [hjv, hkv])) e)
  have h2 := deg0 h v0 v1
  have h3 := cnt_out (fun _ => true) x d.toNat x0 (by omega) rfl
  rw [cnt_all d.toNat (fun _ _ _ => rfl)] at h3
  omega
theorem colour_cnt (h : RInv n d n 0 E) (hc : Coloured n n E d O) {x : Int} (x0 : 0 ≤ x) (x1 : x < d) : cnt E.length (fun j => decide (O j = x)) = n := by
  have g1 : cnt E.length (fun j => decide (O j = x)) ≤ cnt n (fun _ => true) := cnt_inj (fun j => fX E j) n E.length _ (fun j j0 j1 _ => by
      obtain ⟨i, hi, e⟩ : ∃ i : Nat, (i : Int) = j ∧ i < E.length := ⟨j.toNat, by omega, by omega⟩
      have := h.ok.rng (rd_T40 E j) (by unfold rd_T40; rw [List.getD_eq_getElem?_getD, List.getElem?_eq_getElem (by omega)]; exact List.getElem_mem _)
      exact ⟨this.1, this.2.1, rfl⟩)
    (fun j k j0 j1 k0 k1 hj hk e => by
      have hjx : O j = x := by simpa using hj
      have hkx : O k = x := by simpa using hk
      apply Classical.byContradiction
      intro hne
      exact hc.apart j k j0 j1 k0 k1 hne (.inl e) (by rw [hjx, hkx]))
  rw [cnt_all n (fun _ _ _ => rfl)] at g1
  have hF : ∀ v : Int, ∃ j : Int, 0 ≤ v → v < n → 0 ≤ j ∧ j < E.length ∧ fX E j = v ∧ O j = x := fun v => by
    by_cases hv : 0 ≤ v ∧ v < n
    · obtain ⟨j, hj⟩ := has_edge h hc x0 x1 hv.1 hv.2
      exact ⟨j, fun _ _ => hj⟩
    · exact ⟨0, fun a b => absurd ⟨a, b⟩ hv⟩
  obtain ⟨F, hF⟩ := Classical.axiomOfChoice hF
  have g2 : cnt n (fun _ => true) ≤ cnt E.length (fun j => decide (O j = x)) := cnt_inj F E.length n _ (fun v v0 v1 _ => by
      have := hF v v0 v1
      exact ⟨this.1, this.2.1, by simpa using this.2.2.2⟩)
    (fun u v u0 u1 v0 v1 _ _ e => by
      have e1 := (hF u u0 u1).2.2.1
      have e2 := (hF v v0 v1).2.2.1
      rw [← e1, ← e2, e])
  rw [cnt_all n (fun _ _ _ => rfl)] at g2
  omega
theorem perfect (h : RInv n d n 0 E) (hc : Coloured n n E d O) (d1 : 1 ≤ d) {s : Nat} (hs : IsMax n n (Adj E) s) : n ≤ s := by
  have hF : ∀ v : Int, ∃ j : Int, 0 ≤ v → v < n → 0 ≤ j ∧ j < E.length ∧ fX E j = v ∧ O j = 0 := fun v => by
    by_cases hv : 0 ≤ v ∧ v < n
    · obtain ⟨j, hj⟩ := has_edge h hc (x := 0) (by omega) (by omega) hv.1 hv.2
      exact ⟨j, fun _ _ => hj⟩
    · exact ⟨0, fun a b => absurd ⟨a, b⟩ hv⟩
  obtain ⟨F, hF⟩ := Classical.axiomOfChoice hF
  have hr : ∀ v : Int, 0 ≤ v → v < n → 0 ≤ fY E (F v) ∧ fY E (F v) < n := fun v v0 v1 => by
    have hj := hF v v0 v1
    have := h.ok.rng (rd_T40 E (F v)) (by unfold rd_T40; rw [List.getD_eq_getElem?_getD, List.getElem?_eq_getElem (by omega)]; exact List.getElem_mem _)
    exact ⟨this.2.2.1, this.2.2.2⟩
  have hM : IsM n n (Adj E) (fun v => fY E (F v)) := ⟨fun v v0 v1 _ => (hr v v0 v1).2, fun v v0 v1 _ => by
      have hj := hF v v0 v1
      exact ⟨F v, hj.1, hj.2.1, hj.2.2.1, rfl⟩, fun u v u0 u1 v0 v1 _ e => by
      have hu := hF u u0 u1
      have hv := hF v v0 v1
      apply Classical.byContradiction
      intro hne
      have hne2 : F u ≠ F v := fun e2 => hne (by rw [← hu.2.2.1, ← hv.2.2.1, e2])
      exact hc.apart (F u) (F v) hu.1 hu.2.1 hv.1 hv.2.1 hne2 (.inr e) (by rw [hu.2.2.2, hv.2.2.2])⟩
  have h1 := hs.all _ hM
  unfold msize at h1
  rw [cnt_all n (fun v v0 v1 => by unfold has; simpa using (hr v v0 v1).1)] at h1
  exact h1
theorem reg_l3 (us : List Int) (hus : us.length ≤ 40) (hall : ∀ c : Int, 0 ≤ c → c < us.length → rd us c = n) (k : Nat) : ∀ (dd : Nat) (i : Int), (us.length : Int) = i + dd → 0 ≤ i → toruslaw30_MatchRegular.l3 (k + 1 + dd) n us us.length i = some true := by
  intro dd
  induction dd with
  | zero =>
    intro i hd hi
    rw [toruslaw30_MatchRegular.l3, if_neg (by omega)]
    exact bind_of (show toruslaw30_awake.f = some true from rfl)
  | succ dd ih =>
    intro i hd hi
    rw [show k + 1 + (dd + 1) = (k + 1 + dd) + 1 by omega, toruslaw30_MatchRegular.l3, if_pos (by omega), if_pos hi, if_pos (by omega), if_pos (hall i hi (by omega)), w64 (by omega) (by omega)]
    exact ih (i + 1) (by omega) (by omega)
theorem reg_l2 (hc : Coloured n n E d O) (he : E.length ≤ 1600) (hd : d ≤ 40) (cs : List Int) (hcs : cs = (List.range E.length).map fun i : Nat => O (i : Int)) (k : Nat) : ∀ (dd : Nat) (i : Int) (us : List Int), (cs.length : Int) = i + dd → 0 ≤ i → (us.length : Int) = d →
    (∀ c : Int, 0 ≤ c → c < d → rd us c = cnt i.toNat (fun j => decide (O j = c))) →
    ∃ us', (us'.length : Int) = d ∧ (∀ c : Int, 0 ≤ c → c < d → rd us' c = cnt E.length (fun j => decide (O j = c))) ∧ toruslaw30_MatchRegular.l2 (k + 1 + dd) n d us cs cs.length i = toruslaw30_MatchRegular.l3 k n us' us'.length 0 := by
  have hcl : cs.length = E.length := by rw [hcs]; simp
  intro dd
  induction dd with
  | zero =>
    intro i us hi i0 hl hu
    refine ⟨us, hl, fun c c0 c1 => by rw [hu c c0 c1, show i.toNat = E.length by omega], ?_⟩
    rw [toruslaw30_MatchRegular.l2, if_neg (by omega)]
  | succ dd ih =>
    intro i us hi i0 hl hu
    have hr := hc.rng i i0 (by omega)
    have hO : rd cs i = O i := by rw [hcs]; exact rd_cs O _ i0 (by omega)
    obtain ⟨x, hx⟩ : ∃ x, O i = x := ⟨_, rfl⟩
    rw [hx] at hr hO
    have hux := hu x hr.1 hr.2
    have hle := cnt_le (fun j => decide (O j = x)) i.toNat
    have hw : wrap64 (rd us x + 1) = rd us x + 1 := w64 (by omega) (by omega)
    obtain ⟨us', e1, e2, e3⟩ := ih (i + 1) (us.set x.toNat (rd us x + 1)) (by omega) (by omega) (by rw [List.length_set]; exact hl) (fun c c0 c1 => by
      rw [rd_set us x c _ hr.1 (by omega) c0, cnt_next _ i0]
      by_cases e : c = x
      · subst e
        rw [if_pos rfl, hux, if_pos (by simpa using hx)]
        omega
      · rw [if_neg e, hu c c0 c1, if_neg (by rw [hx]; simp; omega)]
        omega)
    refine ⟨us', e1, e2, ?_⟩
    rw [show k + 1 + (dd + 1) = (k + 1 + dd) + 1 by omega, toruslaw30_MatchRegular.l2, if_pos (by omega), if_pos i0, if_pos (by omega), hO, if_neg (by omega), if_neg (by omega), if_pos hr.1, if_pos (by omega), hw, w64 (by omega) (by omega)]
    exact e3
end
theorem reg_fin (u s s' : Nat) (hu : u = s + 1) (hs : s = s' + 1) (n d : Int) (E : List S40) (m cs : List Int) (hm : match_Maximum.f s n n E = some (m, 0)) (hc : match_Colours.f n n E = some (cs, 0)) (hk : toruslaw30_count.f s m = some n)
    (hl : (cs.length : Int) = wrap64 (n * d)) (d0 : 0 ≤ d) (d1 : d ≤ 40) (hj : toruslaw30_MatchRegular.l2 s' n d (List.replicate d.toNat 0) cs cs.length 0 = some true) : toruslaw30_MatchRegular.l0 u n d n n n E = some true := by
  have hj2 : toruslaw30_MatchRegular.j2 s n d cs false = some true := by
    rw [hs, toruslaw30_MatchRegular.j2, if_neg (by simp), if_pos d0, if_pos (by omega)]
    exact hj
  rw [hu, toruslaw30_MatchRegular.l0, if_neg (by omega)]
  refine (bind_of hm).trans ?_
  refine (bind_of hc).trans ?_
  refine (if_pos rfl).trans ?_
  refine (if_pos rfl).trans ?_
  refine (bind_of hk).trans ?_
  refine (if_pos rfl).trans ?_
  rw [show ((cs.length : Int) != wrap64 (n * d)) = false by rw [hl]; simp]
  exact hj2
theorem regular_nd (n : Nat) (d : Int) (n1 : 1 ≤ n) (n40 : n ≤ 40) (d1 : 1 ≤ d) (dn : d ≤ n) : ∃ k, toruslaw30_MatchRegular.l0 k n d 0 n n [] = some true := by
  have key : ∃ E, RInv n d n 0 E ∧ ∀ a, toruslaw30_MatchRegular.l0 (n * (n + 2) + a) n d 0 n n [] = toruslaw30_MatchRegular.l0 a n d n n n E := by
    exact reg_l0 (d := d) n1 n40 (by omega) dn n 0 [] (by omega) (by omega) start
  obtain ⟨E, h, hE⟩ := key
  have hlen : (E.length : Int) = n * d := by
    have := h.len
    have hz : (cnt (0 : Int).toNat (fun x => tst n d n x) : Int) = 0 := rfl
    omega
  have hcap : E.length ≤ 1600 := by have := h.cap; omega
  have hchk := chk_of_eok (L := n) (R := n) (by omega) (by omega) (by omega) h.ok
  obtain ⟨L', R', e1, e2, g⟩ := chk_gok hchk
  have e1 : n = L' := by omega
  have e2 : n = R' := by omega
  subst e1
  have e2' : R' = n := by omega
  subst e2'
  obtain ⟨M, O, hcol, hc⟩ := colours_spec hchk g
  obtain rfl := most h hc n1 (by omega) dn
  obtain ⟨next, m, b, l, r, K2, c, D⟩ := done hchk g
  have hlow : Low m := max_low (D.max K2 (Nat.le_refl _))
  have hml : m.length = R' := by have := c.hole.lm; have := c.nl; omega
  have hcnt := count_spec m (by omega) hlow
  have hsz : msz R' m = R' := by
    have h1 := perfect h hc d1 c.isMax
    have h2 : msz R' m ≤ R' := cnt_le _ _
    omega
  rw [hml, hsz] at hcnt
  obtain ⟨us', u1, u2, u3⟩ := reg_l2 hc hcap (by omega) _ rfl (K2 + 41 + 1 + M.toNat) E.length 0 (List.replicate M.toNat 0) (by simp) (by omega) (by simp; omega) (fun x x0 x1 => by
    rw [show rd (List.replicate M.toNat 0) x = 0 from getD_rep _ _ _]; rfl)
  have hl3 := reg_l3 (n := R') us' (by omega) (fun x x0 x1 => by rw [u2 x x0 (by omega), colour_cnt h hc x0 (by omega)]) (K2 + 41) M.toNat 0 (by omega) (by omega)
  rw [hl3] at u3
  obtain ⟨s', hs'⟩ : ∃ s', s' = K2 + 41 + 1 + M.toNat + 1 + E.length := ⟨_, rfl⟩
  rw [← hs'] at u3
  obtain ⟨s, hs⟩ : ∃ s, s = s' + 1 := ⟨_, rfl⟩
  obtain ⟨u, hu⟩ : ∃ u, u = s + 1 := ⟨_, rfl⟩
  refine ⟨R' * (R' + 2) + u, ?_⟩
  rw [hE u]
  exact reg_fin u s s' hu hs R' M E m _ (D.max s (by omega)) hcol (hcnt s (by omega)) (by rw [← hlen, w64 (by omega) (by omega)]; simp) (by omega) (by omega) u3
theorem regular_true (a0 a1 : Int) (ha0 : 0 ≤ a0) (ha0' : a0 ≤ 255) (ha1 : 0 ≤ a1) (ha1' : a1 ≤ 255) : ∃ k, toruslaw30_MatchRegular.f k a0 a1 = some true := by
  have l0 : 0 ≤ Int.tmod a0 40 := Int.tmod_nonneg _ ha0
  have l1 : Int.tmod a0 40 < 40 := Int.tmod_lt_of_pos _ (by omega)
  obtain ⟨n, hn⟩ : ∃ n : Nat, (n : Int) = 1 + Int.tmod a0 40 := ⟨(1 + Int.tmod a0 40).toNat, by omega⟩
  have e1 : wrap64 (1 + wrap64 (Int.tmod a0 40)) = n := by rw [w64 (x := Int.tmod a0 40) (by omega) (by omega), w64 (by omega) (by omega), hn]
  have r0 : 0 ≤ Int.tmod a1 n := Int.tmod_nonneg _ ha1
  have r1 : Int.tmod a1 n < n := Int.tmod_lt_of_pos _ (by omega)
  have e2 : wrap64 (1 + Int.tmod (wrap64 a1) (n : Int)) = 1 + Int.tmod a1 n := by rw [w64 (x := a1) (by omega) (by omega), w64 (by omega) (by omega)]
  obtain ⟨k, hk⟩ := regular_nd n (1 + Int.tmod a1 n) (by omega) (by omega) (by omega) (by omega)
  refine ⟨k, ?_⟩
  unfold toruslaw30_MatchRegular.f
  rw [e1, e2, if_neg (by omega)]
  exact hk
end Go.Proofs.Ytlleokhmgblfnaa.P.Reg
namespace Go.Proofs.Ytlleokhmgblfnaa.Pure
theorem MatchRegular : M.toruslaw30_MatchRegular.Pure := fun a0 a1 w0 w1 => P.Reg.regular_true a0 a1 (RBits.wf_u8 w0).1 (RBits.wf_u8 w0).2 (RBits.wf_u8 w1).1 (RBits.wf_u8 w1).2
end Go.Proofs.Ytlleokhmgblfnaa.Pure
end

section
namespace Go.Proofs.Ytlleokhmgblfnaa.matchRegular
open Go.ChangeShapes Go.WideShapes Go.ChangeAt Go.RowKit
open Go.ChangeMaps (open_string shut_string)
theorem own : ownKnob Try.prog.godebug = none := by kernel_rfl
set_option maxRecDepth 100000 in
theorem lifted (os : Os) (started : os.Started) (H : Type) (enc : TypeId × Value → H) :
    ReturnsInHanded {} Try.checked os 10 .any (Rows.matchRegularSpec.pre6 enc Try.prog Try.f10 Rows.matchRegularRow.domain false) (Rows.matchRegularSpec.post enc Try.prog Try.f10 false true false false) := by
  refine returnsInHanded_of_change_sized (C := Try.checked) own started (by kernel_rfl) Try.func10
    (ChangeSpec.witness6 (enc := enc) (C := Try.checked) false ⟨#[], #[.int .u8 0, .int .u8 0], []⟩ 8 (by kernel_rfl) (by kernel_rfl) (by kernel_rfl) (by kernel_rfl)) ?_
  intro W base args ds gs before hval0 hW hcnd hsz0 _
  have hsz : (DataW.weightsEach Try.prog (Try.f10.params.toList ++ Rows.matchRegularSpec.plain.varTypes Try.prog) (ds ++ gs)).all (· ≤ reachBytes) = true := hsz0
  have hval : ∀ (j : Nat) t v, Try.f10.params[j]? = some t → args[j]? = some v → Value.okWide Try.prog W .any base t v := hval0
  have hW' := hW
  obtain ⟨p, q, hA0, hV, rfl, hfz, hnd⟩ := hW
  have hA : DataW.TrodAll enc Try.prog W 0 (fun _ => true) true Try.f10.params.toList args.toList ds p := hA0
  rw [Try.params10] at hA hval hsz
  obtain ⟨v0, vs0, d0, ds0, p0, q0, hargs, rfl, rfl, h0, r0⟩ := trodAll_cons hA
  obtain ⟨v1, vs1, d1, ds1, p1, q1, rfl, rfl, rfl, h1, r1⟩ := trodAll_cons r0
  obtain ⟨rfl, rfl, rfl⟩ := trodAll_nil r1
  obtain rfl : args = #[v0, v1] := by cases args; simp_all
  obtain ⟨rfl, rfl⟩ := trodVars_none hV
  obtain ⟨a0, rfl, rfl, rfl, w0⟩ := open_int Try.underlying5 (hval 0 5 v0 rfl rfl) h0
  obtain ⟨a1, rfl, rfl, rfl, w1⟩ := open_int Try.underlying5 (hval 1 5 v1 rfl rfl) h1
  clear hA0 hval0 hsz0 hsz
  refine (M.toruslaw30_MatchRegular.walk Pure.MatchRegular a0 a1 W w0 w1).mono fun e W' ⟨he, bel⟩ => ?_
  subst he
  exact ⟨_, rfl, _, _, _, [], _, [], hW', trodAll_mk1 (shut_bool Try.underlying4 _), (trodAll_cons_mk (shut_int Try.underlying5 w0) (trodAll_cons_mk (shut_int Try.underlying5 w1) trodAll_mk0)), rfl, bel.frame _, fun h => by cases h⟩
theorem over : Rows.matchRegularRow.holds Try.pinned (OpenSpec.ofChange Rows.matchRegularSpec) :=
  OpenClaim.holds_of_wide 10 Try.f10 rfl rfl rfl rfl rfl rfl rfl ⟨rfl, rfl, rfl, rfl, rfl⟩ rfl rfl rfl rfl rfl (by kernel_rfl) Try.func10 (by kernel_rfl)
    (of_decide_eq_true (by kernel_rfl)) (by unfold Func.isWrapper; first | (rw [if_pos (by decide +kernel)]; kernel_rfl) | (rw [if_neg (by decide +kernel)]; exact ⟨rfl, rfl⟩))
    (fun os started H enc _ => lifted os started H enc)
theorem proved : Rows.MatchRegularSaid := over
end Go.Proofs.Ytlleokhmgblfnaa.matchRegular
namespace Go.Proofs.Ytlleokhmgblfnaa
theorem matchRegular_holds : Rows.MatchRegularSaid := matchRegular.proved
end Go.Proofs.Ytlleokhmgblfnaa
end
