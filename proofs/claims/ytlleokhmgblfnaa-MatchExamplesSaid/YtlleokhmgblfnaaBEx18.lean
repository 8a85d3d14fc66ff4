/- A part of the proof: texts of this seat joined (printed and by hand), without what is not used. -/
import Derived.Test.YtlleokhmgblfnaaBEx17
set_option linter.unusedVariables false
set_option linter.unusedSimpArgs false
set_option linter.unusedSectionVars false
section
namespace Go.Proofs.Ytlleokhmgblfnaa.P
open Go.RowKit Go.Proofs.YtlleokhmgblfnaaW.PrintWords Go.Proofs.Ytlleokhmgblfnaa.H Go.Proofs.Ytlleokhmgblfnaa.M
theorem w64 {x : Int} (h0 : -9223372036854775808 ≤ x) (h1 : x ≤ 9223372036854775807) : wrap64 x = x := by unfold wrap64; omega
theorem fuel {k d : Nat} (h : d < k) : ∃ k', k = k' + 1 := ⟨k - 1, by omega⟩
theorem getD_set {α : Type} (d : α) (xs : List α) (i j : Int) (y : α) (h0 : 0 ≤ i) (h1 : i < xs.length) (hj : 0 ≤ j) : (xs.set i.toNat y).getD j.toNat d = if j = i then y else xs.getD j.toNat d := by
  rw [List.getD_eq_getElem?_getD, List.getD_eq_getElem?_getD, List.getElem?_set]
  by_cases e : j = i
  · subst e
    rw [if_pos rfl, if_pos rfl, if_pos (by omega)]
    rfl
  · rw [if_neg (by omega), if_neg e]
theorem getD_rep {α : Type} (d : α) (n i : Nat) : (List.replicate n d).getD i d = d := by
  rw [List.getD_eq_getElem?_getD, List.getElem?_replicate]
  split <;> rfl
def Adj (E : List S40) (v w : Int) : Prop := ∃ j : Int, 0 ≤ j ∧ j < E.length ∧ (rd_T40 E j).f0 = v ∧ (rd_T40 E j).f1 = w
structure GOK (L R : Nat) (E : List S40) : Prop where
  L1 : L ≤ 1024
  R1 : R ≤ 1024
  len : E.length ≤ 65536
  rng : ∀ j : Int, 0 ≤ j → j < E.length → 0 ≤ (rd_T40 E j).f0 ∧ (rd_T40 E j).f0 < L ∧ 0 ≤ (rd_T40 E j).f1 ∧ (rd_T40 E j).f1 < R
theorem nbr_l0 {L R : Nat} {E : List S40} (g : GOK L R E) :
    ∀ (d : Nat) (i : Int) (x : List (List Int)), (E.length : Int) = i + d → 0 ≤ i → x.length = L →
      (∀ v w : Int, 0 ≤ v → v < L → (w ∈ rd_L5 x v ↔ ∃ j : Int, 0 ≤ j ∧ j < i ∧ (rd_T40 E j).f0 = v ∧ (rd_T40 E j).f1 = w)) →
      (∀ v : Int, 0 ≤ v → v < L → (rd_L5 x v).length ≤ i) →
      ∃ r, (∀ k, d < k → match_Graph_neighbours.l0 k x E E.length i = some r) ∧ r.length = L ∧ (∀ v w : Int, 0 ≤ v → v < L → (w ∈ rd_L5 r v ↔ Adj E v w)) ∧ ∀ v : Int, 0 ≤ v → v < L → (rd_L5 r v).length ≤ 1000000 := by
  have hl := g.len
  intro d
  induction d with
  | zero =>
    intro i x hd hi hx h1 h2
    refine ⟨x, fun k hk => ?_, hx, fun v w h3 h4 => ?_, fun v h3 h4 => by have := h2 v h3 h4; omega⟩
    · obtain ⟨k, rfl⟩ := fuel hk
      rw [match_Graph_neighbours.l0, if_neg (by omega)]
    · rw [h1 v w h3 h4, show i = (E.length : Int) by omega]; rfl
  | succ d ih =>
    intro i x hd hi hx h1 h2
    obtain ⟨a0, a1, a2, a3⟩ := g.rng i hi (by omega)
    obtain ⟨e, he⟩ : ∃ e, rd_T40 E i = e := ⟨_, rfl⟩
    rw [he] at a0 a1 a2 a3
    have hs : ∀ v : Int, 0 ≤ v → rd_L5 (x.set e.f0.toNat ((rd_L5 x e.f0) ++ [e.f1])) v = if v = e.f0 then (rd_L5 x e.f0) ++ [e.f1] else rd_L5 x v := fun v h => getD_set _ x e.f0 v _ a0 (by omega) h
    obtain ⟨r, hr, r1, r2⟩ := ih (i + 1) (x.set e.f0.toNat ((rd_L5 x e.f0) ++ [e.f1])) (by omega) (by omega) (by simpa using hx)
      (fun v w h3 h4 => by
        rw [hs v h3]
        by_cases ev : v = e.f0
        · subst ev
          rw [if_pos rfl, List.mem_append, h1 e.f0 w h3 h4, List.mem_singleton]
          constructor
          · rintro (⟨j, b0, b1, b2⟩ | h)
            · exact ⟨j, b0, by omega, b2⟩
            · exact ⟨i, hi, by omega, by rw [he], by rw [he, h]⟩
          · rintro ⟨j, b0, b1, b2, b3⟩
            by_cases ej : j = i
            · subst ej; rw [he] at b3; exact .inr b3.symm
            · exact .inl ⟨j, b0, by omega, b2, b3⟩
        · rw [if_neg ev, h1 v w h3 h4]
          constructor
          · rintro ⟨j, b0, b1, b2⟩; exact ⟨j, b0, by omega, b2⟩
          · rintro ⟨j, b0, b1, b2, b3⟩
            have ej : j ≠ i := fun ej => by subst ej; rw [he] at b2; exact ev b2.symm
            exact ⟨j, b0, by omega, b2, b3⟩)
      (fun v h3 h4 => by
        rw [hs v h3]
        split
        · have := h2 e.f0 a0 a1; simp; omega
        · have := h2 v h3 h4; omega)
    refine ⟨r, fun k hk => ?_, r1, r2⟩
    obtain ⟨k, rfl⟩ := fuel hk
    have := h2 e.f0 a0 a1
    rw [match_Graph_neighbours.l0, if_pos (by omega), if_pos hi, if_pos (by omega), he, if_pos a0, if_pos (by omega), if_pos (by omega), w64 (by omega) (by omega)]
    exact hr k (by omega)
theorem nbr_spec {L R : Nat} {E : List S40} (g : GOK L R E) :
    ∃ r, (∀ k, E.length < k → match_Graph_neighbours.f k L R E = some r) ∧ r.length = L ∧ (∀ v w : Int, 0 ≤ v → v < L → (w ∈ rdL r v ↔ Adj E v w)) ∧ ∀ v : Int, 0 ≤ v → v < L → (rdL r v).length ≤ 1000000 := by
  have hL := g.L1
  obtain ⟨r, hr, h⟩ := nbr_l0 g E.length 0 (List.replicate L []) (by omega) (by omega) (by simp)
    (fun v w h0 h1 => by
      unfold rd_L5
      rw [getD_rep]
      constructor
      · intro h; cases h
      · rintro ⟨j, b0, b1, _⟩; omega)
    (fun v h0 h1 => by
      unfold rd_L5
      rw [getD_rep]; simp)
  refine ⟨r, fun k hk => ?_, h⟩
  unfold match_Graph_neighbours.f
  rw [if_pos (by omega), if_pos (by omega)]
  exact hr k hk
theorem size_l0 (e : Int) (m : List Int) (hm : m.length ≤ 1000000) : ∀ (d : Nat) (i : Int), (m.length : Int) = i + d → 0 ≤ i →
    ∀ k, d < k → match_Size.l0 k e (cnt i.toNat (fun x => decide (0 ≤ rd m x)) : Nat) m m.length i = some ((msz m.length m : Int), e) := by
  intro d
  induction d with
  | zero =>
    intro i hd hi k hk
    obtain ⟨k, rfl⟩ := fuel hk
    have : i = (m.length : Int) := by omega
    subst this
    rw [match_Size.l0, if_neg (by omega)]
    rfl
  | succ d ih =>
    intro i hd hi k hk
    obtain ⟨k, rfl⟩ := fuel hk
    have ei : (i + 1).toNat = i.toNat + 1 := by omega
    have ec : ((i.toNat : Nat) : Int) = i := by omega
    have := ih (i + 1) (by omega) (by omega) k (by omega)
    rw [ei, cnt_succ, ec] at this
    have hle := cnt_le (fun x => decide (0 ≤ rd m x)) i.toNat
    rw [match_Size.l0, if_pos (by omega), if_pos hi, if_pos (by omega), w64 (x := i + 1) (by omega) (by omega)]
    by_cases h : 0 ≤ rd m i
    · rw [if_pos h, w64 (by omega) (by omega), ← this]
      simp [h]
    · rw [if_neg h, ← this]
      simp [h]
def sel : Nat → (Int → Bool) → List Int
  | 0, _ => []
  | n + 1, p => if p n = true then sel n p ++ [(n : Int)] else sel n p
theorem sel_length (p : Int → Bool) : ∀ n, (sel n p).length = cnt n p
  | 0 => rfl
  | n + 1 => by
    unfold sel cnt
    by_cases h : p n = true
    · rw [if_pos h, if_pos h]; simp [sel_length p n]
    · rw [if_neg h, if_neg h]; simp [sel_length p n]
theorem mem_sel (p : Int → Bool) (x : Int) : ∀ n : Nat, x ∈ sel n p ↔ 0 ≤ x ∧ x < n ∧ p x = true
  | 0 => by
    constructor
    · intro h; cases h
    · rintro ⟨a, b, _⟩; omega
  | n + 1 => by
    have ih := mem_sel p x n
    unfold sel
    by_cases e : x = n
    · subst e
      by_cases h : p n = true
      · rw [if_pos h]; simp [h]; omega
      · rw [if_neg h, ih]; simp [h]
    · by_cases h : p n = true
      · rw [if_pos h, List.mem_append, ih, List.mem_singleton]
        constructor
        · rintro (⟨a, b, c⟩ | h)
          · exact ⟨a, by omega, c⟩
          · exact absurd h e
        · rintro ⟨a, b, c⟩; exact .inl ⟨a, by omega, c⟩
      · rw [if_neg h, ih]
        constructor
        · rintro ⟨a, b, c⟩
          exact ⟨a, by omega, c⟩
        · rintro ⟨a, b, c⟩; exact ⟨a, by omega, c⟩
theorem chosen_spec (want : Bool) (l : List Bool) (hl : l.length ≤ 1000000) : ∀ k, l.length < k → pairing_Chosen.f k l want = some (sel l.length (fun x => rdOf false l x == want)) := by
  have key : ∀ (d : Nat) (i : Int), (l.length : Int) = i + d → 0 ≤ i → ∀ k, d < k → pairing_Chosen.l0 k want (sel i.toNat (fun x => rdOf false l x == want)) l l.length i = some (sel l.length (fun x => rdOf false l x == want)) := by
    intro d
    induction d with
    | zero =>
      intro i hd hi k hk
      obtain ⟨k, rfl⟩ := fuel hk
      have : i = (l.length : Int) := by omega
      subst this
      rw [pairing_Chosen.l0, if_neg (by omega)]
      rfl
    | succ d ih =>
      intro i hd hi k hk
      obtain ⟨k, rfl⟩ := fuel hk
      have ei : (i + 1).toNat = i.toNat + 1 := by omega
      have ec : ((i.toNat : Nat) : Int) = i := by omega
      have := ih (i + 1) (by omega) (by omega) k (by omega)
      rw [ei, sel, ec] at this
      have hle := cnt_le (fun x => rdOf false l x == want) i.toNat
      rw [pairing_Chosen.l0, if_pos (by omega), if_pos hi, if_pos (by omega), w64 (x := i + 1) (by omega) (by omega)]
      by_cases h : (rdOf false l i == want) = true
      · rw [if_pos h, if_pos (by rw [sel_length]; omega), ← this, if_pos h]
      · rw [if_neg h, ← this, if_neg h]
  exact key l.length 0 (by omega) (by omega)
theorem same_self (a : List Int) (ha : a.length ≤ 1000000) : ∀ k, a.length < k → torusref01_Same.f k a a = some true := by
  have key : ∀ (d : Nat) (i : Int), (a.length : Int) = i + d → 0 ≤ i → ∀ k, d < k → torusref01_Same.l0 k a a i = some true := by
    intro d
    induction d with
    | zero =>
      intro i hd hi k hk
      obtain ⟨k, rfl⟩ := fuel hk
      rw [torusref01_Same.l0, if_neg (by omega)]
    | succ d ih =>
      intro i hd hi k hk
      obtain ⟨k, rfl⟩ := fuel hk
      rw [torusref01_Same.l0, if_pos (by omega), if_pos hi, if_pos (by omega), if_pos rfl, w64 (by omega) (by omega)]
      exact ih (i + 1) (by omega) (by omega) k (by omega)
  intro k hk
  unfold torusref01_Same.f
  rw [if_pos rfl]
  exact key a.length 0 (by omega) (by omega) k hk
end Go.Proofs.Ytlleokhmgblfnaa.P
namespace Go.Proofs.Ytlleokhmgblfnaa.P
open Go.RowKit Go.Proofs.YtlleokhmgblfnaaW.PrintWords Go.Proofs.Ytlleokhmgblfnaa.H Go.Proofs.Ytlleokhmgblfnaa.M
abbrev tr (l : List Bool) (x : Int) : Bool := rdOf false l x
theorem tr_set (l : List Bool) (i j : Int) (y : Bool) (h0 : 0 ≤ i) (h1 : i < l.length) (hj : 0 ≤ j) : tr (l.set i.toNat y) j = if j = i then y else tr l j := getD_set _ _ _ _ _ h0 h1 hj
def Closed (next : List (List Int)) (m b : List Int) (P : Int → Prop) : Prop :=
  (∀ x : Int, 0 ≤ x → x < next.length → rd m x < 0 → P x) ∧ (∀ x : Int, 0 ≤ x → x < next.length → P x → ∀ w ∈ rdL next x, 0 ≤ rd b w → P (rd b w))
structure RInv (next : List (List Int)) (R : Nat) (m b : List Int) (v j : Int) (l r : List Bool) (q : List Int) : Prop where
  ll : l.length = next.length
  lr : r.length = R
  fr : ∀ x : Int, 0 ≤ x → x < next.length → rd m x < 0 → tr l x = true
  qr : ∀ x ∈ q, 0 ≤ x ∧ x < next.length ∧ tr l x = true
  cl : ∀ x : Int, 0 ≤ x → x < next.length → tr l x = true → x ∉ q → x ≠ v → ∀ w ∈ rdL next x, tr r w = true ∧ (0 ≤ rd b w → tr l (rd b w) = true)
  cv : 0 ≤ v → ∀ j' : Int, 0 ≤ j' → j' < j → j' < (rdL next v).length → tr r (rd (rdL next v) j') = true ∧ (0 ≤ rd b (rd (rdL next v) j') → tr l (rd b (rd (rdL next v) j')) = true)
  ri : ∀ w : Int, 0 ≤ w → w < R → tr r w = true → ∃ x : Int, 0 ≤ x ∧ x < next.length ∧ tr l x = true ∧ w ∈ rdL next x
  le : ∀ P : Int → Prop, Closed next m b P → ∀ x : Int, 0 ≤ x → x < next.length → tr l x = true → P x
def un (n : Nat) (l : List Bool) : Nat := cnt n (fun x => !tr l x)
theorem reach_l2 {next : List (List Int)} {R : Nat} (hn : next.length ≤ 1000000) (hNV : NV next R) {m b : List Int} (hg : Hole next R m b (-1)) (v : Int) (hv0 : 0 ≤ v) (hv1 : v < next.length) (hlen : (rdL next v).length ≤ 1000000000000) :
    ∀ (e : Nat) (j : Int) (l r : List Bool) (q : List Int), (rdL next v).length = j + e → 0 ≤ j → RInv next R m b v j l r q → tr l v = true → q.length + un next.length l ≤ next.length →
      ∃ l' r' q', (∀ G s, (∀ k, G ≤ k → pairing_Reach.l1 k next b l' r' q' = some s) → ∀ k, G + e < k → pairing_Reach.l2 k next b l r q (rdL next v) (rdL next v).length j = some s) ∧ RInv next R m b (-1) 0 l' r' q' ∧ q'.length + un next.length l' = q.length + un next.length l := by
  have hlb := hg.lb
  intro e
  induction e with
  | zero =>
    intro j l r q he hj hI hlv hq
    refine ⟨l, r, q, fun G s hG k hk => ?_, ⟨hI.ll, hI.lr, hI.fr, hI.qr, fun x h0 h1 h2 h3 _ w hw => ?_, fun h => by omega, hI.ri, hI.le⟩, rfl⟩
    · obtain ⟨k, rfl⟩ : ∃ k', k = k' + 1 := ⟨k - 1, by omega⟩
      rw [pairing_Reach.l2, if_neg (by omega)]
      exact hG k (by omega)
    · by_cases ex : x = v
      · subst ex
        obtain ⟨i, i0, i1, rfl⟩ := mem_rd hw
        exact hI.cv h0 i i0 (by omega) i1
      · exact hI.cl x h0 h1 h2 h3 ex w hw
  | succ e ih =>
    intro j l r q he hj hI hlv hq
    have hlr := hI.lr
    have hll := hI.ll
    obtain ⟨x, hx⟩ : ∃ x, rd (rdL next v) j = x := ⟨_, rfl⟩
    have hxm : x ∈ rdL next v := hx ▸ rd_mem hj (by omega)
    obtain ⟨hx0, hx1⟩ := hNV v hv0 hv1 x hxm
    obtain ⟨u, hu⟩ : ∃ u, rd b x = u := ⟨_, rfl⟩
    have hrs : ∀ y : Int, 0 ≤ y → tr (r.set x.toNat true) y = if y = x then true else tr r y := fun y h => tr_set r x y true hx0 (by omega) h
    have hru : ∀ y : Int, 0 ≤ y → tr r y = true → tr (r.set x.toNat true) y = true := fun y h h1 => by rw [hrs y h]; split <;> simp [*]
    have hnn : ∀ y : Int, 0 ≤ y → y < next.length → ∀ w ∈ rdL next y, 0 ≤ w := fun y h0 h1 w hw => (hNV y h0 h1 w hw).1
    have step : ∀ l1 q1, RInv next R m b v (j + 1) l1 (r.set x.toNat true) q1 → tr l1 v = true → q1.length + un next.length l1 = q.length + un next.length l →
        (∀ k s, pairing_Reach.l2 k next b l1 (r.set x.toNat true) q1 (rdL next v) (rdL next v).length (wrap64 (j + 1)) = some s → pairing_Reach.l2 (k + 1) next b l r q (rdL next v) (rdL next v).length j = some s) →
        ∃ l' r' q', (∀ G s, (∀ k, G ≤ k → pairing_Reach.l1 k next b l' r' q' = some s) → ∀ k, G + (e + 1) < k → pairing_Reach.l2 k next b l r q (rdL next v) (rdL next v).length j = some s) ∧ RInv next R m b (-1) 0 l' r' q' ∧ q'.length + un next.length l' = q.length + un next.length l := by
      intro l1 q1 hI1 hv hq1 hstep
      obtain ⟨l', r', q', h1, h2, h3⟩ := ih (j + 1) l1 (r.set x.toNat true) q1 (by omega) (by omega) hI1 hv (by omega)
      refine ⟨l', r', q', fun G s hG k hk => ?_, h2, by omega⟩
      obtain ⟨k, rfl⟩ : ∃ k', k = k' + 1 := ⟨k - 1, by omega⟩
      refine hstep k s ?_
      rw [w64 (by omega) (by omega)]
      exact h1 G s hG k (by omega)
    by_cases hu0 : 0 ≤ u
    · obtain ⟨hun, hum⟩ := hg.bb x hx0 hx1 (by omega) (by omega)
      rw [hu] at hun hum
      by_cases hlu : tr l u = true
      · refine step l q ⟨hll, by simpa using hlr, hI.fr, hI.qr, fun y h0 h1 h2 h3 h4 w hw => ?_, fun _ j' h0 h1 h2 => ?_, fun w h0 h1 h2 => ?_, hI.le⟩ hlv rfl (fun k s hk => ?_)
        · obtain ⟨c1, c2⟩ := hI.cl y h0 h1 h2 h3 h4 w hw
          exact ⟨hru w (hnn y h0 h1 w hw) c1, c2⟩
        · by_cases ej : j' = j
          · subst ej
            rw [hx, hu]
            exact ⟨by rw [hrs x hx0, if_pos rfl], fun _ => hlu⟩
          · obtain ⟨c1, c2⟩ := hI.cv hv0 j' h0 (by omega) h2
            exact ⟨hru _ (hnn v hv0 hv1 _ (rd_mem h0 h2)) c1, c2⟩
        · by_cases ew : w = x
          · subst ew; exact ⟨v, hv0, hv1, hlv, hxm⟩
          · rw [hrs w h0, if_neg ew] at h2; exact hI.ri w h0 h1 h2
        · rw [pairing_Reach.l2, if_pos (by omega), if_pos hj, if_pos (by omega), hx, if_pos hx0, if_pos (by omega)]
          simp only [Option.bind_some]
          rw [if_pos (by omega), hu, if_pos hu0, if_pos hu0, if_pos (by omega), if_pos hlu]
          exact hk
      · have hls : ∀ y : Int, 0 ≤ y → tr (l.set u.toNat true) y = if y = u then true else tr l y := fun y h => tr_set l u y true hu0 (by omega) h
        have hlup : ∀ y : Int, 0 ≤ y → tr l y = true → tr (l.set u.toNat true) y = true := fun y h h1 => by rw [hls y h]; split <;> simp [*]
        have huv : u ≠ v := fun e => hlu (e ▸ hlv)
        have hlu' : tr l u = false := by simpa using hlu
        have hun2 : un next.length l = un next.length (l.set u.toNat true) + 1 := by
          unfold un
          rw [cnt_out (fun x => !tr l x) u next.length hu0 hun (by simp [hlu'])]
          congr 1
          refine cnt_congr _ (fun y h0 h1 => ?_)
          rw [hls y h0]
          by_cases ey : y = u
          · subst ey; simp
          · rw [if_neg ey]; simp [ey]
        have hql : q.length < next.length := by omega
        refine step (l.set u.toNat true) (q ++ [u]) ⟨by simpa using hll, by simpa using hlr, fun y h0 h1 h2 => hlup y h0 (hI.fr y h0 h1 h2), fun y hy => ?_, fun y h0 h1 h2 h3 h4 w hw => ?_, fun _ j' h0 h1 h2 => ?_, fun w h0 h1 h2 => ?_, fun P hP y h0 h1 h2 => ?_⟩ (hlup v hv0 hlv) (by simp; omega) (fun k s hk => ?_)
        · rcases List.mem_append.1 hy with hy | hy
          · obtain ⟨a1, a2, a3⟩ := hI.qr y hy; exact ⟨a1, a2, hlup y a1 a3⟩
          · rw [List.mem_singleton.1 hy]; exact ⟨hu0, hun, by rw [hls u hu0, if_pos rfl]⟩
        · have ey : y ≠ u := fun e => h3 (by rw [e]; simp)
          rw [hls y h0, if_neg ey] at h2
          obtain ⟨c1, c2⟩ := hI.cl y h0 h1 h2 (fun h => h3 (List.mem_append_left _ h)) h4 w hw
          exact ⟨hru w (hnn y h0 h1 w hw) c1, fun h => hlup _ h (c2 h)⟩
        · by_cases ej : j' = j
          · subst ej
            rw [hx, hu]
            exact ⟨by rw [hrs x hx0, if_pos rfl], fun _ => by rw [hls u hu0, if_pos rfl]⟩
          · obtain ⟨c1, c2⟩ := hI.cv hv0 j' h0 (by omega) h2
            exact ⟨hru _ (hnn v hv0 hv1 _ (rd_mem h0 h2)) c1, fun h => hlup _ h (c2 h)⟩
        · by_cases ew : w = x
          · subst ew; exact ⟨v, hv0, hv1, hlup v hv0 hlv, hxm⟩
          · rw [hrs w h0, if_neg ew] at h2
            obtain ⟨y, y0, y1, y2, y3⟩ := hI.ri w h0 h1 h2
            exact ⟨y, y0, y1, hlup y y0 y2, y3⟩
        · by_cases ey : y = u
          · subst ey
            have := hP.2 v hv0 hv1 (hI.le P hP v hv0 hv1 hlv) x hxm (by omega)
            rwa [hu] at this
          · rw [hls y h0, if_neg ey] at h2; exact hI.le P hP y h0 h1 h2
        · rw [pairing_Reach.l2, if_pos (by omega), if_pos hj, if_pos (by omega), hx, if_pos hx0, if_pos (by omega)]
          simp only [Option.bind_some]
          rw [if_pos (by omega), hu, if_pos hu0, if_pos hu0, if_pos (by omega), if_neg hlu, if_pos (by omega)]
          exact hk
    · refine step l q ⟨hll, by simpa using hlr, hI.fr, hI.qr, fun y h0 h1 h2 h3 h4 w hw => ?_, fun _ j' h0 h1 h2 => ?_, fun w h0 h1 h2 => ?_, hI.le⟩ hlv rfl (fun k s hk => ?_)
      · obtain ⟨c1, c2⟩ := hI.cl y h0 h1 h2 h3 h4 w hw
        exact ⟨hru w (hnn y h0 h1 w hw) c1, c2⟩
      · by_cases ej : j' = j
        · subst ej
          rw [hx, hu]
          exact ⟨by rw [hrs x hx0, if_pos rfl], fun h => absurd h hu0⟩
        · obtain ⟨c1, c2⟩ := hI.cv hv0 j' h0 (by omega) h2
          exact ⟨hru _ (hnn v hv0 hv1 _ (rd_mem h0 h2)) c1, c2⟩
      · by_cases ew : w = x
        · subst ew; exact ⟨v, hv0, hv1, hlv, hxm⟩
        · rw [hrs w h0, if_neg ew] at h2; exact hI.ri w h0 h1 h2
      · rw [pairing_Reach.l2, if_pos (by omega), if_pos hj, if_pos (by omega), hx, if_pos hx0, if_pos (by omega)]
        simp only [Option.bind_some]
        rw [if_pos (by omega), hu, if_neg hu0]
        exact hk
theorem reach_l1 {next : List (List Int)} {R : Nat} (hn : next.length ≤ 1000000) (hNV : NV next R) (hlen : ∀ v : Int, 0 ≤ v → v < next.length → (rdL next v).length ≤ 1000000000000) {m b : List Int} (hg : Hole next R m b (-1)) :
    ∀ (d : Nat) (l r : List Bool) (q : List Int), q.length + un next.length l ≤ d → d ≤ next.length → RInv next R m b (-1) 0 l r q →
      ∃ K l' r', (∀ k, K ≤ k → pairing_Reach.l1 k next b l r q = some (l', r')) ∧ RInv next R m b (-1) 0 l' r' [] := by
  intro d
  induction d with
  | zero =>
    intro l r q hd hdn hI
    have : q = [] := List.length_eq_zero_iff.1 (by omega)
    subst this
    refine ⟨1, l, r, fun k hk => ?_, hI⟩
    obtain ⟨k, rfl⟩ : ∃ k', k = k' + 1 := ⟨k - 1, by omega⟩
    rfl
  | succ d ih =>
    intro l r q hd hdn hI
    cases q with
    | nil =>
      refine ⟨1, l, r, fun k hk => ?_, hI⟩
      obtain ⟨k, rfl⟩ : ∃ k', k = k' + 1 := ⟨k - 1, by omega⟩
      rfl
    | cons v q =>
      obtain ⟨hv0, hv1, hlv⟩ := hI.qr v (by simp)
      simp only [List.length_cons] at hd
      obtain ⟨l1, r1, q1, h1, hI1, he⟩ := reach_l2 hn hNV hg v hv0 hv1 (hlen v hv0 hv1) (rdL next v).length 0 l r q (by omega) (by omega)
        ⟨hI.ll, hI.lr, hI.fr, fun x hx => hI.qr x (by simp [hx]), fun x h0 h1 h2 h3 h4 w hw => hI.cl x h0 h1 h2 (by simp [h3, h4]) (by omega) w hw, fun _ j' h0 h1 => by omega, hI.ri, hI.le⟩ hlv (by omega)
      obtain ⟨K, l2, r2, hK, hI2⟩ := ih l1 r1 q1 (by omega) (by omega) hI1
      refine ⟨K + (rdL next v).length + 2, l2, r2, fun k hk => ?_, hI2⟩
      obtain ⟨k, rfl⟩ : ∃ k', k = k' + 1 := ⟨k - 1, by omega⟩
      have := h1 K _ hK k (by omega)
      have er : rd (v :: q) 0 = v := rfl
      rw [pairing_Reach.l1, if_pos (by simp), if_pos (by simp), if_pos (by simp; omega), er, if_pos hv0, if_pos hv1]
      exact this
structure RS (next : List (List Int)) (R : Nat) (m b : List Int) (l r : List Bool) : Prop where
  ll : l.length = next.length
  lr : r.length = R
  fr : ∀ x : Int, 0 ≤ x → x < next.length → rd m x < 0 → tr l x = true
  cl : ∀ x : Int, 0 ≤ x → x < next.length → tr l x = true → ∀ w ∈ rdL next x, tr r w = true ∧ (0 ≤ rd b w → tr l (rd b w) = true)
  ri : ∀ w : Int, 0 ≤ w → w < R → tr r w = true → ∃ x : Int, 0 ≤ x ∧ x < next.length ∧ tr l x = true ∧ w ∈ rdL next x
  le : ∀ P : Int → Prop, Closed next m b P → ∀ x : Int, 0 ≤ x → x < next.length → tr l x = true → P x
theorem reach_l0 {next : List (List Int)} {R : Nat} (hn : next.length ≤ 1000000) (hNV : NV next R) (hlen : ∀ v : Int, 0 ≤ v → v < next.length → (rdL next v).length ≤ 1000000000000) {m b : List Int} (hg : Hole next R m b (-1)) (r : List Bool) (hr : r.length = R) (hr0 : ∀ x, tr r x = false) :
    ∀ (d : Nat) (i : Int) (l : List Bool) (q : List Int), (next.length : Int) = i + d → 0 ≤ i → l.length = next.length →
      (∀ x : Int, 0 ≤ x → x < next.length → tr l x = (decide (x < i) && decide (rd m x < 0))) → (∀ x ∈ q, 0 ≤ x ∧ x < i ∧ rd m x < 0) → (∀ x : Int, 0 ≤ x → x < i → rd m x < 0 → x ∈ q) → q.length + un next.length l = next.length →
      ∃ K l' r', (∀ k, K ≤ k → pairing_Reach.l0 k next m b l r q next.length i = some (l', r')) ∧ RS next R m b l' r' := by
  have hlm := hg.lm
  intro d
  induction d with
  | zero =>
    intro i l q hd hi hl h1 h2 h3 h4
    have e : i = next.length := by omega
    subst e
    obtain ⟨K, l', r', hK, hI⟩ := reach_l1 hn hNV hlen hg next.length l r q (by omega) (Nat.le_refl _)
      ⟨hl, hr, fun x a c d => by rw [h1 x a c]; simp [c, d], fun x hx => by obtain ⟨a, c, d⟩ := h2 x hx; exact ⟨a, c, by rw [h1 x a c]; simp [c, d]⟩, fun x a c d e => by
        rw [h1 x a c] at d; simp at d; exact absurd (h3 x a c d.2) e, fun h => by omega, fun w _ _ h => by rw [hr0] at h; (cases h), fun P hP x a c d => by
        rw [h1 x a c] at d; simp at d; exact hP.1 x a c d.2⟩
    refine ⟨K + 1, l', r', fun k hk => ?_, ⟨hI.ll, hI.lr, hI.fr, fun x a c d => hI.cl x a c d (by simp) (by omega), hI.ri, hI.le⟩⟩
    obtain ⟨k, rfl⟩ : ∃ k', k = k' + 1 := ⟨k - 1, by omega⟩
    rw [pairing_Reach.l0, if_neg (by omega)]
    exact hK k (by omega)
  | succ d ih =>
    intro i l q hd hi hl h1 h2 h3 h4
    by_cases hneg : rd m i < 0
    · have hls : ∀ y : Int, 0 ≤ y → tr (l.set i.toNat true) y = if y = i then true else tr l y := fun y h => tr_set l i y true hi (by omega) h
      have hli : tr l i = false := by rw [h1 i hi (by omega)]; simp
      have hun2 : un next.length l = un next.length (l.set i.toNat true) + 1 := by
        unfold un
        rw [cnt_out (fun x => !tr l x) i next.length hi (by omega) (by simp [hli])]
        congr 1
        refine cnt_congr _ (fun y h0 h1 => ?_)
        rw [hls y h0]
        by_cases ey : y = i
        · subst ey; simp
        · rw [if_neg ey]; simp [ey]
      obtain ⟨K, l', r', hK, hS⟩ := ih (i + 1) (l.set i.toNat true) (q ++ [i]) (by omega) (by omega) (by simpa using hl)
        (fun x a c => by
          rw [hls x a]
          by_cases ex : x = i
          · subst ex; simp [hneg]; omega
          · rw [if_neg ex, h1 x a c]
            have : (x < i + 1) = (x < i) := by apply propext; omega
            simp [this])
        (fun x hx => by
          rcases List.mem_append.1 hx with hx | hx
          · have := h2 x hx; exact ⟨this.1, by omega, this.2.2⟩
          · rw [List.mem_singleton.1 hx]; exact ⟨hi, by omega, hneg⟩)
        (fun x a c d => by
          by_cases ex : x = i
          · subst ex; simp
          · exact List.mem_append_left _ (h3 x a (by omega) d))
        (by simp; omega)
      refine ⟨K + 1, l', r', fun k hk => ?_, hS⟩
      obtain ⟨k, rfl⟩ : ∃ k', k = k' + 1 := ⟨k - 1, by omega⟩
      rw [pairing_Reach.l0, if_pos (by omega), if_pos hi, if_pos (by omega), if_pos hneg, if_pos (by omega), if_pos (by omega), w64 (by omega) (by omega)]
      exact hK k (by omega)
    · obtain ⟨K, l', r', hK, hS⟩ := ih (i + 1) l q (by omega) (by omega) hl
        (fun x a c => by
          rw [h1 x a c]
          by_cases ex : x = i
          · subst ex; simp [hneg]
          · have : (x < i + 1) = (x < i) := by apply propext; omega
            simp [this])
        (fun x hx => by have := h2 x hx; exact ⟨this.1, by omega, this.2.2⟩)
        (fun x a c d => by
          by_cases ex : x = i
          · subst ex; exact absurd d hneg
          · exact h3 x a (by omega) d) h4
      refine ⟨K + 1, l', r', fun k hk => ?_, hS⟩
      obtain ⟨k, rfl⟩ : ∃ k', k = k' + 1 := ⟨k - 1, by omega⟩
      rw [pairing_Reach.l0, if_pos (by omega), if_pos hi, if_pos (by omega), if_neg hneg, w64 (by omega) (by omega)]
      exact hK k (by omega)
theorem tr_rep (n : Nat) (x : Int) : tr (List.replicate n false) x = false := getD_rep _ _ _
theorem reach_spec {next : List (List Int)} {R : Nat} (hn : next.length ≤ 1000000) (hR : R ≤ 1000000) (hNV : NV next R) (hlen : ∀ v : Int, 0 ≤ v → v < next.length → (rdL next v).length ≤ 1000000000000) {m b : List Int} (hg : Hole next R m b (-1)) :
    ∃ K l r, (∀ k, K ≤ k → pairing_Reach.f k next m b = some (l, r)) ∧ RS next R m b l r := by
  obtain ⟨K, l, r, hK, hS⟩ := reach_l0 hn hNV hlen hg (List.replicate R false) (by simp) (fun x => tr_rep _ _) next.length 0 (List.replicate next.length false) [] (by omega) (by omega) (by simp)
    (fun x a c => by rw [tr_rep]; have : ¬ x < 0 := by omega
                     simp [this]) (fun x hx => by cases hx) (fun x a c => by omega) (by unfold un; rw [cnt_all _ (fun i _ _ => by rw [tr_rep]; rfl)]; simp)
  refine ⟨K, l, r, fun k hk => ?_, hS⟩
  have hlb := hg.lb
  unfold pairing_Reach.f
  rw [if_pos (by omega), if_pos (by omega), if_pos (by omega), if_pos (by omega), hlb]
  exact hK k hk
end Go.Proofs.Ytlleokhmgblfnaa.P
end

section
namespace Go.Proofs.Ytlleokhmgblfnaa.P
open Go.RowKit Go.Proofs.YtlleokhmgblfnaaW.PrintWords Go.Proofs.Ytlleokhmgblfnaa.H Go.Proofs.Ytlleokhmgblfnaa.M
theorem rd_T40_mem {E : List S40} {j : Int} (h0 : 0 ≤ j) (h1 : j < E.length) : rd_T40 E j ∈ E := by
 unfold rd_T40
 rw [List.getD_eq_getElem?_getD, List.getElem?_eq_getElem (by omega)]
 exact List.getElem_mem _
theorem mem_rd_T40 {E : List S40} {x : S40} (h : x ∈ E) : ∃ i : Int, 0 ≤ i ∧ i < E.length ∧ rd_T40 E i = x := by
 obtain ⟨i, hi, e⟩ := List.getElem_of_mem h
 exact ⟨i, by omega, by omega, by simp [rd_T40, hi, e]⟩
theorem chkGo_rng (L R : Int) : ∀ (E : List (Int × Int)) (p : Option (Int × Int)), chkGo L R p E = 0 → ∀ x ∈ E, 0 ≤ x.1 ∧ x.1 < L ∧ 0 ≤ x.2 ∧ x.2 < R
 | [], _, _, x, hx => by cases hx
 | y :: E, p, h, x, hx => by
  unfold chkGo at h
  split at h
  ·omega
  ·have ih := chkGo_rng L R E (some y)
   have h2 : chkGo L R (some y) E = 0 := by
    cases p with
    | none => exact h
    | some q =>
     simp only at h
     split at h
     ·omega
     ·split at h
      ·omega
      ·exact h
   rcases List.mem_cons.1 hx with e | hx
   ·subst e; omega
   ·exact ih h2 x hx
theorem chk_gok {L R : Int} {E : List S40} (h : chk L R (E.map prE) = 0) : ∃ Ln Rn : Nat, L = Ln ∧ R = Rn ∧ GOK Ln Rn E := by
 unfold chk at h
 split at h
 ·omega
 ·split at h
  ·omega
  ·refine ⟨L.toNat, R.toNat, by omega, by omega, by omega, by omega, by simp at *; omega, fun j h0 h1 => ?_⟩
   have := chkGo_rng L R _ none h (prE (rd_T40 E j)) (List.mem_map_of_mem (rd_T40_mem h0 h1))
   simp only [prE] at this
   omega
def lexB (y x : Int × Int) : Prop := y.1 < x.1 ∨ (y.1 = x.1 ∧ y.2 < x.2)
structure Core (L R : Nat) (A : Int → Int → Prop) (next : List (List Int)) (m b : List Int) (l r : List Bool) : Prop where
 nl : next.length = L
 adj : ∀ v w : Int, 0 ≤ v → v < L → (w ∈ rdL next v ↔ A v w)
 nv : NV next R
 hole : Hole next R m b (-1)
 lin : ∃ lv, LInv next m b (-1) 0 false lv []
 rs : RS next R m b l r
theorem coreA {L R : Nat} {A : Int → Int → Prop} {next : List (List Int)} (hL : L ≤ 1024) (hR : R ≤ 1024) (nl : next.length = L) (adj : ∀ v w : Int, 0 ≤ v → v < L → (w ∈ rdL next v ↔ A v w)) (nv : NV next R) (hlen : ∀ v : Int, 0 ≤ v → v < L → (rdL next v).length ≤ 1000000000000) :
  ∃ m b l r K, Core L R A next m b l r ∧ (∀ k, K ≤ k → pairing_Greatest.f k next R = some (m, b)) ∧ (∀ k, K ≤ k → pairing_Reach.f k next m b = some (l, r)) := by
 obtain ⟨K1, m, b, h2, hole, lin⟩ := greatF_spec (by omega) (by omega) nv
 obtain ⟨K2, l, r, h3, rs⟩ := reach_spec (by omega) (by omega) nv (fun v h0 h1 => hlen v h0 (by omega)) hole
 refine ⟨m, b, l, r, max K1 K2, ⟨nl, adj, nv, hole, lin, rs⟩, fun k hk => ?_, fun k hk => h3 k (by omega)⟩
 exact at_rounds (fun k => pairing_Greatest.mono next R k) (show K1 ≤ k by omega) h2
theorem core {L R : Nat} {E : List S40} (g : GOK L R E) : ∃ next m b l r K, Core L R (Adj E) next m b l r ∧ (∀ k, K ≤ k → match_Graph_neighbours.f k L R E = some next) ∧
  (∀ k, K ≤ k → pairing_Greatest.f k next R = some (m, b)) ∧ (∀ k, K ≤ k → pairing_Reach.f k next m b = some (l, r)) := by
 have hL := g.L1
 have hR := g.R1
 obtain ⟨next, h1, nl, adj, hlen⟩ := nbr_spec g
 have nv : NV next R := fun v h0 h1 w hw => by
  rw [nl] at h1
  obtain ⟨j, j0, j1, j2, j3⟩ := (adj v w h0 h1).1 hw
  have := g.rng j j0 j1
  omega
 obtain ⟨m, b, l, r, K, c, h2, h3⟩ := coreA hL hR nl adj nv (fun v h0 h1 => by have := hlen v h0 h1; omega)
 exact ⟨next, m, b, l, r, max (E.length + 1) K, c, fun k hk => h1 k (by omega), fun k hk => h2 k (by omega), fun k hk => h3 k (by omega)⟩
theorem Core.around {L R : Nat} {A : Int → Int → Prop} {next : List (List Int)} {m b : List Int} {l r : List Bool} (c : Core L R A next m b l r) :
  ∀ w : Int, 0 ≤ w → w < R → tr r w = true → 0 ≤ rd b w ∧ rd b w < L ∧ tr l (rd b w) = true ∧ rd m (rd b w) = w := by
 intro w h0 h1 hw
 obtain ⟨lv, hlv⟩ := c.lin
 have hcl : Closed next m b (fun x => 0 ≤ rd lv x) := by
  refine ⟨fun x a d e => by have := (hlv.fr x a d).1 e; omega, fun x a d e w hw hb => ?_⟩
  exact (hlv.cl x a d e (by simp) (by omega) w hw).2 hb
 obtain ⟨x, x0, x1, x2, x3⟩ := c.rs.ri w h0 h1 hw
 have hx := c.rs.le _ hcl x x0 x1 x2
 have hb : 0 ≤ rd b w := by
  by_cases h : rd b w < 0
  ·have := (hlv.cl x x0 x1 hx (by simp) (by omega) w x3).1 h
   cases this
  ·omega
 obtain ⟨b1, b2⟩ := c.hole.bb w h0 h1 (by omega) hb
 have := c.nl
 exact ⟨hb, by omega, (c.rs.cl x x0 x1 x2 w x3).2 hb, b2⟩
theorem Core.count {L R : Nat} {A : Int → Int → Prop} {next : List (List Int)} {m b : List Int} {l r : List Bool} (c : Core L R A next m b l r) :
  cnt L (tr l) + msz L m = L + cnt R (tr r) := by
 have nl := c.nl
 have e1 : cnt R (tr r) = cnt L (fun x => tr l x && decide (0 ≤ rd m x)) := by
  refine Nat.le_antisymm (cnt_inj (rd b) L R _ (fun w h0 h1 hw => ?_) (fun w w' h0 h1 h2 h3 hw hw' e => ?_)) (cnt_inj (rd m) R L _ (fun x h0 h1 hx => ?_) (fun x x' h0 h1 h2 h3 hx hx' e => ?_))
  ·obtain ⟨a1, a2, a3, a4⟩ := c.around w h0 h1 hw
   exact ⟨a1, a2, by simp [a3, a4, h0]⟩
  ·obtain ⟨a1, a2, a3, a4⟩ := c.around w h0 h1 hw
   obtain ⟨b1, b2, b3, b4⟩ := c.around w' h2 h3 hw'
   rw [← a4, ← b4, e]
  ·simp at hx
   obtain ⟨a1, a2, a3, a4⟩ := c.hole.mm x h0 (by omega) hx.2
   exact ⟨hx.2, a1, (c.rs.cl x h0 (by omega) hx.1 _ a2).1⟩
  ·simp at hx hx'
   have a := (c.hole.mm x h0 (by omega) hx.2).2.2.1
   have b := (c.hole.mm x' h2 (by omega) hx'.2).2.2.1
   rw [← a, ← b, e]
 have e2 : cnt L (fun x => tr l x && !decide (0 ≤ rd m x)) = cnt L (fun x => !decide (0 ≤ rd m x)) := by
  refine cnt_congr _ (fun x h0 h1 => ?_)
  by_cases h : 0 ≤ rd m x
  ·simp [h]
  ·have : tr l x = true := c.rs.fr x h0 (by omega) (by omega)
   simp [this]
 have e3 := cnt_split (tr l) (fun x => decide (0 ≤ rd m x)) L
 have e4 := cnt_not (fun x => decide (0 ≤ rd m x)) L
 unfold msz
 omega
theorem Core.isM {L R : Nat} {A : Int → Int → Prop} {next : List (List Int)} {m b : List Int} {l r : List Bool} (c : Core L R A next m b l r) : IsM L R A (rd m) := by
 have nl := c.nl
 refine ⟨fun v h0 h1 h2 => (c.hole.mm v h0 (by omega) h2).1, fun v h0 h1 h2 => (c.adj v _ h0 h1).1 (c.hole.mm v h0 (by omega) h2).2.1, fun v v' h0 h1 h2 h3 h4 e => ?_⟩
 have a := (c.hole.mm v h0 (by omega) h4).2.2.1
 have b := (c.hole.mm v' h2 (by omega) (e ▸ h4)).2.2.1
 rw [← a, ← b, e]
theorem Core.isMax {L R : Nat} {A : Int → Int → Prop} {next : List (List Int)} {m b : List Int} {l r : List Bool} (c : Core L R A next m b l r) : IsMax L R A (msz L m) := by
 have nl := c.nl
 refine ⟨⟨rd m, c.isM, rfl⟩, fun M hM => ?_⟩
 have := cover_bound hM (fun x => !tr l x) (tr r) (fun v w h0 h1 h2 h3 h => by
  cases h4 : tr l v with
  | false => exact .inl rfl
  | true => exact .inr (c.rs.cl v h0 (by omega) h4 w ((c.adj v w h0 h1).2 h)).1)
 have e := c.count
 have e2 := cnt_not (tr l) L
 omega
theorem given_spec (L R : Int) {E : List S40} (h : E.length ≤ 65536) : toruslaw30_given.f L R E = some (L, R, E) := by
 unfold toruslaw30_given.f
 simp only [Option.bind_some]
 rw [if_pos (by simp; omega)]
 rfl
structure Done (L R : Nat) (E : List S40) (m : List Int) (l r : List Bool) (K : Nat) : Prop where
 max : ∀ k, K ≤ k → match_Maximum.f k L R E = some (m, 0)
 size : ∀ k, K ≤ k → match_Size.f k L R E = some ((msz L m : Int), 0)
 size' : ∀ k, K ≤ k → toruslaw30_size.f k L R E = some (msz L m : Int)
 hall : ∀ k, K ≤ k → match_Hall.f k L R E = some (if cnt L (tr l) = 0 then ([], [], 4) else (sel L (tr l), sel R (tr r), 0))
 cover : ∀ k, K ≤ k → match_Cover.f k L R E = some (sel L (fun x => !tr l x), sel R (tr r), 0)
theorem bool_beq_true (b : Bool) : (b == true) = b := by cases b <;> rfl
theorem bool_beq_false (b : Bool) : (b == false) = !b := by cases b <;> rfl
theorem done {L R : Nat} {E : List S40} (hk : chk L R (E.map prE) = 0) (g : GOK L R E) : ∃ next m b l r K, Core L R (Adj E) next m b l r ∧ Done L R E m l r K := by
 obtain ⟨next, m, b, l, r, K, c, h1, h2, h3⟩ := core g
 have hL := g.L1
 have hR := g.R1
 have nl := c.nl
 have lm := c.hole.lm
 have lb := c.hole.lb
 have ll := c.rs.ll
 have lr := c.rs.lr
 have hc : match_Check.f L R E = some 0 := by unfold match_Check.f; rw [hk]
 have hmx : ∀ k, K ≤ k → match_Maximum.f k L R E = some (m, 0) := fun k hk => by
  unfold match_Maximum.f
  rw [hc]
  simp only [Option.bind_some, if_true]
  rw [h1 k hk]
  simp only [Option.bind_some]
  rw [h2 k hk]
  rfl
 have hsz : ∀ k, K + L + 1 ≤ k → match_Size.f k L R E = some ((msz L m : Int), 0) := fun k hk => by
  unfold match_Size.f
  rw [hmx k (by omega)]
  simp only [Option.bind_some]
  have := size_l0 0 m (by omega) m.length 0 (by omega) (by omega) k (by omega)
  rw [show m.length = L by omega] at this ⊢
  exact this
 refine ⟨next, m, b, l, r, K + L + R + 1, c, fun k hk => hmx k (by omega), fun k hk => hsz k (by omega), fun k hk => ?_, fun k hk => ?_, fun k hk => ?_⟩
 ·unfold toruslaw30_size.f
  rw [given_spec _ _ g.len]
  simp only [Option.bind_some]
  rw [hsz k (by omega)]
  rfl
 ·unfold match_Hall.f
  rw [hc]
  simp only [Option.bind_some, if_true]
  rw [h1 k (by omega)]
  simp only [Option.bind_some]
  unfold match_reach.f
  rw [h2 k (by omega)]
  simp only [Option.bind_some]
  rw [h3 k (by omega)]
  simp only [Option.bind_some]
  rw [chosen_spec true l (by omega) k (by omega), chosen_spec true r (by omega) k (by omega), show l.length = L by omega, lr]
  simp only [Option.bind_some, bool_beq_true]
  have eq : cnt L (fun x => rdOf false l x) = cnt L (tr l) := rfl
  by_cases h : cnt L (tr l) = 0
  ·rw [if_pos h, if_pos (by rw [sel_length, eq]; omega)]
  ·rw [if_neg h, if_neg (by rw [sel_length, eq]; omega)]
 ·unfold match_Cover.f
  rw [hc]
  simp only [Option.bind_some, if_true]
  rw [h1 k (by omega)]
  simp only [Option.bind_some]
  unfold match_reach.f
  rw [h2 k (by omega)]
  simp only [Option.bind_some]
  rw [h3 k (by omega)]
  simp only [Option.bind_some]
  rw [chosen_spec false l (by omega) k (by omega), chosen_spec true r (by omega) k (by omega), show l.length = L by omega, lr]
  simp only [Option.bind_some, bool_beq_true, bool_beq_false]
end Go.Proofs.Ytlleokhmgblfnaa.P
namespace Go.Proofs.Ytlleokhmgblfnaa.P
open Go.RowKit Go.Proofs.YtlleokhmgblfnaaW.PrintWords Go.Proofs.Ytlleokhmgblfnaa.H Go.Proofs.Ytlleokhmgblfnaa.M
theorem chkGo_mk (L R : Int) : ∀ (E : List (Int × Int)) (p : Option (Int × Int)), (∀ x ∈ E, 0 ≤ x.1 ∧ x.1 < L ∧ 0 ≤ x.2 ∧ x.2 < R) → E.Pairwise lexB → (∀ q, p = some q → ∀ y ∈ E, lexB q y) → chkGo L R p E = 0
 | [], p, _, _, _ => by unfold chkGo; rfl
 | x :: E, p, hr, hs, hp => by
  have hx := hr x (by simp)
  rw [List.pairwise_cons] at hs
  have ih := chkGo_mk L R E (some x) (fun y hy => hr y (by simp [hy])) hs.2 (fun q hq y hy => by cases hq; exact hs.1 y hy)
  unfold chkGo
  rw [if_neg (by omega)]
  cases p with
  | none => exact ih
  | some q =>
   have := hp q rfl x (by simp)
   unfold lexB at this
   show (if q = x then _ else _) = _
   rw [if_neg (by intro e; subst e; omega), if_neg (by omega)]
   exact ih
theorem adj_mem {E : List S40} {v w : Int} : Adj E v w ↔ (⟨v, w⟩ : S40) ∈ E := by
 constructor
 ·rintro ⟨j, j0, j1, rfl, rfl⟩; exact rd_T40_mem j0 j1
 ·intro h
  obtain ⟨j, j0, j1, e⟩ := mem_rd_T40 h
  exact ⟨j, j0, j1, by rw [e], by rw [e]⟩
theorem rd_mid (pre suf : List S40) (y : S40) : rd_T40 (pre ++ y :: suf) pre.length = y := by
 unfold rd_T40
 simp
structure EOK (L R : Nat) (E : List S40) : Prop where
 rng : ∀ e ∈ E, 0 ≤ e.f0 ∧ e.f0 < L ∧ 0 ≤ e.f1 ∧ e.f1 < R
 srt : E.Pairwise (fun a b => lexB (prE a) (prE b))
theorem chk_of_eok {L R : Nat} {E : List S40} (hL : L ≤ 1024) (hR : R ≤ 1024) (hl : E.length ≤ 65536) (h : EOK L R E) : chk L R (E.map prE) = 0 := by
 unfold chk
 rw [if_neg (by omega), if_neg (by simp; omega)]
 refine chkGo_mk L R _ none (fun x hx => ?_) ?_ (fun q hq => by cases hq)
 ·obtain ⟨e, he, rfl⟩ := List.mem_map.1 hx
  exact h.rng e he
 ·rw [List.pairwise_map]; exact h.srt
end Go.Proofs.Ytlleokhmgblfnaa.P
end

section
namespace Go.Proofs.Ytlleokhmgblfnaa.P
open Go.RowKit Go.Proofs.YtlleokhmgblfnaaW.PrintWords Go.Proofs.Ytlleokhmgblfnaa.H Go.Proofs.Ytlleokhmgblfnaa.M
def fX (E : List S40) (j : Int) : Int := (rd_T40 E j).f0
def fY (E : List S40) (j : Int) : Int := (rd_T40 E j).f1
def at0 (E : List S40) (v : Int) : Int → Bool := fun j => decide (fX E j = v)
def at1 (E : List S40) (v : Int) : Int → Bool := fun j => decide (fY E j = v)
theorem rdE_map (E : List S40) {j : Int} (j0 : 0 ≤ j) (j1 : j < E.length) : rdE (E.map prE) j = (fX E j, fY E j) := by
 unfold rdE fX fY rd_T40
 rw [List.getD_eq_getElem?_getD, List.getD_eq_getElem?_getD, List.getElem?_map, List.getElem?_eq_getElem (by omega)]
 rfl
structure Coloured (L R : Nat) (E : List S40) (M : Int) (O : Int → Int) : Prop where
 m0 : 0 ≤ M
 rng : ∀ j : Int, 0 ≤ j → j < E.length → 0 ≤ O j ∧ O j < M
 apart : ∀ j k : Int, 0 ≤ j → j < E.length → 0 ≤ k → k < E.length → j ≠ k → (fX E j = fX E k ∨ fY E j = fY E k) → O j ≠ O k
 some_ : M = 0 ∨ (∃ v : Int, 0 ≤ v ∧ v < L ∧ M ≤ cnt E.length (at0 E v)) ∨ (∃ v : Int, 0 ≤ v ∧ v < R ∧ M ≤ cnt E.length (at1 E v))
 le0 : ∀ v : Int, 0 ≤ v → v < L → (cnt E.length (at0 E v) : Int) ≤ M
 le1 : ∀ v : Int, 0 ≤ v → v < R → (cnt E.length (at1 E v) : Int) ≤ M
theorem colours_spec {L R : Nat} {E : List S40} (hk : chk L R (E.map prE) = 0) (g : GOK L R E) :
  ∃ (M : Int) (O : Int → Int), match_Colours.f L R E = some ((List.range E.length).map (fun i : Nat => O (i : Int)), 0) ∧ Coloured L R E M O := by
 have gl := g.len
 have hX : ∀ j : Int, 0 ≤ j → j < E.length → eX (E.map prE) j = fX E j := fun j j0 j1 => by unfold eX; rw [rdE_map E j0 j1]
 have hY : ∀ j : Int, 0 ≤ j → j < E.length → eY L (E.map prE) j = L + fY E j := fun j j0 j1 => by unfold eY; rw [rdE_map E j0 j1]
 have hr : ∀ j : Int, 0 ≤ j → j < E.length → 0 ≤ fX E j ∧ fX E j < L ∧ 0 ≤ fY E j ∧ fY E j < R := fun j j0 j1 => by
  have := g.rng j j0 j1
  exact this
 have hlen : (E.map prE).length = E.length := by simp
 obtain ⟨M, hM⟩ : ∃ M, degF L (E.map prE) (fun _ => 0) 0 = M := ⟨_, rfl⟩
 have gr : Gr ((L : Int) + R) M (E.map prE).length L (eX (E.map prE)) (eY L (E.map prE)) := by
  rw [hlen]
  exact ⟨fun j j0 j1 => by rw [hX j j0 j1]; exact (hr j j0 j1).1, fun j j0 j1 => by rw [hX j j0 j1]; exact (hr j j0 j1).2.1, fun j j0 j1 => by rw [hY j j0 j1]; have := hr j j0 j1; omega, fun j j0 j1 => by rw [hY j j0 j1]; have := hr j j0 j1; omega⟩
 have hd := deg_go (E := E.map prE) (L := L) (n := (L : Int) + R) (m := M) (X := eX (E.map prE)) (Y := eY L (E.map prE)) (fun pre x suf he => by
   have : rdE (E.map prE) pre.length = x := by rw [he]; unfold rdE; simp
   unfold eX eY
   rw [this]
   exact ⟨rfl, rfl⟩) gr (by omega) (by omega) (E.map prE) [] (fun _ => 0) 0 (by simp) (fun v => by simp [cnt]) (fun v => by simp) (by omega) (.inl rfl)
 rw [hM, hlen] at hd
 obtain ⟨hd1, hd2, hd3⟩ := hd
 have hMe : M ≤ E.length := by
  rcases hd3 with h | ⟨v, _, _, h⟩
  ·omega
  ·have := cnt_le (inc (eX (E.map prE)) (eY L (E.map prE)) v) E.length
   omega
 rw [hlen] at gr
 obtain ⟨O, h1, T', h2⟩ := main_ok gr (by omega) (by omega) (by omega) hd2 (fun v _ _ => hd1 v) (2 * E.length + 5) (by omega) (by omega) E.length 0 (fun _ _ => -1) (fun _ => 0) (by omega) (inv_start _ _) (E.length + 1) (by omega)
 have c0 : ∀ v : Int, v < L → cnt E.length (inc (eX (E.map prE)) (eY L (E.map prE)) v) = cnt E.length (at0 E v) := fun v hv => cnt_congr _ fun j j0 j1 => by
  unfold inc at0
  rw [hX j j0 j1, hY j j0 j1]
  have := hr j j0 j1
  exact decide_eq_decide.2 ⟨fun h => by omega, fun h => .inl h⟩
 have c1 : ∀ v : Int, 0 ≤ v → cnt E.length (inc (eX (E.map prE)) (eY L (E.map prE)) (L + v)) = cnt E.length (at1 E v) := fun v hv => cnt_congr _ fun j j0 j1 => by
  unfold inc at1
  rw [hX j j0 j1, hY j j0 j1]
  have := hr j j0 j1
  exact decide_eq_decide.2 ⟨fun h => by omega, fun h => .inr (by omega)⟩
 refine ⟨M, O, ?_, hd2, h2.col, fun j k j0 j1 k0 k1 hjk hv => ?_, ?_, fun v v0 v1 => by rw [← c0 v v1]; exact hd1 v, fun v v0 v1 => by rw [← c1 v v0]; exact hd1 _⟩
 ·unfold match_Colours.f colF
  rw [if_pos hk, hM, hlen]
  have h1' : mainF ((L : Int) + R) M E.length (eX (E.map prE)) (eY L (E.map prE)) (2 * E.length + 5) (E.length + 1) 0 (fun _ _ => -1) (fun _ => 0) = some O := by simpa using h1
  rw [h1']
  rfl
 ·rcases hv with hv | hv
  ·exact proper h2 j0 j1 k0 k1 hjk (v := fX E j) (.inl (hX j j0 j1)) (.inl (by rw [hX k k0 k1, hv]))
  ·exact proper h2 j0 j1 k0 k1 hjk (v := L + fY E j) (.inr (hY j j0 j1)) (.inr (by rw [hY k k0 k1, hv]))
 ·rcases hd3 with h | ⟨v, v0, v1, h⟩
  ·exact .inl h
  ·by_cases hv : v < L
   ·rw [c0 v hv] at h
    exact .inr (.inl ⟨v, v0, hv, h⟩)
   ·have e : v = L + (v - L) := by omega
    rw [e, c1 _ (by omega)] at h
    exact .inr (.inr ⟨v - L, by omega, by omega, h⟩)
end Go.Proofs.Ytlleokhmgblfnaa.P
end

section
namespace Go.Proofs.Ytlleokhmgblfnaa.P
open Go.RowKit Go.Proofs.YtlleokhmgblfnaaW.PrintWords Go.Proofs.Ytlleokhmgblfnaa.H Go.Proofs.Ytlleokhmgblfnaa.M
def FreeV (n R : Nat) (A : Int → Int → Prop) (s : Nat) (v : Int) : Prop := ∃ M, IsM n R A M ∧ msize n M = s ∧ ¬ 0 ≤ M v
section
variable {L R : Nat} {A : Int → Int → Prop} {next : List (List Int)} {m b : List Int} {l r : List Bool}
theorem Core.level_free (c : Core L R A next m b l r) (lv : List Int) (hlv : LInv next m b (-1) 0 false lv []) :
  ∀ (i : Nat) (x : Int), 0 ≤ x → x < L → rd lv x = i → ∃ M, IsM L R A M ∧ msize L M = msz L m ∧ ¬ 0 ≤ M x ∧ ∀ y : Int, 0 ≤ y → y < L → (i : Int) < rd lv y → M y = rd m y := by
 have nl := c.nl
 intro i
 induction i with
 | zero =>
  intro x h0 h1 h2
  have := (hlv.fr x h0 (by omega)).2 (by simpa using h2)
  exact ⟨rd m, c.isM, rfl, by omega, fun _ _ _ _ => rfl⟩
 | succ i ih =>
  intro x h0 h1 h2
  obtain ⟨p, p0, p1, p2, w, hw, p3⟩ := hlv.pr x h0 (by omega) (by omega)
  obtain ⟨M, hM, e, hp, hag⟩ := ih p p0 (by omega) (by omega)
  obtain ⟨w0, w1⟩ := c.nv p p0 p1 w hw
  have hmx : rd m x = w := by
   have := (c.hole.bb w w0 w1 (by omega) (by omega)).2
   rwa [p3] at this
  have hMx : M x = w := by rw [hag x h0 h1 (by omega), hmx]
  have hpx : p ≠ x := fun e => by subst e; omega
  have hap : A p w := (c.adj p w p0 (by omega)).1 hw
  refine ⟨fun y => if y = p then w else if y = x then -1 else M y, ⟨fun v a d f => ?_, fun v a d f => ?_, fun v v' a d a' d' f g => ?_⟩, ?_, ?_, fun y a d f => ?_⟩
  ·by_cases ev : v = p
   ·simp only [if_pos ev]; exact w1
   ·by_cases ex : v = x
    ·simp only [if_neg ev, if_pos ex] at f; omega
    ·simp only [if_neg ev, if_neg ex] at f ⊢; exact hM.lt v a d f
  ·by_cases ev : v = p
   ·simp only [if_pos ev]; rw [ev]; exact hap
   ·by_cases ex : v = x
    ·simp only [if_neg ev, if_pos ex] at f; omega
    ·simp only [if_neg ev, if_neg ex] at f ⊢; exact hM.adj v a d f
  ·by_cases ev : v = p
   ·by_cases ev' : v' = p
    ·rw [ev, ev']
    ·by_cases ex' : v' = x
     ·simp only [if_pos ev, if_neg ev', if_pos ex'] at g; omega
     ·simp only [if_pos ev, if_neg ev', if_neg ex'] at g
      exact absurd (hM.inj v' x a' d' h0 h1 (by omega) (by omega)) ex'
   ·by_cases ex : v = x
    ·simp only [if_neg ev, if_pos ex] at f; omega
    ·simp only [if_neg ev, if_neg ex] at f g
     by_cases ev' : v' = p
     ·simp only [if_pos ev'] at g
      exact absurd (hM.inj v x a d h0 h1 f (by omega)) ex
     ·by_cases ex' : v' = x
      ·simp only [if_neg ev', if_pos ex'] at g; omega
      ·simp only [if_neg ev', if_neg ex'] at g
       exact hM.inj v v' a d a' d' f g
  ·rw [← e]
   unfold msize
   rw [cnt_out (has M) x L h0 h1 (by unfold has; rw [hMx]; simpa using w0), ← cnt_put (fun i => has M i && i != x) p L p0 (by omega) (by simp [has]; omega)]
   refine cnt_congr L (fun y _ _ => ?_)
   unfold has
   by_cases ev : y = p
   ·simp [ev, w0]
   ·by_cases ex : y = x
    ·subst ex; simp [ev]
    ·have a1 : (y != x) = true := by simpa using ex
     have a2 : (y == p) = false := by simpa using ev
     simp [ev, ex, a1, a2]
  ·simp only [if_neg hpx.symm, if_true]; omega
  ·have ev : y ≠ p := fun e => by subst e; omega
   have ex : y ≠ x := fun e => by subst e; omega
   simp only [if_neg ev, if_neg ex]
   exact hag y a d (by omega)
theorem Core.le_ν (c : Core L R A next m b l r) : cnt L (fun x => !tr l x) + cnt R (tr r) = msz L m := by
 have e := c.count
 have e2 := cnt_not (tr l) L
 omega
theorem Core.cov (c : Core L R A next m b l r) (v w : Int) (h0 : 0 ≤ v) (h1 : v < L) (h : A v w) (hl : tr l v = true) : tr r w = true := by
 have nl := c.nl
 exact (c.rs.cl v h0 (by omega) hl w ((c.adj v w h0 h1).2 h)).1
theorem Core.free_iff (c : Core L R A next m b l r) (v : Int) (h0 : 0 ≤ v) (h1 : v < L) : tr l v = true ↔ FreeV L R A (msz L m) v := by
 have nl := c.nl
 constructor
 ·intro h
  obtain ⟨lv, hlv⟩ := c.lin
  have hcl : Closed next m b (fun x => 0 ≤ rd lv x) := by
   refine ⟨fun x a d e => by have := (hlv.fr x a d).1 e; omega, fun x a d e w hw hb => ?_⟩
   exact (hlv.cl x a d e (by simp) (by omega) w hw).2 hb
  have hv := c.rs.le _ hcl v h0 (by omega) h
  obtain ⟨M, hM, e, hp, _⟩ := c.level_free lv hlv (rd lv v).toNat v h0 h1 (by omega)
  exact ⟨M, hM, e, hp⟩
 ·rintro ⟨M, hM, e, hv⟩
  by_cases h : tr l v = true
  ·exact h
  ·exfalso
   have hM' : IsM L R (fun x w => A x w ∧ x ≠ v) M := ⟨hM.lt, fun x a d f => ⟨hM.adj x a d f, fun e => by subst e; exact hv f⟩, hM.inj⟩
   have := cover_bound hM' (fun x => !tr l x && x != v) (tr r) (fun x w a d a' d' ⟨f, g⟩ => by
    cases h4 : tr l x with
    | false => left; simp [g]
    | true => right; exact c.cov x w a d f h4)
   have e1 := cnt_out (fun x => !tr l x) v L h0 h1 (by simpa using h)
   have e2 := c.le_ν
   omega
theorem IsM.congr {n R : Nat} {A B : Int → Int → Prop} {M : Int → Int} (h : IsM n R A M) (e : ∀ v w : Int, 0 ≤ v → v < n → 0 ≤ w → w < R → A v w → B v w) : IsM n R B M :=
 ⟨h.lt, fun v a d f => e v (M v) a d f (h.lt v a d f) (h.adj v a d f), h.inj⟩
theorem Core.isMaxT (c : Core L R A next m b l r) : IsMax R L (fun w v => A v w) (msz L m) := by
 have nl := c.nl
 have hb : ∀ w : Int, 0 ≤ w → w < R → 0 ≤ rd b w → rd b w < L ∧ rd m (rd b w) = w := fun w h0 h1 h2 => by
  have := c.hole.bb w h0 h1 (by omega) h2
  rwa [nl] at this
 have hm : IsM R L (fun w v => A v w) (rd b) := by
  refine ⟨fun w h0 h1 h2 => (hb w h0 h1 h2).1, fun w h0 h1 h2 => ?_, fun w w' h0 h1 h2 h3 h4 e => ?_⟩
  ·obtain ⟨a1, a2⟩ := hb w h0 h1 h2
   have := (c.hole.mm (rd b w) h2 (by omega) (by omega)).2.1
   rw [a2] at this
   exact (c.adj _ w h2 a1).1 this
  ·rw [← (hb w h0 h1 h4).2, ← (hb w' h2 h3 (by omega)).2, e]
 refine ⟨⟨rd b, hm, ?_⟩, fun M hM => ?_⟩
 ·unfold msize msz has
  refine Nat.le_antisymm (cnt_inj (rd b) L R _ (fun w h0 h1 h2 => ?_) (fun w w' h0 h1 h2 h3 h4 h5 e => ?_)) (cnt_inj (rd m) R L _ (fun v h0 h1 h2 => ?_) (fun v v' h0 h1 h2 h3 h4 h5 e => ?_))
  ·have h2 : 0 ≤ rd b w := by simpa using h2
   obtain ⟨a1, a2⟩ := hb w h0 h1 h2
   exact ⟨h2, a1, by rw [a2]; simpa using h0⟩
  ·exact hm.inj w w' h0 h1 h2 h3 (by simpa using h4) e
  ·have h2 : 0 ≤ rd m v := by simpa using h2
   obtain ⟨a1, a2, a3, a4⟩ := c.hole.mm v h0 (by omega) h2
   exact ⟨h2, a1, by rw [a3]; simpa using h0⟩
  ·exact c.isM.inj v v' h0 h1 h2 h3 (by simpa using h4) e
 ·have := cover_bound hM (tr r) (fun x => !tr l x) (fun w v a d a' d' f => by
   cases h4 : tr l v with
   | false => right; rfl
   | true => left; exact c.cov v w a' d' f h4)
  have e2 := c.le_ν
  omega
end
structure TInv (next : List (List Int)) (R : Nat) (v j : Int) (out : List (List Int)) : Prop where
 len : out.length = R
 mem : ∀ w x : Int, 0 ≤ w → w < R → (x ∈ rd_L5 out w ↔ (0 ≤ x ∧ x < v ∧ w ∈ rd_L5 next x) ∨ (x = v ∧ ∃ j' : Int, 0 ≤ j' ∧ j' < j ∧ rd (rd_L5 next v) j' = w))
 size : ∀ w : Int, 0 ≤ w → w < R → (rd_L5 out w).length ≤ v * 1000000 + j
theorem turned_l1 {next : List (List Int)} {R : Nat} (hn : next.length ≤ 1024) (hNV : NV next R) (n : Int) (v : Int) (hv0 : 0 ≤ v) (hv1 : v < next.length) (hlen : (rd_L5 next v).length ≤ 1000000) :
  ∀ (e : Nat) (j : Int) (out : List (List Int)), (rd_L5 next v).length = j + e → 0 ≤ j → TInv next R v j out →
   ∃ out', (∀ G s, (∀ k, G ≤ k → pairing_Turned.l0 k out' next n (v + 1) = some s) → ∀ k, G + e < k → pairing_Turned.l1 k out v next n v (rd_L5 next v) (rd_L5 next v).length j = some s) ∧ TInv next R (v + 1) 0 out' := by
 intro e
 induction e with
 | zero =>
  intro j out he hj hI
  refine ⟨out, fun G s hG k hk => ?_, hI.len, fun w x h0 h1 => ?_, fun w h0 h1 => by have := hI.size w h0 h1; omega⟩
  ·obtain ⟨k, rfl⟩ : ∃ k', k = k' + 1 := ⟨k - 1, by omega⟩
   rw [pairing_Turned.l1, if_neg (by omega), w64 (by omega) (by omega)]
   exact hG k (by omega)
  ·rw [hI.mem w x h0 h1]
   constructor
   ·rintro (⟨a, d, f⟩ | ⟨rfl, j', a, d, f⟩)
    ·exact .inl ⟨a, by omega, f⟩
    ·exact .inl ⟨hv0, by omega, by rw [← f]; exact rd_mem a (by omega)⟩
   ·rintro (⟨a, d, f⟩ | ⟨_, j', a, d, _⟩)
    ·by_cases ex : x = v
     ·subst ex
      obtain ⟨i, i0, i1, i2⟩ := mem_rd f
      exact .inr ⟨rfl, i, i0, by omega, i2⟩
     ·exact .inl ⟨a, by omega, f⟩
    ·omega
 | succ e ih =>
  intro j out he hj hI
  have hol := hI.len
  obtain ⟨w, hw⟩ : ∃ w, rd (rd_L5 next v) j = w := ⟨_, rfl⟩
  have hwm : w ∈ rd_L5 next v := hw ▸ rd_mem hj (by omega)
  obtain ⟨hw0, hw1⟩ := hNV v hv0 hv1 w hwm
  have hs : ∀ y : Int, 0 ≤ y → rd_L5 (out.set w.toNat ((rd_L5 out w) ++ [v])) y = if y = w then (rd_L5 out w) ++ [v] else rd_L5 out y := fun y h => getD_set _ out w y _ hw0 (by omega) h
  have hsz := hI.size w hw0 hw1
  obtain ⟨out', h1, h2⟩ := ih (j + 1) (out.set w.toNat ((rd_L5 out w) ++ [v])) (by omega) (by omega) ⟨by simpa using hol, fun y x a d => by
    rw [hs y a]
    by_cases ey : y = w
    ·subst ey
     rw [if_pos rfl, List.mem_append, hI.mem y x a d, List.mem_singleton]
     constructor
     ·rintro ((h | ⟨f, j', g, h, i⟩) | h)
      ·exact .inl h
      ·exact .inr ⟨f, j', g, by omega, i⟩
      ·exact .inr ⟨h, j, hj, by omega, hw⟩
     ·rintro (h | ⟨f, j', g, h, i⟩)
      ·exact .inl (.inl h)
      ·exact .inr f
    ·rw [if_neg ey, hI.mem y x a d]
     constructor
     ·rintro (h | ⟨f, j', g, h, i⟩)
      ·exact .inl h
      ·exact .inr ⟨f, j', g, by omega, i⟩
     ·rintro (h | ⟨f, j', g, h, i⟩)
      ·exact .inl h
      ·have ej : j' ≠ j := fun ej => by subst ej; exact ey (i.symm.trans hw)
       exact .inr ⟨f, j', g, by omega, i⟩, fun y a d => by
    rw [hs y a]
    split
    ·simp; omega
    ·have := hI.size y a d; omega⟩
  refine ⟨out', fun G s hG k hk => ?_, h2⟩
  obtain ⟨k, rfl⟩ : ∃ k', k = k' + 1 := ⟨k - 1, by omega⟩
  rw [pairing_Turned.l1, if_pos (by omega), if_pos hj, if_pos (by omega), hw, if_pos hw0, if_pos (by omega), if_pos (by omega), w64 (by omega) (by omega)]
  exact h1 G s hG k (by omega)
theorem turned_spec {next : List (List Int)} {R : Nat} (hn : next.length ≤ 1024) (hR : R ≤ 1024) (hNV : NV next R) (hlen : ∀ v : Int, 0 ≤ v → v < next.length → (rd_L5 next v).length ≤ 1000000) :
  ∃ K out, (∀ k, K ≤ k → pairing_Turned.f k next R = some out) ∧ out.length = R ∧ (∀ w x : Int, 0 ≤ w → w < R → (x ∈ rdL out w ↔ 0 ≤ x ∧ x < next.length ∧ w ∈ rdL next x)) ∧ ∀ w : Int, 0 ≤ w → w < R → (rdL out w).length ≤ 1000000000000 := by
 have key : ∀ (d : Nat) (v : Int) (out : List (List Int)), (next.length : Int) = v + d → 0 ≤ v → TInv next R v 0 out → ∃ K out', (∀ k, K ≤ k → pairing_Turned.l0 k out next next.length v = some out') ∧ TInv next R next.length 0 out' := by
  intro d
  induction d with
  | zero =>
   intro v out hd hv hI
   have : v = (next.length : Int) := by omega
   subst this
   refine ⟨1, out, fun k hk => ?_, hI⟩
   obtain ⟨k, rfl⟩ : ∃ k', k = k' + 1 := ⟨k - 1, by omega⟩
   rw [pairing_Turned.l0, if_neg (by omega)]
  | succ d ih =>
   intro v out hd hv hI
   obtain ⟨out1, h1, hI1⟩ := turned_l1 hn hNV next.length v hv (by omega) (hlen v hv (by omega)) (rd_L5 next v).length 0 out (by omega) (by omega) hI
   obtain ⟨K, out2, hK, hI2⟩ := ih (v + 1) out1 (by omega) (by omega) hI1
   refine ⟨K + (rd_L5 next v).length + 2, out2, fun k hk => ?_, hI2⟩
   obtain ⟨k, rfl⟩ : ∃ k', k = k' + 1 := ⟨k - 1, by omega⟩
   rw [pairing_Turned.l0, if_pos (by omega), if_pos hv, if_pos (by omega)]
   exact h1 K _ hK k (by omega)
 obtain ⟨K, out, hK, hI⟩ := key next.length 0 (List.replicate R []) (by omega) (by omega) ⟨by simp, fun w x h0 h1 => by
  unfold rd_L5
  rw [getD_rep]
  constructor
  ·intro h; cases h
  ·rintro (⟨a, d, _⟩ | ⟨_, j', a, d, _⟩) <;> omega, fun w h0 h1 => by
  unfold rd_L5
  rw [getD_rep]; simp⟩
 refine ⟨K, out, fun k hk => ?_, hI.len, fun w x h0 h1 => ?_, fun w h0 h1 => ?_⟩
 ·unfold pairing_Turned.f
  rw [if_pos (by omega), if_pos (by omega)]
  exact hK k hk
 ·refine (hI.mem w x h0 h1).trans ?_
  constructor
  ·rintro (h | ⟨_, j', a, d, _⟩)
   ·exact h
   ·omega
  ·exact .inl
 ·have := hI.size w h0 h1
  show (rd_L5 out w).length ≤ _
  omega
theorem free_done {L R : Nat} {E : List S40} (hk : chk L R (E.map prE) = 0) (g : GOK L R E) : ∃ next m b l r next' m' b' l' r' K, Core L R (Adj E) next m b l r ∧ Core R L (fun w v => Adj E v w) next' m' b' l' r' ∧
  (∀ k, K ≤ k → match_Free.f k L R E = some (sel L (tr l), sel R (tr l'), 0)) := by
 have hL := g.L1
 have hR := g.R1
 obtain ⟨next, h1, nl, adj, hlen⟩ := nbr_spec g
 have nv : NV next R := fun v h0 h1 w hw => by
  rw [nl] at h1
  obtain ⟨j, j0, j1, j2, j3⟩ := (adj v w h0 h1).1 hw
  have := g.rng j j0 j1
  omega
 obtain ⟨m, b, l, r, K1, c, h2, h3⟩ := coreA hL hR nl adj nv (fun v h0 h1 => by have := hlen v h0 h1; omega)
 obtain ⟨K2, out, h4, ol, om, os⟩ := turned_spec (by omega) hR nv (fun v h0 h1 => hlen v h0 (by omega))
 have nv' : NV out L := fun w h0 h1 x hx => by
  rw [ol] at h1
  obtain ⟨a, d, _⟩ := (om w x h0 h1).1 hx
  exact ⟨a, by omega⟩
 obtain ⟨m', b', l', r', K3, c', h5, h6⟩ := coreA (A := fun w v => Adj E v w) hR hL ol (fun w x h0 h1 => by
  rw [om w x h0 h1]
  constructor
  ·rintro ⟨a, d, f⟩; exact (adj x w a (by omega)).1 f
  ·intro h
   obtain ⟨j, j0, j1, j2, j3⟩ := id h
   have := g.rng j j0 j1
   exact ⟨by omega, by omega, (adj x w (by omega) (by omega)).2 h⟩) nv' (fun w h0 h1 => os w h0 (by omega))
 have ll := c.rs.ll
 have ll' := c'.rs.ll
 refine ⟨next, m, b, l, r, out, m', b', l', r', K1 + K2 + K3 + L + R + E.length + 1, c, c', fun k hk => ?_⟩
 have hc : match_Check.f L R E = some 0 := by unfold match_Check.f; rw [‹chk _ _ _ = 0›]
 unfold match_Free.f
 rw [hc]
 simp only [Option.bind_some, if_true]
 rw [h1 k (by omega)]
 simp only [Option.bind_some]
 unfold match_reach.f
 rw [h2 k (by omega)]
 simp only [Option.bind_some]
 rw [h3 k (by omega)]
 simp only [Option.bind_some]
 rw [h4 k (by omega)]
 simp only [Option.bind_some]
 rw [h5 k (by omega)]
 simp only [Option.bind_some]
 rw [h6 k (by omega)]
 simp only [Option.bind_some]
 rw [chosen_spec true l (by omega) k (by omega), chosen_spec true l' (by omega) k (by omega), show l.length = L by omega, show l'.length = R by omega]
 simp only [Option.bind_some, bool_beq_true]
end Go.Proofs.Ytlleokhmgblfnaa.P
end

section
namespace Go.Proofs.Ytlleokhmgblfnaa.P.Reg
open Go.RowKit Go.Proofs.YtlleokhmgblfnaaW.PrintWords Go.Proofs.YtlleokhmgblfnaaW.PrintMore Go.Proofs.Ytlleokhmgblfnaa.H Go.Proofs.Ytlleokhmgblfnaa.M Go.Proofs.Ytlleokhmgblfnaa.P
def tst (n d v w : Int) : Bool := decide (Int.tmod (w - v + n) n < d)
theorem tmod_case {n v w : Int} (v0 : 0 ≤ v) (v1 : v < n) (w0 : 0 ≤ w) (w1 : w < n) : Int.tmod (w - v + n) n = if v ≤ w then w - v else w - v + n := by
 rw [Int.tmod_eq_emod_of_nonneg (by omega)]
 by_cases h : v ≤ w
 ·rw [if_pos h, Int.add_emod_right]
  exact Int.emod_eq_of_lt (by omega) (by omega)
 ·rw [if_neg h]
  exact Int.emod_eq_of_lt (by omega) (by omega)
theorem cnt_below (d : Int) (d0 : 0 ≤ d) : ∀ n : Nat, d ≤ n → (cnt n (fun r => decide (r < d)) : Int) = d := by
 have key : ∀ n : Nat, (cnt n (fun r => decide (r < d)) : Int) = if d ≤ n then d else n := fun n => by
  induction n with
  | zero => simp [cnt]; omega
  | succ n ih =>
   rw [cnt_succ]
   by_cases h : (n : Int) < d
   ·rw [if_neg (by omega)] at ih
    rw [show decide ((n : Int) < d) = true by simpa using h]
    simp only [if_true]
    split <;> omega
   ·rw [if_pos (by omega)] at ih
    rw [show decide ((n : Int) < d) = false by simpa using h, if_neg (by simp), if_pos (by omega)]
    omega
 intro n h
 rw [key n, if_pos h]
section
variable {n : Nat} {d : Int}
theorem row_cnt (d0 : 0 ≤ d) (dn : d ≤ n) {v : Int} (v0 : 0 ≤ v) (v1 : v < n) : (cnt n (fun w => tst n d v w) : Int) = d := by
 have h1 : cnt n (fun w => tst n d v w) ≤ cnt n (fun r => decide (r < d)) := cnt_inj (fun w => if v ≤ w then w - v else w - v + n) n n _ (fun w w0 w1 h => by
   unfold tst at h
   rw [tmod_case v0 v1 w0 w1] at h
   refine ⟨?_, ?_, h⟩
   ·show 0 ≤ if v ≤ w then w - v else w - v + (n : Int); split <;> omega
   ·show (if v ≤ w then w - v else w - v + (n : Int)) < n; split <;> omega)
  (fun w x w0 w1 x0 x1 _ _ h => by
   have h' : (if v ≤ w then w - v else w - v + (n : Int)) = if v ≤ x then x - v else x - v + (n : Int) := h
   split at h' <;> split at h' <;> omega)
 have h2 : cnt n (fun r => decide (r < d)) ≤ cnt n (fun w => tst n d v w) := cnt_inj (fun r => if r + v < n then r + v else r + v - n) n n _ (fun r r0 r1 h => by
   have hb : 0 ≤ (if r + v < n then r + v else r + v - (n : Int)) ∧ (if r + v < n then r + v else r + v - (n : Int)) < n := by split <;> omega
   refine ⟨hb.1, hb.2, ?_⟩
   unfold tst
   show decide (Int.tmod ((if r + v < n then r + v else r + v - (n : Int)) - v + n) n < d) = true
   rw [tmod_case v0 v1 hb.1 hb.2]
   have hd : r < d := by simpa using h
   simp only [decide_eq_true_eq]
   split <;> split <;> omega)
  (fun w x w0 w1 x0 x1 _ _ h => by
   have h' : (if w + v < n then w + v else w + v - (n : Int)) = if x + v < n then x + v else x + v - (n : Int) := h
   split at h' <;> split at h' <;> omega)
 have h3 := cnt_below d d0 n dn
 omega
end
theorem rd_pre (E : List S40) (x : S40) {j : Int} (j0 : 0 ≤ j) (j1 : j < E.length) : rd_T40 (E ++ [x]) j = rd_T40 E j := by
 unfold rd_T40
 rw [List.getD_eq_getElem?_getD, List.getD_eq_getElem?_getD, List.getElem?_append_left (by omega)]
theorem app0 (E : List S40) (x : S40) (u : Int) : cnt (E ++ [x]).length (at0 (E ++ [x]) u) = cnt E.length (at0 E u) + if x.f0 = u then 1 else 0 := by
 have hl : (E ++ [x]).length = E.length + 1 := by simp
 rw [hl, cnt_succ]
 have e1 : cnt E.length (at0 (E ++ [x]) u) = cnt E.length (at0 E u) := cnt_congr _ fun j j0 j1 => by unfold at0 fX; rw [rd_pre E x j0 j1]
 have e2 : at0 (E ++ [x]) u (E.length : Int) = decide (x.f0 = u) := by unfold at0 fX; rw [show E ++ [x] = E ++ x :: [] from rfl, rd_mid]
 rw [e1, e2]
 by_cases h : x.f0 = u <;> simp [h]
theorem app1 (E : List S40) (x : S40) (u : Int) : cnt (E ++ [x]).length (at1 (E ++ [x]) u) = cnt E.length (at1 E u) + if x.f1 = u then 1 else 0 := by
 have hl : (E ++ [x]).length = E.length + 1 := by simp
 rw [hl, cnt_succ]
 have e1 : cnt E.length (at1 (E ++ [x]) u) = cnt E.length (at1 E u) := cnt_congr _ fun j j0 j1 => by unfold at1 fY; rw [rd_pre E x j0 j1]
 have e2 : at1 (E ++ [x]) u (E.length : Int) = decide (x.f1 = u) := by unfold at1 fY; rw [show E ++ [x] = E ++ x :: [] from rfl, rd_mid]
 rw [e1, e2]
 by_cases h : x.f1 = u <;> simp [h]
theorem cnt_next (p : Int → Bool) {i : Int} (i0 : 0 ≤ i) : cnt (i + 1).toNat p = cnt i.toNat p + if p i then 1 else 0 := by
 rw [show (i + 1).toNat = i.toNat + 1 by omega, cnt_succ, show ((i.toNat : Nat) : Int) = i by omega]
structure RInv (n : Nat) (d v w : Int) (E : List S40) : Prop where
 ok : EOK n n E
 last : ∀ e ∈ E, e.f0 < v ∨ (e.f0 = v ∧ e.f1 < w)
 c0 : ∀ u : Int, 0 ≤ u → (cnt E.length (at0 E u) : Int) = if u < v then d else if u = v then cnt w.toNat (fun x => tst n d v x) else 0
 c1 : ∀ u : Int, 0 ≤ u → u < n → cnt E.length (at1 E u) = cnt v.toNat (fun x => tst n d x u) + if u < w ∧ tst n d v u = true then 1 else 0
 len : (E.length : Int) = v * d + cnt w.toNat (fun x => tst n d v x)
 cap : (E.length : Int) ≤ v * 40 + w
section
variable {n : Nat} {d v w : Int} {E : List S40}
theorem RInv.skip (h : RInv n d v w E) (w0 : 0 ≤ w) (ht : tst n d v w = false) : RInv n d v (w + 1) E := by
 have hc : cnt (w + 1).toNat (fun x => tst n d v x) = cnt w.toNat (fun x => tst n d v x) := by rw [cnt_next _ w0, ht]; simp
 refine ⟨h.ok, fun e he => ?_, fun u u0 => by rw [hc]; exact h.c0 u u0, fun u u0 u1 => ?_, by rw [hc]; exact h.len, by have := h.cap; omega⟩
 ·have := h.last e he
  omega
 ·rw [h.c1 u u0 u1]
  congr 1
  by_cases e : u = w
  ·subst e
   rw [if_neg (by simp [ht]), if_neg (by simp [ht])]
  ·by_cases h2 : u < w ∧ tst n d v u = true
   ·rw [if_pos h2, if_pos ⟨by omega, h2.2⟩]
   ·rw [if_neg h2, if_neg (fun h3 => h2 ⟨by omega, h3.2⟩)]
theorem RInv.put (h : RInv n d v w E) (v0 : 0 ≤ v) (v1 : v < n) (w0 : 0 ≤ w) (w1 : w < n) (ht : tst n d v w = true) : RInv n d v (w + 1) (E ++ [⟨v, w⟩]) := by
 have hc : cnt (w + 1).toNat (fun x => tst n d v x) = cnt w.toNat (fun x => tst n d v x) + 1 := by rw [cnt_next _ w0, ht]; simp
 refine ⟨⟨fun e he => ?_, ?_⟩, fun e he => ?_, fun u u0 => ?_, fun u u0 u1 => ?_, ?_, ?_⟩
 ·rcases List.mem_append.1 he with he | he
  ·exact h.ok.rng e he
  ·rw [List.mem_singleton.1 he]; exact ⟨v0, v1, w0, w1⟩
 ·rw [List.pairwise_append]
  refine ⟨h.ok.srt, List.pairwise_singleton _ _, fun e he y hy => ?_⟩
  rw [List.mem_singleton.1 hy]
  exact h.last e he
 ·rcases List.mem_append.1 he with he | he
  ·have := h.last e he; omega
  ·rw [List.mem_singleton.1 he]; exact .inr ⟨rfl, by show w < w + 1; omega⟩
 ·rw [app0, hc]
  show ((cnt E.length (at0 E u) + (if v = u then 1 else 0) : Nat) : Int) = _
  have := h.c0 u u0
  by_cases e : v = u
  ·subst e
   rw [if_neg (by omega), if_pos rfl] at this
   rw [if_pos rfl, if_neg (by omega), if_pos rfl]
   omega
  ·rw [if_neg e]
   by_cases e2 : u < v
   ·rw [if_pos e2] at this ⊢
    omega
   ·rw [if_neg e2, if_neg (fun h => e h.symm)] at this ⊢
    omega
 ·rw [app1, h.c1 u u0 u1, Nat.add_assoc]
  congr 1
  show _ + (if w = u then 1 else 0) = _
  by_cases e : w = u
  ·subst e
   rw [if_pos rfl, if_neg (by omega), if_pos ⟨by omega, ht⟩]
  ·rw [if_neg e]
   by_cases h2 : u < w ∧ tst n d v u = true
   ·rw [if_pos h2, if_pos ⟨by omega, h2.2⟩]
   ·rw [if_neg h2, if_neg (fun h3 => h2 ⟨by omega, h3.2⟩)]
 ·rw [hc, List.length_append]
  have := h.len
  simp
  omega
 ·rw [List.length_append]
  have := h.cap
  simp
  omega
theorem RInv.next (h : RInv n d v n E) (hn : n ≤ 40) (v0 : 0 ≤ v) (v1 : v < n) (d0 : 0 ≤ d) (dn : d ≤ n) : RInv n d (v + 1) 0 E := by
 have hr := row_cnt d0 dn v0 v1
 have hz : (cnt (0 : Int).toNat (fun x => tst n d (v + 1) x) : Int) = 0 := rfl
 have hnn : ((n : Nat) : Int).toNat = n := by omega
 refine ⟨h.ok, fun e he => by have := h.last e he; omega, fun u u0 => ?_, fun u u0 u1 => ?_, ?_, by have := h.cap; omega⟩
 ·rw [h.c0 u u0, hnn, hr, hz]
  by_cases e : u < v
  ·rw [if_pos e, if_pos (by omega)]
  ·rw [if_neg e]
   by_cases e2 : u = v
   ·rw [if_pos e2, if_pos (by omega)]
   ·rw [if_neg e2, if_neg (by omega)]
    split <;> rfl
 ·rw [h.c1 u u0 u1, cnt_next _ v0, Nat.add_assoc]
  congr 1
  rw [if_neg (c := u < 0 ∧ tst n d (v + 1) u = true) (by omega)]
  by_cases e : tst n d v u = true
  ·rw [if_pos ⟨u1, e⟩, if_pos e]
  ·rw [if_neg (fun h => e h.2), if_neg e]
 ·rw [h.len, hnn, hr, hz, Int.add_mul]
  omega
end
end Go.Proofs.Ytlleokhmgblfnaa.P.Reg
end

section
namespace Go.Proofs.Ytlleokhmgblfnaa.P.Ex
open Go.RowKit Go.Proofs.YtlleokhmgblfnaaW.PrintWords Go.Proofs.Ytlleokhmgblfnaa.H Go.Proofs.Ytlleokhmgblfnaa.M Go.Proofs.Ytlleokhmgblfnaa.P
theorem cnt_one (n : Nat) (j : Int) (j0 : 0 ≤ j) (j1 : j < n) (p : Int → Bool) (h : ∀ x : Int, 0 ≤ x → x < n → (p x = true ↔ x = j)) : cnt n p = 1 := by
 have h1 := cnt_out p j n j0 j1 ((h j j0 j1).2 rfl)
 have h2 : cnt n (fun i => p i && i != j) = 0 := cnt_zero n fun x x0 x1 => by
  by_cases e : x = j
  ·simp [e]
  ·have : p x = false := by
    cases hp : p x
    ·rfl
    ·exact absurd ((h x x0 x1).1 hp) e
   simp [this]
 omega
theorem cnt_but (n : Nat) (j : Int) (j0 : 0 ≤ j) (j1 : j < n) (p : Int → Bool) (h : ∀ x : Int, 0 ≤ x → x < n → (p x = true ↔ x ≠ j)) : cnt n p + 1 = n := by
 have h1 := cnt_out (fun _ => true) j n j0 j1 rfl
 rw [cnt_all n (fun _ _ _ => rfl)] at h1
 have h2 : cnt n p = cnt n (fun i => true && i != j) := cnt_congr n fun x x0 x1 => by
  by_cases e : x = j
  ·have : p x = false := by
    cases hp : p x
    ·rfl
    ·exact absurd e ((h x x0 x1).1 hp)
   rw [this]; simp [e]
  ·simp [(h x x0 x1).2 e, e]
 omega
theorem sel_one {n : Nat} {p : Int → Bool} {j : Int} (h : cnt n p = 1) (j0 : 0 ≤ j) (j1 : j < n) (hj : p j = true) : sel n p = [j] := by
 have hl := sel_length p n
 rw [h] at hl
 have hm := (mem_sel p j n).2 ⟨j0, j1, hj⟩
 match hs : sel n p, hl with
 | [x], _ => rw [hs] at hm; rw [List.mem_singleton.1 hm]
theorem sel_nil {n : Nat} {p : Int → Bool} (h : cnt n p = 0) : sel n p = [] := by
 have hl := sel_length p n
 rw [h] at hl
 exact List.eq_nil_of_length_eq_zero hl
structure Pa (n : Nat) (v : Int) (E : List S40) : Prop where
 ok : EOK n n E
 last : ∀ e ∈ E, e.f0 < v
 adj : ∀ x y : Int, (⟨x, y⟩ : S40) ∈ E ↔ 0 ≤ x ∧ x < v ∧ ((1 ≤ x ∧ y = x - 1) ∨ (x ≤ n - 2 ∧ y = x))
 cap : (E.length : Int) ≤ 2 * v
structure Sr (n : Nat) (v : Int) (E : List S40) : Prop where
 ok : EOK n n E
 last : ∀ e ∈ E, e.f0 < v
 adj : ∀ x y : Int, (⟨x, y⟩ : S40) ∈ E ↔ 0 ≤ x ∧ x < v ∧ y = 0
 len : (E.length : Int) = v
section
variable {n : Nat} {v : Int} {E : List S40}
theorem eok_app {x : S40} (h : EOK n n E) (hl : ∀ e ∈ E, lexB (prE e) (prE x)) (hx : 0 ≤ x.f0 ∧ x.f0 < n ∧ 0 ≤ x.f1 ∧ x.f1 < n) : EOK n n (E ++ [x]) := by
 refine ⟨fun e he => ?_, ?_⟩
 ·rcases List.mem_append.1 he with he | he
  ·exact h.rng e he
  ·rw [List.mem_singleton.1 he]; exact hx
 ·rw [List.pairwise_append]
  exact ⟨h.srt, List.pairwise_singleton _ _, fun e he y hy => by rw [List.mem_singleton.1 hy]; exact hl e he⟩
theorem s40_eq {x y a b : Int} : (⟨x, y⟩ : S40) = ⟨a, b⟩ ↔ x = a ∧ y = b := by
 constructor
 ·intro h; injection h with h1 h2; exact ⟨h1, h2⟩
 ·rintro ⟨rfl, rfl⟩; rfl
theorem pa_start : Pa n 0 [] := ⟨⟨fun e he => (List.not_mem_nil he).elim, List.Pairwise.nil⟩, fun e he => (List.not_mem_nil he).elim, fun x y => ⟨fun h => (List.not_mem_nil h).elim, fun h => by omega⟩, by simp⟩
theorem sr_start : Sr n 0 [] := ⟨⟨fun e he => (List.not_mem_nil he).elim, List.Pairwise.nil⟩, fun e he => (List.not_mem_nil he).elim, fun x y => ⟨fun h => (List.not_mem_nil h).elim, fun h => by omega⟩, by simp⟩
theorem Pa.row (h : Pa n v E) (v0 : 0 ≤ v) (v1 : v < n) : Pa n (v + 1) (E ++ ((if 1 ≤ v then [⟨v, v - 1⟩] else []) ++ (if v ≤ n - 2 then [⟨v, v⟩] else []))) := by
 have lx : ∀ e ∈ E, ∀ y : Int, lexB (prE e) (v, y) := fun e he y => .inl (h.last e he)
 have cap := h.cap
 have hadj := h.adj
 by_cases a : 1 ≤ v
 ·have k1 : EOK n n (E ++ [⟨v, v - 1⟩]) := eok_app h.ok (fun e he => lx e he _) ⟨v0, v1, by show 0 ≤ v - 1; omega, by show v - 1 < n; omega⟩
  by_cases b : v ≤ n - 2
  ·rw [if_pos a, if_pos b, ← List.append_assoc]
   refine ⟨eok_app k1 (fun e he => ?_) ⟨v0, v1, v0, v1⟩, fun e he => ?_, fun x y => ?_, by simp; omega⟩
   ·rcases List.mem_append.1 he with he | he
    ·exact lx e he _
    ·rw [List.mem_singleton.1 he]; exact .inr ⟨rfl, by show v - 1 < v; omega⟩
   ·simp only [List.mem_append, List.mem_singleton] at he
    rcases he with (he | he) | he
    ·have := h.last e he; omega
    ·rw [he]; show v < v + 1; omega
    ·rw [he]; show v < v + 1; omega
   ·simp only [List.mem_append, List.mem_singleton, s40_eq, hadj]
    omega
  ·rw [if_pos a, if_neg b, List.append_nil]
   refine ⟨k1, fun e he => ?_, fun x y => ?_, by simp; omega⟩
   ·simp only [List.mem_append, List.mem_singleton] at he
    rcases he with he | he
    ·have := h.last e he; omega
    ·rw [he]; show v < v + 1; omega
   ·simp only [List.mem_append, List.mem_singleton, s40_eq, hadj]
    omega
 ·by_cases b : v ≤ n - 2
  ·rw [if_neg a, if_pos b, List.nil_append]
   refine ⟨eok_app h.ok (fun e he => lx e he _) ⟨v0, v1, v0, v1⟩, fun e he => ?_, fun x y => ?_, by simp; omega⟩
   ·simp only [List.mem_append, List.mem_singleton] at he
    rcases he with he | he
    ·have := h.last e he; omega
    ·rw [he]; show v < v + 1; omega
   ·simp only [List.mem_append, List.mem_singleton, s40_eq, hadj]
    omega
  ·rw [if_neg a, if_neg b, List.nil_append, List.append_nil]
   exact ⟨h.ok, fun e he => by have := h.last e he; omega, fun x y => by rw [hadj]; omega, by omega⟩
theorem Sr.row (h : Sr n v E) (v0 : 0 ≤ v) (v1 : v < n) : Sr n (v + 1) (E ++ [⟨v, 0⟩]) := by
 have hadj := h.adj
 have hlen := h.len
 refine ⟨eok_app h.ok (fun e he => .inl (h.last e he)) ⟨v0, v1, Int.le_refl _, by show (0 : Int) < n; omega⟩, fun e he => ?_, fun x y => ?_, by simp; omega⟩
 ·simp only [List.mem_append, List.mem_singleton] at he
  rcases he with he | he
  ·have := h.last e he; omega
  ·rw [he]; show v < v + 1; omega
 ·simp only [List.mem_append, List.mem_singleton, s40_eq, hadj]
  omega
theorem Pa.adjI (h : Pa n n E) (x y : Int) : Adj E x y ↔ 0 ≤ x ∧ x < n ∧ ((1 ≤ x ∧ y = x - 1) ∨ (x ≤ n - 2 ∧ y = x)) := by rw [adj_mem, h.adj]
theorem Sr.adjI (h : Sr n n E) (x y : Int) : Adj E x y ↔ 0 ≤ x ∧ x < n ∧ y = 0 := by rw [adj_mem, h.adj]
def pm (u : Int) (v : Int) : Int := if v = u then -1 else if v < u then v else v - 1
theorem pm_is (h : Pa n n E) {u : Int} (u0 : 0 ≤ u) (u1 : u < n) : IsM n n (Adj E) (pm u) := by
 refine ⟨fun v v0 v1 hv => ?_, fun v v0 v1 hv => ?_, fun v w v0 v1 w0 w1 hv e => ?_⟩
 ·unfold pm at *; repeat' split at *
  all_goals omega
 ·rw [h.adjI]
  unfold pm at *; repeat' split at *
  all_goals omega
 ·unfold pm at *; repeat' split at *
  all_goals omega
theorem pm_size {u : Int} (u0 : 0 ≤ u) (u1 : u < n) : msize n (pm u) + 1 = n := cnt_but n u u0 u1 _ fun x x0 x1 => by
 unfold has pm
 rw [decide_eq_true_eq]
 repeat' split
 all_goals omega
theorem path_max (h : Pa n n E) (n1 : 2 ≤ n) : IsMax n n (Adj E) (n - 1) := by
 refine ⟨⟨pm 0, pm_is h (by omega) (by omega), by have := pm_size (n := n) (u := 0) (by omega) (by omega); omega⟩, fun M hM => ?_⟩
 unfold msize
 have := cnt_inj (p := has M) M (n - 1) n (fun _ => true) (fun v v0 v1 hv => by
   have hv' : 0 ≤ M v := by unfold has at hv; simpa using hv
   have := (h.adjI _ _).1 (hM.adj v v0 v1 hv')
   exact ⟨hv', by omega, rfl⟩)
  (fun v w v0 v1 w0 w1 hv hw e => hM.inj v w v0 v1 w0 w1 (by unfold has at hv; simpa using hv) e)
 rw [cnt_all (n - 1) (fun _ _ _ => rfl)] at this
 exact this
theorem star_max (h : Sr n n E) (n1 : 1 ≤ n) : IsMax n n (Adj E) 1 := by
 refine ⟨⟨fun v => if v = 0 then 0 else -1, ⟨fun v v0 v1 hv => ?_, fun v v0 v1 hv => ?_, fun v w v0 v1 w0 w1 hv e => ?_⟩, ?_⟩, fun M hM => ?_⟩
 ·show (if v = 0 then (0 : Int) else -1) < n; split <;> omega
 ·rw [h.adjI]
  have hv' : 0 ≤ (if v = 0 then (0 : Int) else -1) := hv
  refine ⟨v0, v1, ?_⟩
  show (if v = 0 then (0 : Int) else -1) = 0
  split at hv' <;> simp_all
 ·have hv' : 0 ≤ (if v = 0 then (0 : Int) else -1) := hv
  have e' : (if v = 0 then (0 : Int) else -1) = if w = 0 then 0 else -1 := e
  split at hv' <;> split at e' <;> (try split at e') <;> omega
 ·exact cnt_one n 0 (by omega) (by omega) _ fun x x0 x1 => by
   unfold has
   rw [decide_eq_true_eq]
   show 0 ≤ (if x = 0 then (0 : Int) else -1) ↔ x = 0
   split <;> omega
 ·unfold msize
  have := cnt_inj (p := has M) M 1 n (fun _ => true) (fun v v0 v1 hv => by
    have hv' : 0 ≤ M v := by unfold has at hv; simpa using hv
    have := (h.adjI _ _).1 (hM.adj v v0 v1 hv')
    exact ⟨hv', by omega, rfl⟩)
   (fun v w v0 v1 w0 w1 hv hw e => hM.inj v w v0 v1 w0 w1 (by unfold has at hv; simpa using hv) e)
  rw [cnt_all 1 (fun _ _ _ => rfl)] at this
  exact this
end
end Go.Proofs.Ytlleokhmgblfnaa.P.Ex
end

section
namespace Go.Proofs.Ytlleokhmgblfnaa.P.Ex
open Go.RowKit Go.Proofs.YtlleokhmgblfnaaW.PrintWords Go.Proofs.Ytlleokhmgblfnaa.H Go.Proofs.Ytlleokhmgblfnaa.M Go.Proofs.Ytlleokhmgblfnaa.P
theorem bind_of {α β : Type} {x : Option α} {a : α} {f : α → Option β} (h : x = some a) : x.bind f = f a := by rw [h]; rfl
section
variable {n : Nat} {E : List S40}
theorem path_spec (h : Pa n n E) (n2 : 2 ≤ n) (nm : n ≤ 1024) : ∃ (K : Nat) (s : List Int), s.length = n ∧ (∀ k, K ≤ k → match_Size.f k n n E = some (((n - 1 : Nat) : Int), 0)) ∧ (∀ k, K ≤ k → match_Free.f k n n E = some (s, [(n : Int) - 1], 0)) := by
 have hcap := h.cap
 have hchk := chk_of_eok nm nm (by omega) h.ok
 obtain ⟨L', R', e1, e2, g⟩ := chk_gok hchk
 have e1 : n = L' := by omega
 subst e1
 have e2 : R' = n := by omega
 subst e2
 obtain ⟨next, m, b, l, r, K1, c, D⟩ := done hchk g
 obtain ⟨next2, m2, b2, l2, r2, next3, m3, b3, l3, r3, K2, c2, c3, hfree⟩ := free_done hchk g
 have s1 : msz R' m = R' - 1 := c.isMax.eq (path_max h n2)
 have s2 : msz R' m2 = R' - 1 := c2.isMax.eq (path_max h n2)
 have s3 : msz R' m3 = R' - 1 := by
  have := c3.isMax.eq c2.isMaxT
  omega
 have hall : cnt R' (tr l2) = R' := cnt_all R' fun v v0 v1 => by
  rw [c2.free_iff v v0 v1, s2]
  refine ⟨pm v, pm_is h v0 v1, by have := pm_size (n := R') v0 v1; omega, ?_⟩
  unfold pm
  rw [if_pos rfl]
  omega
 have hadj := h.adjI
 have hone : ∀ w : Int, 0 ≤ w → w < R' → (tr l3 w = true ↔ w = (R' : Int) - 1) := fun w w0 w1 => by
  rw [c3.free_iff w w0 w1, s3]
  constructor
  ·rintro ⟨M, hM, hs, hw⟩
   apply Classical.byContradiction
   intro hne
   have hlast : ¬ 0 ≤ M ((R' : Int) - 1) := fun h0 => by
    have := (hadj _ _).1 (hM.adj _ (by omega) (by omega) h0)
    omega
   have q1 := cnt_out (fun _ => true) w R' w0 w1 rfl
   rw [cnt_all R' (fun _ _ _ => rfl)] at q1
   have q2 := cnt_out (fun i => true && i != w) ((R' : Int) - 1) R' (by omega) (by omega) (by simp; omega)
   have q3 : cnt R' (has M) ≤ cnt R' (fun i => (true && i != w) && i != (R' : Int) - 1) := cnt_mono R' fun x x0 x1 hx => by
    unfold has at hx
    have hx' : 0 ≤ M x := by simpa using hx
    have a1 : x ≠ w := fun e => hw (e ▸ hx')
    have a2 : x ≠ (R' : Int) - 1 := fun e => hlast (e ▸ hx')
    simp [a1, a2]
   have q4 : cnt R' (has M) = R' - 1 := hs
   omega
  ·rintro rfl
   refine ⟨fun u => if u < (R' : Int) - 1 then u else -1, ⟨fun v v0 v1 hv => ?_, fun v v0 v1 hv => ?_, fun v x v0 v1 x0 x1 hv e => ?_⟩, ?_, ?_⟩
   ·show (if v < (R' : Int) - 1 then v else -1) < R'; split <;> omega
   ·have hv' : 0 ≤ (if v < (R' : Int) - 1 then v else -1) := hv
    show Adj E (if v < (R' : Int) - 1 then v else -1) v
    rw [hadj]
    split at hv'
    ·rename_i hlt; rw [if_pos hlt]; omega
    ·omega
   ·have hv' : 0 ≤ (if v < (R' : Int) - 1 then v else -1) := hv
    have e' : (if v < (R' : Int) - 1 then v else -1) = if x < (R' : Int) - 1 then x else -1 := e
    split at hv' <;> split at e' <;> (try split at e') <;> omega
   ·have := cnt_but R' ((R' : Int) - 1) (by omega) (by omega) (has fun u => if u < (R' : Int) - 1 then u else -1) fun x x0 x1 => by
     unfold has
     rw [decide_eq_true_eq]
     show 0 ≤ (if x < (R' : Int) - 1 then x else -1) ↔ _
     split <;> omega
    unfold msize
    omega
   ·show ¬ 0 ≤ (if (R' : Int) - 1 < (R' : Int) - 1 then (R' : Int) - 1 else -1)
    rw [if_neg (by omega)]; omega
 have hcnt := cnt_one R' ((R' : Int) - 1) (by omega) (by omega) (tr l3) hone
 have hsel := sel_one hcnt (j := (R' : Int) - 1) (by omega) (by omega) ((hone _ (by omega) (by omega)).2 rfl)
 refine ⟨K1 + K2, sel R' (tr l2), by rw [sel_length, hall], fun k hk => ?_, fun k hk => ?_⟩
 ·rw [D.size k (by omega), s1]
 ·rw [hfree k (by omega), hsel]
theorem star_spec (h : Sr n n E) (n2 : 2 ≤ n) (nm : n ≤ 1024) : ∃ K : Nat, ∀ k, K ≤ k → match_Cover.f k n n E = some ([], [0], 0) := by
 have hlen := h.len
 have hchk := chk_of_eok nm nm (by omega) h.ok
 obtain ⟨L', R', e1, e2, g⟩ := chk_gok hchk
 have e1 : n = L' := by omega
 subst e1
 have e2 : R' = n := by omega
 subst e2
 obtain ⟨next, m, b, l, r, K1, c, D⟩ := done hchk g
 have s1 : msz R' m = 1 := c.isMax.eq (star_max h (by omega))
 have hle := c.le_ν
 have hnot := cnt_not (tr l) R'
 have hex : ∃ v : Int, 0 ≤ v ∧ v < R' ∧ tr l v = true := by
  apply Classical.byContradiction
  intro hn
  have := cnt_zero R' (p := tr l) fun x x0 x1 => by
   cases hp : tr l x
   ·rfl
   ·exact absurd ⟨x, x0, x1, hp⟩ hn
  omega
 obtain ⟨v, v0, v1, hv⟩ := hex
 have h0 : tr r 0 = true := c.cov v 0 v0 v1 ((h.adjI _ _).2 ⟨v0, v1, rfl⟩) hv
 have hr : 1 ≤ cnt R' (tr r) := by
  have := cnt_out (tr r) 0 R' (by omega) (by omega) h0
  omega
 have z1 : cnt R' (fun x => !tr l x) = 0 := by omega
 have z2 : cnt R' (tr r) = 1 := by omega
 refine ⟨K1, fun k hk => ?_⟩
 rw [D.cover k hk, sel_nil z1, sel_one z2 (by omega) (by omega) h0]
theorem star_colours (h : Sr n n E) (n2 : 2 ≤ n) (nm : n ≤ 1024) : ∃ O : Int → Int, match_Colours.f n n E = some ((List.range n).map (fun i : Nat => O (i : Int)), 0) ∧ (∀ j : Int, 0 ≤ j → j < n → 0 ≤ O j ∧ O j < n) ∧ ∀ j k : Int, 0 ≤ j → j < n → 0 ≤ k → k < n → j ≠ k → O j ≠ O k := by
 have hlen := h.len
 have hl : E.length = n := by omega
 have hchk := chk_of_eok nm nm (by omega) h.ok
 obtain ⟨L', R', e1, e2, g⟩ := chk_gok hchk
 have e1 : n = L' := by omega
 subst e1
 have e2 : R' = n := by omega
 subst e2
 obtain ⟨M, O, hcol, hc⟩ := colours_spec hchk g
 have hM : M ≤ R' := by
  rcases hc.some_ with h1 | ⟨v, v0, v1, h1⟩ | ⟨v, v0, v1, h1⟩
  ·omega
  ·have := cnt_le (at0 E v) E.length; omega
  ·have := cnt_le (at1 E v) E.length; omega
 have hy : ∀ j : Int, 0 ≤ j → j < R' → fY E j = 0 := fun j j0 j1 => by
  have := (h.adjI (fX E j) (fY E j)).1 ⟨j, j0, by omega, rfl, rfl⟩
  exact this.2.2
 refine ⟨O, by rw [hcol, hl], fun j j0 j1 => ?_, fun j k j0 j1 k0 k1 hne => hc.apart j k j0 (by omega) k0 (by omega) hne (.inr (by rw [hy j j0 j1, hy k k0 k1]))⟩
 have := hc.rng j j0 (by omega)
 omega
end
theorem ex_l1 : ∀ (d : Nat) (v : Int) (Ep Es : List S40), (1024 : Int) = v + d → 0 ≤ v → Pa 1024 v Ep → Sr 1024 v Es →
  ∃ Ep' Es', Pa 1024 1024 Ep' ∧ Sr 1024 1024 Es' ∧ ∀ k, mE.l1 (k + 1 + d) v 1024 1024 Ep 1024 1024 Es = mE.l1 (k + 1) 1024 1024 1024 Ep' 1024 1024 Es' := by
 intro d
 induction d with
 | zero =>
  intro v Ep Es hd hv hp hs
  have e : v = 1024 := by omega
  subst e
  exact ⟨Ep, Es, hp, hs, fun k => rfl⟩
 | succ d ih =>
  intro v Ep Es hd hv hp hs
  have c1 := hp.cap
  have c2 := hs.len
  have hr := hp.row hv (by omega)
  obtain ⟨Ep', Es', r1, r2, r3⟩ := ih (v + 1) _ _ (by omega) (by omega) hr (hs.row hv (by omega))
  refine ⟨Ep', Es', r1, r2, fun k => ?_⟩
  rw [← r3 k, show k + 1 + (d + 1) = (k + 1 + d) + 1 by omega, mE.l1, if_pos (by omega), w64 (x := v + 1) (by omega) (by omega)]
  by_cases a : 1 ≤ v
  ·rw [if_pos (by omega), if_pos (by omega), w64 (x := v - 1) (by omega) (by omega)]
   refine (bind_of rfl).trans ?_
   by_cases b : v < 1023
   ·rw [if_pos b, if_pos (by simp; omega), if_pos (by omega), if_pos a, if_pos (by omega), List.append_assoc]
   ·rw [if_neg b, if_pos (by omega), if_pos a, if_neg (by omega), List.append_nil]
  ·rw [if_neg (by omega)]
   by_cases b : v < 1023
   ·rw [if_pos b, if_pos (by omega), if_pos (by omega), if_neg a, if_pos (by omega), List.nil_append]
   ·omega
theorem ex_l2 (O : Int → Int) (hr : ∀ j : Int, 0 ≤ j → j < 1024 → 0 ≤ O j ∧ O j < 1024) (ha : ∀ j k : Int, 0 ≤ j → j < 1024 → 0 ≤ k → k < 1024 → j ≠ k → O j ≠ O k) (cs : List Int) (hl : cs.length = 1024) (hcs : ∀ j : Int, 0 ≤ j → j < 1024 → rd cs j = O j) (k : Nat) :
  ∀ (d : Nat) (i : Int) (us : List Bool), (1024 : Int) = i + d → 0 ≤ i → us.length = 1024 → (∀ c : Int, 0 ≤ c → tr us c = true → ∃ j : Int, 0 ≤ j ∧ j < i ∧ O j = c) → mE.l2 (k + 1 + d) us cs cs.length i = some true := by
 intro d
 induction d with
 | zero =>
  intro i us hi i0 hu _
  rw [mE.l2, if_neg (by omega)]
 | succ d ih =>
  intro i us hi i0 hu hus
  have h1 := hr i i0 (by omega)
  have hc := hcs i i0 (by omega)
  rw [show k + 1 + (d + 1) = (k + 1 + d) + 1 by omega, mE.l2, if_pos (by omega), if_pos i0, if_pos (by omega), hc, if_neg (by omega), if_neg (by omega), if_pos h1.1, if_pos (by omega), if_neg (fun h => by
   obtain ⟨j, j0, j1, e⟩ := hus (O i) h1.1 h
   exact ha j i j0 (by omega) i0 (by omega) (by omega) e), w64 (by omega) (by omega)]
  refine ih (i + 1) _ (by omega) (by omega) (by rw [List.length_set]; exact hu) fun c c0 hct => ?_
  rw [tr_set us (O i) c true h1.1 (by omega) c0] at hct
  by_cases e : c = O i
  ·exact ⟨i, i0, by omega, e.symm⟩
  ·rw [if_neg e] at hct
   obtain ⟨j, j0, j1, e⟩ := hus c c0 hct
   exact ⟨j, j0, by omega, e⟩
end Go.Proofs.Ytlleokhmgblfnaa.P.Ex
end

section
namespace Go.Proofs.Ytlleokhmgblfnaa.P.Ex
open Go.RowKit Go.Proofs.YtlleokhmgblfnaaW.PrintWords Go.Proofs.Ytlleokhmgblfnaa.H Go.Proofs.Ytlleokhmgblfnaa.M Go.Proofs.Ytlleokhmgblfnaa.P
def tbl : List S62 := [(⟨(⟨(-1), 0, ([] : List (S40))⟩ : S33), 1⟩ : S62), (⟨(⟨0, 1025, ([] : List (S40))⟩ : S33), 1⟩ : S62), (⟨(⟨(-1), 0, (List.replicate 65537 z40)⟩ : S33), 1⟩ : S62), (⟨(⟨0, 0, (List.replicate 65537 z40)⟩ : S33), 3⟩ : S62), (⟨(⟨1, 1, (([(⟨0, 1⟩ : S40)] : List (S40)))⟩ : S33), 1⟩ : S62), (⟨(⟨1, 1, (([(⟨(-1), 0⟩ : S40)] : List (S40)))⟩ : S33), 1⟩ : S62), (⟨(⟨1, 1, (([(⟨0, 0⟩ : S40), (⟨0, 0⟩ : S40)] : List (S40)))⟩ : S33), 5⟩ : S62), (⟨(⟨2, 2, (([(⟨1, 0⟩ : S40), (⟨0, 1⟩ : S40)] : List (S40)))⟩ : S33), 6⟩ : S62), (⟨(⟨2, 2, (([(⟨1, 1⟩ : S40), (⟨1, 0⟩ : S40)] : List (S40)))⟩ : S33), 6⟩ : S62), (⟨(⟨2, 2, (([(⟨1, 1⟩ : S40), (⟨1, 0⟩ : S40), (⟨9, 9⟩ : S40)] : List (S40)))⟩ : S33), 6⟩ : S62), (⟨(⟨2, 2, (([(⟨1, 1⟩ : S40), (⟨1, 2⟩ : S40)] : List (S40)))⟩ : S33), 1⟩ : S62)]
theorem tbl_ok : ∀ i : Nat, i < 11 → ∃ L R E c, rd_T62 tbl (i : Int) = ⟨⟨L, R, E⟩, c⟩ ∧ chk L R (E.map prE) = c ∧ c ≠ 0
 | 0, _ => ⟨_, _, _, _, rfl, by decide, by decide⟩
 | 1, _ => ⟨_, _, _, _, rfl, by decide, by decide⟩
 | 2, _ => ⟨-1, 0, List.replicate 65537 z40, 1, rfl, by unfold chk; rw [if_pos (by omega)], by decide⟩
 | 3, _ => ⟨0, 0, List.replicate 65537 z40, 3, rfl, by unfold chk; rw [if_neg (by omega), if_pos (by rw [List.length_map, List.length_replicate]; omega)], by decide⟩
 | 4, _ => ⟨_, _, _, _, rfl, by decide, by decide⟩
 | 5, _ => ⟨_, _, _, _, rfl, by decide, by decide⟩
 | 6, _ => ⟨_, _, _, _, rfl, by decide, by decide⟩
 | 7, _ => ⟨_, _, _, _, rfl, by decide, by decide⟩
 | 8, _ => ⟨_, _, _, _, rfl, by decide, by decide⟩
 | 9, _ => ⟨_, _, _, _, rfl, by decide, by decide⟩
 | 10, _ => ⟨_, _, _, _, rfl, by decide, by decide⟩
theorem bad_step (k : Nat) (y : List S62) (n i : Int) (h0 : 0 ≤ i) (h1 : i < n) (h2 : i < y.length) (hi : i ≤ 1000000) {L R : Int} {E : List S40} {c : Int} (hy : rd_T62 y i = ⟨⟨L, R, E⟩, c⟩) (hk : chk L R (E.map prE) = c) (hc : c ≠ 0) :
  mE.l0 (k + 2) y n i = mE.l0 (k + 1) y n (i + 1) := by
 have hm : match_Check.f L R E = some c := by unfold match_Check.f; rw [hk]
 have hmax : ∀ k, match_Maximum.f k L R E = some ([], c) := fun k => by
  unfold match_Maximum.f; rw [hm]; simp only [Option.bind_some]; rw [if_neg hc]
 have hsize : ∀ k, match_Size.f (k + 1) L R E = some (0, c) := fun k => by
  unfold match_Size.f; rw [hmax]; simp only [Option.bind_some]; rw [match_Size.l0, if_neg (by simp)]
 have hfree : ∀ k, match_Free.f k L R E = some ([], [], c) := fun k => by
  unfold match_Free.f; rw [hm]; simp only [Option.bind_some]; rw [if_neg hc]
 have hcov : ∀ k, match_Cover.f k L R E = some ([], [], c) := fun k => by
  unfold match_Cover.f; rw [hm]; simp only [Option.bind_some]; rw [if_neg hc]
 have hhall : ∀ k, match_Hall.f k L R E = some ([], [], c) := fun k => by
  unfold match_Hall.f; rw [hm]; simp only [Option.bind_some]; rw [if_neg hc]
 have hver : match_Verify.f L R E (List.replicate 7 0) = some (false, c) := by
  unfold match_Verify.f verF
  rw [if_pos (by decide), hk, if_neg hc]
 have hcol : match_Colours.f L R E = some ([], c) := by
  unfold match_Colours.f colF
  rw [hk, if_neg hc]
 rw [show k + 2 = (k + 1) + 1 from rfl, mE.l0, if_pos h1, if_pos h0, if_pos h2, hy, w64 (by omega) (by omega)]
 refine (bind_of (hsize k)).trans ?_
 refine (bind_of (hmax _)).trans ?_
 refine (if_pos (by decide)).trans ?_
 refine (bind_of hver).trans ?_
 refine (bind_of (hcov _)).trans ?_
 refine (bind_of (hfree _)).trans ?_
 refine (bind_of (hhall _)).trans ?_
 refine (bind_of hcol).trans ?_
 refine (bind_of hm).trans ?_
 exact (if_pos rfl).trans ((if_pos rfl).trans ((if_pos rfl).trans ((if_pos rfl).trans ((if_pos rfl).trans ((if_pos rfl).trans ((if_pos rfl).trans (if_pos rfl)))))))
theorem tbl_run (k : Nat) : ∀ (d i : Nat), i + d = 11 → mE.l0 (k + 1 + d) tbl 11 i = mE.l0 (k + 1) tbl 11 11
 | 0, i, h => by
  have : i = 11 := by omega
  subst this
  rfl
 | d + 1, i, h => by
  obtain ⟨L, R, E, c, h1, h2, h3⟩ := tbl_ok i (by omega)
  have hl : tbl.length = 11 := rfl
  rw [show k + 1 + (d + 1) = (k + d) + 2 by omega, bad_step (k + d) tbl 11 i (by omega) (by omega) (by rw [hl]; omega) (by omega) h1 h2 h3, show ((i : Int) + 1) = ((i + 1 : Nat) : Int) by omega, show k + d + 1 = k + 1 + d by omega]
  exact tbl_run k d (i + 1) (by omega)
theorem nil_ok (L R : Nat) (hL : L ≤ 1024) (hR : R ≤ 1024) : chk L R (([] : List S40).map prE) = 0 ∧ GOK L R [] := by
 have h := chk_of_eok (E := []) hL hR (by simp) ⟨fun e he => (List.not_mem_nil he).elim, List.Pairwise.nil⟩
 obtain ⟨L', R', e1, e2, g⟩ := chk_gok h
 have e1 : L = L' := by omega
 have e2 : R = R' := by omega
 subst e1 e2
 exact ⟨h, g⟩
theorem nil_adj (v w : Int) : ¬ Adj [] v w := fun h => List.not_mem_nil (adj_mem.1 h)
theorem nil_all {L R : Nat} {A : Int → Int → Prop} (hA : ∀ v w, ¬ A v w) {next : List (List Int)} {m b : List Int} {l r : List Bool} (c : Core L R A next m b l r) : (∀ v : Int, 0 ≤ v → v < L → tr l v = true) ∧ ∀ w : Int, 0 ≤ w → w < R → tr r w = false := by
 have nl := c.nl
 refine ⟨fun v v0 v1 => c.rs.fr v v0 (by omega) ?_, fun w w0 w1 => ?_⟩
 ·apply Classical.byContradiction
  intro h
  have := (c.hole.mm v v0 (by omega) (by omega)).2.1
  exact hA _ _ ((c.adj v _ v0 v1).1 this)
 ·cases hw : tr r w
  ·rfl
  ·obtain ⟨x, x0, x1, _, h⟩ := c.rs.ri w w0 w1 hw
   exact absurd ((c.adj x w x0 (by omega)).1 h) (hA _ _)
theorem none_spec : ∃ K : Nat, (∀ k, K ≤ k → match_Maximum.f k 0 0 [] = some ([], 0)) ∧ (∀ k, K ≤ k → match_Hall.f k 0 0 [] = some ([], [], 4)) := by
 obtain ⟨hk, g⟩ := nil_ok 0 0 (by omega) (by omega)
 obtain ⟨next, m, b, l, r, K, c, D⟩ := done hk g
 have hm : m = [] := List.eq_nil_of_length_eq_zero (by have := c.hole.lm; have := c.nl; omega)
 refine ⟨K, fun k h => ?_, fun k h => ?_⟩
 ·have := D.max k h
  rw [hm] at this
  exact this
 ·have := D.hall k h
  rw [if_pos (show cnt 0 (tr l) = 0 from rfl)] at this
  exact this
theorem two_spec : ∃ K : Nat, (∀ k, K ≤ k → match_Free.f k 2 1 [] = some ([0, 1], [0], 0)) ∧ (∀ k, K ≤ k → match_Hall.f k 2 1 [] = some ([0, 1], [], 0)) := by
 obtain ⟨hk, g⟩ := nil_ok 2 1 (by omega) (by omega)
 obtain ⟨next, m, b, l, r, K, c, D⟩ := done hk g
 obtain ⟨next2, m2, b2, l2, r2, next3, m3, b3, l3, r3, K2, c2, c3, hfree⟩ := free_done hk g
 obtain ⟨a1, a2⟩ := nil_all nil_adj c
 obtain ⟨d1, _⟩ := nil_all nil_adj c2
 obtain ⟨e1, _⟩ := nil_all (fun v w => nil_adj w v) c3
 have sel2 : ∀ p : Int → Bool, p 0 = true → p 1 = true → sel 2 p = [0, 1] := fun p h0 h1 => by
  have h1' : p ((1 : Nat) : Int) = true := h1
  have h0' : p ((0 : Nat) : Int) = true := h0
  unfold sel sel sel
  rw [if_pos h1', if_pos h0']
  rfl
 have sel1 : ∀ p : Int → Bool, p 0 = true → sel 1 p = [0] := fun p h0 => by
  have h0' : p ((0 : Nat) : Int) = true := h0
  unfold sel sel
  rw [if_pos h0']
  rfl
 have sel0 : ∀ p : Int → Bool, p 0 = false → sel 1 p = [] := fun p h0 => by
  unfold sel sel
  rw [if_neg (by rw [show ((0 : Nat) : Int) = 0 from rfl, h0]; simp)]
 have q0 := a1 0 (by omega) (by omega)
 have q1 := a1 1 (by omega) (by omega)
 refine ⟨K + K2, fun k h => ?_, fun k h => ?_⟩
 ·have := hfree k (by omega)
  rw [sel2 _ (d1 0 (by omega) (by omega)) (d1 1 (by omega) (by omega)), sel1 _ (e1 0 (by omega) (by omega))] at this
  exact this
 ·have := D.hall k (by omega)
  have hc : cnt 2 (tr l) = 2 := cnt_all 2 fun v v0 v1 => a1 v v0 v1
  rw [if_neg (by rw [hc]; decide), sel2 _ q0 q1, sel0 _ (a2 0 (by omega) (by omega))] at this
  exact this
theorem col_none : match_Colours.f 0 0 [] = some ([], 0) := by decide +kernel
theorem ver1 : match_Verify.f 3 2 [⟨0, 0⟩, ⟨1, 0⟩, ⟨2, 1⟩] [-1, 0, 1] = some (true, 0) := by decide +kernel
theorem ver2 : match_Verify.f 3 2 [⟨0, 0⟩, ⟨1, 0⟩, ⟨2, 1⟩] [0, 0, 1] = some (false, 0) := by decide +kernel
theorem ver3 : match_Verify.f 3 2 [⟨0, 0⟩, ⟨1, 0⟩, ⟨2, 1⟩] [-1, 1, -1] = some (false, 0) := by decide +kernel
theorem ver4 : match_Verify.f 3 2 [⟨0, 0⟩, ⟨1, 0⟩, ⟨2, 1⟩] [-2, 0, 1] = some (false, 0) := by decide +kernel
theorem ver5 : match_Verify.f 3 2 [⟨0, 0⟩, ⟨1, 0⟩, ⟨2, 1⟩] [0, -1] = some (false, 10) := by decide +kernel
theorem l0_end (k : Nat) (y : List S62) (hm : match_Maximum.f k 0 0 [] = some ([], 0)) (hh : match_Hall.f k 0 0 [] = some ([], [], 4)) (hf : match_Free.f k 2 1 [] = some ([0, 1], [0], 0)) (hg : match_Hall.f k 2 1 [] = some ([0, 1], [], 0))
  (hs : torusref01_Same.f k [0, 1] [0, 1] = some true) (hs1 : torusref01_Same.f k [0] [0] = some true) (hj : mE.j1 k false = some true) : mE.l0 (k + 1) y 11 11 = some true := by
 have hex : toruslaw30_ex.f = some (3, 2, [⟨0, 0⟩, ⟨1, 0⟩, ⟨2, 1⟩]) := rfl
 rw [mE.l0, if_neg (by omega)]
 refine (bind_of hm).trans ?_
 refine (bind_of hh).trans ?_
 refine (bind_of col_none).trans ?_
 refine (bind_of hf).trans ?_
 refine (bind_of hg).trans ?_
 refine (bind_of hex).trans ?_
 refine (bind_of ver1).trans ?_
 refine (bind_of hex).trans ?_
 refine (bind_of ver2).trans ?_
 refine (bind_of hex).trans ?_
 refine (bind_of ver3).trans ?_
 refine (bind_of hex).trans ?_
 refine (bind_of ver4).trans ?_
 refine (bind_of hex).trans ?_
 refine (bind_of ver5).trans ?_
 refine (if_pos rfl).trans ?_
 refine (if_pos rfl).trans ?_
 refine (if_pos rfl).trans ?_
 refine (if_pos rfl).trans ?_
 refine (if_pos rfl).trans ?_
 refine (bind_of hs).trans ?_
 refine (if_pos rfl).trans ?_
 refine (bind_of hs1).trans ?_
 refine (if_pos rfl).trans ?_
 refine (if_pos rfl).trans ?_
 refine (bind_of hs).trans ?_
 refine (if_pos rfl).trans ?_
 refine (if_pos rfl).trans ?_
 refine (if_pos rfl).trans ?_
 refine (if_pos rfl).trans ?_
 refine (if_pos rfl).trans ?_
 refine (if_neg (by decide)).trans ?_
 refine (if_pos rfl).trans ?_
 refine (if_neg (by decide)).trans ?_
 refine (if_pos rfl).trans ?_
 refine (if_neg (by decide)).trans ?_
 refine (if_pos rfl).trans ?_
 exact hj
theorem l1_end (k : Nat) (Ep Es : List S40) (s z : List Int) (hz : match_Size.f k 1024 1024 Ep = some (1023, 0)) (hs : s.length = 1024) (hf : match_Free.f k 1024 1024 Ep = some (s, [1023], 0)) (hc : match_Cover.f k 1024 1024 Es = some ([], [0], 0))
  (hk : match_Colours.f 1024 1024 Es = some (z, 0)) (hl : z.length = 1024) (h1 : torusref01_Same.f k [0] [0] = some true) (hj : mE.j3 k z false = some true) : mE.l1 (k + 1) 1024 1024 1024 Ep 1024 1024 Es = some true := by
 rw [mE.l1, if_neg (by omega)]
 refine (bind_of hz).trans ?_
 refine (bind_of hf).trans ?_
 refine (bind_of hc).trans ?_
 refine (bind_of hk).trans ?_
 refine (if_pos rfl).trans ?_
 refine (if_pos rfl).trans ?_
 refine (if_pos (by show (s.length : Int) = 1024; omega)).trans ?_
 refine (if_pos rfl).trans ?_
 refine (if_pos (show (0 : Int) < (([1023] : List Int).length : Int) by decide)).trans ?_
 refine (if_pos rfl).trans ?_
 refine (if_pos rfl).trans ?_
 refine (if_pos rfl).trans ?_
 refine (bind_of h1).trans ?_
 refine (if_pos rfl).trans ?_
 refine (if_pos rfl).trans ?_
 refine (if_pos rfl).trans ?_
 rw [show ((z.length : Int) != 1024) = false by rw [hl]; rfl]
 exact hj
theorem examples_true : ∃ k, mE.f k = some true := by
 obtain ⟨K1, a1, a2⟩ := none_spec
 obtain ⟨K2, b1, b2⟩ := two_spec
 obtain ⟨Ep, Es, hp, hs, hrun⟩ := ex_l1 1024 0 [] [] (by omega) (by omega) pa_start sr_start
 obtain ⟨K3, s, c0, c1, c2⟩ := path_spec hp (by omega) (by omega)
 obtain ⟨K4, d1⟩ := star_spec hs (by omega) (by omega)
 obtain ⟨O, e1, e2, e3⟩ := star_colours hs (by omega) (by omega)
 obtain ⟨cs, hcs⟩ : ∃ cs : List Int, cs = (List.range 1024).map fun i : Nat => O (i : Int) := ⟨_, rfl⟩
 have hcl : cs.length = 1024 := by rw [hcs, List.length_map, List.length_range]
 have hrd : ∀ j : Int, 0 ≤ j → j < 1024 → rd cs j = O j := fun j j0 j1 => by
  rw [hcs]
  unfold rd
  rw [List.getD_eq_getElem?_getD, List.getElem?_map, List.getElem?_range (by omega)]
  show O ((j.toNat : Nat) : Int) = O j
  rw [show ((j.toNat : Nat) : Int) = j by omega]
 rw [← hcs] at e1
 obtain ⟨t, ht⟩ : ∃ t, t = K1 + K2 + K3 + K4 + 10 := ⟨_, rfl⟩
 have hl2 := ex_l2 O e2 e3 cs hcl hrd t 1024 0 (List.replicate 1024 false) (by omega) (by omega) (by rw [List.length_replicate]) (fun c _ h => by rw [tr_rep] at h; cases h)
 obtain ⟨u2, hu2⟩ : ∃ u, u = t + 1 + 1024 := ⟨_, rfl⟩
 rw [← hu2] at hl2
 obtain ⟨u3, hu3⟩ : ∃ u, u = u2 + 1 := ⟨_, rfl⟩
 have hj3 : mE.j3 u3 cs false = some true := by
  rw [hu3, mE.j3, if_neg (by simp), if_pos (by decide)]
  exact hl2
 have hl1 := l1_end u3 Ep Es s cs (c1 u3 (by omega)) c0 (c2 u3 (by omega)) (d1 u3 (by omega)) e1 hcl (same_self [0] (by simp) u3 (by simp; omega)) hj3
 have hr := hrun u3
 rw [hl1] at hr
 obtain ⟨u4, hu4⟩ : ∃ u, u = u3 + 1 + 1024 := ⟨_, rfl⟩
 rw [← hu4] at hr
 obtain ⟨u5, hu5⟩ : ∃ u, u = u4 + 1 := ⟨_, rfl⟩
 have hj1 : mE.j1 u5 false = some true := by
  rw [hu5, mE.j1, if_neg (by simp)]
  exact hr
 have hend := l0_end u5 tbl (a1 u5 (by omega)) (a2 u5 (by omega)) (b1 u5 (by omega)) (b2 u5 (by omega)) (same_self [0, 1] (by simp) u5 (by simp; omega)) (same_self [0] (by simp) u5 (by simp; omega)) hj1
 have htb := tbl_run u5 11 0 (by omega)
 rw [hend] at htb
 refine ⟨u5 + 1 + 11, ?_⟩
 unfold mE.f
 refine (bind_of (show toruslaw30_awake.f = some true from rfl)).trans ?_
 refine (if_pos rfl).trans ?_
 refine (if_pos (by decide)).trans ?_
 refine (bind_of rfl).trans ?_
 exact htb
end Go.Proofs.Ytlleokhmgblfnaa.P.Ex
end
