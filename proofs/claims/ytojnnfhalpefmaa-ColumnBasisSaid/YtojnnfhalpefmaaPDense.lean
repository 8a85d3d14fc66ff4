/- The law ColumnDense on what its functions compute. -/
import Derived.Test.YtojnnfhalpefmaaPSpec
import Derived.Test.YtojnnfhalpefmaaPDen
import Derived.Test.YtojnnfhalpefmaaMx25
set_option linter.unusedVariables false
namespace Go.Proofs.Ytojnnfhalpefmaa.P
open Go.RowKit Go.Proofs.YtojnnfhalpefmaaW.PrintWords Go.Proofs.Ytojnnfhalpefmaa.M Go.Proofs.Ytojnnfhalpefmaa.H
theorem denS_get {p : Int} : ∀ (l : List S45) (v : List Int) (last : Int) (r : Nat), Up p last l → -1 ≤ last → (∀ t ∈ l, t.f0 < (v.length : Int)) → r < v.length → (denS l v).getD r 0 = if cf l r = 0 then v.getD r 0 else cf l r
  | [], v, last, r, hu, h0, hv, hr => by simp [denS, cf]
  | t :: l, v, last, r, hu, h0, hv, hr => by
    obtain ⟨h1, h2, h3, h4, h5⟩ := hu
    have hlt := hv t (by simp)
    rw [denS, denS_get l _ t.f0 r h5 (by omega) (fun s hs => by rw [List.length_set]; exact hv s (by simp [hs])) (by rw [List.length_set]; exact hr)]
    by_cases e : t.f0 = (r : Int)
    · rw [cf_low h5 (by omega), if_pos rfl, cf_here e, if_neg (by omega)]
      have : t.f0.toNat = r := by omega
      rw [this, List.getD_eq_getElem?_getD, List.getElem?_set_self (by omega)]
      rfl
    · rw [cf_there e]
      have : ¬ t.f0.toNat = r := by omega
      rw [List.getD_eq_getElem?_getD, List.getElem?_set_ne this, ← List.getD_eq_getElem?_getD]
theorem coef_col_l0 (l : List S45) (hl : l.length < 4611686018427387904) (r : Int) : ∀ (n i : Nat) (k : Nat), i + n = l.length → n + 1 ≤ k → column_Coef.l0 k r l (l.length : Int) i = some (cf (l.drop i) r)
  | 0, i, k, hi, hk => by
    obtain ⟨k, rfl, _⟩ := ex_succ (show 0 + 1 ≤ k by omega)
    rw [column_Coef.l0, if_neg (by omega), List.drop_of_length_le (by omega), cf]
  | n + 1, i, k, hi, hk => by
    obtain ⟨k, rfl, _⟩ := ex_succ (show 0 + 1 ≤ k by omega)
    have hlt : i < l.length := by omega
    have hw : wrap64 ((i : Int) + 1) = ((i + 1 : Nat) : Int) := by rw [w64 (by omega) (by omega)]; omega
    rw [column_Coef.l0, if_pos (by omega), if_pos (by omega), if_pos (by omega), rdT_nat hlt, List.drop_eq_getElem_cons hlt, cf, hw]
    by_cases h : l[i].f0 = r
    · rw [if_pos h, if_pos h]
    · rw [if_neg h, if_neg h]
      exact coef_col_l0 l hl r n (i + 1) k (by omega) (by omega)
theorem coef_col (l : List S45) (hl : l.length < 4611686018427387904) (r : Int) (k : Nat) (hk : l.length + 1 ≤ k) : column_Coef.f k l r = some (cf l r) := by
  unfold column_Coef.f
  exact coef_col_l0 l hl r l.length 0 k (by omega) hk
theorem last_mem {l : List S45} (h : 0 < l.length) : rd_T45 l ((l.length : Int) - 1) ∈ l := by
  rw [show (l.length : Int) - 1 = ((l.length - 1 : Nat) : Int) by omega, rdT_nat (by omega)]
  exact List.getElem_mem _
/-- The entries of a column of rows below n. -/
theorem dense_ok {p n : Int} (hp : primeB p = true) {a : List S45} (h : Col p n a) (hn : 0 ≤ n) (hn2 : n ≤ 1024) : denseB p a n = (denS a (List.replicate n.toNat 0), 0) := by
  unfold denseB
  rw [if_pos (h.check hp), if_neg (by
    intro hh
    rcases hh with hh | hh | hh
    · omega
    · omega
    · have := h.lt _ (last_mem hh.1)
      omega)]
theorem dense_get {p n : Int} {a : List S45} (h : Col p n a) (r : Nat) (hr : r < n.toNat) : (denS a (List.replicate n.toNat 0)).getD r 0 = cf a r := by
  rw [denS_get a _ (-1) r h.up (Int.le_refl _) (fun t ht => by have := h.lt t ht; rw [List.length_replicate]; omega) (by rw [List.length_replicate]; exact hr)]
  split
  · rename_i e
    rw [e]
    simp [List.getD_eq_getElem?_getD, hr]
  · rfl
theorem mem_getD {l : List Int} {x : Int} (h : x ∈ l) : ∃ i, i < l.length ∧ l.getD i 0 = x := by
  obtain ⟨i, hi, rfl⟩ := List.mem_iff_getElem.1 h
  exact ⟨i, hi, by simp [List.getD_eq_getElem?_getD, hi]⟩
/-- A column is the sparse form of its entries. -/
theorem sparse_dense {p n : Int} (hp : primeB p = true) {a : List S45} (h : Col p n a) (hn : 0 ≤ n) (hn2 : n ≤ 1024) : spS 0 ((denS a (List.replicate n.toNat 0)).map (modB p)) = a := by
  obtain ⟨hp1, hp2⟩ := primeB_ge hp
  have hl : (denS a (List.replicate n.toNat 0)).length = n.toNat := by rw [denS_len, List.length_replicate]
  have hmap : (denS a (List.replicate n.toNat 0)).map (modB p) = denS a (List.replicate n.toNat 0) := by
    have : (denS a (List.replicate n.toNat 0)).map (modB p) = (denS a (List.replicate n.toNat 0)).map id := List.map_congr_left (fun x hx => by
      obtain ⟨i, hi, rfl⟩ := mem_getD hx
      rw [hl] at hi
      rw [dense_get h i hi]
      have := cf_range (show 0 < p by omega) (i : Int) h.up
      unfold modB
      rw [if_pos hp]
      exact Int.emod_eq_of_lt this.1 this.2)
    rw [this, List.map_id]
  rw [hmap]
  have hr : ∀ x ∈ denS a (List.replicate n.toNat 0), 0 ≤ x ∧ x < p := fun x hx => by
    obtain ⟨i, hi, rfl⟩ := mem_getD hx
    rw [hl] at hi
    rw [dense_get h i hi]
    exact cf_range (by omega) _ h.up
  have us := spS_up (denS a (List.replicate n.toNat 0)) 0 hr (by omega)
  refine up_ext us.1 h.up (fun r => ?_)
  by_cases h1 : 0 ≤ r
  · obtain ⟨m, rfl⟩ : ∃ m : Nat, r = (m : Int) := ⟨r.toNat, by omega⟩
    rw [cf_spS, if_pos (Nat.zero_le _), Nat.sub_zero]
    by_cases h2 : m < n.toNat
    · exact dense_get h m h2
    · have : cf a (m : Int) = 0 := by
        by_cases h3 : cf a (m : Int) = 0
        · exact h3
        · obtain ⟨t, ht, e⟩ := cf_pos h3
          have := h.lt t ht
          omega
      rw [this, List.getD_eq_getElem?_getD, List.getElem?_eq_none (by omega)]
      rfl
  · rw [cf_low us.1 (by omega), cf_low h.up (by omega)]
theorem modB_range {p : Int} (hp : primeB p = true) (x : Int) : 0 ≤ modB p x ∧ modB p x < p := by
  obtain ⟨hp1, hp2⟩ := primeB_ge hp
  unfold modB
  rw [if_pos hp]
  exact ⟨Int.emod_nonneg _ (by omega), Int.emod_lt_of_pos _ (by omega)⟩
theorem dense_loop {p : Int} (hp : primeB p = true) (v : List Int) (hv : v.length ≤ 60) (w : List S45) (y : List Int) (hw : w.length ≤ 60) (hy : y.length = v.length) (h1 : ∀ i : Nat, i < v.length → y.getD i 0 = modB p (v.getD i 0)) (h2 : ∀ i : Nat, i < v.length → cf w i = y.getD i 0) :
    ∀ (n i : Nat) (k : Nat), i + n = v.length → n + 500 ≤ k → toruslaw04_ColumnDense.l0 k v p w y i = some true
  | 0, i, k, hi, hk => by
    obtain ⟨k, rfl, _⟩ := ex_succ (show 0 + 1 ≤ k by omega)
    rw [toruslaw04_ColumnDense.l0, if_neg (by omega)]
    rfl
  | n + 1, i, k, hi, hk => by
    obtain ⟨k, rfl, _⟩ := ex_succ (show 0 + 1 ≤ k by omega)
    have hlt : i < v.length := by omega
    have hlt2 : i < y.length := by omega
    have hw' : wrap64 ((i : Int) + 1) = ((i + 1 : Nat) : Int) := by rw [w64 (by omega) (by omega)]; omega
    have e1 := h1 i hlt
    have e2 := h2 i hlt
    have g1 : y.getD i 0 = y[i] := by simp [List.getD_eq_getElem?_getD, hlt2]
    have g2 : v.getD i 0 = v[i] := by simp [List.getD_eq_getElem?_getD, hlt]
    rw [g1] at e1 e2
    rw [g2] at e1
    rw [toruslaw04_ColumnDense.l0, if_pos (by omega), if_pos (by omega), if_pos (by omega), rd_nat hlt, rd_nat hlt2, bind_of (mod_ref p _ k (by omega)), if_pos e1, bind_of (coef_col w (by omega) _ k (by omega)), if_pos e2, hw']
    exact dense_loop hp v hv w y hw hy h1 h2 n (i + 1) k (by omega) (by omega)
theorem denseLaw_true (a0 : Int) (l1 : List S45) (h1 : l1.length < 10000000000000) (a2 : Int) (h2 : 0 ≤ a2 ∧ a2 ≤ 255) (l3 : List Int) (h3 : l3.length < 1000000000000000) : ∃ k, toruslaw04_ColumnDense.f k a0 l1 a2 l3 = some true := by
  have haw : toruslaw04_awake.f = some true := rfl
  by_cases hl3 : (l3.length : Int) > 60
  · refine ⟨0, ?_⟩
    unfold toruslaw04_ColumnDense.f
    rw [if_pos hl3, bind_of haw]
  · obtain ⟨p, hp, hf⟩ := field_spec a0
    obtain ⟨a, ca, fa⟩ := fit_spec hp l1 (by omega)
    obtain ⟨hp1, hp2⟩ := primeB_ge hp
    obtain ⟨k, hk⟩ : ∃ k, k = l1.length + 5000 := ⟨_, rfl⟩
    have la := ca.len (by decide)
    have ht := Int.emod_nonneg a2 (show (201 : Int) ≠ 0 by decide)
    have ht2 := Int.emod_lt_of_pos a2 (show (0 : Int) < 201 by decide)
    obtain ⟨n, hn⟩ : ∃ n, n = 10 + a2 % 201 := ⟨_, rfl⟩
    have hn0 : wrap64 (10 + wrap64 (Int.tmod a2 201)) = n := by
      rw [Int.tmod_eq_emod_of_nonneg h2.1, w64 (x := a2 % 201) (by omega) (by omega), w64 (by omega) (by omega), hn]
    have can : Col p n a := ⟨ca.up, fun t ht => by have := ca.lt t ht; omega⟩
    have hd : column_Dense.f k p a n = some (denS a (List.replicate n.toNat 0), 0) := by rw [dense_col p a (by omega) n k (by omega), dense_ok hp can (by omega) (by omega)]
    have hdl : (denS a (List.replicate n.toNat 0)).length = n.toNat := by rw [denS_len, List.length_replicate]
    have ho : column_Of.f k p (denS a (List.replicate n.toNat 0)) = some (a, 0) := by
      rw [of_col p _ k (by omega), ofB, if_pos hp, if_neg (by omega), sparse_dense hp can (by omega) (by omega)]
    obtain ⟨w, hw⟩ : ∃ w, w = spS 0 (l3.map (modB p)) := ⟨_, rfl⟩
    have ho2 : column_Of.f k p l3 = some (w, 0) := by
      rw [of_col p _ k (by omega), ofB, if_pos hp, if_neg (by omega), hw]
    have uw := spS_up (p := p) (l3.map (modB p)) 0 (fun x hx => by
      obtain ⟨y, _, rfl⟩ := List.mem_map.1 hx
      exact modB_range hp y) (by simp; omega)
    rw [← hw] at uw
    have cw : Col p (l3.length : Int) w := ⟨uw.1, fun t ht => by have := uw.2 t ht; simp at this; omega⟩
    have lw := cw.len (by omega)
    have hd2 : column_Dense.f k p w (l3.length : Int) = some (denS w (List.replicate l3.length 0), 0) := by rw [dense_col p w (by omega) _ k (by omega), dense_ok hp cw (by omega) (by omega), Int.toNat_natCast]
    obtain ⟨y, hy⟩ : ∃ y, y = denS w (List.replicate l3.length 0) := ⟨_, rfl⟩
    have hyl : y.length = l3.length := by rw [hy, denS_len, List.length_replicate]
    have q2 : ∀ i : Nat, i < l3.length → cf w i = y.getD i 0 := fun i hi => by
      have := dense_get cw i (by omega)
      rw [Int.toNat_natCast] at this
      rw [hy, this]
    have q1 : ∀ i : Nat, i < l3.length → y.getD i 0 = modB p (l3.getD i 0) := fun i hi => by
      rw [← q2 i hi, hw, cf_spS, if_pos (Nat.zero_le _), Nat.sub_zero]
      simp [List.getD_eq_getElem?_getD, hi]
    rw [← hy] at hd2
    refine ⟨k, ?_⟩
    unfold toruslaw04_ColumnDense.f
    rw [if_neg hl3, hn0]
    refine (bind_of (hf k (by omega))).trans ?_
    refine (bind_of (fa k (by omega))).trans ?_
    refine (bind_of hd).trans ?_
    refine (bind_of ho).trans ?_
    refine (bind_of ho2).trans ?_
    refine (bind_of hd2).trans ?_
    refine (if_pos rfl).trans ?_
    refine (if_pos (by show ((denS a (List.replicate n.toNat 0)).length : Int) = n; omega)).trans ?_
    have his : toruslaw04_is.f k a 0 a = some true := by
      unfold toruslaw04_is.f
      rw [bind_of (same_refl a (by omega) k (by omega)), if_pos rfl]
      rfl
    refine (bind_of his).trans ?_
    refine (if_pos rfl).trans ?_
    refine (if_pos rfl).trans ?_
    refine (if_pos rfl).trans ?_
    obtain ⟨k1, rfl⟩ : ∃ k1, k = k1 + 1 := ⟨k - 1, by omega⟩
    have hne : ((y.length : Int) != (l3.length : Int)) = false := by simp [hyl]
    show toruslaw04_ColumnDense.j0 (k1 + 1) l3 p w y ((y.length : Int) != (l3.length : Int)) = some true
    rw [hne, toruslaw04_ColumnDense.j0, if_neg (by decide)]
    exact dense_loop hp l3 (by omega) w y (by omega) hyl q1 q2 l3.length 0 k1 (by omega) (by omega)
end Go.Proofs.Ytojnnfhalpefmaa.P
