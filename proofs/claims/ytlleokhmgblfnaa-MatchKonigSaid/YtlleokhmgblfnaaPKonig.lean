/- The law MatchKonig on what its functions compute. -/
import Derived.Test.YtlleokhmgblfnaaPFit
import Derived.Test.YtlleokhmgblfnaaPFree
import Derived.Test.YtlleokhmgblfnaaPLow
import Derived.Test.YtlleokhmgblfnaaMx22
set_option linter.unusedVariables false
namespace Go.Proofs.Ytlleokhmgblfnaa.P
open Go.RowKit Go.Proofs.YtlleokhmgblfnaaW.PrintWords Go.Proofs.Ytlleokhmgblfnaa.H Go.Proofs.Ytlleokhmgblfnaa.M

theorem count_spec (m : List Int) (hm : m.length ≤ 1000000) (hlow : Low m) : ∀ k, m.length < k → toruslaw30_count.f k m = some ((msz m.length m : Nat) : Int) := by
  have key : ∀ (d : Nat) (i : Int), (m.length : Int) = i + d → 0 ≤ i → ∀ k, d < k → toruslaw30_count.l0 k (cnt i.toNat (fun x => decide (0 ≤ rd m x)) : Nat) m m.length i = some ((msz m.length m : Nat) : Int) := by
    intro d
    induction d with
    | zero =>
      intro i hd hi k hk
      obtain ⟨k, rfl⟩ := fuel hk
      have : i = (m.length : Int) := by omega
      subst this
      rw [toruslaw30_count.l0, if_neg (by omega)]
      rfl
    | succ d ih =>
      intro i hd hi k hk
      obtain ⟨k, rfl⟩ := fuel hk
      have ei : (i + 1).toNat = i.toNat + 1 := by omega
      have ec : ((i.toNat : Nat) : Int) = i := by omega
      have := ih (i + 1) (by omega) (by omega) k (by omega)
      rw [ei, cnt_succ, ec] at this
      have hle := cnt_le (fun x => decide (0 ≤ rd m x)) i.toNat
      have hl := hlow _ (rd_mem hi (show i < m.length by omega))
      rw [toruslaw30_count.l0, if_pos (by omega), if_pos hi, if_pos (by omega), w64 (x := i + 1) (by omega) (by omega)]
      by_cases h : 0 ≤ rd m i
      · rw [if_neg (by omega), w64 (by omega) (by omega), ← this]
        simp [h]
      · rw [if_pos (by omega), ← this]
        simp [h]
  exact key m.length 0 (by omega) (by omega)
/-- A matching given by a list passes Verify. -/
theorem verGo_true {L R : Nat} {E : List S40} {m : List Int} (hl : m.length = L) (hlow : Low m) (hM : IsM L R (Adj E) (rd m)) :
    ∀ (d : Nat) (v : Int) (U : Int → Bool), (L : Int) = v + d → 0 ≤ v → (∀ x : Int, v ≤ x → x < L → 0 ≤ rd m x → U (rd m x) = false) → verGo (E.map prE) v U (m.drop v.toNat) = true := by
  intro d
  induction d with
  | zero =>
    intro v U hd hv hU
    rw [List.drop_eq_nil_of_le (by omega)]
    rfl
  | succ d ih =>
    intro v U hd hv hU
    have hdr : m.drop v.toNat = rd m v :: m.drop (v + 1).toNat := by
      rw [List.drop_eq_getElem_cons (by omega), show (v + 1).toNat = v.toNat + 1 by omega]
      unfold rd
      rw [List.getD_eq_getElem?_getD, List.getElem?_eq_getElem (by omega)]
      rfl
    have hlo := hlow _ (rd_mem hv (show v < m.length by omega))
    rw [hdr, verGo]
    by_cases h : rd m v = -1
    · rw [if_pos h]
      exact ih (v + 1) U (by omega) (by omega) (fun x a b c => hU x (by omega) b c)
    · have h0 : 0 ≤ rd m v := by omega
      have ha := adj_mem.1 (hM.adj v hv (by omega) h0)
      have hin : (v, rd m v) ∈ E.map prE := List.mem_map.2 ⟨_, ha, rfl⟩
      rw [if_neg h, if_pos ⟨hin, hU v (Int.le_refl _) (by omega) h0⟩]
      refine ih (v + 1) _ (by omega) (by omega) (fun x a b c => ?_)
      have ne : rd m x ≠ rd m v := fun e => by
        have := hM.inj x v (by omega) b hv (by omega) c e
        omega
      show (U (rd m x) || decide (rd m x = rd m v)) = false
      rw [hU x (by omega) b c]
      simp [ne]
theorem konig_l0 {L R : Nat} {E : List S40} (g : GOK L R E) (a b : List Int) (ha : a.length ≤ 1024) (hb : b.length ≤ 1024) (hcov : ∀ v w : Int, Adj E v w → v ∈ a ∨ w ∈ b) :
    ∀ (d : Nat) (i : Int), (E.length : Int) = i + d → 0 ≤ i → ∀ k, d + 1025 < k → toruslaw30_MatchKonig.l0 k a b E E.length i = some true := by
  have hl := g.len
  have haw : toruslaw30_awake.f = some true := rfl
  intro d
  induction d with
  | zero =>
    intro i hd hi k hk
    obtain ⟨k, rfl⟩ := fuel hk
    rw [toruslaw30_MatchKonig.l0, if_neg (by omega), haw]
    rfl
  | succ d ih =>
    intro i hd hi k hk
    obtain ⟨k, rfl⟩ := fuel hk
    have hn := ih (i + 1) (by omega) (by omega) k (by omega)
    have e1 : wrap64 (i + 1) = i + 1 := w64 (by omega) (by omega)
    rw [toruslaw30_MatchKonig.l0, if_pos (by omega), if_pos hi, if_pos (by omega), has_spec a _ (by omega) k (by omega)]
    simp only [Option.bind_some]
    rw [e1]
    by_cases h : (rd_T40 E i).f0 ∈ a
    · rw [if_pos (by simpa using h)]
      exact hn
    · have h2 := (hcov _ _ ⟨i, hi, by omega, rfl, rfl⟩).resolve_left h
      rw [if_neg (by simpa using h), has_spec b _ (by omega) k (by omega)]
      simp only [Option.bind_some]
      rw [if_pos (by simpa using h2)]
      exact hn
theorem w64n (a b z : Nat) (h : a + b = z) (hz : z ≤ 12) : wrap64 ((a : Int) + (b : Int)) = (z : Int) := by
  rw [w64 (by omega) (by omega)]
  omega
theorem bind_of {α β : Type} {x : Option α} {a : α} {f : α → Option β} (h : x = some a) : x.bind f = f a := by rw [h]; rfl
theorem konig_run (u s : Nat) (hu : u = s + 1) (a0 a1 : Int) (bits : List Int) (L R : Int) (E G : List S40) (m A B : List Int) (z : Int)
    (hf : toruslaw30_fit.f u a0 a1 bits = some (L, R, E)) (hg : toruslaw30_given.f L R E = some (L, R, G)) (hm : match_Maximum.f u L R G = some (m, 0))
    (hc : match_Cover.f u L R G = some (A, B, 0)) (hv : match_Verify.f L R G m = some (true, 0)) (hC : toruslaw30_count.f u m = some z)
    (hw : wrap64 ((A.length : Int) + (B.length : Int)) = z) (hS : toruslaw30_size.f u L R E = some z)
    (hl : toruslaw30_MatchKonig.l0 s A B E (E.length : Int) 0 = some true) : toruslaw30_MatchKonig.f u a0 a1 bits = some true := by
  have hj : toruslaw30_MatchKonig.j0 u A B (z != z) L R E = some true := by
    rw [hu, toruslaw30_MatchKonig.j0, if_neg (by simp)]
    exact hl
  refine (bind_of hf).trans ?_
  refine (bind_of hg).trans ?_
  refine (bind_of hm).trans ?_
  refine (bind_of hg).trans ?_
  refine (bind_of hc).trans ?_
  refine (bind_of hg).trans ?_
  refine (bind_of hv).trans ?_
  refine (if_pos rfl).trans ?_
  refine (if_pos rfl).trans ?_
  refine (if_pos rfl).trans ?_
  refine (if_pos rfl).trans ?_
  refine (bind_of hC).trans ?_
  refine (if_pos hw).trans ?_
  refine (bind_of hC).trans ?_
  refine (bind_of hS).trans ?_
  exact hj
theorem fu1 (a b c d : Nat) : a ≤ a + b + c + d + 1026 + 1 := by omega
theorem fu2 (a b c d : Nat) : b ≤ a + b + c + d + 1026 + 1 := by omega
theorem fu3 (a b c d : Nat) : c < a + b + c + d + 1026 + 1 := by omega
theorem fu4 (a b c d : Nat) : d + 1025 < a + b + c + d + 1026 := by omega
theorem konig_w {L R : Nat} {A : Int → Int → Prop} {next : List (List Int)} {m b : List Int} {l r : List Bool} (c : Core L R A next m b l r) (hL : L ≤ 12) (hR : R ≤ 12) :
    wrap64 (((cnt L (fun x => !tr l x) : Nat) : Int) + ((cnt R (tr r) : Nat) : Int)) = ((msz L m : Nat) : Int) := by
  have h1 := c.le_ν
  have h2 := cnt_le (fun x => !tr l x) L
  have h3 := cnt_le (tr r) R
  rw [w64 (by omega) (by omega)]
  omega
theorem konig_a {L R : Nat} (l r : List Bool) (hL : L ≤ 12) (hR : R ≤ 12) : (sel L (fun x => !tr l x)).length ≤ 1024 ∧ (sel R (tr r)).length ≤ 1024 := by
  have q1 : (sel L (fun x => !tr l x)).length = cnt L (fun x => !tr l x) := sel_length _ _
  have q2 : (sel R (tr r)).length = cnt R (tr r) := sel_length _ _
  have h2 := cnt_le (fun x => !tr l x) L
  have h3 := cnt_le (tr r) R
  omega
theorem konig_true (a0 a1 : Int) (bits : List Int) (ha0 : 0 ≤ a0) (ha0' : a0 ≤ 255) (ha1 : 0 ≤ a1) (ha1' : a1 ≤ 255) : ∃ k, toruslaw30_MatchKonig.f k a0 a1 bits = some true := by
  obtain ⟨K1, L, R, E, hf, hL, hR, hc, g, hl⟩ := fit_spec a0 a1 bits ha0 ha0' ha1 ha1'
  obtain ⟨next, m, b, l, r, K2, c, D⟩ := done hc g
  have nl := c.nl
  have lm := c.hole.lm
  have hlow : Low m := max_low (D.max K2 (Nat.le_refl _))
  have hml : m.length = L := by omega
  have hcnt := count_spec m (by omega) hlow
  rw [hml] at hcnt
  have hver := verGo_true hml hlow c.isM L 0 (fun _ => false) (by omega) (by omega) (fun x _ _ _ => rfl)
  have hV : match_Verify.f L R E m = some (true, 0) := by
    unfold match_Verify.f
    rw [if_pos (List.all_eq_true.2 (fun x hx => by
      have h1 := hlow x hx
      obtain ⟨i, i0, i1, rfl⟩ := mem_rd hx
      have h2 : rd m i < 1024 := by
        by_cases h : 0 ≤ rd m i
        · have := c.isM.lt i i0 (by omega) h; omega
        · omega
      exact wf_i64' (by omega) (by omega)))]
    unfold verF
    rw [if_pos hc, if_pos (by omega)]
    have : verGo (E.map prE) 0 (fun _ => false) m = true := by simpa using hver
    rw [this]
  have q1 : (sel L (fun x => !tr l x)).length = cnt L (fun x => !tr l x) := sel_length _ _
  have q2 : (sel R (tr r)).length = cnt R (tr r) := sel_length _ _
  have hw := konig_w c hL hR
  rw [← q1, ← q2] at hw
  have hK := konig_l0 g (sel L (fun x => !tr l x)) (sel R (tr r)) (konig_a l r hL hR).1 (konig_a l r hL hR).2 (fun v w h => by
    obtain ⟨j, j0, j1, j2, j3⟩ := id h
    have hr := g.rng j j0 j1
    cases hv : tr l v with
    | false => exact .inl ((mem_sel _ _ _).2 ⟨by omega, by omega, by simp [hv]⟩)
    | true => exact .inr ((mem_sel _ _ _).2 ⟨by omega, by omega, c.cov v w (by omega) (by omega) h hv⟩)) E.length 0 (by omega) (by omega)
  obtain ⟨s, hs⟩ : ∃ s, s = K1 + K2 + L + E.length + 1026 := ⟨_, rfl⟩
  obtain ⟨u, hu⟩ : ∃ u, u = s + 1 := ⟨_, rfl⟩
  have u1 : K1 ≤ u := by rw [hu, hs]; exact fu1 ..
  have u2 : K2 ≤ u := by rw [hu, hs]; exact fu2 ..
  have u3 : L < u := by rw [hu, hs]; exact fu3 ..
  have u4 : E.length + 1025 < s := by rw [hs]; exact fu4 ..
  exact ⟨u, konig_run u s hu a0 a1 bits L R E E m _ _ (msz L m : Int) (hf u u1) (given_spec _ _ g.len) (D.max u u2) (D.cover u u2) hV (hcnt u u3) hw (D.size' u u2) (hK s u4)⟩
end Go.Proofs.Ytlleokhmgblfnaa.P
