/- pairing.Greatest and match.Check in the form in which the printed texts ask for them. -/
import Derived.Test.YtlleokhmgblfnaaMx0
import Derived.Test.YtlleokhmgblfnaaAGreat
set_option linter.unusedVariables false
set_option linter.unusedSimpArgs false
namespace Go.Proofs.Ytlleokhmgblfnaa.H
open Go.RowKit Go.Proofs.YtlleokhmgblfnaaW.PrintWords
theorem extG_mono (next : List (List Int)) : ∀ k v j m b l, LeO (extG next k v j m b l) (extG next (k + 1) v j m b l) := by
  intro k
  induction k with
  | zero => intro v j m b l r h; exact absurd h (by simp [extG])
  | succ k ih =>
    intro v j m b l
    rw [extG, extG]
    refine LeO.ite (LeO.ite (LeO.ite (LeO.ite (LeO.refl _) (LeO.ite (LeO.ite (LeO.ite ?_ (ih _ _ _ _ _)) (LeO.refl _)) (LeO.refl _))) (LeO.refl _)) (LeO.refl _)) (LeO.refl _)
    intro r h
    cases hq : extG next k (rd b (rd (rdL next v) j)) 0 m b l with
    | none => rw [hq] at h; cases h
    | some q =>
      rw [hq] at h
      rw [ih _ _ _ _ _ _ hq]
      obtain ⟨q0, q1, q2, q3⟩ := q
      cases q0 with
      | true => exact h
      | false => exact ih _ _ _ _ _ _ h
theorem levA_mono (mate : List Int) (n : Int) : ∀ k i l q, LeO (levA mate n k i l q) (levA mate n (k + 1) i l q) := by
  intro k
  induction k with
  | zero => intro i l q r h; exact absurd h (by simp [levA])
  | succ k ih =>
    intro i l q
    rw [levA, levA]
    repeat' first
      | exact ih _ _ _
      | exact LeO.refl _
      | refine LeO.ite ?_ ?_
theorem levC_mono (back ws : List Int) (v : Int) : ∀ k j f l q, LeO (levC back ws v k j f l q) (levC back ws v (k + 1) j f l q) := by
  intro k
  induction k with
  | zero => intro j f l q r h; exact absurd h (by simp [levC])
  | succ k ih =>
    intro j f l q
    rw [levC, levC]
    repeat' first
      | exact ih _ _ _ _
      | exact LeO.refl _
      | refine LeO.ite ?_ ?_
theorem levB_mono (next : List (List Int)) (back : List Int) : ∀ k f l q, LeO (levB next back k f l q) (levB next back (k + 1) f l q) := by
  intro k
  induction k with
  | zero => intro f l q r h; exact absurd h (by simp [levB])
  | succ k ih =>
    intro f l q
    cases q with
    | nil => exact LeO.refl _
    | cons v q =>
      rw [levB, levB]
      repeat' first
        | exact LeO.refl _
        | refine LeO.ite ?_ ?_
        | refine LeO.bind (levC_mono _ _ _ _ _ _ _ _) (fun _ => ih _ _ _)
theorem levF_mono (next : List (List Int)) (m b : List Int) (k : Nat) (l : List Int) : LeO (levF next m b k l) (levF next m b (k + 1) l) :=
  LeO.bind (levA_mono _ _ _ _ _ _) (fun _ => levB_mono _ _ _ _ _ _)
theorem phase_mono (next : List (List Int)) : ∀ k v m b l, LeO (phase next k v m b l) (phase next (k + 1) v m b l) := by
  intro k
  induction k with
  | zero => intro v m b l r h; exact absurd h (by simp [phase])
  | succ k ih =>
    intro v m b l
    rw [phase, phase]
    repeat' first
      | exact ih _ _ _ _
      | exact LeO.refl _
      | refine LeO.ite ?_ ?_
      | refine LeO.bind (extG_mono _ _ _ _ _ _ _) (fun _ => ih _ _ _ _)
theorem great_mono (next : List (List Int)) : ∀ k m b l, LeO (great next k m b l) (great next (k + 1) m b l) := by
  intro k
  induction k with
  | zero => intro m b l r h; exact absurd h (by simp [great])
  | succ k ih =>
    intro m b l
    rw [great, great]
    refine LeO.bind (levF_mono _ _ _ _ _) (fun _ => LeO.ite ?_ (LeO.refl _))
    exact LeO.bind (phase_mono _ _ _ _ _ _) (fun _ => ih _ _ _)
theorem greatF_mono (next : List (List Int)) (R : Int) (k : Nat) : LeO (greatF k next R) (greatF (k + 1) next R) := by
  unfold greatF
  exact LeO.ite (LeO.ite (LeO.ite (great_mono _ _ _ _ _) (LeO.refl _)) (LeO.refl _)) (LeO.refl _)
theorem C_iso {α β : Type} {d : Kd α} {f : β → α} {w : World} {A : Option Addr} {n : Nat} {xs : List β} (h : (Kd.iso d f).C w A n xs) : d.C w A n (xs.map f) := by
  refine ⟨by simpa using h.1, h.2.1, fun hn => ?_⟩
  obtain ⟨ad, e, hc⟩ := h.2.2 hn
  refine ⟨ad, e, fun j p hp => ?_⟩
  rw [List.getElem?_map] at hp
  cases hj : xs[j]? with
  | none => rw [hj] at hp; cases hp
  | some q =>
    rw [hj] at hp
    cases hp
    exact hc j q hj
end Go.Proofs.Ytlleokhmgblfnaa.H
namespace Go.Proofs.Ytlleokhmgblfnaa.M
open Go.RowKit Go.Proofs.YtlleokhmgblfnaaW.PrintWords
def pairing_Greatest.f (k : Nat) (l0 : List (List Int)) (a1 : Int) : Option (List Int × List Int) := H.greatF k l0 a1
theorem pairing_Greatest.mono : ∀ a0 a1 k, LeO (pairing_Greatest.f k a0 a1) (pairing_Greatest.f (k + 1) a0 a1) := fun a0 a1 k => H.greatF_mono a0 a1 k
theorem pairing_Greatest.calls (k : Nat) (A0 : Option Addr) (c0 : Nat) (l0 : List (List Int)) (a1 : Int) (r1 : List Int) (r2 : List Int) (w : World) (hr0 : Kd.C (Kd.slice 3 (Kd.int .i64)) w A0 l0.length l0) (hc0 : l0.length ≤ c0) (h : pairing_Greatest.f k l0 a1 = some (r1, r2)) :
    Calls Try.prog 46 #[.slice A0 l0.length c0, .int .i64 a1] w fun e w' => ∃ v0_ v1_ : Value, e = .returned (.tuple #[v0_, v1_]) ∧ Kd.R (Kd.int .i64) 3 w' w.heap.size (fun k_ => some k_ ≠ (v1_ : Value).ownBlock) v0_ r1 ∧ Kd.R (Kd.int .i64) 3 w' w.heap.size (fun k_ => some k_ ≠ (v0_ : Value).ownBlock) v1_ r2 ∧ Below w.heap.size w w' :=
  (H.great_calls k A0 c0 l0 a1 (r1, r2) w hr0 hc0 h).mono fun _ _ hp => hp
end Go.Proofs.Ytlleokhmgblfnaa.M

