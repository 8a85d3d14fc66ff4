/- No mate is less than -1. -/
import Derived.Test.YtlleokhmgblfnaaPCore
set_option linter.unusedVariables false
namespace Go.Proofs.Ytlleokhmgblfnaa.P
open Go.RowKit Go.Proofs.YtlleokhmgblfnaaW.PrintWords Go.Proofs.Ytlleokhmgblfnaa.H Go.Proofs.Ytlleokhmgblfnaa.M
def Low (m : List Int) : Prop := ∀ x ∈ m, -1 ≤ x
theorem low_set {m : List Int} (h : Low m) (i : Nat) {x : Int} (hx : 0 ≤ x) : Low (m.set i x) := fun y hy => by
  rcases List.mem_or_eq_of_mem_set hy with h1 | h1
  · exact h y h1
  · omega
theorem extG_low (next : List (List Int)) : ∀ k v j m b l q, extG next k v j m b l = some q → Low m → Low q.2.1 := by
  intro k
  induction k with
  | zero => intro v j m b l q h; exact absurd h (by simp [extG])
  | succ k ih =>
    intro v j m b l q h hm
    rw [extG] at h
    split at h
    · split at h
      · rename_i h0
        split at h
        · split at h
          · cases h
            exact low_set hm _ h0
          · split at h
            · split at h
              · split at h
                · cases hq : extG next k (rd b (rd (rdL next v) j)) 0 m b l with
                  | none => rw [hq] at h; cases h
                  | some t =>
                    rw [hq] at h
                    have ht := ih _ _ _ _ _ _ hq hm
                    obtain ⟨t0, tm, tb, tl⟩ := t
                    cases t0 with
                    | true =>
                      have h' : some (true, tm.set v.toNat (rd (rdL next v) j), tb.set (rd (rdL next v) j).toNat v, tl) = some q := h
                      cases h'
                      exact low_set ht _ h0
                    | false => exact ih _ _ _ _ _ _ h ht
                · exact ih _ _ _ _ _ _ h hm
              · cases h
            · cases h
        · cases h
      · cases h
    · cases h
      exact hm
theorem phase_low (next : List (List Int)) : ∀ k v m b l t, phase next k v m b l = some t → Low m → Low t.1 := by
  intro k
  induction k with
  | zero => intro v m b l t h; exact absurd h (by simp [phase])
  | succ k ih =>
    intro v m b l t h hm
    rw [phase] at h
    split at h
    · split at h
      · cases hq : extG next k v 0 m b l with
        | none => rw [hq] at h; cases h
        | some q =>
          rw [hq] at h
          exact ih _ _ _ _ _ h (extG_low next k v 0 m b l q hq hm)
      · exact ih _ _ _ _ _ h hm
    · cases h
      exact hm
theorem great_low (next : List (List Int)) : ∀ k m b l r, great next k m b l = some r → Low m → Low r.1 := by
  intro k
  induction k with
  | zero => intro m b l r h; exact absurd h (by simp [great])
  | succ k ih =>
    intro m b l r h hm
    rw [great] at h
    cases hs : levF next m b k l with
    | none => rw [hs] at h; cases h
    | some s =>
      rw [hs] at h
      simp only [Option.bind_some] at h
      split at h
      · cases hp : phase next k 0 m b s.2 with
        | none => rw [hp] at h; cases h
        | some t =>
          rw [hp] at h
          exact ih _ _ _ _ h (phase_low next k 0 m b s.2 t hp hm)
      · cases h
        exact hm
theorem greatF_low {next : List (List Int)} {k : Nat} {R : Int} {r : List Int × List Int} (h : greatF k next R = some r) : Low r.1 := by
  unfold greatF at h
  split at h
  · split at h
    · split at h
      · refine great_low next k _ _ _ r h (fun x hx => ?_)
        unfold nones at hx
        rw [(List.mem_replicate.1 hx).2]
        omega
      · cases h
    · cases h
  · cases h
theorem max_low {L R : Int} {E : List S40} {k : Nat} {m : List Int} {e : Int} (h : match_Maximum.f k L R E = some (m, e)) : Low m := by
  unfold match_Maximum.f at h
  cases hc : match_Check.f L R E with
  | none => rw [hc] at h; cases h
  | some c =>
    rw [hc] at h
    simp only [Option.bind_some] at h
    split at h
    · cases hn : match_Graph_neighbours.f k L R E with
      | none => rw [hn] at h; cases h
      | some next =>
        rw [hn] at h
        simp only [Option.bind_some] at h
        cases hg : pairing_Greatest.f k next R with
        | none => rw [hg] at h; cases h
        | some r =>
          rw [hg] at h
          cases h
          exact greatF_low hg
    · cases h
      intro x hx
      cases hx
end Go.Proofs.Ytlleokhmgblfnaa.P
