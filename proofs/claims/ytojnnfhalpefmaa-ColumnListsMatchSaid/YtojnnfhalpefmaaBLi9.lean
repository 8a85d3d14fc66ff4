/- A part of the proof: texts of this seat joined (printed and by hand), without what is not used. -/
import Derived.Test.YtojnnfhalpefmaaBLi8
set_option linter.unusedVariables false
set_option linter.unusedSimpArgs false
set_option linter.unusedSectionVars false
section
section
namespace Go.Proofs.YtojnnfhalpefmaaW.PrintWords
open Go.RowKit
section
variable {P : Program} {ops : Array Oper} {rest : List Oper} {o : Oper} {a : Act} {Q : Exit → Act → World → Prop}
end
section
variable {P : Program}
end
section
variable {P : Program} {ops : Array Oper} {rest : List Oper} {o : Oper} {a : Act} {Q : Exit → Act → World → Prop}
end
section
variable {P : Program} {ops : Array Oper} {rest : List Oper} {o : Oper} {a : Act} {Q : Exit → Act → World → Prop}
end
section
variable {P : Program} {ops : Array Oper} {o : Oper} {a : Act} {Q : Exit → Act → World → Prop} {K : Act → World → Prop}
end
section
variable {α : Type} {enc : α → Value} {d : α}
end
section
variable {α : Type} {P : Program} {ops : Array Oper} {rest : List Oper} {o : Oper} {a : Act} {Q : Exit → Act → World → Prop}
end
section
variable {P : Program}
end
section
variable {α : Type} {R R' : α → List Value → Prop} {e : TypeId} {size : Nat} {w w1 : World} {base : Nat} {v : Value} {ps : List α}
end
section
variable {P : Program} {ops : Array Oper} {rest : List Oper} {o : Oper} {a : Act} {Q : Exit → Act → World → Prop} {α : Type} {R : α → List Value → Prop}
end
section
variable {P : Program} {ops : Array Oper} {o : Oper} {a : Act} {Q : Exit → Act → World → Prop} {K : Act → World → Prop} {α : Type} {R : α → List Value → Prop}
end
section
variable {α : Type} {P : Program}
end
section
variable {P : Program} {ops : Array Oper} {rest : List Oper} {o : Oper} {a : Act} {Q : Exit → Act → World → Prop}
end
namespace Kd
section
variable {α : Type} {d : Kd α} {e : Nat} {w w1 : World} {base : Nat} {ok ok' : Nat → Prop} {v : Value} {xs : List α}
end
section
variable {P : Program} {ops : Array Oper} {rest : List Oper} {o : Oper} {a : Act} {Q : Exit → Act → World → Prop} {α : Type}
end
section
variable {P : Program} {ops : Array Oper} {o : Oper} {a : Act} {Q : Exit → Act → World → Prop} {Kc : Act → World → Prop} {α : Type}
end
end Kd
namespace Kd
section
variable {α : Type} {F : Kd α → Kd α} {sz : Nat} {E : List Nat} {hs : ∀ n, (upto F sz E n).sz = sz} {hE : ∀ n q, q ∈ (upto F sz E n).E → q ∈ E}
end
end Kd
namespace Kd
end Kd
namespace Kd
section
variable {α β : Type} {d : Kd α} {d' : Kd β} {e e' : Nat} {w w1 W : World} {base b b' : Nat} {ok ok' okv oku : Nat → Prop} {v u : Value} {xs : List α} {ys : List β}
end
section
variable {w W : World} {A : Option Addr} {n : Nat}
variable {α : Type} {enc : α → Value} {h1 : ∀ x, (enc x).oneCell' = true} {e base g cap : Nat} {ok : Nat → Prop} {xs : List α}
end
section
variable {P : Program} {ops : Array Oper} {rest : List Oper} {o : Oper} {a : Act} {Q : Exit → Act → World → Prop}
variable {α : Type}
end
end Kd
section
variable {P : Program}
end
section
variable {w w1 : World} {base n size : Nat} {e : TypeId} {v : Value} {xs : List Value}
end
section
variable {P : Program}
end
namespace Kd
section
variable {α : Type} {d : Kd α} {e : Nat} {w w1 W : World} {base : Nat} {ok ok' : Nat → Prop} {v : Value} {xs : List α}
end
section
variable {P : Program} {ops : Array Oper} {rest : List Oper} {o : Oper} {a : Act} {Q' : Exit → Act → World → Prop} {Kc : Act → World → Prop} {α : Type}
end
end Kd
namespace Kd
section
variable {α : Type} {d : Kd α} {e e' : Nat} {w w1 W : World} {base : Nat} {ok : Nat → Prop} {u v : Value} {xs : List α}
end
end Kd
namespace Kd
section
variable {α : Type} {d : Kd α} {e base g n cap : Nat} {ok okp : Nat → Prop} {W : World} {xs : List α}
end
end Kd
namespace Kd
section
variable {α : Type} {F : Kd α → Kd α} {sz : Nat} {E : List Nat} {hs : ∀ n, (upto F sz E n).sz = sz} {hE : ∀ n q, q ∈ (upto F sz E n).E → q ∈ E}
end
end Kd
namespace Kd
section
variable {P : Program} {ops : Array Oper} {rest : List Oper} {o : Oper} {a : Act} {Q : Exit → Act → World → Prop} {α : Type}
end
end Kd
namespace Kd
section
variable {P : Program} {ops : Array Oper} {rest : List Oper} {o : Oper} {a : Act} {Q : Exit → Act → World → Prop} {α : Type}
end
end Kd
namespace Kd
section
variable {α : Type} {k : Kd α} {w : World} {A : Option Addr} {xs : List α} {m c : Nat}
theorem C_take (h : k.C w A xs.length xs) (hm : m ≤ xs.length) : k.C w A (xs.take m).length (xs.take m) := by
  have hl : (xs.take m).length = m := by rw [List.length_take]; omega
  refine ⟨rfl, by rw [hl]; have := h.2.1; omega, fun hp => ?_⟩
  obtain ⟨ad, e, hc⟩ := h.2.2 (by omega)
  refine ⟨ad, e, fun j p hj => hc j p ?_⟩
  rw [List.getElem?_take] at hj
  split at hj
  · exact hj
  · cases hj
end
end Kd
section
variable {P : Program}
end
namespace Kd
section
variable {α β : Type} {d : Kd α} {d' : Kd β} {e e' base base' n : Nat} {ok ok' : Nat → Prop} {w W w1 W1 : World} {v u : Value} {xs : List α} {ys : List β} {A : Option Addr} {c : Nat}
end
section
variable {α : Type} {enc : α → Value} {h1 : ∀ x, (enc x).oneCell' = true} {w W : World} {A : Option Addr} {n g : Nat} {xs : List α}
end
end Kd
namespace Kd
section
variable {α : Type} {d : Kd α} {e base g : Nat} {ok : Nat → Prop} {w w1 : World} {v : Value} {xs : List α} {o : Obj}
end
end Kd
section
variable {P : Program} {ops : Array Oper} {rest : List Oper} {o : Oper} {a : Act} {Q : Exit → Act → World → Prop}
end
namespace Kd
section
variable {α : Type} {enc : α → Value} {h1 : ∀ x, (enc x).oneCell' = true} {e base g n cap : Nat} {ok : Nat → Prop} {W : World} {xs : List α}
end
end Kd
section
variable {P : Program} {ops : Array Oper} {rest : List Oper} {o : Oper} {a : Act} {Q : Exit → Act → World → Prop}
end
namespace Kd
section
variable {α : Type} {enc : α → Value} {h1 : ∀ x, (enc x).oneCell' = true} {e base g n cap : Nat} {ok : Nat → Prop} {W : World} {xs : List α}
end
end Kd
section
variable {P : Program} {ops : Array Oper} {rest : List Oper} {o : Oper} {a : Act} {Q : Exit → Act → World → Prop} {W : World}
end
section
variable {P : Program} {ops : Array Oper} {o : Oper} {a : Act} {Q : Exit → Act → World → Prop} {Kc : Act → World → Prop}
namespace Kd
variable {α : Type}
end Kd
end
section
variable {P : Program} {tmps : Array Value} {w : World}
end
namespace Kd
section
variable {P : Program} {α : Type}
end
section
variable {P : Program} {ops : Array Oper} {rest : List Oper} {o : Oper} {a : Act} {Q : Exit → Act → World → Prop} {Kc : Act → World → Prop} {α : Type}
end
end Kd
end Go.Proofs.YtojnnfhalpefmaaW.PrintWords
end
section
namespace Go.Proofs.YtojnnfhalpefmaaW.PrintWords
open Go.RowKit
namespace Kd
theorem heap_scalar {α : Type} {enc : α → Value} {h1 : ∀ x, (enc x).oneCell' = true} : Heap (scalar enc h1) := ⟨fun _ h => h⟩
section
variable {α : Type} {d : Kd α} {e base g n c : Nat} {ok : Nat → Prop} {w w0 W : World} {A : Option Addr} {xs : List α}
end
end Kd
end Go.Proofs.YtojnnfhalpefmaaW.PrintWords
end
section
namespace Go.Proofs.YtojnnfhalpefmaaW.PrintWords
open Go.RowKit
namespace Foot
variable {P Q : World → Prop} {W W1 : World} {ok ok' : Nat → Prop}
theorem imp (h : Foot P W ok) (hi : ∀ W', P W' → Q W') : Foot Q W ok := fun W' hW => hi W' (h W' hW)
end Foot
namespace Kd
section
variable {α β : Type} {d : Kd α} {e base n n' cc g N : Nat} {ok ok' okp S : Nat → Prop} {w w0 w1 W W1 : World} {A A' : Option Addr} {u v v1 : Value} {xs : List α} {xs' : List β} {d' : Kd β} {x : α} {c : List Value}
theorem F_imp (h : F d W ok A n xs) (hi : ∀ W', d.C W' A n xs → d'.C W' A' n' xs') : F d' W ok A' n' xs' := Foot.imp h hi
end
end Kd
end Go.Proofs.YtojnnfhalpefmaaW.PrintWords
end
section
namespace Go.Proofs.YtojnnfhalpefmaaW.PrintMore
open Go.RowKit Go.Proofs.YtojnnfhalpefmaaW.PrintWords
namespace Kd
open Go.Proofs.YtojnnfhalpefmaaW.PrintWords.Kd
end Kd
namespace Kd
open Go.Proofs.YtojnnfhalpefmaaW.PrintWords.Kd
section
variable {α : Type} {d : Kd α} {e base g N : Nat} {ok : Nat → Prop} {W w1 : World} {u v : Value} {xs : List α}
end
end Kd
end Go.Proofs.YtojnnfhalpefmaaW.PrintMore
namespace Go.Proofs.YtojnnfhalpefmaaW.PrintWords
open Go.RowKit
section
variable {P : Program} {ops : Array Oper} {rest : List Oper} {o : Oper} {a : Act} {Q : Exit → Act → World → Prop} {W : World}
end
namespace Kd
section
variable {α : Type} {d : Kd α} {e base : Nat} {ok : Nat → Prop} {W w1 : World} {v : Value} {xs : List α}
end
section
variable {α : Type} {d : Kd α} {e base g n cap : Nat} {ok oki okp : Nat → Prop} {W : World} {xs : List α} {i : Int} {c : List Value}
end
section
variable {α : Type} {d : Kd α} {e base b b' g N : Nat} {ok ok1 : Nat → Prop} {W W2 w1 : World} {u v : Value} {xs ys : List α} {S : Nat → Prop}
end
end Kd
end Go.Proofs.YtojnnfhalpefmaaW.PrintWords
namespace Go.Proofs.YtojnnfhalpefmaaW.PrintWords
open Go.RowKit
namespace Kd
section
variable {α β : Type} {d : Kd α} {e base base' n m c g N' lo hi : Nat} {ok ok' S : Nat → Prop} {w W w1 : World} {A : Option Addr} {ad : Addr} {u v v1 : Value} {xs : List α}
theorem N_V (h : N d e W base ok v xs) : V d e W base' ok v xs := by
  obtain ⟨A, c, rfl⟩ := N_slice h
  exact ⟨A, c, rfl, (N_reads' h).2.1, N_F h⟩
theorem F_take (h : F d W ok A xs.length xs) (hm : m ≤ xs.length) : F d W ok A (xs.take m).length (xs.take m) := F_imp h (fun _ hC => C_take hC hm)
theorem F_cut (h : F d W ok A xs.length xs) (hm : m ≤ xs.length) (hc : xs.length ≤ c) : F d W ok (if c = m then A else A.map (·.add (m * d.sz))) (xs.drop m).length (xs.drop m) := F_imp h (fun _ hC => C_drop hC hm hc)
end
end Kd
end Go.Proofs.YtojnnfhalpefmaaW.PrintWords
end
end

section
namespace Go.Proofs.Ytojnnfhalpefmaa.P
open Go.RowKit Go.Proofs.YtojnnfhalpefmaaW.PrintWords Go.Proofs.Ytojnnfhalpefmaa.M
theorem w64 {x : Int} (h1 : -9223372036854775808 ≤ x) (h2 : x ≤ 9223372036854775807) : wrap64 x = x := by unfold wrap64; omega
theorem bind_of {α β : Type} {x : Option α} {a : α} {f : α → Option β} (h : x = some a) : x.bind f = f a := by rw [h]; rfl
theorem rd_nat {l : List Int} {i : Nat} (h : i < l.length) : rd l (i : Int) = l[i] := by simp [rd, h]
theorem rdT_nat {l : List S45} {i : Nat} (h : i < l.length) : rd_T45 l (i : Int) = l[i] := by simp [rd_T45, h]
theorem rdL_nat {l : List (List S45)} {i : Nat} (h : i < l.length) : rd_L2 l (i : Int) = l[i] := by simp [rd_L2, h]
def primeB (p : Int) : Bool := decide (2 ≤ p) && (decide (p ≤ 251) && ((torusref01_Prime.f 300 p) == some true))
theorem primeB_ge {p : Int} (h : primeB p = true) : 2 ≤ p ∧ p ≤ 251 := by
  simp only [primeB, Bool.and_eq_true, decide_eq_true_eq] at h
  exact ⟨h.1, h.2.1⟩
theorem all_primes : ∀ n : Fin 250, (torusref01_Prime.f 300 ((n : Nat) + 2 : Int)).isSome = true ∧ modp_Prime.f 20 ((n : Nat) + 2 : Int) = torusref01_Prime.f 300 ((n : Nat) + 2 : Int) := by decide +kernel
theorem prime_in {p : Int} (h1 : 2 ≤ p) (h2 : p ≤ 251) : torusref01_Prime.f 300 p = some (primeB p) ∧ modp_Prime.f 20 p = some (primeB p) := by
  obtain ⟨n, rfl⟩ : ∃ n : Nat, p = (n : Int) + 2 := ⟨(p - 2).toNat, by omega⟩
  obtain ⟨a, b⟩ := all_primes ⟨n, by omega⟩
  simp only at a b
  obtain ⟨t, ht⟩ := Option.isSome_iff_exists.1 a
  have : primeB ((n : Int) + 2) = t := by
    unfold primeB
    rw [decide_eq_true h1, decide_eq_true h2, ht]
    cases t <;> rfl
  rw [this, b]
  exact ⟨ht, ht⟩
theorem primeB_out {p : Int} (h : p < 2 ∨ 251 < p) : primeB p = false := by
  unfold primeB
  rcases h with h | h
  · rw [decide_eq_false (by omega)]; rfl
  · rw [decide_eq_false (show ¬ p ≤ 251 by omega)]; simp
theorem prime_ref (p : Int) (k : Nat) (hk : 300 ≤ k) : torusref01_Prime.f k p = some (primeB p) := by
  by_cases h1 : 2 ≤ p
  · by_cases h2 : p ≤ 251
    · exact at_rounds (fun k => torusref01_Prime.mono p k) hk (prime_in h1 h2).1
    · rw [primeB_out (by omega)]
      obtain ⟨k, rfl⟩ : ∃ j, k = j + 1 := ⟨k - 1, by omega⟩
      unfold torusref01_Prime.f
      rw [if_neg (by omega), decide_eq_true (by omega), torusref01_Prime.j0, if_pos rfl]
  · rw [primeB_out (by omega)]
    obtain ⟨k, rfl⟩ : ∃ j, k = j + 1 := ⟨k - 1, by omega⟩
    unfold torusref01_Prime.f
    rw [if_pos (by omega), torusref01_Prime.j0, if_pos rfl]
theorem modp_out {p : Int} (h : p < 2 ∨ 251 < p) : ∀ (n : Nat) (d : Int) (k : Nat), 0 ≤ d → d = 16 - (n : Int) → n + 1 ≤ k → modp_Prime.l0 k p d = some false
  | 0, d, k, h0, hd, hk => by
    obtain ⟨k, rfl⟩ : ∃ j, k = j + 1 := ⟨k - 1, by omega⟩
    rw [modp_Prime.l0, if_neg (by omega)]
    by_cases h1 : p > 1
    · rw [if_pos h1, decide_eq_false (by omega)]
    · rw [if_neg h1]
  | n + 1, d, k, h0, hd, hk => by
    obtain ⟨k, rfl⟩ : ∃ j, k = j + 1 := ⟨k - 1, by omega⟩
    rw [modp_Prime.l0, if_pos (by omega)]
    have ih := modp_out h n (d + 1) k (by omega) (by omega) (by omega)
    rw [w64 (by omega) (by omega)]
    by_cases h1 : d > 1
    · rw [if_pos h1, if_neg (by omega)]
      split
      · split
        · exact ih
        · rfl
      · exact ih
    · rw [if_neg h1]; exact ih
theorem prime_modp (p : Int) (k : Nat) (hk : 20 ≤ k) : modp_Prime.f k p = some (primeB p) := by
  by_cases h1 : 2 ≤ p ∧ p ≤ 251
  · exact at_rounds (fun k => modp_Prime.mono p k) hk (prime_in h1.1 h1.2).2
  · rw [primeB_out (by omega)]
    exact modp_out (by omega) 16 0 k (Int.le_refl _) rfl (by omega)
def modB (p a : Int) : Int := if primeB p = true then a % p else 0
theorem tmod_pos {a p : Int} (hp : 0 < p) : (Int.tmod a p < 0 → Int.tmod a p + p = a % p) ∧ (¬ Int.tmod a p < 0 → Int.tmod a p = a % p) := by
  have h1 := Int.emod_nonneg a (show p ≠ 0 by omega)
  have h2 := Int.emod_lt_of_pos a hp
  rw [Int.tmod_eq_emod]
  have hab : ((p.natAbs : Nat) : Int) = p := by omega
  split <;> omega
theorem tmod_range (a : Int) {p : Int} (hp : 0 < p) : -p < Int.tmod a p ∧ Int.tmod a p < p := by
  have h1 := Int.emod_nonneg a (show p ≠ 0 by omega)
  have h2 := Int.emod_lt_of_pos a hp
  rw [Int.tmod_eq_emod]
  have hab : ((p.natAbs : Nat) : Int) = p := by omega
  split <;> omega
theorem mod_ref (p a : Int) (k : Nat) (hk : 300 ≤ k) : torusref01_Mod.f k p a = some (modB p a) := by
  unfold torusref01_Mod.f modB
  rw [bind_of (prime_ref p k hk)]
  by_cases h : primeB p = true
  · obtain ⟨h1, h2⟩ := primeB_ge h
    rw [if_pos h, if_pos h, if_neg (by omega)]
    have hr := tmod_range a (show 0 < p by omega)
    by_cases hn : Int.tmod a p < 0
    · rw [if_pos hn, w64 (by omega) (by omega), (tmod_pos (by omega)).1 hn]
    · rw [if_neg hn, (tmod_pos (by omega)).2 hn]
  · rw [if_neg h, if_neg h]
theorem rest_modp {p : Int} (h1 : 2 ≤ p) (h2 : p ≤ 251) (a : Int) : modp_field_rest.f p a = some (a % p) := by
  unfold modp_field_rest.f
  have hr := tmod_range a (show 0 < p by omega)
  rw [if_neg (by omega), w64 (by omega) (by omega)]
  have : Int.tmod (Int.tmod a p + p) p = a % p := by
    rw [Int.tmod_eq_emod_of_nonneg (by omega)]
    by_cases hn : Int.tmod a p < 0
    · rw [Int.emod_eq_of_lt (by omega) (by omega), (tmod_pos (by omega)).1 hn]
    · rw [Int.add_emod_right, Int.emod_eq_of_lt (by omega) (by omega), (tmod_pos (by omega)).2 hn]
  rw [this]
theorem of_modp (p : Int) (k : Nat) (hk : 20 ≤ k) : modp_of.f k p = some (if primeB p = true then (p, 0) else (0, 8)) := by
  unfold modp_of.f
  rw [bind_of (prime_modp p k hk)]
  split <;> rfl
end Go.Proofs.Ytojnnfhalpefmaa.P
end

section
namespace Go.Proofs.Ytojnnfhalpefmaa.P
open Go.RowKit Go.Proofs.YtojnnfhalpefmaaW.PrintWords Go.Proofs.Ytojnnfhalpefmaa.M
theorem ex_succ {k n : Nat} (h : n + 1 ≤ k) : ∃ j, k = j + 1 ∧ n ≤ j := ⟨k - 1, by omega, by omega⟩
def chkS (p : Int) : Int → List S45 → Int
  | _, [] => 0
  | last, t :: l => if t.f0 < 0 ∨ t.f0 ≥ 1024 ∨ t.f1 < 1 ∨ t.f1 ≥ p then 1 else if t.f0 ≤ last then 6 else chkS p t.f0 l
def checkB (p : Int) (l : List S45) : Int := if primeB p = true then chkS p (-1) l else 8
theorem check_ref_l0 (p : Int) (l : List S45) (hl : l.length < 4611686018427387904) : ∀ (n i : Nat) (last : Int) (k : Nat), i + n = l.length → 2 * n + 2 ≤ k → torusref04_Check.l0 k p l last i = some (chkS p last (l.drop i))
  | 0, i, last, k, hi, hk => by
    obtain ⟨k, rfl, _⟩ := ex_succ (show 0 + 1 ≤ k by omega)
    rw [torusref04_Check.l0, if_neg (by omega), List.drop_of_length_le (by omega), chkS]
  | n + 1, i, last, k, hi, hk => by
    obtain ⟨k, rfl, _⟩ := ex_succ (show 0 + 1 ≤ k by omega)
    obtain ⟨k, rfl, _⟩ := ex_succ (show 0 + 1 ≤ k by omega)
    have hlt : i < l.length := by omega
    rw [torusref04_Check.l0, if_pos (by omega), if_pos (by omega), List.drop_eq_getElem_cons hlt, chkS, rdT_nat hlt]
    have ih := check_ref_l0 p l hl n (i + 1) l[i].f0 k (by omega) (by omega)
    have hw : wrap64 ((i : Int) + 1) = ((i + 1 : Nat) : Int) := by rw [w64 (by omega) (by omega)]; omega
    by_cases c1 : l[i].f0 < 0
    · rw [if_pos c1, if_pos (.inl c1), torusref04_Check.j1, if_pos rfl]
    · rw [if_neg c1]
      by_cases c2 : l[i].f0 ≥ 1024
      · rw [if_pos c2, if_pos (.inr (.inl c2)), torusref04_Check.j1, if_pos rfl]
      · rw [if_neg c2]
        by_cases c3 : l[i].f1 < 1
        · rw [if_pos c3, if_pos (.inr (.inr (.inl c3))), torusref04_Check.j1, if_pos rfl]
        · rw [if_neg c3]
          by_cases c4 : l[i].f1 ≥ p
          · rw [decide_eq_true c4, if_pos (.inr (.inr (.inr c4))), torusref04_Check.j1, if_pos rfl]
          · rw [decide_eq_false c4, if_neg (by omega), torusref04_Check.j1, if_neg (by decide), if_pos (by omega), if_pos (by omega), rdT_nat hlt]
            by_cases c5 : l[i].f0 ≤ last
            · rw [if_pos c5, if_pos c5]
            · rw [if_neg c5, if_neg c5, hw]
              exact ih
theorem check_ref (p : Int) (l : List S45) (hl : l.length < 4611686018427387904) (k : Nat) (hk : 2 * l.length + 300 ≤ k) : torusref04_Check.f k p l = some (checkB p l) := by
  unfold torusref04_Check.f checkB
  rw [bind_of (prime_ref p k (by omega))]
  split
  · exact check_ref_l0 p l hl l.length 0 (-1) k (by omega) (by omega)
  · rfl
theorem check_col_l0 (p : Int) (l : List S45) (hl : l.length < 4611686018427387904) : ∀ (n i : Nat) (last : Int) (k : Nat), i + n = l.length → (i = 0 → last = -1) → (∀ h : 0 < i, last = (rd_T45 l ((i : Int) - 1)).f0) → 2 * n + 2 ≤ k → column_Check.l0 k p l l (l.length : Int) i = some (chkS p last (l.drop i))
  | 0, i, last, k, hi, h0, h1, hk => by
    obtain ⟨k, rfl, _⟩ := ex_succ (show 0 + 1 ≤ k by omega)
    rw [column_Check.l0, if_neg (by omega), List.drop_of_length_le (by omega), chkS]
  | n + 1, i, last, k, hi, h0, h1, hk => by
    obtain ⟨k, rfl, _⟩ := ex_succ (show 0 + 1 ≤ k by omega)
    obtain ⟨k, rfl, _⟩ := ex_succ (show 0 + 1 ≤ k by omega)
    have hlt : i < l.length := by omega
    rw [column_Check.l0, if_pos (by omega), if_pos (by omega), if_pos (by omega), List.drop_eq_getElem_cons hlt, chkS, rdT_nat hlt]
    have ih := check_col_l0 p l hl n (i + 1) l[i].f0 k (by omega) (by omega) (fun _ => by rw [show (((i + 1 : Nat) : Int) - 1) = (i : Int) by omega, rdT_nat hlt]) (by omega)
    have hw : wrap64 ((i : Int) + 1) = ((i + 1 : Nat) : Int) := by rw [w64 (by omega) (by omega)]; omega
    by_cases c1 : l[i].f0 < 0
    · rw [if_pos c1, if_pos (.inl c1), column_Check.j1, if_pos rfl]
    · rw [if_neg c1]
      by_cases c2 : l[i].f0 ≥ 1024
      · rw [if_pos c2, if_pos (.inr (.inl c2)), column_Check.j1, if_pos rfl]
      · rw [if_neg c2]
        by_cases c3 : l[i].f1 < 1
        · rw [if_pos c3, if_pos (.inr (.inr (.inl c3))), column_Check.j1, if_pos rfl]
        · rw [if_neg c3]
          by_cases c4 : l[i].f1 ≥ p
          · rw [decide_eq_true c4, if_pos (.inr (.inr (.inr c4))), column_Check.j1, if_pos rfl]
          · rw [decide_eq_false c4, if_neg (by omega), column_Check.j1, if_neg (by decide)]
            by_cases hz : i = 0
            · rw [if_neg (by omega), hw, if_neg (by rw [h0 hz]; omega)]
              exact ih
            · rw [if_pos (by omega), w64 (by omega) (by omega), if_pos (by omega), if_pos (by omega), h1 (by omega)]
              by_cases c5 : l[i].f0 ≤ (rd_T45 l ((i : Int) - 1)).f0
              · rw [if_pos c5, if_pos c5]
              · rw [if_neg c5, if_neg c5, hw]
                exact ih
theorem check_col (p : Int) (l : List S45) (hl : l.length < 4611686018427387904) (k : Nat) (hk : 2 * l.length + 300 ≤ k) : column_Check.f k p l = some (checkB p l) := by
  unfold column_Check.f checkB
  rw [bind_of (prime_modp p k (by omega))]
  split
  · exact check_col_l0 p l hl l.length 0 (-1) k (by omega) (fun _ => rfl) (fun h => absurd h (by omega)) (by omega)
  · rfl
def Up (p : Int) : Int → List S45 → Prop
  | _, [] => True
  | last, t :: l => last < t.f0 ∧ t.f0 < 1024 ∧ 1 ≤ t.f1 ∧ t.f1 < p ∧ Up p t.f0 l
theorem chkS_up {p : Int} : ∀ {last : Int} {l : List S45}, -1 ≤ last → (chkS p last l = 0 ↔ Up p last l)
  | last, [], _ => by simp [chkS, Up]
  | last, t :: l, hl => by
    unfold chkS Up
    by_cases c : t.f0 < 0 ∨ t.f0 ≥ 1024 ∨ t.f1 < 1 ∨ t.f1 ≥ p
    · rw [if_pos c]
      constructor
      · intro h; cases h
      · intro h; omega
    · rw [if_neg c]
      by_cases c2 : t.f0 ≤ last
      · rw [if_pos c2]
        constructor
        · intro h; cases h
        · intro h; omega
      · rw [if_neg c2, chkS_up (by omega)]
        constructor
        · intro h; exact ⟨by omega, by omega, by omega, by omega, h⟩
        · intro h; exact h.2.2.2.2
theorem low_col (l : List S45) (hl : l.length < 4611686018427387904) : column_Low.f l = some (if l.length = 0 then (0, false) else ((rd_T45 l ((l.length : Int) - 1)).f0, true)) := by
  unfold column_Low.f
  by_cases h : l.length = 0
  · rw [if_pos (by omega), if_pos h]
  · rw [if_neg (by omega), if_neg h, w64 (by omega) (by omega), if_pos (by omega), if_pos (by omega)]
theorem low_ref (l : List S45) (hl : l.length < 4611686018427387904) : torusref04_Low.f l = some (if l.length = 0 then (0, false) else ((rd_T45 l ((l.length : Int) - 1)).f0, true)) := by
  unfold torusref04_Low.f
  by_cases h : l.length = 0
  · rw [if_pos (by omega), if_pos h]
  · rw [if_neg (by omega), if_neg h, w64 (by omega) (by omega), if_pos (by omega), if_pos (by omega)]
theorem same_self (l : List S45) (hl : l.length < 4611686018427387904) : ∀ (n i : Nat) (k : Nat), i + n = l.length → n + 1 ≤ k → torusref04_Same.l0 k l l i = some true
  | 0, i, k, hi, hk => by
    obtain ⟨k, rfl, _⟩ := ex_succ (show 0 + 1 ≤ k by omega)
    rw [torusref04_Same.l0, if_neg (by omega)]
  | n + 1, i, k, hi, hk => by
    obtain ⟨k, rfl, _⟩ := ex_succ (show 0 + 1 ≤ k by omega)
    rw [torusref04_Same.l0, if_pos (by omega), if_pos (by omega), if_pos (by omega), if_neg (by simp), w64 (by omega) (by omega)]
    exact same_self l hl n (i + 1) k (by omega) (by omega)
theorem same_refl (l : List S45) (hl : l.length < 4611686018427387904) (k : Nat) (hk : l.length + 1 ≤ k) : torusref04_Same.f k l l = some true := by
  unfold torusref04_Same.f
  rw [if_pos rfl]
  exact same_self l hl l.length 0 k (by omega) hk
def spS : Nat → List Int → List S45
  | _, [] => []
  | i, x :: v => if x = 0 then spS (i + 1) v else ⟨i, x⟩ :: spS (i + 1) v
theorem spS_len : ∀ (i : Nat) (v : List Int), (spS i v).length ≤ v.length
  | _, [] => Nat.le_refl _
  | i, x :: v => by
    have := spS_len (i + 1) v
    unfold spS
    split
    · simp only [List.length_cons]; omega
    · simp only [List.length_cons]; omega
theorem sparse_l0 (v : List Int) (hv : v.length ≤ 1000000) : ∀ (n i : Nat) (acc : List S45) (k : Nat), i + n = v.length → acc.length ≤ i → n + 1 ≤ k → torusref04_Sparse.l0 k v acc i = some (acc ++ spS i (v.drop i))
  | 0, i, acc, k, hi, ha, hk => by
    obtain ⟨k, rfl, _⟩ := ex_succ (show 0 + 1 ≤ k by omega)
    rw [torusref04_Sparse.l0, if_neg (by omega), List.drop_of_length_le (by omega), spS, List.append_nil]
  | n + 1, i, acc, k, hi, ha, hk => by
    obtain ⟨k, rfl, _⟩ := ex_succ (show 0 + 1 ≤ k by omega)
    have hlt : i < v.length := by omega
    have hw : wrap64 ((i : Int) + 1) = ((i + 1 : Nat) : Int) := by rw [w64 (by omega) (by omega)]; omega
    rw [torusref04_Sparse.l0, if_pos (by omega), if_pos (by omega), List.drop_eq_getElem_cons hlt, spS, rd_nat hlt, hw]
    by_cases h : v[i] = 0
    · rw [if_pos h, if_pos h]
      exact sparse_l0 v hv n (i + 1) acc k (by omega) (by omega) (by omega)
    · rw [if_neg h, if_neg h, if_pos (by omega), sparse_l0 v hv n (i + 1) _ k (by omega) (by simp; omega) (by omega), List.append_assoc]
      rfl
theorem sparse_ref (v : List Int) (hv : v.length ≤ 1000000) (k : Nat) (hk : v.length + 1 ≤ k) : torusref04_Sparse.f k v = some (spS 0 v) := by
  unfold torusref04_Sparse.f
  exact sparse_l0 v hv v.length 0 [] k (by omega) (by simp) hk
def denS : List S45 → List Int → List Int
  | [], v => v
  | t :: l, v => denS l (v.set t.f0.toNat t.f1)
end Go.Proofs.Ytojnnfhalpefmaa.P
end

section
namespace Go.Proofs.Ytojnnfhalpefmaa.P
open Go.RowKit Go.Proofs.YtojnnfhalpefmaaW.PrintWords Go.Proofs.Ytojnnfhalpefmaa.M Go.Proofs.Ytojnnfhalpefmaa.H
def cf : List S45 → Int → Int
  | [], _ => 0
  | t :: l, r => if t.f0 = r then t.f1 else cf l r
theorem cf_here {x : S45} {a : List S45} {r : Int} (h : x.f0 = r) : cf (x :: a) r = x.f1 := by rw [cf, if_pos h]
theorem cf_there {x : S45} {a : List S45} {r : Int} (h : ¬ x.f0 = r) : cf (x :: a) r = cf a r := by rw [cf, if_neg h]
theorem up_weaken {p last last' : Int} {l : List S45} (h : Up p last l) (hl : last' ≤ last) : Up p last' l := by
  cases l with
  | nil => trivial
  | cons t l => exact ⟨by have := h.1; omega, h.2⟩
theorem up_mem {p : Int} : ∀ {last : Int} {l : List S45}, Up p last l → ∀ t ∈ l, last < t.f0 ∧ t.f0 < 1024 ∧ 1 ≤ t.f1 ∧ t.f1 < p
  | _, [], _, _, h => by cases h
  | last, a :: l, hu, t, h => by
    rcases List.mem_cons.1 h with rfl | h
    · exact ⟨hu.1, hu.2.1, hu.2.2.1, hu.2.2.2.1⟩
    · have := up_mem hu.2.2.2.2 t h
      exact ⟨by have := hu.1; omega, this.2⟩
theorem cf_low {p : Int} : ∀ {last : Int} {l : List S45} {r : Int}, Up p last l → r ≤ last → cf l r = 0
  | _, [], _, _, _ => rfl
  | last, t :: l, r, h, hr => by
    rw [cf, if_neg (by have := h.1; omega)]
    exact cf_low h.2.2.2.2 (by have := h.1; omega)
theorem cf_range {p : Int} (hp : 0 < p) : ∀ {last : Int} {l : List S45} (r : Int), Up p last l → 0 ≤ cf l r ∧ cf l r < p
  | _, [], _, _ => ⟨Int.le_refl _, hp⟩
  | last, t :: l, r, h => by
    rw [cf]
    split
    · exact ⟨by have := h.2.2.1; omega, h.2.2.2.1⟩
    · exact cf_range hp r h.2.2.2.2
theorem cf_mem {p : Int} : ∀ {last : Int} {l : List S45}, Up p last l → ∀ t ∈ l, cf l t.f0 = t.f1
  | _, [], _, _, h => by cases h
  | last, a :: l, hu, t, h => by
    rw [cf]
    rcases List.mem_cons.1 h with rfl | h
    · rw [if_pos rfl]
    · have := up_mem hu.2.2.2.2 t h
      rw [if_neg (by omega)]
      exact cf_mem hu.2.2.2.2 t h
theorem cf_pos {l : List S45} {r : Int} : ∀ (h : cf l r ≠ 0), ∃ t ∈ l, t.f0 = r := by
  induction l with
  | nil => intro h; exact absurd rfl h
  | cons a l ih =>
    intro h
    rw [cf] at h
    by_cases e : a.f0 = r
    · exact ⟨a, by simp, e⟩
    · rw [if_neg e] at h
      obtain ⟨t, h1, h2⟩ := ih h
      exact ⟨t, by simp [h1], h2⟩
theorem up_ext {p : Int} : ∀ {last : Int} {a b : List S45}, Up p last a → Up p last b → (∀ r, cf a r = cf b r) → a = b
  | _, [], [], _, _, _ => rfl
  | _, [], t :: b, _, hb, h => by
    have := h t.f0
    rw [cf, cf, if_pos rfl] at this
    have := hb.2.2.1
    omega
  | _, s :: a, [], ha, _, h => by
    have := h s.f0
    rw [cf, cf, if_pos rfl] at this
    have := ha.2.2.1
    omega
  | last, s :: a, t :: b, ha, hb, h => by
    have hrow : s.f0 = t.f0 := by
      rcases Int.lt_trichotomy s.f0 t.f0 with hlt | heq | hgt
      · have h1 := h s.f0
        have h2 : cf (t :: b) s.f0 = 0 := cf_low (p := p) (last := s.f0) ⟨hlt, hb.2⟩ (Int.le_refl _)
        rw [h2, cf, if_pos rfl] at h1
        have := ha.2.2.1
        omega
      · exact heq
      · have h1 := h t.f0
        have h2 : cf (s :: a) t.f0 = 0 := cf_low (p := p) (last := t.f0) ⟨hgt, ha.2⟩ (Int.le_refl _)
        rw [h2, cf, if_pos rfl] at h1
        have := hb.2.2.1
        omega
    have hc : s.f1 = t.f1 := by
      have h1 := h s.f0
      rw [cf, cf, if_pos rfl, if_pos hrow.symm] at h1
      exact h1
    have ht : a = b := up_ext ha.2.2.2.2 (by rw [hrow]; exact hb.2.2.2.2) (fun r => by
      have h1 := h r
      rw [cf, cf] at h1
      by_cases e : s.f0 = r
      · rw [cf_low ha.2.2.2.2 (by omega), cf_low hb.2.2.2.2 (by omega)]
      · rw [if_neg e, if_neg (by omega)] at h1
        exact h1)
    obtain ⟨s0, s1⟩ := s
    obtain ⟨t0, t1⟩ := t
    simp only at hrow hc
    rw [hrow, hc, ht]
def colAdd (p k : Int) (a b : List S45) : List S45 := plusL p k (merge a b)
theorem mul_bound {a b : Int} (h0 : 0 ≤ a) (h1 : a ≤ 251) (h2 : 0 ≤ b) (h3 : b ≤ 251) : 0 ≤ a * b ∧ a * b ≤ 63001 :=
  ⟨Int.mul_nonneg h0 h2, Int.le_trans (Int.mul_le_mul h1 h3 h2 (by omega)) (by omega)⟩
theorem step_val {p k c0 c1 : Int} (hp : 2 ≤ p) (hp2 : p ≤ 251) (hk : 0 ≤ k) (hk2 : k < p) (h0 : 0 ≤ c0) (h0' : c0 < p) (h1 : 0 ≤ c1) (h1' : c1 < p) : Int.tmod (wrap64 (c0 + wrap64 (k * c1))) p = (c0 + k * c1) % p := by
  have := mul_bound hk (by omega) h1 (by omega)
  rw [w64 (x := k * c1) (by omega) (by omega), w64 (by omega) (by omega), Int.tmod_eq_emod_of_nonneg (by omega)]
theorem plusL_cons {p k : Int} {x : Int × Int × Int} {M : List (Int × Int × Int)} (hp : 2 ≤ p) (hp2 : p ≤ 251) (hk : 0 ≤ k) (hk2 : k < p) (h0 : 0 ≤ x.2.1) (h0' : x.2.1 < p) (h1 : 0 ≤ x.2.2) (h1' : x.2.2 < p) :
    plusL p k (x :: M) = if (x.2.1 + k * x.2.2) % p = 0 then plusL p k M else ⟨x.1, (x.2.1 + k * x.2.2) % p⟩ :: plusL p k M := by
  rw [plusL, List.filterMap_cons, stepP, step_val hp hp2 hk hk2 h0 h0' h1 h1']
  split <;> rename_i h
  · split at h
    · rename_i h2; rw [if_pos h2]; rfl
    · cases h
  · split at h
    · cases h
    · rename_i h2; rw [if_neg h2]; cases h; rfl
theorem put_row {p last r0 v : Int} {M : List S45} (h : Up p r0 M) (h1 : last < r0) (h2 : r0 < 1024) (hv : 0 ≤ v) (hv2 : v < p) :
    Up p last (if v = 0 then M else ⟨r0, v⟩ :: M) ∧ ∀ r, cf (if v = 0 then M else ⟨r0, v⟩ :: M) r = if r = r0 then v else cf M r := by
  by_cases h0 : v = 0
  · rw [if_pos h0]
    refine ⟨up_weaken h (by omega), fun r => ?_⟩
    split
    · rename_i e; rw [h0]; exact cf_low h (by omega)
    · rfl
  · rw [if_neg h0]
    refine ⟨⟨h1, h2, by show 1 ≤ v; omega, hv2, h⟩, fun r => ?_⟩
    rw [cf]
    by_cases e : r = r0
    · rw [if_pos e, if_pos e.symm]
    · rw [if_neg e, if_neg (fun e' => e e'.symm)]
theorem colAdd_spec {p k : Int} (hp : 2 ≤ p) (hp2 : p ≤ 251) (hk : 0 ≤ k) (hk2 : k < p) : ∀ (n : Nat) (a b : List S45) (last : Int), a.length + b.length = n → Up p last a → Up p last b →
    Up p last (colAdd p k a b) ∧ ∀ r, cf (colAdd p k a b) r = (cf a r + k * cf b r) % p := by
  intro n
  induction n using Nat.strongRecOn with
  | _ n ih =>
    intro a b last hn ha hb
    have hemod : ∀ x, 0 ≤ x % p ∧ x % p < p := fun x => ⟨Int.emod_nonneg _ (by omega), Int.emod_lt_of_pos _ (by omega)⟩
    unfold colAdd
    match a, b with
    | [], [] =>
      rw [merge]
      exact ⟨trivial, fun r => by simp [plusL, cf]⟩
    | x :: a, [] =>
      obtain ⟨x1, x2, x3, x4, x5⟩ := ha
      have I := ih (a.length) (by simp at hn; omega) a [] x.f0 (by simp) x5 trivial
      unfold colAdd at I
      rw [merge_l, plusL_cons hp hp2 hk hk2 (by simp only; omega) (by simp only; omega) (by simp only; omega) (by simp only; omega)]
      obtain ⟨q1, q2⟩ := put_row (v := (x.f1 + k * 0) % p) I.1 x1 x2 (hemod _).1 (hemod _).2
      refine ⟨q1, fun r => (q2 r).trans ?_⟩
      by_cases e : r = x.f0
      · rw [if_pos e, cf_here e.symm]; rfl
      · rw [if_neg e, cf_there (fun e' => e e'.symm), I.2]
    | [], y :: b =>
      obtain ⟨x1, x2, x3, x4, x5⟩ := hb
      have I := ih (b.length) (by simp at hn; omega) [] b y.f0 (by simp) trivial x5
      unfold colAdd at I
      rw [merge_r, plusL_cons hp hp2 hk hk2 (by simp only; omega) (by simp only; omega) (by simp only; omega) (by simp only; omega)]
      obtain ⟨q1, q2⟩ := put_row (v := (0 + k * y.f1) % p) I.1 x1 x2 (hemod _).1 (hemod _).2
      refine ⟨q1, fun r => (q2 r).trans ?_⟩
      by_cases e : r = y.f0
      · rw [if_pos e, cf_here e.symm]; rfl
      · rw [if_neg e, cf_there (x := y) (fun e' => e e'.symm), I.2]
    | x :: a, y :: b =>
      have ha' := ha
      have hb' := hb
      obtain ⟨x1, x2, x3, x4, x5⟩ := ha
      obtain ⟨y1, y2, y3, y4, y5⟩ := hb
      by_cases c1 : x.f0 < y.f0
      · have hb2 : Up p x.f0 (y :: b) := ⟨c1, hb'.2⟩
        have I := ih (a.length + (y :: b).length) (by simp at hn ⊢; omega) a (y :: b) x.f0 rfl x5 hb2
        unfold colAdd at I
        rw [merge_lt c1, plusL_cons hp hp2 hk hk2 (by simp only; omega) (by simp only; omega) (by simp only; omega) (by simp only; omega)]
        obtain ⟨q1, q2⟩ := put_row (v := (x.f1 + k * 0) % p) I.1 x1 x2 (hemod _).1 (hemod _).2
        refine ⟨q1, fun r => (q2 r).trans ?_⟩
        by_cases e : r = x.f0
        · rw [if_pos e, cf_here e.symm, cf_low hb2 (by omega)]
        · rw [if_neg e, I.2, cf_there (x := x) (fun e' => e e'.symm)]
      · by_cases c2 : y.f0 < x.f0
        · have ha2 : Up p y.f0 (x :: a) := ⟨c2, ha'.2⟩
          have I := ih ((x :: a).length + b.length) (by simp at hn ⊢; omega) (x :: a) b y.f0 rfl ha2 y5
          unfold colAdd at I
          rw [merge_gt c1 c2, plusL_cons hp hp2 hk hk2 (by simp only; omega) (by simp only; omega) (by simp only; omega) (by simp only; omega)]
          obtain ⟨q1, q2⟩ := put_row (v := (0 + k * y.f1) % p) I.1 y1 y2 (hemod _).1 (hemod _).2
          refine ⟨q1, fun r => (q2 r).trans ?_⟩
          by_cases e : r = y.f0
          · rw [if_pos e, cf_low ha2 (by omega), cf_here e.symm]
          · rw [if_neg e, I.2, cf_there (x := y) (fun e' => e e'.symm)]
        · have heq : x.f0 = y.f0 := by omega
          have I := ih (a.length + b.length) (by simp at hn; omega) a b x.f0 rfl x5 (by rw [heq]; exact y5)
          unfold colAdd at I
          rw [merge_eq c1 c2, plusL_cons hp hp2 hk hk2 (by simp only; omega) (by simp only; omega) (by simp only; omega) (by simp only; omega)]
          obtain ⟨q1, q2⟩ := put_row (v := (x.f1 + k * y.f1) % p) I.1 x1 x2 (hemod _).1 (hemod _).2
          refine ⟨q1, fun r => (q2 r).trans ?_⟩
          by_cases e : r = x.f0
          · rw [if_pos e, cf_here e.symm, cf_here (by omega)]
          · rw [if_neg e, I.2, cf_there (x := x) (fun e' => e e'.symm), cf_there (x := y) (by omega)]
theorem colAdd_up {p k : Int} (hp : 2 ≤ p) (hp2 : p ≤ 251) (hk : 0 ≤ k) (hk2 : k < p) {a b : List S45} {last : Int} (ha : Up p last a) (hb : Up p last b) : Up p last (colAdd p k a b) := (colAdd_spec hp hp2 hk hk2 _ a b last rfl ha hb).1
theorem colAdd_cf {p k : Int} (hp : 2 ≤ p) (hp2 : p ≤ 251) (hk : 0 ≤ k) (hk2 : k < p) {a b : List S45} {last : Int} (ha : Up p last a) (hb : Up p last b) (r : Int) : cf (colAdd p k a b) r = (cf a r + k * cf b r) % p := (colAdd_spec hp hp2 hk hk2 _ a b last rfl ha hb).2 r
end Go.Proofs.Ytojnnfhalpefmaa.P
end

section
namespace Go.Proofs.Ytojnnfhalpefmaa.P
open Go.RowKit Go.Proofs.YtojnnfhalpefmaaW.PrintWords Go.Proofs.Ytojnnfhalpefmaa.M
theorem checkB_up {p : Int} {c : List S45} (h : checkB p c = 0) : primeB p = true ∧ Up p (-1) c := by
  unfold checkB at h
  by_cases hp : primeB p = true
  · rw [if_pos hp] at h
    exact ⟨hp, (chkS_up (Int.le_refl _)).1 h⟩
  · rw [if_neg hp] at h
    cases h
end Go.Proofs.Ytojnnfhalpefmaa.P
end

section
namespace Go.Proofs.Ytojnnfhalpefmaa.P
open Go.RowKit Go.Proofs.YtojnnfhalpefmaaW.PrintWords Go.Proofs.Ytojnnfhalpefmaa.M Go.Proofs.Ytojnnfhalpefmaa.H
theorem spS_up {p : Int} : ∀ (v : List Int) (i : Nat), (∀ x ∈ v, 0 ≤ x ∧ x < p) → i + v.length ≤ 1024 → Up p ((i : Int) - 1) (spS i v) ∧ ∀ t ∈ spS i v, (i : Int) ≤ t.f0 ∧ t.f0 < ((i + v.length : Nat) : Int)
  | [], i, _, _ => ⟨trivial, fun t h => by cases h⟩
  | x :: v, i, hv, hl => by
    have I := spS_up v (i + 1) (fun y hy => hv y (by simp [hy])) (by simp at hl; omega)
    have hx := hv x (by simp)
    rw [spS]
    simp only [List.length_cons] at hl ⊢
    by_cases h : x = 0
    · rw [if_pos h]
      exact ⟨up_weaken I.1 (by omega), fun t ht => by have := I.2 t ht; omega⟩
    · rw [if_neg h]
      refine ⟨⟨by simp only; omega, by simp only; omega, by simp only; omega, by simp only; omega, by
        have := I.1
        rw [show (((i + 1 : Nat) : Int) - 1) = (i : Int) by omega] at this
        exact this⟩, fun t ht => ?_⟩
      rcases List.mem_cons.1 ht with rfl | ht
      · exact ⟨Int.le_refl _, by simp only; omega⟩
      · have := I.2 t ht
        omega
theorem cf_spS : ∀ (v : List Int) (i : Nat) (r : Nat), cf (spS i v) (r : Int) = if i ≤ r then v.getD (r - i) 0 else 0
  | [], i, r => by simp [spS, cf]
  | x :: v, i, r => by
    have I := cf_spS v (i + 1) r
    rw [spS]
    by_cases h : x = 0
    · rw [if_pos h, I]
      by_cases h1 : i ≤ r
      · rw [if_pos h1]
        by_cases h2 : i = r
        · subst h2; rw [if_neg (by omega)]; simp [h]
        · rw [if_pos (by omega), show r - i = (r - (i + 1)) + 1 by omega]; simp
      · rw [if_neg h1, if_neg (by omega)]
    · rw [if_neg h]
      by_cases h2 : i = r
      · subst h2
        rw [cf_here rfl, if_pos (Nat.le_refl _)]
        simp
      · rw [cf_there (by simp only; omega), I]
        by_cases h1 : i ≤ r
        · rw [if_pos h1, if_pos (by omega), show r - i = (r - (i + 1)) + 1 by omega]; simp
        · rw [if_neg h1, if_neg (by omega)]
structure Col (p : Int) (n : Int) (a : List S45) : Prop where
  up : Up p (-1) a
  lt : ∀ t ∈ a, t.f0 < n
theorem Col.len {p n : Int} {a : List S45} (h : Col p n a) (hn : 0 ≤ n) : (a.length : Int) ≤ n := by
  have key : ∀ (l : List S45) (last : Int), Up p last l → (∀ t ∈ l, t.f0 < n) → last < n → (l.length : Int) ≤ n - last - 1 := by
    intro l
    induction l with
    | nil => intro last _ _ h; simp; omega
    | cons t l ih =>
      intro last hu hl hlast
      have := ih t.f0 hu.2.2.2.2 (fun s hs => hl s (by simp [hs])) (hl t (by simp))
      have := hu.1
      simp only [List.length_cons]
      omega
  have := key a (-1) h.up h.lt (by omega)
  omega
def checkAllB (p : Int) : List (List S45) → Int
  | [] => 0
  | c :: L => if checkB p c = 0 then checkAllB p L else checkB p c
def longest : List (List S45) → Nat
  | [] => 0
  | c :: L => max c.length (longest L)
theorem longest_mem : ∀ {L : List (List S45)} {c : List S45}, c ∈ L → c.length ≤ longest L
  | [], _, h => by cases h
  | a :: L, c, h => by
    rw [longest]
    rcases List.mem_cons.1 h with rfl | h
    · omega
    · have := longest_mem h; omega
theorem checkAll_col_l0 (p : Int) (L : List (List S45)) (hL : L.length < 1000000000000000) (hl : ∀ c ∈ L, c.length < 1000000000000000) : ∀ (m i : Nat) (k : Nat), i + m = L.length → m + 2 * longest L + 301 ≤ k → column_checkAll.l0 k p L (L.length : Int) i = some (checkAllB p (L.drop i))
  | 0, i, k, hi, hk => by
    obtain ⟨k, rfl, _⟩ := ex_succ (show 0 + 1 ≤ k by omega)
    rw [column_checkAll.l0, if_neg (by omega), List.drop_of_length_le (by omega), checkAllB]
  | m + 1, i, k, hi, hk => by
    obtain ⟨k, rfl, _⟩ := ex_succ (show 0 + 1 ≤ k by omega)
    have hlt : i < L.length := by omega
    have hm := longest_mem (List.getElem_mem hlt)
    have hml := hl _ (List.getElem_mem hlt)
    have hw : wrap64 ((i : Int) + 1) = ((i + 1 : Nat) : Int) := by rw [w64 (by omega) (by omega)]; omega
    rw [column_checkAll.l0, if_pos (by omega), if_pos (by omega), if_pos (by omega), rdL_nat hlt, List.drop_eq_getElem_cons hlt, checkAllB, bind_of (check_col p _ (by omega) k (by omega)), hw]
    by_cases h : checkB p L[i] = 0
    · rw [if_pos h, if_pos h]
      exact checkAll_col_l0 p L hL hl m (i + 1) k (by omega) (by omega)
    · rw [if_neg h, if_neg h]
theorem checkAll_col (p : Int) (L : List (List S45)) (hL : L.length < 1000000000000000) (hl : ∀ c ∈ L, c.length < 1000000000000000) (k : Nat) (hk : L.length + 2 * longest L + 301 ≤ k) : column_checkAll.f k p L = some (checkAllB p L) := by
  unfold column_checkAll.f
  exact checkAll_col_l0 p L hL hl L.length 0 k (by omega) hk
theorem plus_col {p m : Int} {a b : List S45} (hp : p ≠ 0) (hl : a.length + b.length < 8796093022208) : column_plus.f p a m b = some (colAdd p m a b) := by
  unfold column_plus.f
  rw [if_neg hp, if_pos hl]
  rfl
theorem checkAllB_head {p : Int} {a : List S45} {L : List (List S45)} (h : checkAllB p (a :: L) = 0) : checkB p a = 0 ∧ checkAllB p L = 0 := by
  rw [checkAllB] at h
  by_cases h1 : checkB p a = 0
  · rw [if_pos h1] at h; exact ⟨h1, h⟩
  · rw [if_neg h1] at h; exact absurd h h1
end Go.Proofs.Ytojnnfhalpefmaa.P
end

section
namespace Go.Proofs.Ytojnnfhalpefmaa.P
open Go.RowKit Go.Proofs.YtojnnfhalpefmaaW.PrintWords Go.Proofs.Ytojnnfhalpefmaa.M
theorem denS_len : ∀ (l : List S45) (v : List Int), (denS l v).length = v.length
  | [], _ => rfl
  | t :: l, v => by rw [denS, denS_len l, List.length_set]
theorem vector_l0 (l : List S45) (hl : l.length < 4611686018427387904) : ∀ (n i : Nat) (v : List Int) (k : Nat), i + n = l.length → (∀ t ∈ l, 0 ≤ t.f0 ∧ t.f0 < (v.length : Int)) → n + 1 ≤ k → torusref04_Vector.l0 k l v i = some (denS (l.drop i) v)
  | 0, i, v, k, hi, ha, hk => by
    obtain ⟨k, rfl, _⟩ := ex_succ (show 0 + 1 ≤ k by omega)
    rw [torusref04_Vector.l0, if_neg (by omega), List.drop_of_length_le (by omega), denS]
  | n + 1, i, v, k, hi, ha, hk => by
    obtain ⟨k, rfl, _⟩ := ex_succ (show 0 + 1 ≤ k by omega)
    have hlt : i < l.length := by omega
    have hw : wrap64 ((i : Int) + 1) = ((i + 1 : Nat) : Int) := by rw [w64 (by omega) (by omega)]; omega
    obtain ⟨a1, a2⟩ := ha _ (List.getElem_mem hlt)
    rw [torusref04_Vector.l0, if_pos (by omega), if_pos (by omega), List.drop_eq_getElem_cons hlt, denS, rdT_nat hlt, hw, if_pos a1, if_pos a2]
    exact vector_l0 l hl n (i + 1) _ k (by omega) (by simpa using ha) (by omega)
theorem vector_ref (l : List S45) (hl : l.length < 4611686018427387904) (n : Nat) (hn : n ≤ 1000000) (ha : ∀ t ∈ l, 0 ≤ t.f0 ∧ t.f0 < (n : Int)) (k : Nat) (hk : l.length + 1 ≤ k) : torusref04_Vector.f k l n = some (denS l (List.replicate n 0)) := by
  unfold torusref04_Vector.f
  rw [if_pos (by omega), if_pos (by omega), Int.toNat_natCast]
  exact vector_l0 l hl l.length 0 _ k (by omega) (by simpa using ha) hk
end Go.Proofs.Ytojnnfhalpefmaa.P
end

section
namespace Go.Proofs.Ytojnnfhalpefmaa.P
open Go.RowKit Go.Proofs.YtojnnfhalpefmaaW.PrintWords Go.Proofs.Ytojnnfhalpefmaa.M Go.Proofs.Ytojnnfhalpefmaa.H
theorem denS_get2 {p : Int} : ∀ (l : List S45) (v : List Int) (last : Int) (r : Nat), Up p last l → -1 ≤ last → (∀ t ∈ l, t.f0 < (v.length : Int)) → r < v.length → (denS l v).getD r 0 = if cf l r = 0 then v.getD r 0 else cf l r
  | [], v, last, r, hu, h0, hv, hr => by simp [denS, cf]
  | t :: l, v, last, r, hu, h0, hv, hr => by
    obtain ⟨h1, h2, h3, h4, h5⟩ := hu
    have hlt := hv t (by simp)
    rw [denS, denS_get2 l _ t.f0 r h5 (by omega) (fun s hs => by rw [List.length_set]; exact hv s (by simp [hs])) (by rw [List.length_set]; exact hr)]
    by_cases e : t.f0 = (r : Int)
    · rw [cf_low h5 (by omega), if_pos rfl, cf_here e, if_neg (by omega)]
      have : t.f0.toNat = r := by omega
      rw [this, List.getD_eq_getElem?_getD, List.getElem?_set_self (by omega)]
      rfl
    · rw [cf_there e]
      have : ¬ t.f0.toNat = r := by omega
      rw [List.getD_eq_getElem?_getD, List.getElem?_set_ne this, ← List.getD_eq_getElem?_getD]
theorem dense_get2 {p n : Int} {a : List S45} (h : Col p n a) (r : Nat) (hr : r < n.toNat) : (denS a (List.replicate n.toNat 0)).getD r 0 = cf a r := by
  rw [denS_get2 a _ (-1) r h.up (Int.le_refl _) (fun t ht => by have := h.lt t ht; rw [List.length_replicate]; omega) (by rw [List.length_replicate]; exact hr)]
  split
  · rename_i e
    rw [e]
    simp [List.getD_eq_getElem?_getD, hr]
  · rfl
end Go.Proofs.Ytojnnfhalpefmaa.P
end

section
namespace Go.Proofs.Ytojnnfhalpefmaa.P
open Go.RowKit Go.Proofs.YtojnnfhalpefmaaW.PrintWords Go.Proofs.Ytojnnfhalpefmaa.M Go.Proofs.Ytojnnfhalpefmaa.H
theorem checkAll_ref_l0 (p : Int) (L : List (List S45)) (hL : L.length < 1000000000000000) (hl : ∀ c ∈ L, c.length < 1000000000000000) : ∀ (m i : Nat) (k : Nat), i + m = L.length → m + 2 * longest L + 301 ≤ k → torusref04_CheckAll.l0 k p L i = some (checkAllB p (L.drop i))
  | 0, i, k, hi, hk => by
    obtain ⟨k, rfl, _⟩ := ex_succ (show 0 + 1 ≤ k by omega)
    rw [torusref04_CheckAll.l0, if_neg (by omega), List.drop_of_length_le (by omega), checkAllB]
  | m + 1, i, k, hi, hk => by
    obtain ⟨k, rfl, _⟩ := ex_succ (show 0 + 1 ≤ k by omega)
    have hlt : i < L.length := by omega
    have hm := longest_mem (List.getElem_mem hlt)
    have hml := hl _ (List.getElem_mem hlt)
    have hw : wrap64 ((i : Int) + 1) = ((i + 1 : Nat) : Int) := by rw [w64 (by omega) (by omega)]; omega
    rw [torusref04_CheckAll.l0, if_pos (by omega), if_pos (by omega), rdL_nat hlt, List.drop_eq_getElem_cons hlt, checkAllB, bind_of (check_ref p _ (by omega) k (by omega)), hw]
    by_cases h : checkB p L[i] = 0
    · rw [if_pos h, if_pos h]
      exact checkAll_ref_l0 p L hL hl m (i + 1) k (by omega) (by omega)
    · rw [if_neg h, if_neg h]
theorem checkAll_ref (p : Int) (L : List (List S45)) (hL : L.length < 1000000000000000) (hl : ∀ c ∈ L, c.length < 1000000000000000) (k : Nat) (hk : L.length + 2 * longest L + 301 ≤ k) : torusref04_CheckAll.f k p L = some (checkAllB p L) := by
  unfold torusref04_CheckAll.f
  exact checkAll_ref_l0 p L hL hl L.length 0 k (by omega) hk
def szT : Int → List S45 → Int
  | m, [] => m
  | m, t :: l => szT (mx m (wrap64 (t.f0 + 1))) l
theorem szT_spec {p : Int} : ∀ (l : List S45) (last m : Int), -1 ≤ last → Up p last l → 0 ≤ m → m ≤ 1024 → m ≤ szT m l ∧ szT m l ≤ 1024 ∧ ∀ t ∈ l, t.f0 < szT m l
  | [], last, m, h0, hu, h1, h2 => ⟨Int.le_refl _, h2, fun t h => by cases h⟩
  | t :: l, last, m, h0, hu, h1, h2 => by
    have hu1 : last < t.f0 := hu.1
    have hu2 : t.f0 < 1024 := hu.2.1
    have hu3 : Up p t.f0 l := hu.2.2.2.2
    have hm : m ≤ mx m (wrap64 (t.f0 + 1)) ∧ t.f0 < mx m (wrap64 (t.f0 + 1)) ∧ mx m (wrap64 (t.f0 + 1)) ≤ 1024 := by
      rw [w64 (by omega) (by omega), mx]
      split <;> omega
    obtain ⟨i1, i2, i3⟩ := szT_spec l t.f0 (mx m (wrap64 (t.f0 + 1))) (by omega) hu3 (by omega) hm.2.2
    rw [szT]
    refine ⟨by omega, i2, fun s hs => ?_⟩
    rcases List.mem_cons.1 hs with rfl | hs
    · omega
    · exact i3 s hs
theorem size_l1 (L : List (List S45)) (hL : L.length < 1000000000000000) (i : Nat) (hi : i < L.length) (hc : L[i].length < 1000000000000000) : ∀ (n j : Nat) (m : Int) (k : Nat), j + n = L[i].length → torusref04_Size.l1 (k + n + 1) L m i j = torusref04_Size.l0 k L (szT m (L[i].drop j)) ((i + 1 : Nat) : Int)
  | 0, j, m, k, hj => by
    have hw : wrap64 ((i : Int) + 1) = ((i + 1 : Nat) : Int) := by rw [w64 (by omega) (by omega)]; omega
    rw [torusref04_Size.l1, if_pos (by omega), if_pos (by omega), rdL_nat hi, if_neg (by omega), List.drop_of_length_le (by omega), szT, hw]
  | n + 1, j, m, k, hj => by
    have hlt : j < L[i].length := by omega
    have hw : wrap64 ((j : Int) + 1) = ((j + 1 : Nat) : Int) := by rw [w64 (by omega) (by omega)]; omega
    rw [torusref04_Size.l1, if_pos (by omega), if_pos (by omega), rdL_nat hi, if_pos (by omega), if_pos (by omega), rdT_nat hlt, hw, List.drop_eq_getElem_cons hlt, szT]
    exact size_l1 L hL i hi hc n (j + 1) _ k (by omega)
theorem size_ref {p : Int} {a b : List S45} (ha : Up p (-1) a) (hb : Up p (-1) b) : ∃ n : Nat, n ≤ 1024 ∧ (∀ t ∈ a, t.f0 < (n : Int)) ∧ (∀ t ∈ b, t.f0 < (n : Int)) ∧ ∀ k, 3000 ≤ k → torusref04_Size.f k [a, b] = some (n : Int) := by
  obtain ⟨a1, a2, a3⟩ := szT_spec a (-1) 0 (Int.le_refl _) ha (Int.le_refl _) (by decide)
  obtain ⟨b1, b2, b3⟩ := szT_spec b (-1) (szT 0 a) (Int.le_refl _) hb a1 a2
  have la := Col.len (n := 1024) ⟨ha, fun t ht => (up_mem ha t ht).2.1⟩ (by decide)
  have lb := Col.len (n := 1024) ⟨hb, fun t ht => (up_mem hb t ht).2.1⟩ (by decide)
  refine ⟨(szT (szT 0 a) b).toNat, by omega, fun t ht => by have := a3 t ht; omega, fun t ht => by have := b3 t ht; omega, fun k hk => ?_⟩
  obtain ⟨k, rfl⟩ : ∃ k', k = (((k' + 1) + b.length + 1) + 1 + a.length + 1) + 1 := ⟨k - (b.length + a.length + 5), by omega⟩
  have e1 := size_l1 [a, b] (by simp) 0 (by simp) (by simp; omega) a.length 0 0 (((k + 1) + b.length + 1) + 1) (by simp)
  have e2 := size_l1 [a, b] (by simp) 1 (by simp) (by simp; omega) b.length 0 (szT 0 a) (k + 1) (by simp)
  simp only [List.getElem_cons_zero, List.getElem_cons_succ, List.drop_zero, Int.natCast_zero, Int.natCast_one] at e1 e2
  unfold torusref04_Size.f
  rw [torusref04_Size.l0, if_pos (by simp), e1]
  show torusref04_Size.l0 (k + 1 + b.length + 1 + 1) [a, b] (szT 0 a) 1 = _
  rw [torusref04_Size.l0, if_pos (by simp), e2]
  show torusref04_Size.l0 (k + 1) [a, b] (szT (szT 0 a) b) 2 = _
  rw [torusref04_Size.l0, if_neg (by simp)]
  congr 1
  omega
def sumL (p m : Int) (u v : List Int) : List Int := List.zipWith (fun x y => Int.tmod (wrap64 (x + wrap64 (m * y))) p) u v
theorem sum_l0 (p m : Int) (hp : p ≠ 0) (u v : List Int) (hu : u.length ≤ 1024) (huv : u.length = v.length) : ∀ (n i : Nat) (acc : List Int) (k : Nat), i + n = u.length → acc.length = u.length → acc.take i = (sumL p (modB p m) u v).take i → n + 301 ≤ k → torusref04_Sum.l0 k p u m v acc i = some (sumL p (modB p m) u v)
  | 0, i, acc, k, hi, hl, ha, hk => by
    obtain ⟨k, rfl, _⟩ := ex_succ (show 0 + 1 ≤ k by omega)
    have hz : (sumL p (modB p m) u v).length = u.length := by simp [sumL, huv]
    have : acc = sumL p (modB p m) u v := by
      rw [List.take_of_length_le (by omega), List.take_of_length_le (by omega)] at ha
      exact ha
    rw [torusref04_Sum.l0, if_neg (by omega), this]
  | n + 1, i, acc, k, hi, hl, ha, hk => by
    obtain ⟨k, rfl, _⟩ := ex_succ (show 0 + 1 ≤ k by omega)
    have hlt : i < u.length := by omega
    have hlt2 : i < v.length := by omega
    have hz : (sumL p (modB p m) u v).length = u.length := by simp [sumL, huv]
    have hg : (sumL p (modB p m) u v)[i]'(by omega) = Int.tmod (wrap64 (u[i] + wrap64 (modB p m * v[i]))) p := by simp [sumL]
    have hw : wrap64 ((i : Int) + 1) = ((i + 1 : Nat) : Int) := by rw [w64 (by omega) (by omega)]; omega
    rw [torusref04_Sum.l0, if_pos (by omega), if_pos (by omega), bind_of (mod_ref p m k (by omega)), if_pos (by omega), if_neg hp, if_pos (by omega), rd_nat hlt, rd_nat hlt2, hw, Int.toNat_natCast, ← hg]
    refine sum_l0 p m hp u v hu huv n (i + 1) _ k (by omega) (by simpa using hl) ?_ (by omega)
    rw [List.take_succ_eq_append_getElem (by simp; omega), List.take_succ_eq_append_getElem (by omega), List.take_set, List.getElem_set_self, ← ha]
    rw [List.set_eq_of_length_le (by simp; omega)]
theorem sum_ref (p m : Int) (hp : p ≠ 0) (u v : List Int) (hu : u.length ≤ 1024) (huv : u.length = v.length) (k : Nat) (hk : 1400 ≤ k) : torusref04_Sum.f k p u m v = some (sumL p (modB p m) u v) := by
  unfold torusref04_Sum.f
  rw [if_pos (by omega), if_pos (by omega)]
  exact sum_l0 p m hp u v hu huv u.length 0 _ k (by omega) (by simp) (by simp) (by omega)
theorem modB_r {p : Int} (hp : primeB p = true) (m : Int) : 0 ≤ modB p m ∧ modB p m < p := by
  have := primeB_ge hp
  rw [modB, if_pos hp]
  exact ⟨Int.emod_nonneg _ (by omega), Int.emod_lt_of_pos _ (by omega)⟩
theorem plus_ref {p : Int} (hp : primeB p = true) {a b : List S45} (ha : Up p (-1) a) (hb : Up p (-1) b) (m : Int) (k : Nat) (hk : 3000 ≤ k) : torusref04_Plus.f k p a m b = some (colAdd p (modB p m) a b) := by
  have hp2 := primeB_ge hp
  have hm := modB_r hp m
  obtain ⟨n, n1, na, nb, hn⟩ := size_ref ha hb
  have la := Col.len (n := 1024) ⟨ha, fun t ht => (up_mem ha t ht).2.1⟩ (by decide)
  have lb := Col.len (n := 1024) ⟨hb, fun t ht => (up_mem hb t ht).2.1⟩ (by decide)
  have da : (denS a (List.replicate n 0)).length = n := by rw [denS_len, List.length_replicate]
  have db : (denS b (List.replicate n 0)).length = n := by rw [denS_len, List.length_replicate]
  have ga (r : Nat) (hr : r < n) : (denS a (List.replicate n 0)).getD r 0 = cf a r := dense_get2 (n := n) ⟨ha, na⟩ r (by omega)
  have gb (r : Nat) (hr : r < n) : (denS b (List.replicate n 0)).getD r 0 = cf b r := dense_get2 (n := n) ⟨hb, nb⟩ r (by omega)
  obtain ⟨u, hu⟩ : ∃ u, u = denS a (List.replicate n 0) := ⟨_, rfl⟩
  obtain ⟨v, hv⟩ : ∃ v, v = denS b (List.replicate n 0) := ⟨_, rfl⟩
  rw [← hu] at da ga
  rw [← hv] at db gb
  have hz : (sumL p (modB p m) u v).length = n := by simp [sumL, da, db]
  have hg (r : Nat) (hr : r < n) : (sumL p (modB p m) u v).getD r 0 = (cf a r + modB p m * cf b r) % p := by
    have h1 := ga r hr
    have h2 := gb r hr
    simp only [List.getD_eq_getElem?_getD, List.getElem?_eq_getElem (show r < u.length by omega), Option.getD_some] at h1
    simp only [List.getD_eq_getElem?_getD, List.getElem?_eq_getElem (show r < v.length by omega), Option.getD_some] at h2
    have ra := cf_range (show 0 < p by omega) (r : Int) ha
    have rb := cf_range (show 0 < p by omega) (r : Int) hb
    rw [List.getD_eq_getElem?_getD, List.getElem?_eq_getElem (by omega), Option.getD_some]
    simp only [sumL, List.getElem_zipWith]
    rw [h1, h2]
    exact step_val hp2.1 hp2.2 hm.1 hm.2 ra.1 ra.2 rb.1 rb.2
  have hx : ∀ x ∈ sumL p (modB p m) u v, 0 ≤ x ∧ x < p := by
    intro x hx
    obtain ⟨i, hi, rfl⟩ := List.getElem_of_mem hx
    have h := hg i (by omega)
    rw [List.getD_eq_getElem?_getD, List.getElem?_eq_getElem hi, Option.getD_some] at h
    rw [h]
    exact ⟨Int.emod_nonneg _ (by omega), Int.emod_lt_of_pos _ (by omega)⟩
  have hs := (spS_up (p := p) (sumL p (modB p m) u v) 0 hx (by omega)).1
  have e : spS 0 (sumL p (modB p m) u v) = colAdd p (modB p m) a b := by
    refine up_ext (last := -1) hs (colAdd_up hp2.1 hp2.2 hm.1 hm.2 ha hb) (fun r => ?_)
    rw [colAdd_cf hp2.1 hp2.2 hm.1 hm.2 ha hb]
    by_cases hr : r < 0
    · rw [cf_low hs (by omega), cf_low ha (by omega), cf_low hb (by omega), Int.mul_zero, Int.add_zero, Int.zero_emod]
    · obtain ⟨r, rfl⟩ : ∃ s : Nat, r = s := ⟨r.toNat, by omega⟩
      rw [cf_spS, if_pos (Nat.zero_le _), Nat.sub_zero]
      by_cases hn : r < n
      · exact hg r hn
      · have e1 : cf a r = 0 := by
          by_cases h : cf a r = 0
          · exact h
          · obtain ⟨t, ht, e⟩ := cf_pos h
            have := na t ht
            omega
        have e2 : cf b r = 0 := by
          by_cases h : cf b r = 0
          · exact h
          · obtain ⟨t, ht, e⟩ := cf_pos h
            have := nb t ht
            omega
        rw [e1, e2, Int.mul_zero, Int.add_zero, Int.zero_emod, List.getD_eq_getElem?_getD, List.getElem?_eq_none (by omega), Option.getD_none]
  unfold torusref04_Plus.f
  rw [bind_of (hn k hk), bind_of (vector_ref a (by omega) n (by omega) (fun t ht => ⟨by have := up_mem ha t ht; omega, na t ht⟩) k (by omega)), bind_of (vector_ref b (by omega) n (by omega) (fun t ht => ⟨by have := up_mem hb t ht; omega, nb t ht⟩) k (by omega)), ← hu, ← hv, bind_of (sum_ref p m (by omega) u v (by omega) (by omega) k (by omega)), bind_of (sparse_ref _ (by omega) k (by omega)), e]
theorem coef_ref_l0 (l : List S45) (hl : l.length < 4611686018427387904) (r : Int) : ∀ (n i : Nat) (k : Nat), i + n = l.length → n + 1 ≤ k → torusref04_Coef.l0 k l r i = some (cf (l.drop i) r)
  | 0, i, k, hi, hk => by
    obtain ⟨k, rfl, _⟩ := ex_succ hk
    rw [torusref04_Coef.l0, if_neg (by omega), List.drop_of_length_le (by omega), cf]
  | n + 1, i, k, hi, hk => by
    obtain ⟨k, rfl, hk'⟩ := ex_succ hk
    have hlt : i < l.length := by omega
    have hw : wrap64 ((i : Int) + 1) = ((i + 1 : Nat) : Int) := by rw [w64 (by omega) (by omega)]; omega
    rw [torusref04_Coef.l0, if_pos (by omega), if_pos (by omega), rdT_nat hlt, List.drop_eq_getElem_cons hlt, cf, hw]
    by_cases h : l[i].f0 = r
    · rw [if_pos h, if_pos h]
    · rw [if_neg h, if_neg h]
      exact coef_ref_l0 l hl r n (i + 1) k (by omega) (by omega)
theorem coef_ref (l : List S45) (hl : l.length < 4611686018427387904) (r : Int) (k : Nat) (hk : l.length + 1 ≤ k) : torusref04_Coef.f k l r = some (cf l r) := by
  unfold torusref04_Coef.f
  exact coef_ref_l0 l hl r l.length 0 k (by omega) hk
end Go.Proofs.Ytojnnfhalpefmaa.P
end

section
namespace Go.Proofs.Ytojnnfhalpefmaa.P
open Go.RowKit Go.Proofs.YtojnnfhalpefmaaW.PrintWords Go.Proofs.Ytojnnfhalpefmaa.M Go.Proofs.Ytojnnfhalpefmaa.H
theorem sum_l0x (p m : Int) (hp : p ≠ 0) (u v : List Int) (hu : u.length ≤ 1000000) (huv : u.length = v.length) : ∀ (n i : Nat) (acc : List Int) (k : Nat), i + n = u.length → acc.length = u.length → acc.take i = (sumL p (modB p m) u v).take i → n + 301 ≤ k → torusref04_Sum.l0 k p u m v acc i = some (sumL p (modB p m) u v)
  | 0, i, acc, k, hi, hl, ha, hk => by
    obtain ⟨k, rfl, _⟩ := ex_succ (show 0 + 1 ≤ k by omega)
    have hz : (sumL p (modB p m) u v).length = u.length := by simp [sumL, huv]
    have : acc = sumL p (modB p m) u v := by
      rw [List.take_of_length_le (by omega), List.take_of_length_le (by omega)] at ha
      exact ha
    rw [torusref04_Sum.l0, if_neg (by omega), this]
  | n + 1, i, acc, k, hi, hl, ha, hk => by
    obtain ⟨k, rfl, _⟩ := ex_succ (show 0 + 1 ≤ k by omega)
    have hlt : i < u.length := by omega
    have hlt2 : i < v.length := by omega
    have hz : (sumL p (modB p m) u v).length = u.length := by simp [sumL, huv]
    have hg : (sumL p (modB p m) u v)[i]'(by omega) = Int.tmod (wrap64 (u[i] + wrap64 (modB p m * v[i]))) p := by simp [sumL]
    have hw : wrap64 ((i : Int) + 1) = ((i + 1 : Nat) : Int) := by rw [w64 (by omega) (by omega)]; omega
    rw [torusref04_Sum.l0, if_pos (by omega), if_pos (by omega), bind_of (mod_ref p m k (by omega)), if_pos (by omega), if_neg hp, if_pos (by omega), rd_nat hlt, rd_nat hlt2, hw, Int.toNat_natCast, ← hg]
    refine sum_l0x p m hp u v hu huv n (i + 1) _ k (by omega) (by simpa using hl) ?_ (by omega)
    rw [List.take_succ_eq_append_getElem (by simp; omega), List.take_succ_eq_append_getElem (by omega), List.take_set, List.getElem_set_self, ← ha]
    rw [List.set_eq_of_length_le (by simp; omega)]
theorem sum_refx (p m : Int) (hp : p ≠ 0) (u v : List Int) (hu : u.length ≤ 1000000) (huv : u.length = v.length) (k : Nat) (hk : u.length + 400 ≤ k) : torusref04_Sum.f k p u m v = some (sumL p (modB p m) u v) := by
  unfold torusref04_Sum.f
  rw [if_pos (by omega), if_pos (by omega)]
  exact sum_l0x p m hp u v hu huv u.length 0 _ k (by omega) (by simp) (by simp) (by omega)
theorem sumL_len {p m : Int} {u v : List Int} (h : u.length = v.length) : (sumL p m u v).length = u.length := by simp [sumL, h]
def atI (row : Nat) : Nat → List (List Int) → Int
  | 0, _ => -1
  | i + 1, l => if rd (l.getD i []) row ≠ 0 then (i : Int) else atI row i l
def subV (p : Int) (row : Nat) (v r : List Int) : List Int := sumL p (modB p (wrap64 (-(rd r row)))) r v
def pivV (p t : Int) (n : Nat) (a : List Int) : List Int := sumL p (modB p t) (List.replicate n 0) a
def redL (k : Nat) (p : Int) (n : Nat) : Nat → List (List Int) → List (List Int) → Option (List (List Int))
  | 0, _, out => some out
  | row + 1, l, out =>
    if atI row l.length l < 0 then redL k p n row l out else
      (torusref01_Inv.f k p (rd (l.getD (atI row l.length l).toNat []) row)).bind fun t =>
        redL k p n row ((l.eraseIdx (atI row l.length l).toNat).map (subV p row (pivV p t.1 n (l.getD (atI row l.length l).toNat [])))) (pivV p t.1 n (l.getD (atI row l.length l).toNat []) :: out.map (subV p row (pivV p t.1 n (l.getD (atI row l.length l).toNat []))))
def redF (k : Nat) (p : Int) (l : List (List Int)) (n : Int) : Option (List (List Int)) :=
  if p ≠ 0 ∧ l.length ≤ 100 ∧ 0 ≤ n ∧ n ≤ 2000 ∧ ∀ r ∈ l, r.length = n.toNat then redL k p n.toNat n.toNat l [] else none
theorem redL_mono (p : Int) (n : Nat) (k : Nat) : ∀ (row : Nat) (l out : List (List Int)), LeO (redL k p n row l out) (redL (k + 1) p n row l out)
  | 0, l, out => LeO.refl _
  | row + 1, l, out => by
    rw [redL, redL]
    exact LeO.ite (redL_mono p n k row _ _) (LeO.bind (torusref01_Inv.mono _ _ _) fun t => redL_mono p n k row _ _)
theorem redF_mono (p : Int) (l : List (List Int)) (n : Int) (k : Nat) : LeO (redF k p l n) (redF (k + 1) p l n) := by
  unfold redF
  exact LeO.ite (redL_mono _ _ _ _ _ _) (LeO.none _)
theorem atI_lt (row : Nat) : ∀ (i : Nat) (l : List (List Int)), atI row i l < i ∧ -1 ≤ atI row i l
  | 0, l => by simp [atI]
  | i + 1, l => by
    have := atI_lt row i l
    rw [atI]
    split <;> omega
end Go.Proofs.Ytojnnfhalpefmaa.P
end

section
namespace Go.Proofs.Ytojnnfhalpefmaa.H
open Go.RowKit Go.Proofs.YtojnnfhalpefmaaW.PrintWords Go.Proofs.YtojnnfhalpefmaaW.PrintLast Go.Proofs.YtojnnfhalpefmaaW.PrintMore Go.Proofs.Ytojnnfhalpefmaa.M Go.Proofs.Ytojnnfhalpefmaa.P
abbrev kI : Kd Int := Kd.int .i64
abbrev kR : Kd (List Int) := Kd.slice 3 kI
theorem rowAt {W : World} {ok : Nat → Prop} {A : Option Addr} {n : Nat} {xs : List (List Int)} (h : Kd.F kR W ok A n xs) (i : Nat) (hi : i < n) :
    ∃ ad A' c', A = some ad ∧ W.cell? (ad.add i) = some (.slice A' (xs.getD i []).length c') ∧ (xs.getD i []).length ≤ c' ∧ Kd.F kI W ok A' (xs.getD i []).length (xs.getD i []) := by
  obtain ⟨ad, c, rfl, hl, hK, hc, _⟩ := Kd.F_get h [] (i : Int) (by omega) (by omega)
  rw [Int.toNat_natCast] at hK hc
  obtain ⟨A', c', rfl, hlc, hF⟩ := Kd.FK_slice_open hK
  have := hc 0 _ rfl
  rw [show kR.sz = 1 from rfl, Nat.mul_one, Nat.add_zero] at this
  exact ⟨ad, A', c', rfl, this, hlc, hF⟩
theorem intAt {W : World} {ok : Nat → Prop} {A : Option Addr} {n : Nat} {xs : List Int} (h : Kd.F kI W ok A n xs) (i : Nat) (hi : i < n) :
    ∃ ad, A = some ad ∧ W.cell? (ad.add i) = some (.int .i64 (rd xs i)) := by
  have := Kd.at_int (Kd.F_now h) (i : Int) (by omega) (by omega)
  rwa [Int.toNat_natCast] at this
theorem rd_dec (row : Nat) : ((row + 1 : Nat) : Int) - 1 = (row : Int) := by omega
theorem info3x : ∃ i, Try.prog.info? 3 = some i ∧ i.zero = some (.int .i64 0) ∧ i.size = 1 ∧ i.bytes = 8 := by
  obtain ⟨i, h1, h2⟩ := Option.map_eq_some_iff.1 info3
  simp only [Prod.mk.injEq] at h2
  exact ⟨i, h1, h2⟩
theorem made_ints (m : Nat) (hm : m ≤ 2000) (W : World) : (Instr.makeSlice 47 (.int .i64 (m : Int)) (.int .i64 (m : Int))).run Try.prog W = .ok (.slice (some ⟨W.heap.size, 0, none⟩) (List.replicate m (0 : Int)).length (List.replicate m (0 : Int)).length) (W.alloc (.cells (madeCells (Value.int .i64 0).cells m) 3)) := by
  obtain ⟨i, h1, h2, h3, h4⟩ := info3x
  have := run_make (P := Try.prog) W 47 3 i (.int .i64 0) Try.underlying47 h1 h2 .i64 .i64 (m : Int) (m : Int) (by omega) (by omega) (by rw [h4]; omega) (by omega)
  simpa [h3] using this
theorem C_made (m : Nat) (hm : m ≤ 2000) (W : World) : kI.C (W.alloc (.cells (madeCells (Value.int .i64 0).cells m) 3)) (some ⟨W.heap.size, 0, none⟩) (List.replicate m (0 : Int)).length (List.replicate m 0) := by
  have hr := Kd.reps_made (R := kI.M W 0 (fun _ => True)) (z := .int .i64 0) (size := 1) (z0 := (0 : Int)) rfl (by omega) rfl m
  rw [Nat.mul_one] at hr
  have h2 := World.ownsRow_lit (base := 0) (e := 3) (size := 1) W (madeCells (Value.int .i64 0).cells m) m (by omega) (by simp [maxLen]; omega) (by simp [size_madeCells])
  have : kI.R 3 (W.alloc (.cells (madeCells (Value.int .i64 0).cells m) 3)) 0 (fun _ => True) (.slice (some ⟨W.heap.size, 0, none⟩) m m) (List.replicate m 0) :=
    ⟨fun _ _ => trivial, _, by rw [List.length_replicate]; exact h2, hr.imp_ (fun _ _ h => h)⟩
  exact (Kd.R_reads' this).2.2
theorem info47 : (Try.prog.info? 47).map (fun i => (i.zero, i.size, i.bytes)) = some (some (.slice none 0 0), 1, 24) := by kernel_rfl
theorem info47x : ∃ i, Try.prog.info? 47 = some i ∧ i.size = 1 := by
  obtain ⟨i, h1, h2⟩ := Option.map_eq_some_iff.1 info47
  simp only [Prod.mk.injEq] at h2
  exact ⟨i, h1, h2.2.1⟩
theorem add_zero' (ad : Addr) : ad.add 0 = ad := by unfold Addr.add; simp
theorem cut_upto94 (A : Option Addr) (n c j : Nat) (h : j ≤ c) : ∀ W : World, (Instr.slice 94 (.slice A n c) none (some (.int .i64 (j : Int))) none).run Try.prog W = .ok (.slice A j c) W := by
  intro W
  obtain ⟨i, hi, hsz⟩ := info47x
  have ht : Try.prog.underlying 94 = some (.slice 47) := Try.underlying94
  have hel : Try.prog.elem 94 = 47 := by simp [Program.elem, ht]
  have hu : Try.prog.underlying 94 = some (.slice (Try.prog.elem 94)) := by rw [hel]; exact ht
  rw [run_slice_h W 94 A n c hu .i64 (j : Int) (by omega) (by omega), hel]
  have he : ∀ a : Option Addr, a.map (·.add 0) = a := fun a => by cases a <;> simp [add_zero']
  simp [sizeOf, typeInfo, hi, hsz, sliced, Result.andThen, he]
theorem cut_from94 (A : Option Addr) (n c j : Nat) (h : j ≤ n) : ∀ W : World, (Instr.slice 94 (.slice A n c) (some (.int .i64 (j : Int))) none none).run Try.prog W = .ok (.slice (if c = j then A else A.map (·.add (j * kR.sz))) (n - j) (c - j)) W := by
  intro W
  obtain ⟨i, hi, hsz⟩ := info47x
  have := cut_from (P := Try.prog) 94 47 .i64 Try.underlying94 hi 1 hsz A n c (j : Int) (by omega) (by omega) W
  rw [Int.toNat_natCast] at this
  exact this
structure RedI (n : Nat) (l out : List (List Int)) : Prop where
  lens : ∀ r ∈ l, r.length = n
  leno : ∀ r ∈ out, r.length = n
  few : l.length + out.length ≤ 100
theorem getD_in {l : List (List Int)} {i : Nat} (h : i < l.length) : l.getD i [] ∈ l := by
  rw [List.getD_eq_getElem?_getD, List.getElem?_eq_getElem h]; exact List.getElem_mem _
theorem room24 {a b : Nat} (h : a + b ≤ 1000) : (a + b) * 24 ≤ 140737488355328 := by omega
theorem take_drop_get (L : List (List Int)) (f : List Int → List Int) (i : Nat) (hi : i < L.length) : ((L.map f).take i ++ L.drop i).getD i [] = L.getD i [] := by
  rw [List.getD_eq_getElem?_getD, List.getD_eq_getElem?_getD, List.getElem?_append_right (by simp; omega)]
  simp [Nat.min_eq_left (Nat.le_of_lt hi)]
theorem take_drop_len (L : List (List Int)) (f : List Int → List Int) (i : Nat) (hi : i ≤ L.length) : ((L.map f).take i ++ L.drop i).length = L.length := by
  simp; omega
theorem take_drop_set (L : List (List Int)) (f : List Int → List Int) (i : Nat) (hi : i < L.length) : ((L.map f).take i ++ L.drop i).set i (f (L.getD i [])) = (L.map f).take (i + 1) ++ L.drop (i + 1) := by
  rw [List.set_append, if_neg (by simp; omega), List.drop_eq_getElem_cons hi, List.length_take, List.length_map, Nat.min_eq_left (Nat.le_of_lt hi), Nat.sub_self, List.set_cons_zero, List.take_succ_eq_append_getElem (by simpa using hi), List.append_assoc]
  simp [List.getD_eq_getElem?_getD, List.getElem?_eq_getElem hi]
theorem N_form {W : World} {base : Nat} {ok : Nat → Prop} {v : Value} {xs : List (List Int)} (h : Kd.N kR 47 W base ok v xs) (hp : 0 < xs.length) : ∃ g cap, v = .slice (some ⟨g, 0, none⟩) xs.length cap := by
  obtain ⟨_, rows, hl, hR, _⟩ := h
  obtain ⟨g, cap, e, _⟩ := Kd.R_form hR (by omega)
  exact ⟨g, cap, by rw [e, hl]⟩
theorem N_own {W : World} {base g n cap : Nat} {ok : Nat → Prop} {xs : List (List Int)} (h : Kd.N kR 47 W base ok (.slice (some ⟨g, 0, none⟩) n cap) xs) {i : Nat} (hi : i < n) : (∃ u, W.cell? ⟨g, i, none⟩ = some u) ∧ W.frozen? ⟨g, i, none⟩ = false := by
  obtain ⟨c, hl, _, hc, hf⟩ := Kd.N_elem h [] (i : Int) (by omega) (by omega)
  have hl' : c.length = 1 := hl
  have h1 := hc 0 _ (List.getElem?_eq_getElem (by omega))
  have h2 := hf 0
  rw [Int.toNat_natCast, show kR.sz = 1 from rfl, Nat.mul_one, Nat.add_zero] at h1 h2
  exact ⟨⟨_, h1⟩, h2⟩
theorem N_far {W : World} {base g i : Nat} {ok : Nat → Prop} {v u : Value} {xs : List (List Int)} (h : Kd.N kR 47 W base ok v xs) (hg : ∀ k, ok k → k ≠ g) : Kd.N kR 47 (W.setCell ⟨g, i, none⟩ u) base ok v xs := Kd.N_step h (fun k hk _ => Below.heap_setCell W _ u k (hg k hk))
theorem RedI.step {n row t : Nat} {p : Int} {v : List Int} {l out : List (List Int)} (h : RedI n l out) (ht : t < l.length) (hv : v.length = n) : RedI n ((l.eraseIdx t).map (subV p row v)) (v :: out.map (subV p row v)) := by
  refine ⟨fun r hr => ?_, fun r hr => ?_, ?_⟩
  · obtain ⟨a, ha, rfl⟩ := List.mem_map.1 hr
    have := h.lens a (List.mem_of_mem_eraseIdx ha)
    rw [subV, sumL_len (by omega), this]
  · rcases List.mem_cons.1 hr with rfl | hr
    · exact hv
    · obtain ⟨a, ha, rfl⟩ := List.mem_map.1 hr
      have := h.leno a ha
      rw [subV, sumL_len (by omega), this]
  · have := h.few
    simp only [List.length_map, List.length_cons, List.length_eraseIdx_of_lt ht]
    omega
theorem lt_dec {i n : Nat} (h : i < n) : decide ((i : Int) < (n : Int)) = true := decide_eq_true (by omega)
theorem ge_dec (n : Nat) : decide ((n : Int) < (n : Int)) = false := decide_eq_false (by omega)
theorem int_next {i n : Nat} (h : i < n) (hn : n ≤ 100) : Value.int .i64 (wrap64 ((i : Int) + 1)) = Value.int .i64 ((i + 1 : Nat) : Int) := congrArg _ (by unfold wrap64; omega)
theorem int_next' (i : Nat) : Value.int .i64 ((i : Int) + 1) = Value.int .i64 ((i + 1 : Nat) : Int) := congrArg _ (by omega)
theorem less_left {i n k : Nat} (h : i < n) (hk : k = n - i) : n - (i + 1) < k := by omega
theorem RedI.fewL {n t : Nat} {l out : List (List Int)} (h : RedI n l out) (ht : t < l.length) : (l.eraseIdx t).length ≤ 100 := by
  have := h.few; rw [List.length_eraseIdx_of_lt ht]; omega
theorem RedI.fewO {n : Nat} {l out : List (List Int)} (h : RedI n l out) : out.length ≤ 100 := by have := h.few; omega
theorem i_done {i n : Nat} (h : i ≤ n) (h2 : ¬ i < n) : i = n := by omega
theorem sum_row {p : Int} {m row : Nat} {a vv d : List Int} (hp : p ≠ 0) (hm : m ≤ 2000) (ha : a.length = m) (hv : vv.length = m) (hd : subV p row vv a = d) : torusref04_Sum.f (m + 400) p a (IntKind.i64.wrap (-(rd a row))) vv = some d := by
  rw [i64_w, ← hd, subV]
  exact sum_refx p _ hp a vv (by omega) (by omega) (m + 400) (by omega)
end Go.Proofs.Ytojnnfhalpefmaa.H
end

section
namespace Go.Proofs.Ytojnnfhalpefmaa.H
open Go.RowKit Go.Proofs.YtojnnfhalpefmaaW.PrintWords Go.Proofs.YtojnnfhalpefmaaW.PrintLast Go.Proofs.YtojnnfhalpefmaaW.PrintMore Go.Proofs.Ytojnnfhalpefmaa.M Go.Proofs.Ytojnnfhalpefmaa.P
set_option maxHeartbeats 8000000 in
set_option maxRecDepth 100000 in
theorem red_calls (k : Nat) (p : Int) (A : Option Addr) (cl : Nat) (l : List (List Int)) (n : Int) (r : List (List Int)) (w : World) (hC : kR.C w A l.length l) (hcl : l.length ≤ cl) (h : redF k p l n = some r) :
    Calls Try.prog 74 #[.int .i64 p, .slice A l.length cl, .int .i64 n] w fun e w' => ∃ v, e = .returned v ∧ Kd.N kR 47 w' w.heap.size (fun _ => True) v r ∧ Below w.heap.size w w' := by
  unfold redF at h
  by_cases hs : p ≠ 0 ∧ l.length ≤ 100 ∧ 0 ≤ n ∧ n ≤ 2000 ∧ ∀ r ∈ l, r.length = n.toNat
  · rw [if_pos hs] at h
    obtain ⟨hp, hl, hn0, hn1, hlen⟩ := hs
    obtain ⟨m, rfl⟩ := Int.eq_ofNat_of_zero_le hn0
    rw [Int.toNat_natCast] at h hlen
    obtain ⟨base, hbs⟩ : ∃ b, w.heap.size = b := ⟨_, rfl⟩
    have H := Aside0.mk h
    have HL := Aside0.mk (show Kd.V kR 47 w base (fun j => some j ≠ (Value.slice none 0 0).ownBlock) (.slice A l.length cl) l from Kd.V_mk hcl (Kd.F_mono (Kd.C_F (Kd.heap_slice 3 Kd.heap_scalar) hC) (fun _ _ => by simp [Value.ownBlock])))
    have HI := Aside0.mk (show RedI m l [] from ⟨hlen, fun r hr => (by cases hr), by simpa using hl⟩)
    have HO := Aside0.mk (Kd.N_nil kR 47 w base (fun _ => True))
    have HB := Aside0.mk (show Below base w w from Below.refl _ _)
    clear h hlen hl hC
    have hw1 : wrap64 ((m : Int) - 1) = (m : Int) - 1 := by unfold wrap64; omega
    go_enter Try.func74, Try.ntmps74
    go_wp2
    go_loopg [1, 7, 8] m (fun kq v1 v7 v8 wr => ∃ (q : Nat) (l' out' : List (List Int)), kq = q ∧ v8 = .int .i64 ((q : Int) - 1) ∧ q ≤ m ∧ Aside0 (redL k p m q l' out' = some r) ∧ Aside0 (Kd.V kR 47 wr base (fun j => some j ≠ v7.ownBlock) v1 l') ∧ Aside0 (Kd.N kR 47 wr base (fun _ => True) v7 out') ∧ Aside0 (RedI m l' out') ∧ Aside0 (Below base w wr))
    case atStart => exact ⟨m, l, [], rfl, rfl, Nat.le_refl _, H, HL, HO, HI, HB⟩
    case round =>
      clear H HL HO HI HB
      obtain ⟨q, l', out', hkq0, hv8, hkq, H, HL, HO, HI, HB⟩ := hrel
      obtain ⟨w0, rfl⟩ : ∃ z, z = wr := ⟨_, rfl⟩
      have hbr : base ≤ w0.heap.size := by have := HB.out.size; omega
      rcases q with _ | row
      · obtain rfl : u8 = .int .i64 (-1) := by rw [hv8]; rfl
        clear hv8
        have H := H.out
        rw [redL] at H
        cases H
        go_wp2
        go_ret
        exact ⟨_, rfl, by rw [hbs]; exact HO.out, by rw [hbs]; exact HB.out⟩
      · rw [rd_dec] at hv8
        subst hv8
        have hge : decide ((0 : Int) ≤ (row : Int)) = true := decide_eq_true (by omega)
        obtain ⟨A1, c1, hv1, hc1, hF1⟩ := HL.out
        subst hv1
        have HF1 := Aside0.mk hF1
        clear hF1
        go_wp2
        go_loopg [9, 10] l'.length (fun kf v9 v10 wf => ∃ i : Nat, v10 = .int .i64 i ∧ v9 = .int .i64 (atI row i l') ∧ i ≤ l'.length ∧ kf = l'.length - i ∧ Below w0.heap.size w0 wf)
        case atStart => exact ⟨0, rfl, rfl, Nat.zero_le _, by omega, Below.refl _ _⟩
        case round =>
          obtain ⟨i, rfl, rfl, hi, hkf, hbf⟩ := hrel
          have HFf := Aside0.mk (Kd.F_below HF1.out hbf)
          have hfew := HI.out.few
          by_cases hlt : i < l'.length
          · obtain ⟨ad, Ar, cr, eA, x0, hcr, hFr⟩ := rowAt HFf.out i hlt
            have hlr := HI.out.lens _ (getD_in hlt)
            obtain ⟨a, ha⟩ : ∃ a, l'.getD i [] = a := ⟨_, rfl⟩
            rw [ha] at x0 hcr hFr hlr
            subst eA
            rw [hlr] at x0 hcr hFr
            obtain ⟨ae, eB, y0⟩ := intAt hFr row (by omega)
            subst eB
            have hltb : decide ((i : Int) < (l'.length : Int)) = true := decide_eq_true (by omega)
            have hatI : atI row (i + 1) l' = if rd a row ≠ 0 then (i : Int) else atI row i l' := by rw [atI, ha]
            obtain ⟨e, he⟩ : ∃ e, rd a row = e := ⟨_, rfl⟩
            rw [he] at y0 hatI
            by_cases hz : e = 0
            · have hzb : (e != 0) = false := by simp [hz]
              rw [if_neg (by simp [hz])] at hatI
              have HatI := Aside0.mk hatI
              clear hFr hz hatI he ha
              go_wp2
              go_roundg (l'.length - (i + 1))
              case measure => omega
              case rel => exact ⟨i + 1, congrArg (Value.int .i64) (by omega), congrArg (Value.int .i64) HatI.out.symm, by omega, rfl, hbf⟩
            · have hzb : (e != 0) = true := by simp [hz]
              rw [if_pos hz] at hatI
              have HatI := Aside0.mk hatI
              clear hFr hz hatI he ha
              go_wp2
              go_roundg (l'.length - (i + 1))
              case measure => omega
              case rel => exact ⟨i + 1, congrArg (Value.int .i64) (by omega), congrArg (Value.int .i64) HatI.out.symm, by omega, rfl, hbf⟩
          · obtain rfl : i = l'.length := by omega
            have hltb : decide ((l'.length : Int) < (l'.length : Int)) = false := decide_eq_false (by omega)
            obtain ⟨at0, hat0⟩ : ∃ z, atI row l'.length l' = z := ⟨_, rfl⟩
            rw [hat0]
            have Hat0 := Aside0.mk hat0
            by_cases hneg : at0 < 0
            · have hnb : decide (at0 < 0) = true := decide_eq_true hneg
              have H1 := Aside0.mk (show redL k p m row l' out' = some r by have h1 := H.out; rw [redL, hat0, if_pos hneg] at h1; exact h1)
              clear hneg hat0
              go_wp2
              go_roundg row
              case measure => omega
              case rel => exact ⟨row, l', out', rfl, rfl, by omega, H1, ⟨Kd.V_below HL.out hbf⟩, ⟨Kd.N_below HO.out hbf⟩, HI, ⟨HB.out.trans (hbf.mono hbr)⟩⟩
            · obtain ⟨wE, rfl⟩ : ∃ z, z = wr := ⟨_, rfl⟩
              obtain ⟨t, rfl⟩ := Int.eq_ofNat_of_zero_le (show 0 ≤ at0 by omega)
              have hlt : t < l'.length := by have := (atI_lt row l'.length l').1; omega
              have hnb : decide ((t : Int) < 0) = false := decide_eq_false hneg
              have h1 := H.out
              rw [redL, hat0, if_neg hneg, Int.toNat_natCast] at h1
              obtain ⟨⟨t1, t2⟩, hInv, h1⟩ := Option.bind_eq_some_iff.1 h1
              obtain ⟨a, ha⟩ : ∃ a, l'.getD t [] = a := ⟨_, rfl⟩
              have hla := HI.out.lens _ (getD_in hlt)
              rw [ha] at h1 hInv hla
              obtain ⟨vv, hvv⟩ : ∃ v, pivV p t1 m a = v := ⟨_, rfl⟩
              simp only [hvv] at h1
              have hsum := sum_refx p t1 hp (List.replicate m 0) a (by simp; omega) (by simp [hla]) (m + 400) (by simp)
              have hvv' : sumL p (modB p t1) (List.replicate m 0) a = vv := hvv
              rw [hvv'] at hsum
              have hlv : vv.length = m := by rw [← hvv']; simp [sumL_len, hla]
              have H1 := Aside0.mk h1
              have HLV := Aside0.mk hlv
              have HINV := Aside0.mk hInv
              obtain ⟨z, hz⟩ : ∃ z, List.replicate m (0 : Int) = z := ⟨_, rfl⟩
              have hmk := fun W => made_ints m (by omega) W
              have hCz := fun W => C_made m (by omega) W
              obtain ⟨gm, hgm⟩ : ∃ gm : World → World, ∀ W, W.alloc (.cells (madeCells (Value.int .i64 0).cells m) 3) = gm W := ⟨_, fun _ => rfl⟩
              have hbgm : ∀ W, Below W.heap.size W (gm W) := fun W => by rw [← hgm]; exact below_alloc (Below.refl _ _) _
              simp only [hgm] at hmk hCz
              rw [hz] at hsum hmk hCz
              have HBG := Aside0.mk hbgm
              have HSUM := Aside0.mk hsum
              have HLZ := Aside0.mk (show z.length = m by rw [← hz]; simp)
              have HCZ := Aside0.mk hCz
              obtain ⟨ad, Ar, cr, eA, x0, hcr, hFr⟩ := rowAt HFf.out t hlt
              rw [ha] at x0 hcr hFr
              subst eA
              have hrow : row < a.length := by omega
              obtain ⟨ae, eB, y0⟩ := intAt hFr row hrow
              subst eB
              have HLA := Aside0.mk hla
              have HFR := Aside0.mk hFr
              have HCR := Aside0.mk hcr
              have hmlen : ((m : Int)) ≤ 2000 := by omega
              clear h1 hsum hInv hvv hvv' hlv hneg hat0 ha hFr hla hcr hz hCz hbgm hgm
              go_upto_region 13 with (first | (go_at_call 86; refine (torusref01_Inv.calls k p (rd a row) t1 t2 _ HINV.out).mono ?_; rintro e w1 ⟨rfl, ⟨nd, rfl⟩⟩))
              generalize hW1 : wE.drewN nd = W1
              have b1 : Below wE.heap.size wE W1 := by rw [← hW1]; exact ⟨rfl, rfl, rfl, Nat.le_refl _, fun _ _ => rfl⟩
              have xd : W1.drew.cell? (ad.add t) = some (.slice (some ae) a.length cr) := by rw [← hW1]; exact x0
              have xa : (gm W1.drew).cell? (ad.add t) = some (.slice (some ae) a.length cr) := pw_cell_below (HBG.out _) xd
              have HFR1 := Aside0.mk (Kd.F_below HFR.out b1)
              clear x0 y0 hW1
              go_cut [13] (fun v13 wx => Aside0 (Kd.R kI 3 wx wE.heap.size (fun _ => True) v13 vv ∧ Below wE.heap.size wE wx))
              case first =>
                go_region_with (go_at_call 78; (refine (torusref04_Sum.calls (m + 400) p _ _ z t1 _ _ a vv _ ?a1 ?a2 ?a3 ?a4 HSUM.out).mono ?_); (case a1 => exact HCZ.out _); (case a2 => exact Nat.le_refl _); (case a3 => exact Kd.F_now (Kd.F_below (Kd.F_drew HFR1.out) (HBG.out _))); (case a4 => exact HCR.out); rintro e w2 ⟨v2, rfl, hR2, hb2⟩)
                all_goals
                  go_wp2_with fail
                  go_meet
                  have b2 : Below wE.heap.size wE (gm W1.drew) := b1.drew.trans ((HBG.out W1.drew).mono b1.drew.size)
                  exact ⟨⟨Kd.R_lower hR2 b2.size, b2.trans (hb2.mono b2.size)⟩⟩
              case rest =>
                obtain ⟨w3, rfl⟩ : ∃ z, z = wc := ⟨_, rfl⟩
                obtain ⟨hRv, bwc⟩ := hcut.out
                obtain ⟨Av, cv, rfl⟩ := Kd.R_slice hRv
                have HRV := Aside0.mk hRv
                have b3 : Below w0.heap.size w0 w3 := hbf.trans (bwc.mono hbf.size)
                have HF3 := Aside0.mk (Kd.F_below HF1.out b3)
                have HO3 := Aside0.mk (Kd.N_below HO.out b3)
                have HLT7 := Aside0.mk (Kd.N_lt HO3.out)
                have hcutA := cut_upto94 (some ad) l'.length c1 t (by omega)
                have hcutB := cut_from94 (some ad) l'.length c1 (t + 1) (by omega)
                have HT1 := Aside0.mk (show ([] : List (List Int)).length + t ≤ 1000 by have := HI.out.few; simp only [List.length_nil]; omega)
                have HT2 := Aside0.mk (show ([] ++ l'.take t : List (List Int)).length + (l'.length - (t + 1)) ≤ 1000 by have := HI.out.few; have := List.length_take_le t l'; simp only [List.nil_append]; omega)
                have HFA := Aside0.mk (show Kd.F kR w3 (fun j => some j ≠ u7.ownBlock) (some ad) t (l'.take t) by
                  have h := Kd.F_take HF3.out (m := t) (by omega)
                  rwa [List.length_take, Nat.min_eq_left (by omega)] at h)
                have hFB := Kd.F_cut HF3.out (m := t + 1) (by omega) hc1
                obtain ⟨B, hB⟩ : ∃ B : Option Addr, (if c1 = t + 1 then some ad else (some ad).map (·.add ((t + 1) * kR.sz))) = B := ⟨_, rfl⟩
                rw [hB] at hFB hcutB
                rw [List.length_drop] at hFB
                have HFB := Aside0.mk hFB
                clear hFB hB
                rw [show ((t + 1 : Nat) : Int) = (t : Int) + 1 by omega] at hcutB
                have hw1t : wrap64 ((t : Int) + 1) = (t : Int) + 1 := by unfold wrap64; omega
                clear hcut hRv
                go_upto_region 14 with fail
                go_cut [1] (fun v1 wx => Aside0 (Kd.N kR 47 wx w3.heap.size (fun j => some j ≠ u7.ownBlock) v1 (l'.eraseIdx t) ∧ Below w3.heap.size w3 wx))
                case first =>
                  refine start_ (n := 11) (S := fun _ => True) (ds := []) #[false, false, false, false, false, false, false, false, false, false, false] (by kernel_rfl) rfl rfl trivial (fun _ => ?_)
                  refine pure_ (i := 1) (N := some 61) (v := ?_) (a' := ?_) #[false, true, false, false, false, false, false, false, false, false, false] rfl rfl (by kernel_rfl) (fun _ _ _ h => h) (Or.inl ⟨by rfl, ?_⟩) ?_ ?_
                  rotate_left
                  · intro w'
                    go_simp
                    with_reducible rfl
                  rotate_left
                  · simp only [Act.put, List.setIfInBounds_toArray, List.set_cons_zero, List.set_cons_succ, i64_w, i32_w]
                    rfl
                  refine pure_ (i := 2) (N := some 62) (v := ?_) (a' := ?_) #[false, true, true, false, false, false, false, false, false, false, false] rfl rfl (by kernel_rfl) (fun _ _ _ h => h) (Or.inl ⟨by rfl, ?_⟩) ?_ ?_
                  rotate_left
                  · intro w'
                    go_simp
                    with_reducible rfl
                  rotate_left
                  · simp only [Act.put, List.setIfInBounds_toArray, List.set_cons_zero, List.set_cons_succ, i64_w, i32_w]
                    rfl
                  refine pure_ (i := 3) (N := some 63) (v := ?_) (a' := ?_) #[false, true, true, true, false, false, false, false, false, false, false] rfl rfl (by kernel_rfl) (fun _ _ _ h => h) (Or.inl ⟨by rfl, ?_⟩) ?_ ?_
                  rotate_left
                  · intro w'
                    go_simp
                    with_reducible rfl
                  rotate_left
                  · simp only [Act.put, List.setIfInBounds_toArray, List.set_cons_zero, List.set_cons_succ, i64_w, i32_w]
                    rfl
                  refine pure_ (i := 5) (N := some 65) (v := ?_) (a' := ?_) #[false, true, true, true, false, true, false, false, false, false, false] rfl rfl (by kernel_rfl) (fun _ _ _ h => h) (Or.inl ⟨by rfl, ?_⟩) ?_ ?_
                  rotate_left
                  · intro w'
                    go_simp
                    with_reducible rfl
                  rotate_left
                  · simp only [Act.put, List.setIfInBounds_toArray, List.set_cons_zero, List.set_cons_succ, i64_w, i32_w]
                    rfl
                  refine pure_ (i := 6) (N := some 66) (v := ?_) (a' := ?_) #[false, true, true, true, false, true, true, false, false, false, false] rfl rfl (by kernel_rfl) (fun _ _ _ h => h) (Or.inl ⟨by rfl, ?_⟩) ?_ ?_
                  rotate_left
                  · intro w'
                    go_simp
                    with_reducible rfl
                  rotate_left
                  · simp only [Act.put, List.setIfInBounds_toArray, List.set_cons_zero, List.set_cons_succ, i64_w, i32_w]
                    rfl
                  refine pure_ (i := 7) (N := some 67) (v := ?_) (a' := ?_) #[false, true, true, true, false, true, true, true, false, false, false] rfl rfl (by kernel_rfl) (fun _ _ _ h => h) (Or.inl ⟨by rfl, ?_⟩) ?_ ?_
                  rotate_left
                  · intro w'
                    go_simp
                    with_reducible rfl
                  rotate_left
                  · simp only [Act.put, List.setIfInBounds_toArray, List.set_cons_zero, List.set_cons_succ, i64_w, i32_w]
                    rfl
                  refine pure_ (i := 8) (N := some 68) (v := ?_) (a' := ?_) #[false, true, true, true, false, true, true, true, true, false, false] rfl rfl (by kernel_rfl) (fun _ _ _ h => h) (Or.inl ⟨by rfl, ?_⟩) ?_ ?_
                  rotate_left
                  · intro w'
                    go_simp
                    with_reducible rfl
                  rotate_left
                  · simp only [Act.put, List.setIfInBounds_toArray, List.set_cons_zero, List.set_cons_succ, i64_w, i32_w]
                    rfl
                  refine one_ (i := 0) (N := some 60) #[true, true, true, true, false, true, true, true, true, false, false] rfl rfl (by kernel_rfl) (by decide) (fun K hK => ?_)
                  refine Kd.N_lit_step kR _ 47 ?hg (N' := 60) ?hd (xs := ([] : List (List Int))) (inner := []) (ok := fun j => some j ≠ u7.ownBlock) (okp := fun _ => False) ?hr ?hp (fun _ hk => hk.elim) ?hf (Below.refl _ _) (Nat.le_refl _) (by simp) ?_
                  (case hd => rfl)
                  (case hg => rfl)
                  (case hr => first | (go_simp; done) | (go_simp; rfl))
                  (case hp => exact Reps.none _ _)
                  (case hf => exact fun e => absurd (HLT7.out _ e.symm) (by simp))
                  intro v60 w60 ho60 hb60 hg60 hat60
                  replace hb60 : Below w3.heap.size w3 w60 := (Below.refl _ w3).drew.trans hb60
                  replace ho60 := Kd.N_lower (base' := w3.heap.size) ho60 (by simp)
                  have hv60 : ∀ j, some j = v60.ownBlock → w3.heap.size ≤ j := fun j e => by
                    obtain ⟨b, hb, hle⟩ := hat60
                    rw [hb] at e
                    cases e
                    simpa using hle
                  clear hg60 hat60
                  have HO60 := Aside0.mk ho60
                  have HB60 := Aside0.mk hb60
                  have HV60 := Aside0.mk hv60
                  clear ho60 hb60 hv60
                  refine hK.out _ _ trivial (fun _ => ?_)
                  clear hK K
                  refine norm_ (a' := ?_) ?_ ?_
                  rotate_left
                  · show Act.put _ (some 60) _ = _
                    simp only [Act.put, List.setIfInBounds_toArray, List.set_cons_zero, List.set_cons_succ, i64_w, i32_w]
                    rfl
                  refine one_ (i := 4) (N := some 64) #[true, true, true, true, true, true, true, true, true, false, false] rfl rfl (by kernel_rfl) (by decide) (fun K hK => ?_)
                  refine Kd.N_append_rows_step kR (w0 := w3) w3.heap.size (by rfl) (.tmp 60) (.tmp 63) 94 47 (.slice none 0 0) 24 rfl Try.underlying94 info47 rfl (by decide) (by omega) v60 [] (l'.take t) _ _ _ (fun j => some j ≠ u7.ownBlock) (fun j => some j ≠ u7.ownBlock ∧ j < w3.heap.size) rfl rfl ?aO ?aR ?aP ?aF ?aB ?aS ?aL ?_
                  (case aO => exact HO60.out)
                  (case aR => exact Kd.F_below (Kd.F_bound HFA.out) HB60.out)
                  (case aP => exact fun j hj => ⟨hj.1, fun e => absurd (HV60.out j e) (Nat.not_le.2 hj.2)⟩)
                  (case aF => exact fun j hj e => absurd (HLT7.out j e.symm) (Nat.not_lt.2 (Nat.le_trans HB60.out.size hj)))
                  (case aB => exact HB60.out)
                  (case aS => exact HB60.out.size)
                  (case aL => exact room24 HT1.out)
                  intro v64 w64 ho64 hb64 hg64 hat64
                  have hv64 : ∀ j, some j = v64.ownBlock → w3.heap.size ≤ j := fun j e => by
                    rcases hat64 with h | ⟨b, hb, hle⟩
                    · exact HV60.out j (by rw [e, h])
                    · rw [hb] at e
                      cases e
                      exact Nat.le_trans HB60.out.size hle
                  clear hg64 hat64
                  have HO64 := Aside0.mk ho64
                  have HB64 := Aside0.mk hb64
                  have HV64 := Aside0.mk hv64
                  clear ho64 hb64 hv64
                  refine hK.out _ _ trivial (fun _ => ?_)
                  clear hK K
                  refine norm_ (a' := ?_) ?_ ?_
                  rotate_left
                  · show Act.put _ (some 64) _ = _
                    simp only [Act.put, List.setIfInBounds_toArray, List.set_cons_zero, List.set_cons_succ, i64_w, i32_w]
                    rfl
                  refine one_ (i := 9) (N := some 69) #[true, true, true, true, true, true, true, true, true, true, false] rfl rfl (by kernel_rfl) (by decide) (fun K hK => ?_)
                  refine Kd.N_append_rows_step kR (w0 := w3) w3.heap.size (by rfl) (.tmp 64) (.tmp 68) 94 47 (.slice none 0 0) 24 rfl Try.underlying94 info47 rfl (by decide) (by omega) v64 ([] ++ l'.take t) (l'.drop (t + 1)) _ _ _ (fun j => some j ≠ u7.ownBlock) (fun j => some j ≠ u7.ownBlock ∧ j < w3.heap.size) rfl rfl ?aO ?aR ?aP ?aF ?aB ?aS ?aL ?_
                  (case aO => exact HO64.out)
                  (case aR => exact Kd.F_below (Kd.F_bound HFB.out) HB64.out)
                  (case aP => exact fun j hj => ⟨hj.1, fun e => absurd (HV64.out j e) (Nat.not_le.2 hj.2)⟩)
                  (case aF => exact fun j hj e => absurd (HLT7.out j e.symm) (Nat.not_lt.2 (Nat.le_trans HB64.out.size hj)))
                  (case aB => exact HB64.out)
                  (case aS => exact HB64.out.size)
                  (case aL => exact room24 HT2.out)
                  intro v69 w69 ho69 hb69 hg69 hat69
                  have hv69 : ∀ j, some j = v69.ownBlock → w3.heap.size ≤ j := fun j e => by
                    rcases hat69 with h | ⟨b, hb, hle⟩
                    · exact HV64.out j (by rw [e, h])
                    · rw [hb] at e
                      cases e
                      exact Nat.le_trans HB64.out.size hle
                  clear hg69 hat69
                  have HO69 := Aside0.mk ho69
                  have HB69 := Aside0.mk hb69
                  have HV69 := Aside0.mk hv69
                  clear ho69 hb69 hv69
                  refine hK.out _ _ trivial (fun _ => ?_)
                  clear hK K
                  refine norm_ (a' := ?_) ?_ ?_
                  rotate_left
                  · show Act.put _ (some 69) _ = _
                    simp only [Act.put, List.setIfInBounds_toArray, List.set_cons_zero, List.set_cons_succ, i64_w, i32_w]
                    rfl
                  refine pure_ (i := 10) (N := some 1) (v := ?_) (a' := ?_) #[true, true, true, true, true, true, true, true, true, true, true] rfl rfl (by kernel_rfl) (fun _ _ _ h => h) (Or.inl ⟨by rfl, ?_⟩) ?_ ?_
                  rotate_left
                  · intro w'
                    go_simp
                    with_reducible rfl
                  rotate_left
                  · simp only [Act.put, List.setIfInBounds_toArray, List.set_cons_zero, List.set_cons_succ, i64_w, i32_w]
                    rfl
                  refine done_ (by kernel_rfl) ?_
                  go_wp2_with fail
                  go_meet
                  refine ⟨⟨?_, HB69.out⟩⟩
                  have h := HO69.out
                  rwa [List.nil_append, ← List.eraseIdx_eq_take_drop_succ] at h
                case rest =>
                  obtain ⟨w4, rfl⟩ : ∃ z, z = wc := ⟨_, rfl⟩
                  obtain ⟨hN1, b34⟩ := hcut.out
                  have HOWN := Aside0.mk hN1
                  have HOTH := Aside0.mk (Kd.N_mono (Kd.N_elder' HO3.out (Kd.N_base hN1) b34) (ok' := fun j => some j ≠ u1.ownBlock) (fun _ hj => hj.2))
                  have HVV := Aside0.mk (Kd.R_mono (Kd.R_elder' (Kd.R_apart' HRV.out (Kd.N_typed HO3.out) (by decide)) (Kd.N_base hN1) b34) (ok' := fun j => some j ≠ u7.ownBlock ∧ some j ≠ u1.ownBlock) (fun _ hj => ⟨hj.1.2, hj.2⟩))
                  have HBB := Aside0.mk (show Below base w w4 from (HB.out.trans (b3.mono hbr)).trans (b34.mono (Nat.le_trans hbr b3.size)))
                  have hb3 : base ≤ w3.heap.size := Nat.le_trans hbr b3.size
                  have HLT : t < l'.length := hlt
                  obtain ⟨L, hL⟩ : ∃ L, l'.eraseIdx t = L := ⟨_, rfl⟩
                  rw [hL] at HOWN
                  have HLL := Aside0.mk (show ∀ a ∈ L, a.length = m from fun a ha => HI.out.lens a (List.mem_of_mem_eraseIdx (by rw [hL]; exact ha)))
                  have HEL := Aside0.mk hL
                  have hLc : L.length ≤ 100 := by rw [← hL]; exact HI.out.fewL HLT
                  have hOc := HI.out.fewO
                  have HM2 := Aside0.mk (show m ≤ 2000 from Int.ofNat_le.1 hmlen)
                  clear hcut hN1 b34 HO3 HRV hL hw1t hw1 hcutA hcutB hmk
                  obtain ⟨A4, c4, e4⟩ := Kd.N_slice HOWN.out
                  subst e4
                  obtain ⟨A7, c7, e7⟩ := Kd.N_slice HOTH.out
                  subst e7
                  go_wp2
                  go_loopg [14] L.length (fun kf vx wf => ∃ i : Nat, vx = .int .i64 i ∧ i ≤ L.length ∧ kf = L.length - i ∧ Aside0 (Kd.N kR 47 wf w3.heap.size (fun j => some j ≠ (Value.slice A7 out'.length c7).ownBlock) (Value.slice A4 L.length c4) ((L.map (subV p row vv)).take i ++ L.drop i)) ∧ Aside0 (Kd.N kR 47 wf base (fun j => some j ≠ (Value.slice A4 L.length c4).ownBlock) (Value.slice A7 out'.length c7) out') ∧ Aside0 (Kd.R kI 3 wf wE.heap.size (fun j => some j ≠ (Value.slice A7 out'.length c7).ownBlock ∧ some j ≠ (Value.slice A4 L.length c4).ownBlock) (.slice Av vv.length cv) vv) ∧ Aside0 (Below base w wf))
                  case atStart => exact ⟨0, rfl, Nat.zero_le _, rfl, ⟨by simpa using HOWN.out⟩, HOTH, HVV, HBB⟩
                  case round =>
                    clear HOWN HOTH HVV HBB
                    obtain ⟨i, rfl, hi, hkf, HN, HOT, HV, HBw⟩ := hrel
                    obtain ⟨wQ, rfl⟩ : ∃ z, z = wr := ⟨_, rfl⟩
                    have hdl := take_drop_len L (subV p row vv) i hi
                    by_cases hlt : i < L.length
                    · obtain ⟨g, eg⟩ : ∃ g, A4 = some ⟨g, 0, none⟩ := by
                        obtain ⟨g, cap, e⟩ := N_form HN.out (by rw [hdl]; exact Nat.lt_of_le_of_lt (Nat.zero_le _) hlt)
                        injection e with e1 e2 e3
                        exact ⟨g, e1⟩
                      subst eg
                      have hltb : decide ((i : Int) < (L.length : Int)) = true := lt_dec hlt
                      obtain ⟨ad, Ar, cr, eA, x0, hcr, hFr⟩ := rowAt (Kd.N_F HN.out) i hlt
                      cases eA
                      rw [take_drop_get L _ i hlt] at x0 hcr hFr
                      rw [add_plain] at x0
                      have hla := HLL.out _ (getD_in hlt)
                      have hset := take_drop_set L (subV p row vv) i hlt
                      obtain ⟨a, ha⟩ : ∃ a, L.getD i [] = a := ⟨_, rfl⟩
                      rw [ha] at x0 hcr hFr hla hset
                      have hrow : row < a.length := by rw [hla]; exact hkq
                      obtain ⟨ae, eB, y0⟩ := intAt hFr row hrow
                      subst eB
                      obtain ⟨d, hd⟩ : ∃ d, subV p row vv a = d := ⟨_, rfl⟩
                      have hsum := sum_row hp HM2.out hla HLV.out hd
                      rw [hd] at hset
                      have HSM := Aside0.mk hsum
                      have HSET := Aside0.mk hset
                      have HCR := Aside0.mk hcr
                      have HFR := Aside0.mk hFr
                      have HDL := Aside0.mk hdl
                      have xd : wQ.drew.cell? ⟨g, i, none⟩ = some (.slice (some ae) a.length cr) := x0
                      have yd : wQ.drew.cell? (ae.add row) = some (.int .i64 (rd a row)) := y0
                      clear hsum hset hcr hFr ha hla hd hdl x0 y0
                      go_upto_region 18 with fail
                      go_region_with (go_at_call 78; (refine (torusref04_Sum.calls (m + 400) p _ _ a _ _ _ vv d _ ?a1 ?a2 ?a3 ?a4 HSM.out).mono ?_); (case a1 => exact Kd.F_now (Kd.F_drew HFR.out)); (case a2 => exact HCR.out); (case a3 => exact (Kd.R_reads' (Kd.R_drew HV.out)).2.2); (case a4 => exact (Kd.R_reads' HV.out).2.1); rintro e w5 ⟨v5, rfl, hR5, hb5⟩; obtain ⟨A5, c5, rfl⟩ := Kd.R_slice hR5; have HN5 := Aside0.mk (Kd.N_below (Kd.N_drew HN.out) hb5); obtain ⟨⟨z0, s0⟩, f0⟩ := N_own HN5.out hlt)
                      all_goals
                        go_wp2_with fail
                        have lg : g < wQ.heap.size := Kd.N_lt HN.out g rfl
                        have lo : ∀ k, (Value.slice A7 out'.length c7).ownBlock = some k → k < wQ.heap.size := Kd.N_lt HOT.out
                        have gb : base ≤ g := Nat.le_trans hb3 (Kd.N_base HN.out g rfl)
                        have bQ : base ≤ wQ.drew.heap.size := by have := HBw.out.size; simp; omega
                        have ne : ∀ k, some k ≠ (Value.slice (some ⟨g, 0, none⟩) L.length c4).ownBlock → k ≠ g := fun k hk e => hk (by rw [e]; simp [Value.ownBlock])
                        have k1 : Kd.N kR 47 (w5.setCell ⟨g, i, none⟩ (.slice A5 d.length c5)) w3.heap.size (fun j => some j ≠ (Value.slice A7 out'.length c7).ownBlock) (.slice (some ⟨g, 0, none⟩) L.length c4) ((L.map (subV p row vv)).take (i + 1) ++ L.drop (i + 1)) := by
                          have h := Kd.N_put (d := kR) rfl HN5.out (i := i) (x := d) (u := .slice A5 d.length c5) (okx := fun k => wQ.heap.size ≤ k) (by rw [HDL.out]; exact hlt) (Kd.FK_slice_mk (Kd.R_reads' hR5).2.1 (Kd.R_F (Kd.R_mono (Kd.R_bound hR5) (fun k hk => by have := hk.2.1; simpa using this)))) (fun k hk => ⟨fun e => absurd (lo k e.symm) (Nat.not_lt.2 hk), fun e => absurd lg (by rw [← e]; exact Nat.not_lt.2 hk)⟩)
                          rw [HSET.out] at h
                          exact h
                        have k2 := N_far (i := i) (u := .slice A5 d.length c5) (Kd.N_below (Kd.N_drew HOT.out) hb5) ne
                        have k3 := Kd.R_far (p := ⟨g, i, none⟩) (Kd.R_below (Kd.R_drew HV.out) hb5) (fun k hk => ne k hk.2) (.slice A5 d.length c5)
                        have k4 := (HBw.out.drew.trans (hb5.mono bQ)).setCell (p := ⟨g, i, none⟩) gb (.slice A5 d.length c5)
                        go_roundg (L.length - (i + 1))
                        case measure => exact less_left hlt hkf
                        case rel => exact ⟨i + 1, (by first | exact int_next' i | exact int_next hlt hLc), hlt, rfl, ⟨k1⟩, ⟨k2⟩, ⟨k3⟩, ⟨k4⟩⟩
                    · obtain rfl : i = L.length := i_done hi hlt
                      have hltb := ge_dec L.length
                      have HOWN := Aside0.mk (show Kd.N kR 47 wQ w3.heap.size (fun j => some j ≠ (Value.slice A7 out'.length c7).ownBlock) (Value.slice A4 L.length c4) (L.map (subV p row vv)) by
                        have h := HN.out
                        rwa [List.take_of_length_le (by simp), List.drop_length, List.append_nil] at h)
                      clear hdl hi hlt hkf HN
                      obtain ⟨HOTH, HOWN, HVV, HBB⟩ : _ ∧ _ ∧ _ ∧ _ := ⟨HOWN, HOT, HV, HBw⟩
                      clear HOT HV HBw hltb
                      go_wp2
                      go_loopg [15] out'.length (fun kf vx wf => ∃ i : Nat, vx = .int .i64 i ∧ i ≤ out'.length ∧ kf = out'.length - i ∧ Aside0 (Kd.N kR 47 wf base (fun j => some j ≠ (Value.slice A4 L.length c4).ownBlock) (Value.slice A7 out'.length c7) ((out'.map (subV p row vv)).take i ++ out'.drop i)) ∧ Aside0 (Kd.N kR 47 wf w3.heap.size (fun j => some j ≠ (Value.slice A7 out'.length c7).ownBlock) (Value.slice A4 L.length c4) (L.map (subV p row vv))) ∧ Aside0 (Kd.R kI 3 wf wE.heap.size (fun j => some j ≠ (Value.slice A7 out'.length c7).ownBlock ∧ some j ≠ (Value.slice A4 L.length c4).ownBlock) (.slice Av vv.length cv) vv) ∧ Aside0 (Below base w wf))
                      case atStart => exact ⟨0, rfl, Nat.zero_le _, rfl, ⟨by simpa using HOWN.out⟩, HOTH, HVV, HBB⟩
                      case round =>
                        clear HOWN HOTH HVV HBB
                        obtain ⟨i, rfl, hi, hkf, HN, HOT, HV, HBw⟩ := hrel
                        obtain ⟨wQ, rfl⟩ : ∃ z, z = wr := ⟨_, rfl⟩
                        have hdl := take_drop_len out' (subV p row vv) i hi
                        by_cases hlt : i < out'.length
                        · obtain ⟨g, eg⟩ : ∃ g, A7 = some ⟨g, 0, none⟩ := by
                            obtain ⟨g, cap, e⟩ := N_form HN.out (by rw [hdl]; exact Nat.lt_of_le_of_lt (Nat.zero_le _) hlt)
                            injection e with e1 e2 e3
                            exact ⟨g, e1⟩
                          subst eg
                          have hltb : decide ((i : Int) < (out'.length : Int)) = true := lt_dec hlt
                          obtain ⟨ad, Ar, cr, eA, x0, hcr, hFr⟩ := rowAt (Kd.N_F HN.out) i hlt
                          cases eA
                          rw [take_drop_get out' _ i hlt] at x0 hcr hFr
                          rw [add_plain] at x0
                          have hla := HI.out.leno _ (getD_in hlt)
                          have hset := take_drop_set out' (subV p row vv) i hlt
                          obtain ⟨a, ha⟩ : ∃ a, out'.getD i [] = a := ⟨_, rfl⟩
                          rw [ha] at x0 hcr hFr hla hset
                          have hrow : row < a.length := by rw [hla]; exact hkq
                          obtain ⟨ae, eB, y0⟩ := intAt hFr row hrow
                          subst eB
                          obtain ⟨d, hd⟩ : ∃ d, subV p row vv a = d := ⟨_, rfl⟩
                          have hsum := sum_row hp HM2.out hla HLV.out hd
                          rw [hd] at hset
                          have HSM := Aside0.mk hsum
                          have HSET := Aside0.mk hset
                          have HCR := Aside0.mk hcr
                          have HFR := Aside0.mk hFr
                          have HDL := Aside0.mk hdl
                          have xd : wQ.drew.cell? ⟨g, i, none⟩ = some (.slice (some ae) a.length cr) := x0
                          have yd : wQ.drew.cell? (ae.add row) = some (.int .i64 (rd a row)) := y0
                          clear hsum hset hcr hFr ha hla hd hdl x0 y0
                          go_upto_region 22 with fail
                          go_region_with (go_at_call 78; (refine (torusref04_Sum.calls (m + 400) p _ _ a _ _ _ vv d _ ?a1 ?a2 ?a3 ?a4 HSM.out).mono ?_); (case a1 => exact Kd.F_now (Kd.F_drew HFR.out)); (case a2 => exact HCR.out); (case a3 => exact (Kd.R_reads' (Kd.R_drew HV.out)).2.2); (case a4 => exact (Kd.R_reads' HV.out).2.1); rintro e w5 ⟨v5, rfl, hR5, hb5⟩; obtain ⟨A5, c5, rfl⟩ := Kd.R_slice hR5; have HN5 := Aside0.mk (Kd.N_below (Kd.N_drew HN.out) hb5); obtain ⟨⟨z0, s0⟩, f0⟩ := N_own HN5.out hlt)
                          all_goals
                            go_wp2_with fail
                            have lg : g < wQ.heap.size := Kd.N_lt HN.out g rfl
                            have lo : ∀ k, (Value.slice A4 L.length c4).ownBlock = some k → k < wQ.heap.size := Kd.N_lt HOT.out
                            have gb : base ≤ g := Nat.le_trans (Nat.le_refl _) (Kd.N_base HN.out g rfl)
                            have bQ : base ≤ wQ.drew.heap.size := by have := HBw.out.size; simp; omega
                            have ne : ∀ k, some k ≠ (Value.slice (some ⟨g, 0, none⟩) out'.length c7).ownBlock → k ≠ g := fun k hk e => hk (by rw [e]; simp [Value.ownBlock])
                            have k1 : Kd.N kR 47 (w5.setCell ⟨g, i, none⟩ (.slice A5 d.length c5)) base (fun j => some j ≠ (Value.slice A4 L.length c4).ownBlock) (.slice (some ⟨g, 0, none⟩) out'.length c7) ((out'.map (subV p row vv)).take (i + 1) ++ out'.drop (i + 1)) := by
                              have h := Kd.N_put (d := kR) rfl HN5.out (i := i) (x := d) (u := .slice A5 d.length c5) (okx := fun k => wQ.heap.size ≤ k) (by rw [HDL.out]; exact hlt) (Kd.FK_slice_mk (Kd.R_reads' hR5).2.1 (Kd.R_F (Kd.R_mono (Kd.R_bound hR5) (fun k hk => by have := hk.2.1; simpa using this)))) (fun k hk => ⟨fun e => absurd (lo k e.symm) (Nat.not_lt.2 hk), fun e => absurd lg (by rw [← e]; exact Nat.not_lt.2 hk)⟩)
                              rw [HSET.out] at h
                              exact h
                            have k2 := N_far (i := i) (u := .slice A5 d.length c5) (Kd.N_below (Kd.N_drew HOT.out) hb5) ne
                            have k3 := Kd.R_far (p := ⟨g, i, none⟩) (Kd.R_below (Kd.R_drew HV.out) hb5) (fun k hk => ne k hk.1) (.slice A5 d.length c5)
                            have k4 := (HBw.out.drew.trans (hb5.mono bQ)).setCell (p := ⟨g, i, none⟩) gb (.slice A5 d.length c5)
                            go_roundg (out'.length - (i + 1))
                            case measure => exact less_left hlt hkf
                            case rel => exact ⟨i + 1, (by first | exact int_next' i | exact int_next hlt hOc), hlt, rfl, ⟨k1⟩, ⟨k2⟩, ⟨k3⟩, ⟨k4⟩⟩
                        · obtain rfl : i = out'.length := i_done hi hlt
                          have hltb := ge_dec out'.length
                          have HOWN := Aside0.mk (show Kd.N kR 47 wQ base (fun j => some j ≠ (Value.slice A4 L.length c4).ownBlock) (Value.slice A7 out'.length c7) (out'.map (subV p row vv)) by
                            have h := HN.out
                            rwa [List.take_of_length_le (by simp), List.drop_length, List.append_nil] at h)
                          clear hdl hi hlt hkf HN
                          have bQ0 : base ≤ wQ.heap.size := by rw [← hbs]; exact HBw.out.size
                          have HFV := Aside0.mk (Kd.R_F (Kd.R_bound HV.out))
                          have HVC := Aside0.mk (Kd.R_reads' HV.out).2.1
                          have hroom : Aside0 (([vv] : List (List Int)).length + (out'.map (subV p row vv)).length ≤ 1000) := ⟨by rw [List.length_map]; exact Nat.le_trans (Nat.add_le_add_left hOc 1) (by decide)⟩
                          have hmo : (out'.map (subV p row vv)).length = out'.length := List.length_map _
                          have HMO := Aside0.mk hmo
                          clear hmo
                          go_wp2_with (first | ((with_reducible refine gate_dst (N := 119) rfl ?_); refine Kd.N_lit kR _ 47 ?hg (N' := 119) ?hd (xs := ([vv] : List (List Int))) (inner := [.slice Av vv.length cv]) (ok := fun _ => True) (okp := fun _ => True) ?hr ?hp (fun _ _ => trivial) trivial (Below.refl _ _) (Nat.le_refl _) (by simp) ?_; (case hd => rfl); (case hg => rfl); (case hr => first | (go_simp; done) | (go_simp; rfl)); (case hp => exact Reps.one (Kd.FK_slice_mk HVC.out (Kd.F_mono HFV.out (fun _ _ => trivial))) (Reps.none _ _)); intro v119 w7 ho7 hb7 hg7 hat7; have HO7 := Aside0.mk ho7; have HB7 := Aside0.mk hb7; have HAT7 := Aside0.mk hat7; clear ho7 hb7 hg7 hat7; obtain ⟨A9, c9, e9⟩ := Kd.N_slice HO7.out; subst e9) | ((with_reducible refine gate_builtin (b := .append) (xs := #[.tmp 119, .tmp 120]) rfl ?_); at_builtin; refine Kd.N_append_rows kR (w0 := wQ) wQ.heap.size rfl (.tmp 119) (.tmp 120) 94 47 (.slice none 0 0) 24 rfl Try.underlying94 info47 rfl (by decide) (by decide) (.slice A9 ([vv] : List (List Int)).length c9) [vv] (out'.map (subV p row vv)) _ _ _ (fun _ => True) (fun j => j < wQ.heap.size) rfl rfl ?aO ?aR ?aP ?aF ?aB ?aS ?aL ?_; (case aO => exact HO7.out); (case aR => have h := Kd.F_below (Kd.F_bound (Kd.N_F HOWN.out)) HB7.out; exact Kd.F_mono h (fun _ hj => hj.2)); (case aP => exact fun j hj => ⟨trivial, fun e => by obtain ⟨b, hb, hle⟩ := HAT7.out; rw [hb] at e; cases e; exact absurd hj (Nat.not_lt.2 hle)⟩); (case aF => exact fun _ _ => trivial); (case aB => exact HB7.out); (case aS => exact HB7.out.size); (case aL => rw [← HMO.out]; exact room24 hroom.out); intro v121 w8 ho8 hb8 hg8 hat8; have HO8 := Aside0.mk ho8; have HB8 := Aside0.mk hb8; have HAT8 := Aside0.mk (show ∀ j, v121.ownBlock = some j → wQ.heap.size ≤ j from fun j e => by (rcases hat8 with h | ⟨b, hb, hle⟩; (obtain ⟨b, hb, hle⟩ := HAT7.out; rw [h, hb] at e; cases e; exact hle); (rw [hb] at e; cases e; exact Nat.le_trans HB7.out.size hle))); clear ho8 hb8 hg8 hat8))
                          go_roundg row
                          case measure => rw [hkq0]; exact Nat.lt_succ_self _
                          case rel =>
                            refine ⟨row, L.map (subV p row vv), vv :: out'.map (subV p row vv), rfl, rfl, Nat.le_of_succ_le hkq, ?_, ⟨?_⟩, ⟨?_⟩, ?_, ⟨?_⟩⟩
                            · rw [HEL.out] at H1; exact H1
                            · have h := Kd.V_elder' (Kd.N_V (base' := base) HOT.out) HAT8.out HB8.out
                              have h2 := Kd.V_mono h (ok' := fun j => some j ≠ v121.ownBlock) (fun _ hj => hj.2)
                              exact h2
                            · exact Kd.N_lower HO8.out bQ0
                            · have h := HI.out.step (p := p) (row := row) HLT HLV.out
                              rw [HEL.out] at h
                              exact ⟨h⟩
                            · exact HBw.out.trans (HB8.out.mono bQ0)
  · rw [if_neg hs] at h; cases h
end Go.Proofs.Ytojnnfhalpefmaa.H
end

section
namespace Go.Proofs.Ytojnnfhalpefmaa.M
open Go.RowKit Go.Proofs.YtojnnfhalpefmaaW.PrintWords
theorem info47 : (Try.prog.info? 47).map (fun i => (i.zero, i.size, i.bytes)) = some (some (.slice none 0 0), 1, 24) := H.info47
def rd_L5 (xs : List (List Int)) (i : Int) : (List Int) := xs.getD i.toNat ([] : List Int)
def torusref04_reduced.f (k : Nat) (a0 : Int) (l1 : List (List Int)) (a2 : Int) : Option (List (List Int)) := P.redF k a0 l1 a2
theorem torusref04_reduced.mono : ∀ a0 a1 a2 k, LeO (torusref04_reduced.f k a0 a1 a2) (torusref04_reduced.f (k + 1) a0 a1 a2) := fun a0 a1 a2 k => P.redF_mono a0 a1 a2 k
theorem torusref04_reduced.calls (k : Nat) (a0 : Int) (A1 : Option Addr) (c1 : Nat) (l1 : List (List Int)) (a2 : Int) (r : List (List Int)) (w : World) (hr1 : Kd.C (Kd.slice 3 (Kd.int .i64)) w A1 l1.length l1) (hc1 : l1.length ≤ c1) (h : torusref04_reduced.f k a0 l1 a2 = some r) :
    Calls Try.prog 74 #[.int .i64 a0, .slice A1 l1.length c1, .int .i64 a2] w fun e w' => ∃ v0_ : Value, e = .returned v0_ ∧ Kd.N (Kd.slice 3 (Kd.int .i64)) 47 w' w.heap.size (fun _ => True) v0_ r ∧ Below w.heap.size w w' :=
  H.red_calls k a0 A1 c1 l1 a2 r w hr1 hc1 h
end Go.Proofs.Ytojnnfhalpefmaa.M
end
