/- A part of the proof: texts of this seat joined (printed and by hand), without what is not used. -/
import Derived.Test.YtlleokhmgblfnaaBEx2
set_option linter.unusedVariables false
set_option linter.unusedSimpArgs false
set_option linter.unusedSectionVars false
section
namespace Go.Proofs.YtlleokhmgblfnaaW.PrintMore
open Go.RowKit Go.Proofs.YtlleokhmgblfnaaW.PrintWords
namespace Kd
open Go.Proofs.YtlleokhmgblfnaaW.PrintWords.Kd
end Kd
namespace Kd
open Go.Proofs.YtlleokhmgblfnaaW.PrintWords.Kd
section
variable {α : Type} {d : Kd α} {e base g N : Nat} {ok : Nat → Prop} {W w1 : World} {u v : Value} {xs : List α}
theorem R_old (hu : d.R e W base ok u xs) (hb : Below W.heap.size W w1) : d.R e w1 base (fun k => ok k ∧ k < W.heap.size) u xs :=
 R_mono (R_below (R_bound hu) hb) (fun _ h => ⟨h.1, h.2.2.1⟩)
theorem R_told (h : d.R e w1 base (fun k => ok k ∧ k < N) u xs) (hbase : ∀ k, v.ownBlock = some k → N ≤ k) : d.R e w1 base (fun k => (ok k ∧ some k ≠ v.ownBlock) ∧ k < N) u xs :=
 R_mono h (fun k hk => ⟨⟨hk.1, fun e => Nat.lt_irrefl _ (Nat.lt_of_lt_of_le hk.2 (hbase k e.symm))⟩, hk.2⟩)
end
end Kd
theorem max2_int (k k' : IntKind) (x y : Int) : Builtin.max2 (.int k x) (.int k' y) = pure (.int k (if x < y then y else x)) := by simp only [Builtin.max2, gt_iff_lt]
theorem min2_int (k k' : IntKind) (x y : Int) : Builtin.min2 (.int k x) (.int k' y) = pure (.int k (if y < x then y else x)) := by simp only [Builtin.min2]
theorem max_two (ats : Array TypeId) (ty : TypeId) (a b : Value) : Builtin.max_ ats ty #[a, b] = (Builtin.max2 a b >>= fun s => pure s) := by simp only [Builtin.max_, List.foldlM_cons, List.foldlM_nil]
theorem min_two (ats : Array TypeId) (ty : TypeId) (a b : Value) : Builtin.min_ ats ty #[a, b] = (Builtin.min2 a b >>= fun s => pure s) := by simp only [Builtin.min_, List.foldlM_cons, List.foldlM_nil]
theorem max_three (ats : Array TypeId) (ty : TypeId) (a b c : Value) : Builtin.max_ ats ty #[a, b, c] = (Builtin.max2 a b >>= fun s => Builtin.max2 s c >>= fun s => pure s) := by simp only [Builtin.max_, List.foldlM_cons, List.foldlM_nil]
theorem min_three (ats : Array TypeId) (ty : TypeId) (a b c : Value) : Builtin.min_ ats ty #[a, b, c] = (Builtin.min2 a b >>= fun s => Builtin.min2 s c >>= fun s => pure s) := by simp only [Builtin.min_, List.foldlM_cons, List.foldlM_nil]
theorem max_four (ats : Array TypeId) (ty : TypeId) (a b c d : Value) : Builtin.max_ ats ty #[a, b, c, d] = (Builtin.max2 a b >>= fun s => Builtin.max2 s c >>= fun s => Builtin.max2 s d >>= fun s => pure s) := by simp only [Builtin.max_, List.foldlM_cons, List.foldlM_nil]
theorem min_four (ats : Array TypeId) (ty : TypeId) (a b c d : Value) : Builtin.min_ ats ty #[a, b, c, d] = (Builtin.min2 a b >>= fun s => Builtin.min2 s c >>= fun s => Builtin.min2 s d >>= fun s => pure s) := by simp only [Builtin.min_, List.foldlM_cons, List.foldlM_nil]
end Go.Proofs.YtlleokhmgblfnaaW.PrintMore
namespace Go.Proofs.YtlleokhmgblfnaaW.PrintWords
open Go.RowKit
section
variable {P : Program} {ops : Array Oper} {rest : List Oper} {o : Oper} {a : Act} {Q : Exit → Act → World → Prop} {W : World}
theorem gate_callee {f : FuncId} {as_ : Array Operand} {ts : Array TypeId} (_ho : o.op = .call { callee := .value (.func f), args := as_, argTypes := ts }) (h : wpList P ops Q (o :: rest) a W) : wpList P ops Q (o :: rest) a W := h
theorem gate_builtin {b : Builtin} {xs : Array Operand} {ts : Array TypeId} (_ho : o.op = .call { callee := .builtin b, args := xs, argTypes := ts }) (h : wpList P ops Q (o :: rest) a W) : wpList P ops Q (o :: rest) a W := h
end
theorem cell_unalloc {W : World} {o : Obj} {a : Addr} {v : Value} (h : (W.alloc o).cell? a = some v) (hlt : a.block < W.heap.size) : W.cell? a = some v := (World.cell?_alloc_lt _ _ _ hlt).symm.trans h
theorem cell_grown {W w1 : World} {row : Option Nat} (hg : W.grownBy w1 row) {a : Addr} {v : Value} (h : W.cell? a = some v) (hne : some a.block ≠ row) : w1.cell? a = some v := by
 have := hg.block a.block (World.block_lt_of_cell? W a h) hne
 simpa [World.cell?, this] using h
namespace Kd
section
variable {α : Type} {d : Kd α} {e base : Nat} {ok : Nat → Prop} {W w1 : World} {v : Value} {xs : List α}
end
section
variable {α : Type} {d : Kd α} {e base g n cap : Nat} {ok oki okp : Nat → Prop} {W : World} {xs : List α} {i : Int} {c : List Value}
theorem H_at (h : H d e W base ok (.slice (some ⟨g, 0, none⟩) n cap) xs i oki c) (h0 : 0 ≤ i) (h1 : i < n) : (∀ j u, c[j]? = some u → W.cell? ⟨g, i.toNat * d.sz + j, none⟩ = some u) ∧ ∀ j, W.frozen? ⟨g, i.toNat * d.sz + j, none⟩ = false := by
 obtain ⟨rows, _, hraw, _, _, hcc, _⟩ := H_raw h h0 h1
 obtain ⟨_, _, _, _, hfr⟩ := R_elem hraw [] i h0 h1
 exact ⟨hcc, hfr⟩
theorem S_seg0 (hH : H d e W base ok (.slice (some ⟨g, 0, none⟩) n cap) xs i oki c) (h0 : 0 ≤ i) (h1 : i < n) {seg : List Value} {j : Nat} (hj : j + seg.length ≤ d.sz)
  {x' : α} (hM : d.M W base okp x' (c.take j ++ seg ++ c.drop (j + seg.length))) (hokp : ∀ k, okp k → oki k) :
  S d e (W.setCells g (i.toNat * d.sz + j) seg) base ok (.slice (some ⟨g, 0, none⟩) n cap) (xs.set i.toNat x') ∧ W.grownBy (W.setCells g (i.toNat * d.sz + j) seg) (some g) :=
 S_seg (okg := fun _ => False) (H_mono hH (fun _ hk => ⟨hk, fun h => h⟩)) h0 h1 hj hM (fun k hk => .inl (hokp k hk)) (fun _ hk => hk.elim)
end
section
variable {α : Type} {d : Kd α} {e base b b' g N : Nat} {ok ok1 : Nat → Prop} {W W2 w1 : World} {u v : Value} {xs ys : List α} {S : Nat → Prop}
end
end Kd
end Go.Proofs.YtlleokhmgblfnaaW.PrintWords
namespace Go.Proofs.YtlleokhmgblfnaaW.PrintWords
open Go.RowKit
namespace Kd
def V {α : Type} (d : Kd α) (_e : Nat) (W : World) (_base : Nat) (ok : Nat → Prop) (v : Value) (xs : List α) : Prop := ∃ A c, v = .slice A xs.length c ∧ xs.length ≤ c ∧ F d W ok A xs.length xs
section
variable {α β : Type} {d : Kd α} {e base base' n m c g N' lo hi : Nat} {ok ok' S : Nat → Prop} {w W w1 : World} {A : Option Addr} {ad : Addr} {u v v1 : Value} {xs : List α}
theorem V_map (h : V d e W base ok v xs) (hF : ∀ A, F d W ok A xs.length xs → F d w1 ok' A xs.length xs) : V d e w1 base' ok' v xs := by
 obtain ⟨A, c, hv, hl, hf⟩ := h
 exact ⟨A, c, hv, hl, hF A hf⟩
theorem V_mk (hl : xs.length ≤ c) (hf : F d W ok A xs.length xs) : V d e W base ok (.slice A xs.length c) xs := ⟨A, c, rfl, hl, hf⟩
theorem V_at (h : V d e W base ok (.slice A n c) xs) : n = xs.length ∧ n ≤ c ∧ F d W ok A xs.length xs := by
 obtain ⟨A', c', hv, hl, hf⟩ := h
 injection hv with ha hn hc
 subst ha; subst hc
 exact ⟨hn, by rw [hn]; exact hl, hf⟩
theorem V_reads' (h : V d e W base ok (.slice A n c) xs) : n = xs.length ∧ n ≤ c ∧ d.C W A xs.length xs := ⟨(V_at h).1, (V_at h).2.1, F_now (V_at h).2.2⟩
theorem V_nil (d : Kd α) (e : Nat) (W : World) (base : Nat) (ok : Nat → Prop) : V d e W base ok (.slice none 0 0) [] := ⟨none, 0, rfl, Nat.le_refl _, F_nil d W ok⟩
theorem V_mono (h : V d e W base ok v xs) (hok : ∀ k, ok k → ok' k) : V d e W base ok' v xs := V_map h (fun _ hf => F_mono hf hok)
theorem V_below (h : V d e W base ok v xs) (hb : Below W.heap.size W w1) : V d e w1 base ok v xs := V_map h (fun _ hf => F_below hf hb)
theorem V_alloc (h : V d e W base ok v xs) (o : Obj) : V d e (W.alloc o) base ok v xs := V_map h (fun _ hf => F_alloc hf o)
theorem V_drew (h : V d e W base ok v xs) : V d e W.drew base ok v xs := V_map h (fun _ hf => F_drew hf)
theorem V_drewN (h : V d e W base ok v xs) (m : Nat) : V d e (W.drewN m) base ok v xs := V_map h (fun _ hf => F_drewN hf m)
theorem V_far (h : V d e W base ok v xs) {p : Addr} (hok : ∀ k, ok k → k ≠ p.block) (u : Value) : V d e (W.setCell p u) base ok v xs := V_map h (fun _ hf => F_far hf hok u)
theorem V_elder' (h : V d e W base ok v xs) (hbase : ∀ k, u.ownBlock = some k → W.heap.size ≤ k) (hb : Below W.heap.size W w1) : V d e w1 base (fun k => ok k ∧ some k ≠ u.ownBlock) v xs := V_map h (fun _ hf => F_elder' hf hbase hb)
theorem V_elderB (h : V d e W base ok v xs) (a : Nat) (ha : W.heap.size ≤ a) : V d e W base (fun k => ok k ∧ k ≠ a) v xs := V_map h (fun _ hf => F_elderB hf a ha)
theorem V_old (h : V d e W base ok v xs) (hb : Below W.heap.size W w1) : V d e w1 base (fun k => ok k ∧ k < W.heap.size) v xs := V_map h (fun _ hf => F_old hf hb)
theorem V_told (h : V d e w1 base (fun k => ok k ∧ k < N') v xs) (hbase : ∀ k, u.ownBlock = some k → N' ≤ k) : V d e w1 base (fun k => (ok k ∧ some k ≠ u.ownBlock) ∧ k < N') v xs := V_map h (fun _ hf => F_told hf hbase)
end
end Kd
end Go.Proofs.YtlleokhmgblfnaaW.PrintWords
end

section
namespace Go.Proofs.Ytlleokhmgblfnaa.M
open Go.RowKit Go.Proofs.YtlleokhmgblfnaaW.PrintWords Go.Proofs.YtlleokhmgblfnaaW.PrintLast Go.Proofs.YtlleokhmgblfnaaW.PrintMore
attribute [local go_sem] max2_int min2_int max_two min_two max_three min_three max_four min_four
def errW : Option Int → Value
 | none => .nilIface
 | some c => .iface 0 (.int .i64 c)
theorem errW_none : errW none = .nilIface := rfl
theorem errW_some (c : Int) : errW (some c) = .iface 0 (.int .i64 c) := rfl
theorem info3 : (Try.prog.info? 3).map (fun i => (i.zero, i.size, i.bytes)) = some (some (.int .i64 0), 1, 8) := by kernel_rfl
theorem info4 : (Try.prog.info? 4).map (fun i => (i.zero, i.size, i.bytes)) = some (some (.bool false), 1, 1) := by kernel_rfl
theorem info29 : (Try.prog.info? 29).map (fun i => (i.zero, i.size, i.bytes)) = some (some (.slice none 0 0), 1, 24) := by kernel_rfl
theorem info40 : (Try.prog.info? 40).map (fun i => (i.zero, i.size, i.bytes)) = some (some (.agg #[(.int .i64 0), (.int .i64 0)]), 2, 16) := by kernel_rfl
structure S40 where
 f0 : Int
 f1 : Int
def z40 : S40 := ⟨(0 : Int), (0 : Int)⟩
def k40 : Kd S40 := Kd.iso (Kd.pair (Kd.int .i64) (Kd.int .i64)) (fun x : S40 => (x.f0, x.f1))
theorem k40_open {w : World} {x : S40} {cs : List Value} (h : k40.K w x cs) : cs = [.int .i64 x.f0, .int .i64 x.f1] := by
 obtain ⟨_, _, rfl, rfl, rfl⟩ := h
 exact rfl
theorem k40_mk (w : World) (x : S40)  : k40.K w x [.int .i64 x.f0, .int .i64 x.f1] := ⟨[.int .i64 x.f0], [.int .i64 x.f1], rfl, rfl, rfl⟩
theorem k40_mkM (w : World) (base : Nat) (ok : Nat → Prop) (x : S40)  : k40.M w base ok x [.int .i64 x.f0, .int .i64 x.f1] := ⟨[.int .i64 x.f0], [.int .i64 x.f1], rfl, rfl, rfl⟩
def rd_T40 (xs : List S40) (i : Int) : S40 := xs.getD i.toNat z40
theorem at_T40 {w : World} {A : Option Addr} {n : Nat} {xs : List S40} (h : Kd.C k40 w A n xs) (i : Int) (h0 : 0 ≤ i) (h1 : i < n) : ∃ ad , A = some ad ∧ w.cell? (ad.add (i.toNat * 2)) = some (.int .i64 (rd_T40 xs i).f0) ∧ w.cell? ⟨(ad.add (i.toNat * 2)).block, (ad.add (i.toNat * 2)).off + 1, none⟩ = some (.int .i64 (rd_T40 xs i).f1) := by
 obtain ⟨ad, c, e, _, hK, hc0⟩ := Kd.C_get h z40 i h0 h1
 have hc : ∀ j u, c[j]? = some u → w.cell? (ad.add (i.toNat * 2 + j)) = some u := hc0
 obtain rfl := k40_open hK
 exact ⟨ad, e, hc 0 _ rfl, by rw [← add_field _ _ 1 (by omega)]; exact hc 1 _ rfl⟩
structure S33 where
 f0 : Int
 f1 : Int
 f2 : (List S40)
def z33 : S33 := ⟨(0 : Int), (0 : Int), ([] : List S40)⟩
def k33 : Kd S33 := Kd.iso (Kd.pair (Kd.int .i64) (Kd.pair (Kd.int .i64) (Kd.slice 40 k40))) (fun x : S33 => (x.f0, x.f1, x.f2))
theorem k33_open {w : World} {x : S33} {cs : List Value} (h : k33.K w x cs) : ∃ A2 c2, cs = [.int .i64 x.f0, .int .i64 x.f1, .slice A2 x.f2.length c2] ∧ x.f2.length ≤ c2 ∧ k40.C w A2 x.f2.length x.f2 := by
 obtain ⟨_, _, rfl, rfl, ⟨_, _, rfl, rfl, ⟨A2, c2, rfl, l2, g2⟩⟩⟩ := h
 exact ⟨A2, c2, rfl, l2, g2⟩
theorem k33_mk (w : World) (x : S33) {A2 : Option Addr} {c2 : Nat} (l2 : x.f2.length ≤ c2) (g2 : k40.C w A2 x.f2.length x.f2) : k33.K w x [.int .i64 x.f0, .int .i64 x.f1, .slice A2 x.f2.length c2] := ⟨[.int .i64 x.f0], [.int .i64 x.f1, .slice A2 x.f2.length c2], rfl, rfl, ⟨[.int .i64 x.f1], [.slice A2 x.f2.length c2], rfl, rfl, ⟨A2, c2, rfl, l2, g2⟩⟩⟩
def rd_L5 (xs : List (List Int)) (i : Int) : (List Int) := xs.getD i.toNat ([] : List Int)
theorem at_L5 {w : World} {A : Option Addr} {n : Nat} {xs : List (List Int)} (h : Kd.C (Kd.slice 3 (Kd.int .i64)) w A n xs) (i : Int) (h0 : 0 ≤ i) (h1 : i < n) : ∃ ad A0 c0, A = some ad ∧ w.cell? (ad.add i.toNat) = some (.slice A0 (rd_L5 xs i).length c0) ∧ (rd_L5 xs i).length ≤ c0 ∧ (Kd.int .i64).C w A0 (rd_L5 xs i).length (rd_L5 xs i) := by
 obtain ⟨ad, c, e, _, hK, hc0⟩ := Kd.C_get h ([] : List Int) i h0 h1
 have hc : ∀ j u, c[j]? = some u → w.cell? (ad.add (i.toNat * 1 + j)) = some u := hc0
 obtain ⟨A0, c0, rfl, l0, g0⟩ := hK
 exact ⟨ad, A0, c0, e, by have hq := hc 0 _ rfl; rwa [Nat.mul_one, Nat.add_zero] at hq, l0, g0⟩
structure S62 where
 f0 : S33
 f1 : Int
def z62 : S62 := ⟨z33, (0 : Int)⟩
def k62 : Kd S62 := Kd.iso (Kd.pair k33 (Kd.int .i64)) (fun x : S62 => (x.f0, x.f1))
theorem k62_open {w : World} {x : S62} {cs : List Value} (h : k62.K w x cs) : ∃ A2 c2, cs = [.int .i64 x.f0.f0, .int .i64 x.f0.f1, .slice A2 x.f0.f2.length c2, .int .i64 x.f1] ∧ x.f0.f2.length ≤ c2 ∧ k40.C w A2 x.f0.f2.length x.f0.f2 := by
 obtain ⟨_, _, rfl, s0, rfl⟩ := h
 obtain ⟨A2, c2, rfl, l2, g2⟩ := k33_open s0
 exact ⟨A2, c2, rfl, l2, g2⟩
theorem k62_mk (w : World) (x : S62) {A2 : Option Addr} {c2 : Nat} (l2 : x.f0.f2.length ≤ c2) (g2 : k40.C w A2 x.f0.f2.length x.f0.f2) : k62.K w x [.int .i64 x.f0.f0, .int .i64 x.f0.f1, .slice A2 x.f0.f2.length c2, .int .i64 x.f1] := ⟨[.int .i64 x.f0.f0, .int .i64 x.f0.f1, .slice A2 x.f0.f2.length c2], [.int .i64 x.f1], rfl, (k33_mk w x.f0 l2 g2), rfl⟩
def rd_T62 (xs : List S62) (i : Int) : S62 := xs.getD i.toNat z62
theorem at_T62 {w : World} {A : Option Addr} {n : Nat} {xs : List S62} (h : Kd.C k62 w A n xs) (i : Int) (h0 : 0 ≤ i) (h1 : i < n) : ∃ ad A2 c2, A = some ad ∧ w.cell? (ad.add (i.toNat * 4)) = some (.int .i64 (rd_T62 xs i).f0.f0) ∧ w.cell? ⟨(ad.add (i.toNat * 4)).block, (ad.add (i.toNat * 4)).off + 1, none⟩ = some (.int .i64 (rd_T62 xs i).f0.f1) ∧ w.cell? ⟨(ad.add (i.toNat * 4)).block, (ad.add (i.toNat * 4)).off + 2, none⟩ = some (.slice A2 (rd_T62 xs i).f0.f2.length c2) ∧ w.cell? ⟨(ad.add (i.toNat * 4)).block, (ad.add (i.toNat * 4)).off + 3, none⟩ = some (.int .i64 (rd_T62 xs i).f1) ∧ (rd_T62 xs i).f0.f2.length ≤ c2 ∧ k40.C w A2 (rd_T62 xs i).f0.f2.length (rd_T62 xs i).f0.f2 := by
 obtain ⟨ad, c, e, _, hK, hc0⟩ := Kd.C_get h z62 i h0 h1
 have hc : ∀ j u, c[j]? = some u → w.cell? (ad.add (i.toNat * 4 + j)) = some u := hc0
 obtain ⟨A2, c2, rfl, l2, g2⟩ := k62_open hK
 exact ⟨ad, A2, c2, e, hc 0 _ rfl, by rw [← add_field _ _ 1 (by omega)]; exact hc 1 _ rfl, by rw [← add_field _ _ 2 (by omega)]; exact hc 2 _ rfl, by rw [← add_field _ _ 3 (by omega)]; exact hc 3 _ rfl, l2, g2⟩
theorem rup {P Q : Prop} (h : P) (g : P → Q := by intro h_; (with_reducible repeat (first | apply Kd.R_alloc | apply Kd.R_drewN | apply Kd.R_drew)); exact h_) : Q := g h
theorem nup {P Q : Prop} (h : P) (g : P → Q := by intro h_; (with_reducible repeat (first | apply Kd.N_alloc | apply Kd.N_drewN | apply Kd.N_drew)); exact h_) : Q := g h
theorem sup {P Q : Prop} (h : P) (g : P → Q := by intro h_; (with_reducible repeat (first | apply Kd.S_alloc | apply Kd.S_drewN | apply Kd.S_drew)); exact h_) : Q := g h
theorem qup {P Q : Prop} (h : P) (g : P → Q := by intro h_; (with_reducible repeat (first | apply Kd.Q_alloc | apply Kd.Q_drewN | apply Kd.Q_drew)); exact h_) : Q := g h
theorem vup {P Q : Prop} (h : P) (g : P → Q := by intro h_; (with_reducible repeat (first | apply Kd.V_alloc | apply Kd.V_drewN | apply Kd.V_drew)); exact h_) : Q := g h
theorem bup {P Q : Prop} (h : P) (g : P → Q := by intro h_; (with_reducible repeat (first | refine blk_drewN ?_ _ | refine blk_drew ?_ | refine blk_alloc ?_ _)); exact h_) : Q := g h
theorem hup0 {P Q : Prop} (h : P) (g : P → Q := by intro h_; repeat (first | (with_reducible first | exact h_ | apply below_alloc | apply pw_below_drewN | apply below_drew1) | exact h_)) : Q := g h
theorem hup1 {P Q : Prop} {G0 : Prop} (h : P) (k0 : G0) (g : P → G0 → Q := by intro h_ g0_; repeat (first | (with_reducible first | exact h_ | apply below_alloc | apply pw_below_drewN | apply below_drew1 | refine below_set ?_ g0_) | exact h_)) : Q := g h k0
theorem hup2 {P Q : Prop} {G0 G1 : Prop} (h : P) (k0 : G0) (k1 : G1) (g : P → G0 → G1 → Q := by intro h_ g0_ g1_; repeat (first | (with_reducible first | exact h_ | apply below_alloc | apply pw_below_drewN | apply below_drew1 | refine below_set ?_ g0_ | refine below_set ?_ g1_) | exact h_)) : Q := g h k0 k1
end Go.Proofs.Ytlleokhmgblfnaa.M
end

section
namespace Go.Proofs.Ytlleokhmgblfnaa.H
open Go.RowKit Go.Proofs.YtlleokhmgblfnaaW.PrintWords
theorem info3 : (Try.prog.info? 3).map (fun i => (i.zero, i.size, i.bytes)) = some (some (.int .i64 0), 1, 8) := by kernel_rfl
theorem info4 : (Try.prog.info? 4).map (fun i => (i.zero, i.size, i.bytes)) = some (some (.bool false), 1, 1) := by kernel_rfl
theorem info29 : (Try.prog.info? 29).map (fun i => (i.zero, i.size, i.bytes)) = some (some (.slice none 0 0), 1, 24) := by kernel_rfl
theorem info40 : (Try.prog.info? 40).map (fun i => (i.zero, i.size, i.bytes)) = some (some (.agg #[.int .i64 0, .int .i64 0]), 2, 16) := by kernel_rfl
def kE : Kd (Int × Int) := Kd.pair (Kd.int .i64) (Kd.int .i64)
theorem kE_sz : kE.sz = 2 := rfl
def rdE (xs : List (Int × Int)) (i : Int) : Int × Int := xs.getD i.toNat (0, 0)
theorem at_E {w : World} {A : Option Addr} {n : Nat} {xs : List (Int × Int)} (h : kE.C w A n xs) (i : Int) (h0 : 0 ≤ i) (h1 : i < n) :
  ∃ ad, A = some ad ∧ w.cell? (ad.add (i.toNat * 2)) = some (.int .i64 (rdE xs i).1) ∧ w.cell? ⟨(ad.add (i.toNat * 2)).block, (ad.add (i.toNat * 2)).off + 1, none⟩ = some (.int .i64 (rdE xs i).2) := by
 obtain ⟨ad, c, e, _, ⟨c0, c1, rfl, h0', h1'⟩, hc⟩ := Kd.C_get h ((0, 0) : Int × Int) i h0 h1
 have e0 : c0 = [.int .i64 (rdE xs i).1] := h0'
 have e1 : c1 = [.int .i64 (rdE xs i).2] := h1'
 subst e0 e1
 refine ⟨ad, e, ?_, ?_⟩
 ·simpa [kE_sz] using hc 0 _ rfl
 ·rw [← add_field ad _ 1 (by omega)]; simpa [kE_sz] using hc 1 _ rfl
theorem drop_E (xs : List (Int × Int)) (i : Int) (h0 : 0 ≤ i) (h1 : i < xs.length) : xs.drop i.toNat = rdE xs i :: xs.drop (i.toNat + 1) := by
 rw [List.drop_eq_getElem_cons (by omega)]
 simp [rdE, show i.toNat < xs.length by omega]
theorem eqE_d (n : Nat) (w : World) (a b c d : Int) : (Op.equalIn (n + 2) 40 (.agg #[.int .i64 a, .int .i64 b]) (.agg #[.int .i64 c, .int .i64 d])).run Try.prog w = .ok (a == c && b == d) w := by
 have hs : (sizeOf 3).run Try.prog w = .ok 1 w := by kernel_rfl
 have p0 : ∀ x y : Int, (part 3 #[.int .i64 x, .int .i64 y] 0).run Try.prog w = .ok (.int .i64 x) w := fun x y => by go_simp
 have p1 : ∀ x y : Int, (part 3 #[.int .i64 x, .int .i64 y] 1).run Try.prog w = .ok (.int .i64 y) w := fun x y => by go_simp
 have e0 : ∀ x y : Int, (Op.equalIn (n + 1) 3 (.int .i64 x) (.int .i64 y)).run Try.prog w = .ok (x == y) w := fun x y => run_equalIn_int w n 3 .i64 .i64 x y Try.underlying3
 rw [Op.equalIn]
 simp only [Sem.run_bind, run_underlying Try.underlying40, Result.andThen_ok, hs]
 simp [Std.Legacy.Range.forIn_eq_forIn_range', List.range', p0, p1, e0]
 cases h1 : a == c <;> cases h2 : b == d <;> simp_all
theorem eqE (w : World) (a b c d : Int) : (Op.equalIn 10000 40 (.agg #[.int .i64 a, .int .i64 b]) (.agg #[.int .i64 c, .int .i64 d])).run Try.prog w = .ok (a == c && b == d) w := eqE_d 9998 w a b c d
end Go.Proofs.Ytlleokhmgblfnaa.H
end

section
namespace Go.Proofs.Ytlleokhmgblfnaa.H
open Go.RowKit Go.Proofs.YtlleokhmgblfnaaW.PrintWords
def Row (w : World) (g : Nat) (xs : List Int) : Prop := w.heap[g]? = some (.cells (xs.map (Value.int .i64)).toArray 3 (0, 0))
section
variable {w w1 : World} {g : Nat} {xs : List Int}
theorem Row.lt (h : Row w g xs) : g < w.heap.size := blk_lt h
theorem Row.cell (h : Row w g xs) (i : Int) (h0 : 0 ≤ i) (h1 : i < xs.length) : w.cell? ⟨g, i.toNat, none⟩ = some (.int .i64 (rd xs i)) := by
 rw [blk_cell h]
 simp [rd, show i.toNat < xs.length by omega]
theorem Row.frozen (h : Row w g xs) (i : Int) : w.frozen? ⟨g, i.toNat, none⟩ = false := blk_frozen h _
theorem Row.set (h : Row w g xs) (i x : Int) : Row (w.setCell ⟨g, i.toNat, none⟩ (.int .i64 x)) g (xs.set i.toNat x) := by
 have := blk_set h i.toNat (.int .i64 x)
 unfold Row
 rw [this]
 simp [List.map_set]
theorem Row.ne (h : Row w g xs) {g' t : Nat} {cs : Array Value} (hb : w.heap[g']? = some (.cells cs t (0, 0))) (ht : t ≠ 3) : g' ≠ g := blk_ne hb h ht
theorem Row.far (h : Row w g xs) {p : Addr} (hp : g ≠ p.block) (u : Value) : Row (w.setCell p u) g xs := blk_far h hp u
theorem Row.move (h : Row w g xs) (hm : w1.heap[g]? = w.heap[g]?) : Row w1 g xs := hm.trans h
theorem Row.alloc (h : Row w g xs) (o : Obj) : Row (w.alloc o) g xs := blk_alloc h o
theorem Row.drewN (h : Row w g xs) (n : Nat) : Row (w.drewN n) g xs := h
theorem Row.reads (h : Row w g xs) (hm : xs.length ≤ 9223372036854775807) : Kd.C (Kd.int .i64) w (some ⟨g, 0, none⟩) xs.length xs := by
 refine Kd.C_of_reads (d := (0 : Int)) ⟨rfl, hm, fun _ => ⟨_, rfl, fun j hj => ?_⟩⟩
 rw [add_plain]
 have := h.cell j (by omega) (by omega)
 simpa [rd, rdOf] using this
end
end Go.Proofs.Ytlleokhmgblfnaa.H
namespace Go.Proofs.Ytlleokhmgblfnaa.H
open Go.RowKit Go.Proofs.YtlleokhmgblfnaaW.PrintWords
def rdL (xs : List (List Int)) (i : Int) : List Int := xs.getD i.toNat []
theorem at_L {w : World} {A : Option Addr} {n : Nat} {xs : List (List Int)} (h : Kd.C (Kd.slice 3 (Kd.int .i64)) w A n xs) (i : Int) (h0 : 0 ≤ i) (h1 : i < n) :
  ∃ ad A0 c0, A = some ad ∧ w.cell? (ad.add i.toNat) = some (.slice A0 (rdL xs i).length c0) ∧ (rdL xs i).length ≤ c0 ∧ (Kd.int .i64).C w A0 (rdL xs i).length (rdL xs i) := by
 obtain ⟨ad, c, e, _, hK, hc0⟩ := Kd.C_get h ([] : List Int) i h0 h1
 have hc : ∀ j u, c[j]? = some u → w.cell? (ad.add (i.toNat * 1 + j)) = some u := hc0
 obtain ⟨A0, c0, rfl, l0, g0⟩ := hK
 exact ⟨ad, A0, c0, e, by have hq := hc 0 _ rfl; rwa [Nat.mul_one, Nat.add_zero] at hq, l0, g0⟩
def extG (next : List (List Int)) : Nat → Int → Int → List Int → List Int → List Int → Option (Bool × List Int × List Int × List Int)
 | 0, _, _, _, _, _ => none
 | k + 1, v, j, m, b, l =>
  if j < (rdL next v).length then
   if 0 ≤ rd (rdL next v) j then
    if rd (rdL next v) j < b.length then
     if rd b (rd (rdL next v) j) < 0 then some (true, m.set v.toNat (rd (rdL next v) j), b.set (rd (rdL next v) j).toNat v, l)
     else if rd b (rd (rdL next v) j) < l.length then
      if rd b (rd (rdL next v) j) < next.length then
       if rd l (rd b (rd (rdL next v) j)) = wrap64 (rd l v + 1) then
        match extG next k (rd b (rd (rdL next v) j)) 0 m b l with
        | none => none
        | some (true, m1, b1, l1) => some (true, m1.set v.toNat (rd (rdL next v) j), b1.set (rd (rdL next v) j).toNat v, l1)
        | some (false, m1, b1, l1) => extG next k v (j + 1) m1 b1 l1
       else extG next k v (j + 1) m b l
      else none
     else none
    else none
   else none
  else some (false, m, b, l.set v.toNat (-1))
structure ExtW (w0 : World) (next : List (List Int)) (R : Nat) (A0 : Option Addr) (c0 Bn Bm Bb Bl Bx gm gb gl : Nat) (m b l : List Int) (w : World) : Prop where
 below : Below w0.heap.size w0 w
 hn : w.heap[Bn]? = some (.cells #[.slice A0 next.length c0] 69 (0, 0))
 hm : w.heap[Bm]? = some (.cells #[.slice (some ⟨gm, 0, none⟩) next.length next.length] 29 (0, 0))
 hb : w.heap[Bb]? = some (.cells #[.slice (some ⟨gb, 0, none⟩) R R] 29 (0, 0))
 hl : w.heap[Bl]? = some (.cells #[.slice (some ⟨gl, 0, none⟩) next.length next.length] 29 (0, 0))
 hx : w.heap[Bx]? = some (.cells #[.func (.func 53) #[] #[.pointer (some ⟨Bn, 0, none⟩), .pointer (some ⟨Bb, 0, none⟩), .pointer (some ⟨Bl, 0, none⟩), .pointer (some ⟨Bx, 0, none⟩), .pointer (some ⟨Bm, 0, none⟩)]] 84 (0, 0))
 rm : Row w gm m
 rb : Row w gb b
 rl : Row w gl l
 lm : m.length = next.length
 lb : b.length = R
 ll : l.length = next.length
 gmb : gm ≠ gb
 gml : gm ≠ gl
 gbl : gb ≠ gl
 om : w0.heap.size ≤ gm
 ob : w0.heap.size ≤ gb
 ol : w0.heap.size ≤ gl
section
variable {w0 w : World} {next : List (List Int)} {R : Nat} {A0 : Option Addr} {c0 Bn Bm Bb Bl Bx gm gb gl : Nat} {m b l : List Int}
theorem ExtW.drewN (h : ExtW w0 next R A0 c0 Bn Bm Bb Bl Bx gm gb gl m b l w) (n : Nat) : ExtW w0 next R A0 c0 Bn Bm Bb Bl Bx gm gb gl m b l (w.drewN n) :=
 ⟨pw_below_drewN h.below n, h.hn, h.hm, h.hb, h.hl, h.hx, h.rm, h.rb, h.rl, h.lm, h.lb, h.ll, h.gmb, h.gml, h.gbl, h.om, h.ob, h.ol⟩
theorem ExtW.drew (h : ExtW w0 next R A0 c0 Bn Bm Bb Bl Bx gm gb gl m b l w) : ExtW w0 next R A0 c0 Bn Bm Bb Bl Bx gm gb gl m b l w.drew :=
 ⟨h.below.drew, h.hn, h.hm, h.hb, h.hl, h.hx, h.rm, h.rb, h.rl, h.lm, h.lb, h.ll, h.gmb, h.gml, h.gbl, h.om, h.ob, h.ol⟩
theorem ExtW.setM (h : ExtW w0 next R A0 c0 Bn Bm Bb Bl Bx gm gb gl m b l w) (v x : Int) : ExtW w0 next R A0 c0 Bn Bm Bb Bl Bx gm gb gl (m.set v.toNat x) b l (w.setCell ⟨gm, v.toNat, none⟩ (.int .i64 x)) :=
 ⟨below_set h.below h.om, blk_far h.hn (h.rm.ne h.hn (by decide)) _, blk_far h.hm (h.rm.ne h.hm (by decide)) _, blk_far h.hb (h.rm.ne h.hb (by decide)) _, blk_far h.hl (h.rm.ne h.hl (by decide)) _, blk_far h.hx (h.rm.ne h.hx (by decide)) _,
  h.rm.set v x, h.rb.far h.gmb.symm _, h.rl.far h.gml.symm _, by rw [List.length_set]; exact h.lm, h.lb, h.ll, h.gmb, h.gml, h.gbl, h.om, h.ob, h.ol⟩
theorem ExtW.setB (h : ExtW w0 next R A0 c0 Bn Bm Bb Bl Bx gm gb gl m b l w) (v x : Int) : ExtW w0 next R A0 c0 Bn Bm Bb Bl Bx gm gb gl m (b.set v.toNat x) l (w.setCell ⟨gb, v.toNat, none⟩ (.int .i64 x)) :=
 ⟨below_set h.below h.ob, blk_far h.hn (h.rb.ne h.hn (by decide)) _, blk_far h.hm (h.rb.ne h.hm (by decide)) _, blk_far h.hb (h.rb.ne h.hb (by decide)) _, blk_far h.hl (h.rb.ne h.hl (by decide)) _, blk_far h.hx (h.rb.ne h.hx (by decide)) _,
  h.rm.far h.gmb _, h.rb.set v x, h.rl.far h.gbl.symm _, h.lm, by rw [List.length_set]; exact h.lb, h.ll, h.gmb, h.gml, h.gbl, h.om, h.ob, h.ol⟩
theorem ExtW.setL (h : ExtW w0 next R A0 c0 Bn Bm Bb Bl Bx gm gb gl m b l w) (v x : Int) : ExtW w0 next R A0 c0 Bn Bm Bb Bl Bx gm gb gl m b (l.set v.toNat x) (w.setCell ⟨gl, v.toNat, none⟩ (.int .i64 x)) :=
 ⟨below_set h.below h.ol, blk_far h.hn (h.rl.ne h.hn (by decide)) _, blk_far h.hm (h.rl.ne h.hm (by decide)) _, blk_far h.hb (h.rl.ne h.hb (by decide)) _, blk_far h.hl (h.rl.ne h.hl (by decide)) _, blk_far h.hx (h.rl.ne h.hx (by decide)) _,
  h.rm.far h.gml _, h.rb.far h.gbl _, h.rl.set v x, h.lm, h.lb, by rw [List.length_set]; exact h.ll, h.gmb, h.gml, h.gbl, h.om, h.ob, h.ol⟩
end
def ExtPost (w0 : World) (next : List (List Int)) (R : Nat) (A0 : Option Addr) (c0 Bn Bm Bb Bl Bx gm gb gl : Nat) (r : Bool × List Int × List Int × List Int) (e : Ending) (w' : World) : Prop :=
 e = .returned (.bool r.1) ∧ ExtW w0 next R A0 c0 Bn Bm Bb Bl Bx gm gb gl r.2.1 r.2.2.1 r.2.2.2 w'
set_option maxHeartbeats 4000000 in
set_option maxRecDepth 100000 in
theorem ext_calls (w0 : World) (next : List (List Int)) (R : Nat) (A0 : Option Addr) (c0 Bn Bm Bb Bl Bx gm gb gl : Nat) (hN : Kd.C (Kd.slice 3 (Kd.int .i64)) w0 A0 next.length next) (hc : next.length ≤ c0) :
  ∀ (k : Nat) (v : Int) (m b l : List Int) (r : Bool × List Int × List Int × List Int) (w : World), 0 ≤ v → v < next.length → ExtW w0 next R A0 c0 Bn Bm Bb Bl Bx gm gb gl m b l w → extG next k v 0 m b l = some r →
   Calls Try.prog 53 #[.int .i64 v, .pointer (some ⟨Bn, 0, none⟩), .pointer (some ⟨Bb, 0, none⟩), .pointer (some ⟨Bl, 0, none⟩), .pointer (some ⟨Bx, 0, none⟩), .pointer (some ⟨Bm, 0, none⟩)] w (ExtPost w0 next R A0 c0 Bn Bm Bb Bl Bx gm gb gl r) := by
 have hmax := Kd.C_max hN
 have HN := As.mk hN
 clear hN
 intro k
 induction k using Nat.strongRecOn with
 | ind k ih =>
 have IH := As.mk ih
 clear ih
 intro v m b l r w hv0 hv1 hw hr
 have HW := As.mk hw
 have HR := As.mk hr
 clear hw hr
 obtain ⟨ad, A1, c1, eA, hx0, hl0, hI⟩ := at_L HN.out v hv0 hv1
 subst eA
 have HI := As.mk hI
 have HL := As.mk hl0
 have hmaxI := Kd.C_max hI
 clear hI hl0
 replace hx0 := pw_cell_below HW.out.below hx0
 have cn := blk_cell HW.out.hn 0
 simp only [List.getElem?_toArray, List.getElem?_cons_zero, List.getElem?_cons_succ] at cn
 go_enter Try.func53, Try.ntmps53
 go_wp2_with fail
 clear hx0 cn
 go_loopg [16] k (fun kq v16 wr => ∃ (j : Int) (m' b' l' : List Int), v16 = .int .i64 j ∧ As (0 ≤ j ∧ kq ≤ k ∧ extG next kq v j m' b' l' = some r) ∧ As (ExtW w0 next R (some ad) c0 Bn Bm Bb Bl Bx gm gb gl m' b' l' wr))
 case atStart => exact ⟨0, m, b, l, rfl, ⟨by omega, Nat.le_refl _, HR.out⟩, HW⟩
 case round =>
  clear HW HR
  obtain ⟨j, m', b', l', rfl, HA, HW⟩ := hrel
  have hj0 : 0 ≤ j := HA.out.1
  cases gk with
  | zero => exact absurd HA.out.2.2 (by simp [extG])
  | succ k1 =>
   have H := HA.out.2.2
   have HK := As.mk HA.out.2.1
   clear HA
   simp only [extG] at H
   have dm := blk_cell HW.out.hm 0
   have db := blk_cell HW.out.hb 0
   have dl := blk_cell HW.out.hl 0
   have dx := blk_cell HW.out.hx 0
   simp only [List.getElem?_toArray, List.getElem?_cons_zero, List.getElem?_cons_succ] at dm db dl dx
   by_cases hlt : j < (rdL next v).length
   ·rw [if_pos hlt] at H
    obtain ⟨ad1, eA, hy⟩ := Kd.at_int HI.out j hj0 hlt
    subst eA
    replace hy := pw_cell_below HW.out.below hy
    obtain ⟨x, hX⟩ : ∃ x, rd (rdL next v) j = x := ⟨_, rfl⟩
    rw [hX] at hy H
    have HX := As.mk hX
    clear hX
    by_cases hx0 : 0 ≤ x
    ·rw [if_pos hx0] at H
     by_cases hx1 : x < b'.length
     ·rw [if_pos hx1, HW.out.lb] at *
      have hz := HW.out.rb.cell x hx0 (by rw [HW.out.lb]; exact hx1)
      obtain ⟨u, hU⟩ : ∃ u, rd b' x = u := ⟨_, rfl⟩
      rw [hU] at hz H
      have HU := As.mk hU
      clear hU
      by_cases hu : u < 0
      ·rw [if_pos hu] at H
       have hr := Option.some.inj H
       have HR := As.mk hr
       clear H hr
       have hd : decide (u < 0) = true := decide_eq_true hu
       have fm := HW.out.rm.frozen v
       have cm := HW.out.rm.cell v hv0 (by rw [HW.out.lm]; exact hv1)
       have fb := HW.out.rb.frozen x
       have n1 := HW.out.gmb
       have n2 := n1.symm
       have n3 := HW.out.rm.ne HW.out.hb (by decide)
       have n4 := HW.out.rb.ne HW.out.hm (by decide)
       have n5 := n3.symm
       have n6 := n4.symm
       go_wp2
       go_quiet (fail)
       go_wp2
       go_region
       all_goals go_wp2
       all_goals go_ret
       all_goals exact ⟨by rw [← HR.out]; rfl, by rw [← HR.out]; exact (((HW.out.drewN _).setM v x).setB x v)⟩
      ·rw [if_neg hu] at H
       have hu0 : 0 ≤ u := by omega
       by_cases hu1 : u < l'.length
       ·rw [if_pos hu1] at H
        by_cases hu2 : u < next.length
        ·rw [if_pos hu2] at H
         have ll := HW.out.ll
         have cu := HW.out.rl.cell u hu0 hu1
         have cv := HW.out.rl.cell v hv0 (by rw [ll]; exact hv1)
         have hd : decide (u < 0) = false := decide_eq_false hu
         clear hu hu1 ll
         by_cases he : rd l' u = wrap64 (rd l' v + 1)
         ·rw [if_pos he] at H
          have heb : (rd l' u == wrap64 (rd l' v + 1)) = true := beq_iff_eq.2 he
          clear he
          cases hq : extG next k1 u 0 m' b' l' with
          | none => rw [hq] at H; exact absurd H (by simp)
          | some q =>
           rw [hq] at H
           obtain ⟨q0, q1, q2, q3⟩ := q
           have hq' := As.mk hq
           have HH := As.mk H
           clear hq H
           have hk1 : k1 < k := HK.out
           have hk2 := As.mk hk1
           clear hk1
           have heb2 : (rd l' u == IntKind.i64.wrap (rd l' v + 1)) = true := by rw [IntWalk.i64_left]; exact heb
           go_wp2
           go_still_tail 16, (by kernel_rfl)
           change wpList _ _ _ _ _ wr.drew
           go_wp2_with (go_at_call 53; refine (IH.out k1 hk2.out u m' b' l' (q0, q1, q2, q3) _ hu0 hu2 (HW.out.drew) hq'.out).mono ?_; rintro e w1 ⟨rfl, hw1⟩; have HW1 := As.mk hw1; clear hw1)
           ·have hq0 : q0 = true := by assumption
            subst hq0
            have hr := Option.some.inj HH.out
            have HR := As.mk hr
            clear hr HH HW
            have dm := blk_cell HW1.out.hm 0
            have db := blk_cell HW1.out.hb 0
            simp only [List.getElem?_toArray, List.getElem?_cons_zero] at dm db
            have fm := HW1.out.rm.frozen v
            have cm := HW1.out.rm.cell v hv0 (by rw [HW1.out.lm]; exact hv1)
            have fb := HW1.out.rb.frozen x
            have cb := HW1.out.rb.cell x hx0 (by rw [HW1.out.lb]; exact hx1)
            have n1 := HW1.out.gmb
            have n2 := n1.symm
            have n3 := HW1.out.rm.ne HW1.out.hb (by decide)
            have n4 := HW1.out.rb.ne HW1.out.hm (by decide)
            have n5 := n3.symm
            have n6 := n4.symm
            go_wp2
            go_region
            all_goals go_wp2
            all_goals go_ret
            all_goals exact ⟨by rw [← HR.out]; rfl, by rw [← HR.out]; exact (((HW1.out.drew).setM v x).setB x v)⟩
           ·have hq0 : q0 = false := by assumption
            subst hq0
            have HH2 := As.mk (show extG next k1 v (j + 1) q1 q2 q3 = some r from HH.out)
            clear HH
            go_roundg k1
            case measure => omega
            case rel => exact ⟨j + 1, q1, q2, q3, by go_num, ⟨by omega, by have := HK.out; omega, HH2.out⟩, HW1⟩
         ·rw [if_neg he] at H
          have heb : (rd l' u == wrap64 (rd l' v + 1)) = false := beq_eq_false_iff_ne.2 he
          have HH := As.mk H
          clear he H
          go_wp2
          go_quiet (fail)
          go_wp2
          go_roundg k1
          case measure => omega
          case rel => exact ⟨j + 1, m', b', l', by go_num, ⟨by omega, by have := HK.out; omega, HH.out⟩, ⟨HW.out.drewN _⟩⟩
        ·rw [if_neg hu2] at H
         exact absurd H (by simp)
       ·rw [if_neg hu1] at H
        exact absurd H (by simp)
     ·rw [if_neg hx1] at H
      exact absurd H (by simp)
    ·rw [if_neg hx0] at H
     exact absurd H (by simp)
   ·rw [if_neg hlt] at H
    have hr := Option.some.inj H
    have HR := As.mk hr
    clear H hr
    have cv := HW.out.rl.cell v hv0 (by rw [HW.out.ll]; exact hv1)
    have fv := HW.out.rl.frozen v
    go_wp2
    go_ret
    exact ⟨by rw [← HR.out]; rfl, by rw [← HR.out]; exact HW.out.setL v (-1)⟩
end Go.Proofs.Ytlleokhmgblfnaa.H
end

section
namespace Go.Proofs.Ytlleokhmgblfnaa.H
open Go.RowKit Go.Proofs.YtlleokhmgblfnaaW.PrintWords
def levA (mate : List Int) (n : Int) : Nat → Int → List Int → List Int → Option (List Int × List Int)
 | 0, _, _, _ => none
 | k + 1, i, l, q =>
  if i < n then
   if i < l.length then
    if i < mate.length then
     if rd mate i < 0 then
      if q.length < 17592186044416 then levA mate n k (i + 1) ((l.set i.toNat (-1)).set i.toNat 0) (q ++ [i]) else none
     else levA mate n k (i + 1) (l.set i.toNat (-1)) q
    else none
   else none
  else some (l, q)
def levC (back ws : List Int) (v : Int) : Nat → Int → Bool → List Int → List Int → Option (Bool × List Int × List Int)
 | 0, _, _, _, _ => none
 | k + 1, j, f, l, q =>
  if j < ws.length then
   if 0 ≤ rd ws j then
    if rd ws j < back.length then
     if rd back (rd ws j) < 0 then levC back ws v k (j + 1) true l q
     else if rd back (rd ws j) < l.length then
      if rd l (rd back (rd ws j)) < 0 then
       if v < l.length then
        if q.length < 17592186044416 then levC back ws v k (j + 1) f (l.set (rd back (rd ws j)).toNat (wrap64 (rd l v + 1))) (q ++ [rd back (rd ws j)]) else none
       else none
      else levC back ws v k (j + 1) f l q
     else none
    else none
   else none
  else some (f, l, q)
def levB (next : List (List Int)) (back : List Int) : Nat → Bool → List Int → List Int → Option (Bool × List Int)
 | 0, _, _, _ => none
 | k + 1, f, l, [] => some (f, l)
 | k + 1, f, l, v :: q =>
  if 0 ≤ v then
   if v < next.length then (levC back (rdL next v) v k 0 f l q).bind fun s => levB next back k s.1 s.2.1 s.2.2
   else none
  else none
def levF (next : List (List Int)) (mate back : List Int) (k : Nat) (l : List Int) : Option (Bool × List Int) :=
 (levA mate next.length k 0 l []).bind fun s => levB next back k false s.1 s.2
structure LevW (w0 w : World) (gm gb gl : Nat) (mate back l : List Int) (wr : World) : Prop where
 below : Below w0.heap.size w0 wr
 keep : KeepBut w wr gl none
 rm : Row wr gm mate
 rb : Row wr gb back
 rl : Row wr gl l
theorem Q_put {w : World} {base g : Nat} {v : Value} {xs : List Int} (h : Kd.Q (Kd.int .i64) 3 w base (fun _ => True) v xs) (hg : g < base) (i : Nat) (u : Value) : Kd.Q (Kd.int .i64) 3 (w.setCell ⟨g, i, none⟩ u) base (fun _ => True) v xs :=
 Kd.Q_mono (Kd.Q_far (p := ⟨g, i, none⟩) (Kd.Q_bound h) (fun k hk => by have := hk.2.1; show k ≠ g; omega) u) (fun _ _ => trivial)
section
variable {w0 w wr : World} {gm gb gl : Nat} {mate back l : List Int}
theorem LevW.put (h : LevW w0 w gm gb gl mate back l wr) (n1 : gm ≠ gl) (n2 : gb ≠ gl) (ol : w0.heap.size ≤ gl) (i x : Int) : LevW w0 w gm gb gl mate back (l.set i.toNat x) (wr.setCell ⟨gl, i.toNat, none⟩ (.int .i64 x)) :=
 ⟨below_set h.below ol, h.keep.set_ _ _, h.rm.far n1 _, h.rb.far n2 _, h.rl.set i x⟩
theorem LevW.alloc (h : LevW w0 w gm gb gl mate back l wr) (o : Obj) : LevW w0 w gm gb gl mate back l (wr.alloc o) :=
 ⟨below_alloc h.below o, keep_alloc h.keep o, h.rm.alloc o, h.rb.alloc o, h.rl.alloc o⟩
theorem LevW.grown {w1 : World} {row : Option Nat} (h : LevW w0 w gm gb gl mate back l wr) (ow : w0.heap.size ≤ w.heap.size) (hg : wr.grownBy w1 row) (hr : ∀ k, row = some k → w.heap.size ≤ k) (b1 : gm < w.heap.size) (b2 : gb < w.heap.size) (b3 : gl < w.heap.size) : LevW w0 w gm gb gl mate back l w1 := by
 have ne : ∀ g, g < w.heap.size → some g ≠ row := fun g hg e => by have := hr g e.symm; omega
 refine ⟨pw_below_grown h.below row h.below.size hg (fun k hk => Nat.le_trans ow (hr k hk)), ?_, h.rm.move (hg.block gm h.rm.lt (ne _ b1)), h.rb.move (hg.block gb h.rb.lt (ne _ b2)), h.rl.move (hg.block gl h.rl.lt (ne _ b3))⟩
 refine ⟨Nat.le_trans h.keep.1 hg.size, fun i hi hne _ => ?_⟩
 exact (hg.block i (Nat.lt_of_lt_of_le hi h.keep.1) (ne i hi)).trans (h.keep.2 i hi hne (by simp))
end
def LevPost (w0 w : World) (gm gb gl : Nat) (mate back : List Int) (r : Bool × List Int) (e : Ending) (w' : World) : Prop :=
 e = .returned (.bool r.1) ∧ LevW w0 w gm gb gl mate back r.2 w'
set_option maxHeartbeats 4000000 in
set_option maxRecDepth 100000 in
theorem levels_calls (w0 w : World) (next : List (List Int)) (A0 : Option Addr) (c0 gm gb gl nm nb : Nat) (mate back l : List Int) (k : Nat) (r : Bool × List Int)
  (hN : Kd.C (Kd.slice 3 (Kd.int .i64)) w0 A0 next.length next) (hc : next.length ≤ c0) (hB : Below w0.heap.size w0 w) (hm : Row w gm mate) (hb : Row w gb back) (hl : Row w gl l)
  (n1 : gm ≠ gl) (n2 : gb ≠ gl) (ol : w0.heap.size ≤ gl) (em : mate.length = nm) (eb : back.length = nb) (el : l.length = next.length) (h : levF next mate back k l = some r) :
  Calls Try.prog 54 #[.slice A0 next.length c0, .slice (some ⟨gm, 0, none⟩) nm nm, .slice (some ⟨gb, 0, none⟩) nb nb, .slice (some ⟨gl, 0, none⟩) next.length next.length] w (LevPost w0 w gm gb gl mate back r) := by
 have hmax := Kd.C_max hN
 have HN := As.mk hN
 have b1 := hm.lt
 have b2 := hb.lt
 have b3 := hl.lt
 have OW := As.mk hB.size
 have B1 := As.mk b1
 have B2 := As.mk b2
 have B3 := As.mk b3
 have N1 := As.mk n1
 have N2 := As.mk n2
 have OL := As.mk ol
 have EM := As.mk em
 have EB := As.mk eb
 have EL := As.mk el
 have HW : As (LevW w0 w gm gb gl mate back l w) := ⟨⟨hB, KeepBut.refl _ _ _, hm, hb, hl⟩⟩
 unfold levF at h
 have H := As.mk h
 clear hN hB hm hb hl n1 n2 ol em eb el h b1 b2 b3
 go_enter Try.func54, Try.ntmps54
 go_wp2_with fail
 go_loopg [9, 18] k (fun kq v9 v18 wr => ∃ (i : Int) (l' q' : List Int), v18 = .int .i64 i ∧ As (0 ≤ i ∧ (levA mate next.length kq i l' q').bind (fun s => levB next back k false s.1 s.2) = some r) ∧ As (l'.length = next.length ∧ LevW w0 w gm gb gl mate back l' wr) ∧ As (Kd.Q (Kd.int .i64) 3 wr w.heap.size (fun _ => True) v9 q'))
 case atStart => exact ⟨0, l, [], rfl, ⟨by omega, H.out⟩, ⟨EL.out, HW.out⟩, ⟨Kd.Q_nil _ _ _ _ _⟩⟩
 case round =>
  clear HW H
  obtain ⟨i, l', q', rfl, HA, HL, HQ⟩ := hrel
  have hi0 : 0 ≤ i := HA.out.1
  have HW : As (LevW w0 w gm gb gl mate back l' wr) := ⟨HL.out.2⟩
  cases gk with
  | zero => exact absurd HA.out.2 (by simp [levA])
  | succ k1 =>
   have H := HA.out.2
   clear HA
   simp only [levA] at H
   by_cases hlt : i < next.length
   ·rw [if_pos hlt, if_pos (by rw [HL.out.1]; exact hlt)] at H
    by_cases hi1 : i < mate.length
    ·rw [if_pos hi1] at H
     have hi2 : i < nm := by have := EM.out; omega
     have cm := HW.out.rm.cell i hi0 hi1
     have cl := HW.out.rl.cell i hi0 (by rw [HL.out.1]; exact hlt)
     have fl := HW.out.rl.frozen i
     have n1 := N1.out
     by_cases hneg : rd mate i < 0
     ·rw [if_pos hneg] at H
      by_cases hq : q'.length < 17592186044416
      ·rw [if_pos hq] at H
       have HH := As.mk H
       clear H
       go_wp2_with (first | ((with_reducible refine gate_store (t := 3) (p := 23) rfl ?_); refine store_event (t := 3) (p := 23) (v := ?vo1) (w1 := (wr.setCell ⟨gl, i.toNat, none⟩ (.int .i64 (-1)))) ?hg1 ?ho1 ?hn1 ?hr1 ?_; (case ho1 => rfl); (case hg1 => rfl); (case hn1 => rfl); (case hr1 => first | (go_simp; done) | (go_simp; rfl)); intro w2 hw; have HW2 : As (LevW w0 w gm gb gl mate back (l'.set i.toNat (-1)) w2) := ⟨by rw [hw]; exact HW.out.put N1.out N2.out OL.out i (-1)⟩; have HQ2 : As (Kd.Q (Kd.int .i64) 3 w2 w.heap.size (fun _ => True) u9 q') := ⟨by rw [hw]; exact Q_put HQ.out B3.out _ _⟩; clear hw cm cl fl; have cm := HW2.out.rm.cell i hi0 hi1; have cl := HW2.out.rl.cell i hi0 (by rw [List.length_set, HL.out.1]; exact hlt); have fl := HW2.out.rl.frozen i) | ((with_reducible refine gate_store (t := 3) (p := 31) rfl ?_); refine store_event (t := 3) (p := 31) (v := ?vo2) (w1 := (w2.setCell ⟨gl, i.toNat, none⟩ (.int .i64 0))) ?hg2 ?ho2 ?hn2 ?hr2 ?_; (case ho2 => rfl); (case hg2 => rfl); (case hn2 => rfl); (case hr2 => first | (go_simp; done) | (go_simp; rfl)); intro w3 hw; have HW3 : As (LevW w0 w gm gb gl mate back ((l'.set i.toNat (-1)).set i.toNat 0) w3) := ⟨by rw [hw]; exact HW2.out.put N1.out N2.out OL.out i 0⟩; have HQ3 : As (Kd.Q (Kd.int .i64) 3 w3 w.heap.size (fun _ => True) u9 q') := ⟨by rw [hw]; exact Q_put HQ2.out B3.out _ _⟩; clear hw cm cl fl) | ((with_reducible refine gate_builtin (b := .append) (xs := #[.tmp 32, .tmp 34]) rfl ?_); at_builtin; refine Kd.Q_append (Kd.int .i64) w.heap.size rfl (.tmp 32) (.tmp 34) 29 3 (.int .i64 0) 8 rfl Try.underlying29 info3 rfl (by decide) (by omega) u9 q' i [.int .i64 i] (fun _ => True) (fun _ => False) rfl rfl ?aP (fun _ hk => hk.elim) (fun _ _ => trivial) HQ3.out (Below.refl _ _) ?aS ?aL ?_; (case aP => exact rfl); (case aS => exact HW3.out.keep.1); (case aL => omega); intro v1 w1 ho hb hg hat; have HQ1 := As.mk ho; have HG1 := As.mk hg; clear ho hb hg hat))
       go_roundg k1
       case measure => omega
       case rel => exact ⟨i + 1, _, _, by go_num, ⟨by omega, HH.out⟩, ⟨by rw [List.length_set, List.length_set]; exact HL.out.1, HW3.out.grown OW.out HG1.out (Kd.Q_base HQ3.out) B1.out B2.out B3.out⟩, HQ1⟩
      ·rw [if_neg hq] at H
       exact absurd H (by simp)
     ·rw [if_neg hneg] at H
      have HH := As.mk H
      clear H
      go_wp2
      go_roundg k1
      case measure => omega
      case rel => exact ⟨i + 1, _, q', by go_num, ⟨by omega, HH.out⟩, ⟨by rw [List.length_set]; exact HL.out.1, HW.out.put N1.out N2.out OL.out i (-1)⟩, ⟨Q_put HQ.out B3.out _ _⟩⟩
    ·rw [if_neg hi1] at H
     exact absurd H (by simp)
   ·rw [if_neg hlt] at H
    have HH := As.mk (show levB next back k false l' q' = some r from H)
    have el := As.mk HL.out.1
    clear H HL
    go_wp2_with fail
    go_loopg [9, 11] k (fun kq v9 v11 wr => ∃ (f : Bool) (l' q' : List Int), v11 = .bool f ∧ As (levB next back kq f l' q' = some r ∧ kq ≤ k) ∧ As (l'.length = next.length ∧ LevW w0 w gm gb gl mate back l' wr) ∧ As (Kd.Q (Kd.int .i64) 3 wr w.heap.size (fun _ => True) v9 q'))
    case atStart => exact ⟨false, l', q', rfl, ⟨HH.out, Nat.le_refl _⟩, ⟨el.out, HW.out⟩, HQ⟩
    case round =>
     clear HW HH el HQ
     obtain ⟨f, l', q', rfl, HA, HL, HQ⟩ := hrel
     have HW : As (LevW w0 w gm gb gl mate back l' wr) := ⟨HL.out.2⟩
     obtain ⟨A9, c9, rfl, hc9⟩ := Kd.Q_slice HQ.out
     cases gk with
     | zero => exact absurd HA.out.1 (by simp [levB])
     | succ k2 =>
      have H := HA.out.1
      have HK := As.mk HA.out.2
      clear HA
      obtain hq | ⟨v, q2, hq⟩ : q' = [] ∨ ∃ v q2, q' = v :: q2 := by cases q' <;> simp
      ·subst hq
       have hr := Option.some.inj (show some (f, l') = some r from H)
       have HR := As.mk hr
       clear H hr
       go_wp2
       go_ret
       exact ⟨by rw [← HR.out]; rfl, by rw [← HR.out]; exact HW.out⟩
      ·have hlen : 0 < q'.length := by rw [hq]; simp
       have hlen2 : (0 : Int) < q'.length := by omega
       have hlen3 : (1 : Int) ≤ q'.length := by omega
       rw [hq] at H
       simp only [levB] at H
       by_cases hv0 : 0 ≤ v
       ·rw [if_pos hv0] at H
        by_cases hv1 : v < next.length
        ·rw [if_pos hv1] at H
         have HH := As.mk H
         clear H
         obtain ⟨ad9, e9, hx9⟩ := Kd.at_int (Kd.Q_reads' HQ.out).2.2 0 (by omega) hlen2
         subst e9
         rw [show ((0 : Int)).toNat = 0 from rfl, Addr.add_zero', show rd q' 0 = v by rw [hq]; rfl] at hx9
         obtain ⟨i0, hi0, _, hsz0, _⟩ := info_parts info3
         have hcut := cut_from (P := Try.prog) 29 3 .i64 Try.underlying29 hi0 1 hsz0 (some ad9) q'.length c9 1 (by omega) hlen3
         have hQ := Kd.Q_drop (k := (1 : Int).toNat) HQ.out (by omega)
         obtain ⟨A2, hA2⟩ : ∃ A1, A1 = (if c9 = (1 : Int).toNat then (some ad9) else ((some ad9) : Option Addr).map (·.add ((1 : Int).toNat * 1))) := ⟨_, rfl⟩
         obtain ⟨c2, hc2⟩ : ∃ c1, c1 = c9 - (1 : Int).toNat := ⟨_, rfl⟩
         have hy2 : q2.length = q'.length - (1 : Int).toNat := by rw [hq]; simp
         rw [← hy2, ← hA2, ← hc2] at hcut
         replace hQ : Kd.Q (Kd.int .i64) 3 wr w.heap.size (fun _ => True) (.slice A2 q2.length c2) q2 := by
          have e : q'.drop (1 : Int).toNat = q2 := by rw [hq]; rfl
          rw [e] at hQ
          rw [hA2, hc2, hy2]
          exact hQ
         clear hy2 hi0 hsz0 hA2 hc2 hq HQ
         have HQ := As.mk hQ
         clear hQ
         obtain ⟨ad, A1, c1, eA, hx1, hl1, hI⟩ := at_L HN.out v hv0 hv1
         subst eA
         have HI := As.mk hI
         have hmaxI := Kd.C_max hI
         have HL1 := As.mk hl1
         replace hx1 := pw_cell_below HW.out.below hx1
         clear hI hl1
         go_wp2_with fail
         have el := As.mk HL.out.1
         clear HL hx9 hx1 hcut hlen hlen2 hlen3
         go_loopg [9, 11, 50] k2 (fun kq v9 v11 v50 wr => ∃ (f : Bool) (j : Int) (l' q' : List Int), v11 = .bool f ∧ v50 = .int .i64 j ∧ As (0 ≤ j ∧ (levC back (rdL next v) v kq j f l' q').bind (fun s => levB next back k2 s.1 s.2.1 s.2.2) = some r) ∧ As (l'.length = next.length ∧ LevW w0 w gm gb gl mate back l' wr) ∧ As (Kd.Q (Kd.int .i64) 3 wr w.heap.size (fun _ => True) v9 q'))
         case atStart => exact ⟨f, 0, l', q2, rfl, rfl, ⟨by omega, HH.out⟩, ⟨el.out, HW.out⟩, HQ⟩
         case round =>
          clear HW HH el HQ
          obtain ⟨f, j, l', q', rfl, rfl, HA, HL, HQ⟩ := hrel
          have HW : As (LevW w0 w gm gb gl mate back l' wr) := ⟨HL.out.2⟩
          have el := As.mk HL.out.1
          clear HL
          have hj0 : 0 ≤ j := HA.out.1
          cases gk with
          | zero => exact absurd HA.out.2 (by simp [levC])
          | succ k3 =>
           have H := HA.out.2
           clear HA
           simp only [levC] at H
           by_cases hlt : j < (rdL next v).length
           ·rw [if_pos hlt] at H
            obtain ⟨ad1, eA, hy⟩ := Kd.at_int HI.out j hj0 hlt
            subst eA
            replace hy := pw_cell_below HW.out.below hy
            obtain ⟨x, hX⟩ : ∃ x, rd (rdL next v) j = x := ⟨_, rfl⟩
            rw [hX] at hy H
            clear hX
            by_cases hx0 : 0 ≤ x
            ·rw [if_pos hx0] at H
             by_cases hx1 : x < back.length
             ·rw [if_pos hx1] at H
              have hx2 : x < nb := by have := EB.out; omega
              have hz := HW.out.rb.cell x hx0 hx1
              obtain ⟨u, hU⟩ : ∃ u, rd back x = u := ⟨_, rfl⟩
              rw [hU] at hz H
              clear hU
              by_cases hu : u < 0
              ·rw [if_pos hu] at H
               have HH := As.mk H
               clear H
               go_wp2
               go_roundg k3
               case measure => omega
               case rel => exact ⟨true, j + 1, l', q', rfl, by go_num, ⟨by omega, HH.out⟩, ⟨el.out, HW.out⟩, HQ⟩
              ·rw [if_neg hu] at H
               have hu0 : 0 ≤ u := by omega
               by_cases hu1 : u < l'.length
               ·rw [if_pos hu1] at H
                have hu2 : u < next.length := by have := el.out; omega
                have cu := HW.out.rl.cell u hu0 hu1
                have fu := HW.out.rl.frozen u
                clear hu
                by_cases hz0 : rd l' u < 0
                ·rw [if_pos hz0] at H
                 by_cases hv2 : v < l'.length
                 ·rw [if_pos hv2] at H
                  have cv := HW.out.rl.cell v hv0 hv2
                  by_cases hq : q'.length < 17592186044416
                  ·rw [if_pos hq] at H
                   have HH := As.mk H
                   have LQ := As.mk hq
                   clear H hq hx1 hu1 hv2
                   go_wp2_with (first | ((with_reducible refine gate_store (t := 3) (p := 72) rfl ?_); refine store_event (t := 3) (p := 72) (v := ?vo3) (w1 := (wr.setCell ⟨gl, u.toNat, none⟩ (.int .i64 (wrap64 (rd l' v + 1))))) ?hg3 ?ho3 ?hn3 ?hr3 ?_; (case ho3 => rfl); (case hg3 => rfl); (case hn3 => rfl); (case hr3 => first | (go_simp; done) | (go_simp; rfl)); intro w2 hw; have HW2 : As (LevW w0 w gm gb gl mate back (l'.set u.toNat (wrap64 (rd l' v + 1))) w2) := ⟨by rw [hw]; exact HW.out.put N1.out N2.out OL.out u _⟩; have HQ2 : As (Kd.Q (Kd.int .i64) 3 w2 w.heap.size (fun _ => True) u9 q') := ⟨by rw [hw]; exact Q_put HQ.out B3.out _ _⟩; clear hw cu cv fu hy hz) | ((with_reducible refine gate_builtin (b := .append) (xs := #[.tmp 73, .tmp 75]) rfl ?_); at_builtin; refine Kd.Q_append (Kd.int .i64) w.heap.size rfl (.tmp 73) (.tmp 75) 29 3 (.int .i64 0) 8 rfl Try.underlying29 info3 rfl (by decide) (by omega) u9 q' u [.int .i64 u] (fun _ => True) (fun _ => False) rfl rfl ?aP (fun _ hk => hk.elim) (fun _ _ => trivial) HQ2.out (Below.refl _ _) ?aS ?aL ?_; (case aP => exact rfl); (case aS => exact HW2.out.keep.1); (case aL => have := LQ.out; omega); intro v1 w1 ho hb hg hat; have HQ1 := As.mk ho; have HG1 := As.mk hg; clear ho hb hg hat))
                   go_roundg k3
                   case measure => omega
                   case rel => exact ⟨f, j + 1, _, _, rfl, by go_num, ⟨by omega, HH.out⟩, ⟨by rw [List.length_set]; exact el.out, HW2.out.grown OW.out HG1.out (Kd.Q_base HQ2.out) B1.out B2.out B3.out⟩, HQ1⟩
                  ·rw [if_neg hq] at H
                   exact absurd H (by simp)
                 ·rw [if_neg hv2] at H
                  exact absurd H (by simp)
                ·rw [if_neg hz0] at H
                 have HH := As.mk H
                 clear H
                 go_wp2
                 go_roundg k3
                 case measure => omega
                 case rel => exact ⟨f, j + 1, l', q', rfl, by go_num, ⟨by omega, HH.out⟩, ⟨el.out, HW.out⟩, HQ⟩
               ·rw [if_neg hu1] at H
                exact absurd H (by simp)
             ·rw [if_neg hx1] at H
              exact absurd H (by simp)
            ·rw [if_neg hx0] at H
             exact absurd H (by simp)
           ·rw [if_neg hlt] at H
            have HH := As.mk (show levB next back k2 f l' q' = some r from H)
            clear H
            go_wp2
            go_roundg k2
            case measure => omega
            case rel => exact ⟨f, l', q', rfl, ⟨HH.out, by have := HK.out; omega⟩, ⟨el.out, HW.out⟩, HQ⟩
        ·rw [if_neg hv1] at H
         exact absurd H (by simp)
       ·rw [if_neg hv0] at H
        exact absurd H (by simp)
end Go.Proofs.Ytlleokhmgblfnaa.H
end

section
namespace Go.Proofs.Ytlleokhmgblfnaa.H
open Go.RowKit Go.Proofs.YtlleokhmgblfnaaW.PrintWords
def nones (n : Nat) : List Int := List.replicate n (-1)
theorem made_row (w : World) (n : Nat) : Row (w.alloc (.cells (madeCells #[.int .i64 0] n) 3)) w.heap.size (List.replicate n 0) := by
 unfold Row
 rw [blk_new]
 congr 2
 apply Array.ext
 ·simp [size_madeCells]
 ·intro i h1 h2
  simp [madeCells, Nat.mod_one]
theorem rep_cons (a : Nat) (x : Int) (l : List Int) : List.replicate a x ++ x :: l = x :: (List.replicate a x ++ l) := by
 induction a with
 | zero => rfl
 | succ a ih => simp only [List.replicate_succ, List.cons_append, ih]
theorem Row.R {w : World} {g base : Nat} {xs : List Int} {ok : Nat → Prop} (h : Row w g xs) (hb : base ≤ g) (hm : xs.length ≤ 9223372036854775807) (hok : ok g) : Kd.R (Kd.int .i64) 3 w base ok (.slice (some ⟨g, 0, none⟩) xs.length xs.length) xs := by
 refine Kd.R_of_own ⟨by simp [encs], .inr ⟨g, xs.length, _, rfl, hb, h, Nat.le_refl _, hm, by simp, ?_⟩⟩ (fun k hk => ?_)
 ·simp [encs]
  exact List.take_of_length_le (by simp)
 ·have : g = k := by simpa [Value.ownBlock] using hk
  exact this ▸ hok
def phase (next : List (List Int)) : Nat → Int → List Int → List Int → List Int → Option (List Int × List Int × List Int)
 | 0, _, _, _, _ => none
 | k + 1, v, m, b, l =>
  if v < next.length then
   if rd m v < 0 then (extG next k v 0 m b l).bind fun q => phase next k (v + 1) q.2.1 q.2.2.1 q.2.2.2
   else phase next k (v + 1) m b l
  else some (m, b, l)
def great (next : List (List Int)) : Nat → List Int → List Int → List Int → Option (List Int × List Int)
 | 0, _, _, _ => none
 | k + 1, m, b, l => (levF next m b k l).bind fun s => if s.1 then (phase next k 0 m b s.2).bind fun t => great next k t.1 t.2.1 t.2.2 else some (m, b)
def greatF (k : Nat) (next : List (List Int)) (R : Int) : Option (List Int × List Int) :=
 if 0 ≤ R then if R.toNat ≤ 35184372088832 then if next.length ≤ 35184372088832 then great next k (nones next.length) (nones R.toNat) (List.replicate next.length 0) else none else none else none
def NonePost (n : Nat) (w : World) (e : Ending) (w' : World) : Prop :=
 ∃ g, e = .returned (.slice (some ⟨g, 0, none⟩) n n) ∧ w.heap.size ≤ g ∧ Row w' g (nones n) ∧ Below w.heap.size w w'
set_option maxHeartbeats 1000000 in
set_option maxRecDepth 100000 in
theorem none_calls (n : Nat) (hn : n ≤ 35184372088832) (w : World) : Calls Try.prog 52 #[.int .i64 n] w (NonePost n w) := by
 have hmk := run_make_row' (P := Try.prog) 29 3 (.int .i64 0) 8 Try.underlying29 info3 rfl .i64 .i64 n (by omega) (by omega)
 have HR := As.mk (made_row w n)
 go_enter Try.func52, Try.ntmps52
 go_wp2_with fail
 go_loopg [9] (n + 1) (fun kq v9 wr => ∃ i : Int, v9 = .int .i64 i ∧ As (0 ≤ i ∧ i ≤ n ∧ (n : Int) < i + kq) ∧ As (Row wr w.heap.size (List.replicate i.toNat (-1) ++ List.replicate (n - i.toNat) 0)) ∧ As (Below w.heap.size w wr))
 case atStart => exact ⟨0, rfl, ⟨by omega, by omega, by omega⟩, ⟨by simpa using HR.out⟩, ⟨below_alloc (Below.refl _ _) _⟩⟩
 case round =>
  clear HR hmk
  obtain ⟨i, rfl, HA, HR, HB⟩ := hrel
  have hi0 : 0 ≤ i := HA.out.1
  by_cases hlt : i < n
  ·have ci := HR.out.cell i hi0 (by simp; omega)
   have fi := HR.out.frozen i
   go_wp2
   go_roundg (gk - 1)
   case measure => have := HA.out; omega
   case rel =>
    have := HA.out
    refine ⟨i + 1, by go_num, ⟨by omega, by omega, by omega⟩, ⟨?_⟩, ⟨below_set HB.out (Nat.le_refl _)⟩⟩
    have h := HR.out.set i (-1)
    have e : (List.replicate i.toNat (-1 : Int) ++ List.replicate (n - i.toNat) 0).set i.toNat (-1) = List.replicate (i + 1).toNat (-1) ++ List.replicate (n - (i + 1).toNat) 0 := by
     rw [List.set_append_right _ _ (by simp)]
     obtain ⟨m, hm⟩ : ∃ m, n - i.toNat = m + 1 := ⟨n - i.toNat - 1, by omega⟩
     rw [hm, show (i + 1).toNat = i.toNat + 1 by omega, show n - (i.toNat + 1) = m by omega]
     simp [List.replicate_succ, rep_cons]
    rw [e] at h
    exact h
  ·have hi : i.toNat = n := by have := HA.out; omega
   have HI := As.mk hi
   clear hi
   go_wp2
   go_ret
   exact ⟨_, rfl, Nat.le_refl _, by have := HR.out; rw [HI.out] at this; simpa [nones] using this, HB.out⟩
theorem ExtW.lev {w0 wr w1 : World} {next : List (List Int)} {R : Nat} {A0 : Option Addr} {c0 Bn Bm Bb Bl Bx gm gb gl : Nat} {m b l l' : List Int} (h : ExtW w0 next R A0 c0 Bn Bm Bb Bl Bx gm gb gl m b l wr) (k : LevW w0 wr gm gb gl m b l' w1) (hl : l'.length = next.length) : ExtW w0 next R A0 c0 Bn Bm Bb Bl Bx gm gb gl m b l' w1 :=
 ⟨k.below, k.keep.blk h.hn (h.rl.ne h.hn (by decide)) (by simp), k.keep.blk h.hm (h.rl.ne h.hm (by decide)) (by simp), k.keep.blk h.hb (h.rl.ne h.hb (by decide)) (by simp), k.keep.blk h.hl (h.rl.ne h.hl (by decide)) (by simp), k.keep.blk h.hx (h.rl.ne h.hx (by decide)) (by simp),
  k.rm, k.rb, k.rl, h.lm, h.lb, hl, h.gmb, h.gml, h.gbl, h.om, h.ob, h.ol⟩
theorem levA_len (mate : List Int) (n : Int) : ∀ k i l q s, levA mate n k i l q = some s → s.1.length = l.length := by
 intro k
 induction k with
 | zero => intro i l q s h; exact absurd h (by simp [levA])
 | succ k ih =>
  intro i l q s h
  simp only [levA] at h
  repeat' split at h
  all_goals first
   | (have := ih _ _ _ _ h; simpa using this)
   | (cases h; rfl)
   | cases h
theorem levC_len (back ws : List Int) (v : Int) : ∀ k j f l q s, levC back ws v k j f l q = some s → s.2.1.length = l.length := by
 intro k
 induction k with
 | zero => intro j f l q s h; exact absurd h (by simp [levC])
 | succ k ih =>
  intro j f l q s h
  simp only [levC] at h
  repeat' split at h
  all_goals first
   | (have := ih _ _ _ _ _ h; simpa using this)
   | (cases h; rfl)
   | cases h
theorem levB_len (next : List (List Int)) (back : List Int) : ∀ k f l q s, levB next back k f l q = some s → s.2.length = l.length := by
 intro k
 induction k with
 | zero => intro f l q s h; exact absurd h (by simp [levB])
 | succ k ih =>
  intro f l q s h
  cases q with
  | nil => cases h; rfl
  | cons v q =>
   simp only [levB] at h
   repeat' split at h
   ·cases hc : levC back (rdL next v) v k 0 f l q with
    | none => rw [hc] at h; exact absurd h (by simp)
    | some t =>
     rw [hc] at h
     have h1 := ih _ _ _ _ h
     have h2 := levC_len _ _ _ _ _ _ _ _ _ hc
     exact h1.trans h2
   all_goals exact absurd h (by simp)
theorem levF_len {next : List (List Int)} {mate back : List Int} {k : Nat} {l : List Int} {s : Bool × List Int} (h : levF next mate back k l = some s) : s.2.length = l.length := by
 unfold levF at h
 cases ha : levA mate next.length k 0 l [] with
 | none => rw [ha] at h; exact absurd h (by simp)
 | some t =>
  rw [ha] at h
  exact (levB_len _ _ _ _ _ _ _ h).trans (levA_len _ _ _ _ _ _ _ ha)
def GreatPost (w : World) (r : List Int × List Int) (e : Ending) (w' : World) : Prop :=
 ∃ v0 v1 : Value, e = .returned (.tuple #[v0, v1]) ∧ Kd.R (Kd.int .i64) 3 w' w.heap.size (fun k => some k ≠ v1.ownBlock) v0 r.1 ∧ Kd.R (Kd.int .i64) 3 w' w.heap.size (fun k => some k ≠ v0.ownBlock) v1 r.2 ∧ Below w.heap.size w w'
set_option maxHeartbeats 4000000 in
set_option maxRecDepth 100000 in
theorem great_calls (k : Nat) (A0 : Option Addr) (c0 : Nat) (next : List (List Int)) (R : Int) (r : List Int × List Int) (w : World) (hN : Kd.C (Kd.slice 3 (Kd.int .i64)) w A0 next.length next) (hc : next.length ≤ c0) (h : greatF k next R = some r) :
  Calls Try.prog 46 #[.slice A0 next.length c0, .int .i64 R] w (GreatPost w r) := by
 unfold greatF at h
 by_cases h1 : 0 ≤ R
 case neg => rw [if_neg h1] at h; exact absurd h (by simp)
 rw [if_pos h1] at h
 by_cases h2 : R.toNat ≤ 35184372088832
 case neg => rw [if_neg h2] at h; exact absurd h (by simp)
 rw [if_pos h2] at h
 by_cases h3 : next.length ≤ 35184372088832
 case neg => rw [if_neg h3] at h; exact absurd h (by simp)
 rw [if_pos h3] at h
 obtain ⟨n, rfl⟩ := Int.eq_ofNat_of_zero_le h1
 rw [Int.toNat_natCast] at h h2
 have HN := As.mk hN
 have H := As.mk h
 clear hN h h1
 have hmk := run_make_row' (P := Try.prog) 29 3 (.int .i64 0) 8 Try.underlying29 info3 rfl .i64 .i64 next.length (by omega) (by omega)
 go_enter Try.func46, Try.ntmps46
 go_wp2_with fail
 have hW : ∃ W : World, W = (((w.alloc (Obj.cells #[Value.slice A0 next.length c0] 69)).alloc (Obj.cells #[Value.slice none 0 0] 29)).alloc (Obj.cells #[Value.slice none 0 0] 29)) := ⟨_, rfl⟩
 obtain ⟨W, hW⟩ := hW
 rw [← hW]
 have kn : W.heap[w.heap.size]? = some (.cells #[.slice A0 next.length c0] 69 (0, 0)) := by rw [hW]; exact blk_alloc (blk_alloc (blk_new _ _) _) _
 have km : W.heap[w.heap.size + 1]? = some (.cells #[.slice none 0 0] 29 (0, 0)) := by rw [hW]; have := blk_alloc (blk_new (w.alloc (Obj.cells #[Value.slice A0 next.length c0] 69)) (Obj.cells #[Value.slice none 0 0] 29)) (Obj.cells #[Value.slice none 0 0] 29); simpa using this
 have kb : W.heap[w.heap.size + 1 + 1]? = some (.cells #[.slice none 0 0] 29 (0, 0)) := by rw [hW]; have := blk_new ((w.alloc (Obj.cells #[Value.slice A0 next.length c0] 69)).alloc (Obj.cells #[Value.slice none 0 0] 29)) (Obj.cells #[Value.slice none 0 0] 29); simpa using this
 have kB : Below w.heap.size w W := by rw [hW]; exact below_alloc (below_alloc (below_alloc (Below.refl _ _) _) _) _
 have ks : W.heap.size = w.heap.size + 3 := by rw [hW]; simp
 clear hW
 refine (none_calls next.length h3 _).mono ?_
 rintro e w1 ⟨gm, rfl, hg1, hr1, hb1⟩
 replace kn := blk_below kn hb1
 replace km := blk_below km hb1
 replace kb := blk_below kb hb1
 have ks1 := hb1.size
 replace kB := below_step kB hb1
 clear hb1
 have KN := As.mk kn
 have KM := As.mk km
 have KB := As.mk kb
 have KBe := As.mk kB
 have HR1 := As.mk hr1
 have HG1 := As.mk (show w.heap.size + 3 ≤ gm by omega)
 have KS := As.mk (show w.heap.size + 3 ≤ w1.heap.size by omega)
 clear kn km kb kB hr1 hg1 ks ks1 W
 go_wp2_with fail
 refine (none_calls n h2 _).mono ?_
 rintro e w2 ⟨gb, rfl, hg2, hr2, hb2⟩
 have KN2 := As.mk (blk_below KN.out hb2)
 have KM2 := As.mk (blk_below KM.out hb2)
 have KB2 := As.mk (blk_below KB.out hb2)
 have KBe2 := As.mk (below_step KBe.out hb2)
 have HR12 := As.mk (HR1.out.move (hb2.block gm HR1.out.lt))
 have HR2 := As.mk hr2
 have hgne : gm ≠ gb := by have := HR1.out.lt; omega
 have HNE := As.mk hgne
 have HG2 := As.mk (show w.heap.size + 3 ≤ gb by have := KS.out; omega)
 have KS2 := As.mk (show w.heap.size + 3 ≤ w2.heap.size by have := KS.out; have := hb2.size; omega)
 clear hr2 hb2 hgne hg2 KN KM KB KBe HR1 KS
 have cn := blk_cell KN2.out 0
 have cm := blk_cell KM2.out 0
 have cb := blk_cell KB2.out 0
 have fm := blk_frozen KM2.out 0
 have fb := blk_frozen KB2.out 0
 simp only [List.getElem?_toArray, List.getElem?_cons_zero] at cn cm cb
 go_wp2_with fail
 generalize hW : (((((w2.setCell { block := w.heap.size + 1, off := 0 } (Value.slice (some { block := gm, off := 0 }) next.length next.length)).setCell { block := w.heap.size + 1 + 1, off := 0 } (Value.slice (some { block := gb, off := 0 }) n n)).alloc (Obj.cells (madeCells #[Value.int IntKind.i64 0] next.length) 3)).alloc (Obj.cells #[Value.slice (some { block := w2.heap.size, off := 0 }) next.length next.length] 29)).alloc (Obj.cells #[Value.func (Fn.func 53) #[] #[Value.pointer (some { block := w.heap.size, off := 0 }), Value.pointer (some { block := w.heap.size + 1 + 1, off := 0 }), Value.pointer (some { block := w2.heap.size + 1, off := 0 }), Value.pointer (some { block := w2.heap.size + 1 + 1, off := 0 }), Value.pointer (some { block := w.heap.size + 1, off := 0 })]] 84)) = W
 have HX : As (ExtW w next n A0 c0 w.heap.size (w.heap.size + 1) (w.heap.size + 1 + 1) (w2.heap.size + 1) (w2.heap.size + 1 + 1) gm gb w2.heap.size (nones next.length) (nones n) (List.replicate next.length 0) W) := by
  have ns := KS2.out
  have e1 : ∀ (X : World) (o : Obj), (X.alloc o).heap.size = X.heap.size + 1 := fun X o => by simp
  have hN1 : w.heap.size ≠ w.heap.size + 1 := by omega
  have hN2 : w.heap.size ≠ w.heap.size + 1 + 1 := by omega
  have hN3 : w.heap.size + 1 ≠ w.heap.size + 1 + 1 := by omega
  have hM1 : gm ≠ w.heap.size + 1 := by have := HG1.out; omega
  have hM2 : gm ≠ w.heap.size + 1 + 1 := by have := HG1.out; omega
  have hG1 : gb ≠ w.heap.size + 1 := by have := HG2.out; omega
  have hG2 : gb ≠ w.heap.size + 1 + 1 := by have := HG2.out; omega
  obtain ⟨Wa, hWa⟩ : ∃ X, X = w2.setCell { block := w.heap.size + 1, off := 0 } (Value.slice (some { block := gm, off := 0 }) next.length next.length) := ⟨_, rfl⟩
  obtain ⟨Wb, hWb⟩ : ∃ X, X = Wa.setCell { block := w.heap.size + 1 + 1, off := 0 } (Value.slice (some { block := gb, off := 0 }) n n) := ⟨_, rfl⟩
  have sb : Wb.heap.size = w2.heap.size := by rw [hWb, hWa]; simp
  have a1 : Wb.heap[w.heap.size]? = some (.cells #[.slice A0 next.length c0] 69 (0, 0)) := by rw [hWb, hWa]; exact blk_far (blk_far KN2.out hN1 _) hN2 _
  have a2 : Wb.heap[w.heap.size + 1]? = some (.cells #[.slice (some ⟨gm, 0, none⟩) next.length next.length] 29 (0, 0)) := by rw [hWb, hWa]; exact blk_far (by have := blk_set KM2.out 0 (Value.slice (some { block := gm, off := 0 }) next.length next.length); simpa using this) hN3 _
  have a3 : Wb.heap[w.heap.size + 1 + 1]? = some (.cells #[.slice (some ⟨gb, 0, none⟩) n n] 29 (0, 0)) := by
   rw [hWb]
   have h1 : Wa.heap[w.heap.size + 1 + 1]? = some (.cells #[.slice none 0 0] 29 (0, 0)) := by rw [hWa]; exact blk_far KB2.out hN3.symm _
   have := blk_set h1 0 (Value.slice (some { block := gb, off := 0 }) n n)
   simpa using this
  have a4 : Row Wb gm (nones next.length) := by rw [hWb, hWa]; exact (HR12.out.far hM1 _).far hM2 _
  have a5 : Row Wb gb (nones n) := by rw [hWb, hWa]; exact (HR2.out.far hG1 _).far hG2 _
  have a6 : Below w.heap.size w Wb := by rw [hWb, hWa]; exact below_set (below_set KBe2.out (by omega)) (by omega)
  rw [← hWa, ← hWb] at hW
  clear hWa hWb
  subst hW
  refine ⟨⟨below_alloc (below_alloc (below_alloc a6 _) _) _, blk_alloc (blk_alloc (blk_alloc a1 _) _) _, blk_alloc (blk_alloc (blk_alloc a2 _) _) _, blk_alloc (blk_alloc (blk_alloc a3 _) _) _, ?_, ?_, ((a4.alloc _).alloc _).alloc _, ((a5.alloc _).alloc _).alloc _, ?_, by simp [nones], by simp [nones], by simp, HNE.out, ?_, ?_, by have := HG1.out; omega, by have := HG2.out; omega, by omega⟩⟩
  ·refine blk_alloc ?_ _
   have := blk_new (Wb.alloc (Obj.cells (madeCells #[Value.int IntKind.i64 0] next.length) 3)) (Obj.cells #[Value.slice (some { block := w2.heap.size, off := 0 }) next.length next.length] 29)
   rw [e1, sb] at this
   exact this
  ·have := blk_new ((Wb.alloc (Obj.cells (madeCells #[Value.int IntKind.i64 0] next.length) 3)).alloc (Obj.cells #[Value.slice (some { block := w2.heap.size, off := 0 }) next.length next.length] 29)) (Obj.cells #[Value.func (Fn.func 53) #[] #[Value.pointer (some { block := w.heap.size, off := 0 }), Value.pointer (some { block := w.heap.size + 1 + 1, off := 0 }), Value.pointer (some { block := w2.heap.size + 1, off := 0 }), Value.pointer (some { block := w2.heap.size + 1 + 1, off := 0 }), Value.pointer (some { block := w.heap.size + 1, off := 0 })]] 84)
   rw [e1, e1, sb] at this
   exact this
  ·have := made_row Wb next.length
   rw [sb] at this
   exact (this.alloc _).alloc _
  ·have := HR12.out.lt; omega
  ·have := HR2.out.lt; omega
 clear hW cn cm cb fm fb KN2 KM2 KB2 KBe2 HR12 HR2 HNE HG1 HG2 hmk
 have hmn : next.length ≤ 9223372036854775807 := by omega
 go_loopg [25] k (fun kq v25 wr => ∃ (m b l : List Int), As (great next kq m b l = some r ∧ kq ≤ k) ∧ As (ExtW w next n A0 c0 w.heap.size (w.heap.size + 1) (w.heap.size + 1 + 1) (w2.heap.size + 1) (w2.heap.size + 1 + 1) gm gb w2.heap.size m b l wr))
 case atStart => exact ⟨_, _, _, ⟨H.out, Nat.le_refl _⟩, HX⟩
 case round =>
  clear HX H
  obtain ⟨m, b, l, HA, HX⟩ := hrel
  cases gk with
  | zero => exact absurd HA.out.1 (by simp [great])
  | succ k1 =>
   have H0 := HA.out.1
   have HK := As.mk HA.out.2
   clear HA
   simp only [great] at H0
   cases hs : levF next m b k1 l with
   | none => rw [hs] at H0; exact absurd H0 (by simp)
   | some s =>
    rw [hs] at H0
    have HS := As.mk hs
    have HL := As.mk ((levF_len hs).trans HX.out.ll)
    have H := As.mk (show (if s.1 then (phase next k1 0 m b s.2).bind fun t => great next k1 t.1 t.2.1 t.2.2 else some (m, b)) = some r from H0)
    clear H0 hs
    have cn := blk_cell HX.out.hn 0
    have cm := blk_cell HX.out.hm 0
    have cb := blk_cell HX.out.hb 0
    have cl := blk_cell HX.out.hl 0
    simp only [List.getElem?_toArray, List.getElem?_cons_zero] at cn cm cb cl
    go_wp2_with fail
    refine (levels_calls w _ next A0 c0 gm gb w2.heap.size next.length n m b l k1 s HN.out hc HX.out.below HX.out.rm HX.out.rb HX.out.rl HX.out.gml HX.out.gbl HX.out.ol HX.out.lm HX.out.lb HX.out.ll HS.out).mono ?_
    rintro e w3 ⟨rfl, hw3⟩
    have HX2 := As.mk (HX.out.lev hw3 HL.out)
    clear hw3 HX HS HL cn cm cb cl
    obtain ⟨s1, s2⟩ := s
    cases s1 with
    | false =>
     have hr := Option.some.inj (show some (m, b) = some r from H.out)
     have HR := As.mk hr
     clear hr H
     have cm := blk_cell HX2.out.hm 0
     have cb := blk_cell HX2.out.hb 0
     have fm := blk_frozen HX2.out.hm 0
     have fb := blk_frozen HX2.out.hb 0
     simp only [List.getElem?_toArray, List.getElem?_cons_zero] at cm cb
     go_wp2
     go_region
     all_goals go_wp2
     have n1 : w.heap.size + 1 ≠ w.heap.size + 1 + 1 := by omega
     have m1 : gm ≠ w.heap.size + 1 := HX2.out.rm.ne HX2.out.hm (by decide) |>.symm
     have m2 : gm ≠ w.heap.size + 1 + 1 := HX2.out.rm.ne HX2.out.hb (by decide) |>.symm
     have g1 : gb ≠ w.heap.size + 1 := HX2.out.rb.ne HX2.out.hm (by decide) |>.symm
     have g2 : gb ≠ w.heap.size + 1 + 1 := HX2.out.rb.ne HX2.out.hb (by decide) |>.symm
     obtain ⟨W4, hW4⟩ : ∃ X, X = ((w3.setCell { block := w.heap.size + 1, off := 0 } (Value.slice (some { block := gm, off := 0 }) next.length next.length)).setCell { block := w.heap.size + 1 + 1, off := 0 } (Value.slice (some { block := gb, off := 0 }) n n)).drew := ⟨_, rfl⟩
     have k1 : W4.heap[w.heap.size + 1]? = some (.cells #[.slice (some ⟨gm, 0, none⟩) next.length next.length] 29 (0, 0)) := by
      rw [hW4]; exact blk_drew (blk_far (by have := blk_set HX2.out.hm 0 (Value.slice (some { block := gm, off := 0 }) next.length next.length); simpa using this) n1 _)
     have k2 : W4.heap[w.heap.size + 1 + 1]? = some (.cells #[.slice (some ⟨gb, 0, none⟩) n n] 29 (0, 0)) := by
      rw [hW4]
      refine blk_drew ?_
      have h1 : (w3.setCell { block := w.heap.size + 1, off := 0 } (Value.slice (some { block := gm, off := 0 }) next.length next.length)).heap[w.heap.size + 1 + 1]? = some (.cells #[.slice (some ⟨gb, 0, none⟩) n n] 29 (0, 0)) := blk_far HX2.out.hb n1.symm _
      have := blk_set h1 0 (Value.slice (some { block := gb, off := 0 }) n n)
      simpa using this
     have r1 : Row W4 gm m := by rw [hW4]; exact (HX2.out.rm.far m1 _).far m2 _
     have r2 : Row W4 gb b := by rw [hW4]; exact (HX2.out.rb.far g1 _).far g2 _
     have bl : Below w.heap.size w W4 := by rw [hW4]; exact below_drew1 (below_set (below_set HX2.out.below (by omega)) (by omega))
     rw [← hW4]
     have q1 := blk_cell k1 0
     have q2 := blk_cell k2 0
     simp only [List.getElem?_toArray, List.getElem?_cons_zero] at q1 q2
     clear hW4
     refine bodyPost_ret (v := .tuple #[.slice (some ⟨gm, 0, none⟩) next.length next.length, .slice (some ⟨gb, 0, none⟩) n n]) (by simp [results, Try.results46, go_sem, q1, q2]) rfl ⟨_, _, rfl, ?_, ?_, bl⟩
     ·have := r1.R (base := w.heap.size) (ok := fun k => some k ≠ (Value.slice (some ⟨gb, 0, none⟩) n n).ownBlock) HX2.out.om (by rw [HX2.out.lm]; exact hmn) (by simp [Value.ownBlock]; exact HX2.out.gmb)
      rw [← HR.out]
      rw [HX2.out.lm] at this
      exact this
     ·have := r2.R (base := w.heap.size) (ok := fun k => some k ≠ (Value.slice (some ⟨gm, 0, none⟩) next.length next.length).ownBlock) HX2.out.ob (by rw [HX2.out.lb]; omega) (by simp [Value.ownBlock]; exact HX2.out.gmb.symm)
      rw [← HR.out]
      rw [HX2.out.lb] at this
      exact this
    | true =>
     have H2 := As.mk (show ((phase next k1 0 m b s2).bind fun t => great next k1 t.1 t.2.1 t.2.2) = some r from H.out)
     clear H
     have cn := blk_cell HX2.out.hn 0
     simp only [List.getElem?_toArray, List.getElem?_cons_zero] at cn
     go_wp2_with fail
     clear cn
     go_loopg [25] k1 (fun kq v25 wr => ∃ (v : Int) (m b l : List Int), v25 = .int .i64 v ∧ As (0 ≤ v ∧ (phase next kq v m b l).bind (fun t => great next k1 t.1 t.2.1 t.2.2) = some r ∧ kq ≤ k1) ∧ As (ExtW w next n A0 c0 w.heap.size (w.heap.size + 1) (w.heap.size + 1 + 1) (w2.heap.size + 1) (w2.heap.size + 1 + 1) gm gb w2.heap.size m b l wr))
     case atStart => exact ⟨0, m, b, s2, rfl, ⟨by omega, H2.out, Nat.le_refl _⟩, HX2⟩
     case round =>
      clear HX2 H2
      obtain ⟨v, m, b, l, rfl, HA, HX⟩ := hrel
      have hv0 : 0 ≤ v := HA.out.1
      cases gk with
      | zero => exact absurd HA.out.2.1 (by simp [phase])
      | succ k2 =>
       have H0 := HA.out.2.1
       have HK2 := As.mk HA.out.2.2
       clear HA
       simp only [phase] at H0
       by_cases hlt : v < next.length
       ·rw [if_pos hlt] at H0
        have cm := blk_cell HX.out.hm 0
        have cx := blk_cell HX.out.hx 0
        simp only [List.getElem?_toArray, List.getElem?_cons_zero] at cm cx
        have cv := HX.out.rm.cell v hv0 (by rw [HX.out.lm]; exact hlt)
        by_cases hneg : rd m v < 0
        ·rw [if_pos hneg] at H0
         cases hq : extG next k2 v 0 m b l with
         | none => rw [hq] at H0; exact absurd H0 (by simp)
         | some q =>
          rw [hq] at H0
          have HQ := As.mk hq
          have H := As.mk (show ((phase next k2 (v + 1) q.2.1 q.2.2.1 q.2.2.2).bind fun t => great next k1 t.1 t.2.1 t.2.2) = some r from H0)
          clear H0 hq
          go_wp2_with fail
          refine (ext_calls w next n A0 c0 w.heap.size (w.heap.size + 1) (w.heap.size + 1 + 1) (w2.heap.size + 1) (w2.heap.size + 1 + 1) gm gb w2.heap.size HN.out hc k2 v m b l q _ hv0 hlt HX.out HQ.out).mono ?_
          rintro e w4 ⟨rfl, hw4⟩
          have HX4 := As.mk hw4
          clear hw4 HX cm cx cv HQ
          go_wp2_with fail
          go_roundg k2
          case measure => omega
          case rel => exact ⟨v + 1, _, _, _, by go_num, ⟨by omega, H.out, by have := HK2.out; omega⟩, HX4⟩
        ·rw [if_neg hneg] at H0
         have H := As.mk H0
         clear H0
         go_wp2_with fail
         go_roundg k2
         case measure => omega
         case rel => exact ⟨v + 1, _, _, _, by go_num, ⟨by omega, H.out, by have := HK2.out; omega⟩, HX⟩
       ·rw [if_neg hlt] at H0
        have H := As.mk (show great next k1 m b l = some r from H0)
        clear H0
        go_wp2_with fail
        go_roundg k1
        case measure => omega
        case rel => exact ⟨m, b, l, ⟨H.out, by have := HK.out; omega⟩, HX⟩
end Go.Proofs.Ytlleokhmgblfnaa.H
end

section
namespace Go.Proofs.Ytlleokhmgblfnaa.H
open Go.RowKit Go.Proofs.YtlleokhmgblfnaaW.PrintWords
theorem extG_mono (next : List (List Int)) : ∀ k v j m b l, LeO (extG next k v j m b l) (extG next (k + 1) v j m b l) := by
 intro k
 induction k with
 | zero => intro v j m b l r h; exact absurd h (by simp [extG])
 | succ k ih =>
  intro v j m b l
  rw [extG, extG]
  refine LeO.ite (LeO.ite (LeO.ite (LeO.ite (LeO.refl _) (LeO.ite (LeO.ite (LeO.ite ?_ (ih _ _ _ _ _)) (LeO.refl _)) (LeO.refl _))) (LeO.refl _)) (LeO.refl _)) (LeO.refl _)
  intro r h
  cases hq : extG next k (rd b (rd (rdL next v) j)) 0 m b l with
  | none => rw [hq] at h; cases h
  | some q =>
   rw [hq] at h
   rw [ih _ _ _ _ _ _ hq]
   obtain ⟨q0, q1, q2, q3⟩ := q
   cases q0 with
   | true => exact h
   | false => exact ih _ _ _ _ _ _ h
theorem levA_mono (mate : List Int) (n : Int) : ∀ k i l q, LeO (levA mate n k i l q) (levA mate n (k + 1) i l q) := by
 intro k
 induction k with
 | zero => intro i l q r h; exact absurd h (by simp [levA])
 | succ k ih =>
  intro i l q
  rw [levA, levA]
  repeat' first
   | exact ih _ _ _
   | exact LeO.refl _
   | refine LeO.ite ?_ ?_
theorem levC_mono (back ws : List Int) (v : Int) : ∀ k j f l q, LeO (levC back ws v k j f l q) (levC back ws v (k + 1) j f l q) := by
 intro k
 induction k with
 | zero => intro j f l q r h; exact absurd h (by simp [levC])
 | succ k ih =>
  intro j f l q
  rw [levC, levC]
  repeat' first
   | exact ih _ _ _ _
   | exact LeO.refl _
   | refine LeO.ite ?_ ?_
theorem levB_mono (next : List (List Int)) (back : List Int) : ∀ k f l q, LeO (levB next back k f l q) (levB next back (k + 1) f l q) := by
 intro k
 induction k with
 | zero => intro f l q r h; exact absurd h (by simp [levB])
 | succ k ih =>
  intro f l q
  cases q with
  | nil => exact LeO.refl _
  | cons v q =>
   rw [levB, levB]
   repeat' first
    | exact LeO.refl _
    | refine LeO.ite ?_ ?_
    | refine LeO.bind (levC_mono _ _ _ _ _ _ _ _) (fun _ => ih _ _ _)
theorem levF_mono (next : List (List Int)) (m b : List Int) (k : Nat) (l : List Int) : LeO (levF next m b k l) (levF next m b (k + 1) l) :=
 LeO.bind (levA_mono _ _ _ _ _ _) (fun _ => levB_mono _ _ _ _ _ _)
theorem phase_mono (next : List (List Int)) : ∀ k v m b l, LeO (phase next k v m b l) (phase next (k + 1) v m b l) := by
 intro k
 induction k with
 | zero => intro v m b l r h; exact absurd h (by simp [phase])
 | succ k ih =>
  intro v m b l
  rw [phase, phase]
  repeat' first
   | exact ih _ _ _ _
   | exact LeO.refl _
   | refine LeO.ite ?_ ?_
   | refine LeO.bind (extG_mono _ _ _ _ _ _ _) (fun _ => ih _ _ _ _)
theorem great_mono (next : List (List Int)) : ∀ k m b l, LeO (great next k m b l) (great next (k + 1) m b l) := by
 intro k
 induction k with
 | zero => intro m b l r h; exact absurd h (by simp [great])
 | succ k ih =>
  intro m b l
  rw [great, great]
  refine LeO.bind (levF_mono _ _ _ _ _) (fun _ => LeO.ite ?_ (LeO.refl _))
  exact LeO.bind (phase_mono _ _ _ _ _ _) (fun _ => ih _ _ _)
theorem greatF_mono (next : List (List Int)) (R : Int) (k : Nat) : LeO (greatF k next R) (greatF (k + 1) next R) := by
 unfold greatF
 exact LeO.ite (LeO.ite (LeO.ite (great_mono _ _ _ _ _) (LeO.refl _)) (LeO.refl _)) (LeO.refl _)
theorem C_iso {α β : Type} {d : Kd α} {f : β → α} {w : World} {A : Option Addr} {n : Nat} {xs : List β} (h : (Kd.iso d f).C w A n xs) : d.C w A n (xs.map f) := by
 refine ⟨by simpa using h.1, h.2.1, fun hn => ?_⟩
 obtain ⟨ad, e, hc⟩ := h.2.2 hn
 refine ⟨ad, e, fun j p hp => ?_⟩
 rw [List.getElem?_map] at hp
 cases hj : xs[j]? with
 | none => rw [hj] at hp; cases hp
 | some q =>
  rw [hj] at hp
  cases hp
  exact hc j q hj
end Go.Proofs.Ytlleokhmgblfnaa.H
namespace Go.Proofs.Ytlleokhmgblfnaa.M
open Go.RowKit Go.Proofs.YtlleokhmgblfnaaW.PrintWords
def pairing_Greatest.f (k : Nat) (l0 : List (List Int)) (a1 : Int) : Option (List Int × List Int) := H.greatF k l0 a1
theorem pairing_Greatest.mono : ∀ a0 a1 k, LeO (pairing_Greatest.f k a0 a1) (pairing_Greatest.f (k + 1) a0 a1) := fun a0 a1 k => H.greatF_mono a0 a1 k
theorem pairing_Greatest.calls (k : Nat) (A0 : Option Addr) (c0 : Nat) (l0 : List (List Int)) (a1 : Int) (r1 : List Int) (r2 : List Int) (w : World) (hr0 : Kd.C (Kd.slice 3 (Kd.int .i64)) w A0 l0.length l0) (hc0 : l0.length ≤ c0) (h : pairing_Greatest.f k l0 a1 = some (r1, r2)) :
  Calls Try.prog 46 #[.slice A0 l0.length c0, .int .i64 a1] w fun e w' => ∃ v0_ v1_ : Value, e = .returned (.tuple #[v0_, v1_]) ∧ Kd.R (Kd.int .i64) 3 w' w.heap.size (fun k_ => some k_ ≠ (v1_ : Value).ownBlock) v0_ r1 ∧ Kd.R (Kd.int .i64) 3 w' w.heap.size (fun k_ => some k_ ≠ (v0_ : Value).ownBlock) v1_ r2 ∧ Below w.heap.size w w' :=
 (H.great_calls k A0 c0 l0 a1 (r1, r2) w hr0 hc0 h).mono fun _ _ hp => hp
end Go.Proofs.Ytlleokhmgblfnaa.M
end
