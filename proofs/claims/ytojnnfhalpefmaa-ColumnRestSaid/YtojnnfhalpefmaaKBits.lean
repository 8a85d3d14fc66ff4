/- bits.Len64 at numbers below 256, slices.SortFunc at a row of at most 12 columns. -/
import Derived.Test.YtojnnfhalpefmaaKIns
set_option linter.unusedVariables false
set_option linter.unusedSimpArgs false
namespace Go.Proofs.Ytojnnfhalpefmaa.H
open Go.RowKit Go.Proofs.YtojnnfhalpefmaaW.PrintWords Go.Proofs.YtojnnfhalpefmaaW.PrintLast Go.Proofs.YtojnnfhalpefmaaW.PrintMore Go.Proofs.Ytojnnfhalpefmaa.M
def tab101 : ByteArray := ⟨List.toArray (List.append (List.append [0, 1, 2, 2, 3, 3, 3, 3, 4, 4, 4, 4, 4, 4, 4, 4, 5, 5, 5, 5, 5, 5, 5, 5, 5, 5, 5, 5, 5, 5, 5, 5, 6, 6, 6, 6, 6, 6, 6, 6, 6, 6, 6, 6, 6, 6, 6, 6, 6, 6, 6, 6, 6, 6, 6, 6, 6, 6, 6, 6, 6, 6, 6, 6] [7, 7, 7, 7, 7, 7, 7, 7, 7, 7, 7, 7, 7, 7, 7, 7, 7, 7, 7, 7, 7, 7, 7, 7, 7, 7, 7, 7, 7, 7, 7, 7, 7, 7, 7, 7, 7, 7, 7, 7, 7, 7, 7, 7, 7, 7, 7, 7, 7, 7, 7, 7, 7, 7, 7, 7, 7, 7, 7, 7, 7, 7, 7, 7]) (List.append [8, 8, 8, 8, 8, 8, 8, 8, 8, 8, 8, 8, 8, 8, 8, 8, 8, 8, 8, 8, 8, 8, 8, 8, 8, 8, 8, 8, 8, 8, 8, 8, 8, 8, 8, 8, 8, 8, 8, 8, 8, 8, 8, 8, 8, 8, 8, 8, 8, 8, 8, 8, 8, 8, 8, 8, 8, 8, 8, 8, 8, 8, 8, 8] [8, 8, 8, 8, 8, 8, 8, 8, 8, 8, 8, 8, 8, 8, 8, 8, 8, 8, 8, 8, 8, 8, 8, 8, 8, 8, 8, 8, 8, 8, 8, 8, 8, 8, 8, 8, 8, 8, 8, 8, 8, 8, 8, 8, 8, 8, 8, 8, 8, 8, 8, 8, 8, 8, 8, 8, 8, 8, 8, 8, 8, 8, 8, 8]))⟩
theorem tab101_size : tab101.size = 256 := by kernel_rfl
/-- The body of bits.Len64, its table a name. -/
def code101 (tab : Operand) : Code := (Code.seq (Code.region 0 #[{ dst := some 2, op := Op.assign (Operand.const (Value.int IntKind.i64 0)), type := 3, pos := "bits.go:337", after := #[], guard := none }] false) (Code.seq (Code.seq (Code.region 1 #[{ dst := some 3, op := Op.move (Operand.tmp 0), type := 119, pos := "bits.go:338", after := #[], guard := none }, { dst := some 4, op := Op.binOp BinOp.geq 119 (Operand.tmp 3) (Operand.const (Value.int IntKind.u64 4294967296)) 119, type := 4, pos := "bits.go:338", after := #[{ on := 0, ground := Ground.data }], guard := none }] false) (Code.cond (Operand.tmp 4) (Code.seq (Code.region 2 #[{ dst := some 5, op := Op.move (Operand.tmp 0), type := 119, pos := "bits.go:339", after := #[], guard := none }, { dst := some 6, op := Op.binOp BinOp.shr 119 (Operand.tmp 5) (Operand.const (Value.int IntKind.u64 32)) 108, type := 119, pos := "bits.go:339", after := #[{ on := 0, ground := Ground.data }], guard := none }, { dst := some 0, op := Op.assign (Operand.tmp 6), type := 119, pos := "bits.go:339", after := #[{ on := 1, ground := Ground.data }, { on := 0, ground := Ground.phase }, { on := 1, ground := Ground.phase }], guard := none }] false) (Code.region 3 #[{ dst := some 2, op := Op.assign (Operand.const (Value.int IntKind.i64 32)), type := 3, pos := "bits.go:340", after := #[], guard := none }] false)) Code.skip)) (Code.seq (Code.seq (Code.region 4 #[{ dst := some 7, op := Op.move (Operand.tmp 0), type := 119, pos := "bits.go:342", after := #[], guard := none }, { dst := some 8, op := Op.binOp BinOp.geq 119 (Operand.tmp 7) (Operand.const (Value.int IntKind.u64 65536)) 119, type := 4, pos := "bits.go:342", after := #[{ on := 0, ground := Ground.data }], guard := none }] false) (Code.cond (Operand.tmp 8) (Code.seq (Code.region 5 #[{ dst := some 9, op := Op.move (Operand.tmp 0), type := 119, pos := "bits.go:343", after := #[], guard := none }, { dst := some 10, op := Op.binOp BinOp.shr 119 (Operand.tmp 9) (Operand.const (Value.int IntKind.u64 16)) 108, type := 119, pos := "bits.go:343", after := #[{ on := 0, ground := Ground.data }], guard := none }, { dst := some 0, op := Op.assign (Operand.tmp 10), type := 119, pos := "bits.go:343", after := #[{ on := 1, ground := Ground.data }, { on := 0, ground := Ground.phase }, { on := 1, ground := Ground.phase }], guard := none }] false) (Code.region 6 #[{ dst := some 11, op := Op.move (Operand.tmp 2), type := 3, pos := "bits.go:344", after := #[], guard := none }, { dst := some 12, op := Op.binOp BinOp.add 3 (Operand.tmp 11) (Operand.const (Value.int IntKind.i64 16)) 3, type := 3, pos := "bits.go:344", after := #[{ on := 0, ground := Ground.data }], guard := none }, { dst := some 2, op := Op.assign (Operand.tmp 12), type := 3, pos := "bits.go:344", after := #[{ on := 1, ground := Ground.data }, { on := 0, ground := Ground.phase }, { on := 1, ground := Ground.phase }], guard := none }] false)) Code.skip)) (Code.seq (Code.seq (Code.region 7 #[{ dst := some 13, op := Op.move (Operand.tmp 0), type := 119, pos := "bits.go:346", after := #[], guard := none }, { dst := some 14, op := Op.binOp BinOp.geq 119 (Operand.tmp 13) (Operand.const (Value.int IntKind.u64 256)) 119, type := 4, pos := "bits.go:346", after := #[{ on := 0, ground := Ground.data }], guard := none }] false) (Code.cond (Operand.tmp 14) (Code.seq (Code.region 8 #[{ dst := some 15, op := Op.move (Operand.tmp 0), type := 119, pos := "bits.go:347", after := #[], guard := none }, { dst := some 16, op := Op.binOp BinOp.shr 119 (Operand.tmp 15) (Operand.const (Value.int IntKind.u64 8)) 108, type := 119, pos := "bits.go:347", after := #[{ on := 0, ground := Ground.data }], guard := none }, { dst := some 0, op := Op.assign (Operand.tmp 16), type := 119, pos := "bits.go:347", after := #[{ on := 1, ground := Ground.data }, { on := 0, ground := Ground.phase }, { on := 1, ground := Ground.phase }], guard := none }] false) (Code.region 9 #[{ dst := some 17, op := Op.move (Operand.tmp 2), type := 3, pos := "bits.go:348", after := #[], guard := none }, { dst := some 18, op := Op.binOp BinOp.add 3 (Operand.tmp 17) (Operand.const (Value.int IntKind.i64 8)) 3, type := 3, pos := "bits.go:348", after := #[{ on := 0, ground := Ground.data }], guard := none }, { dst := some 2, op := Op.assign (Operand.tmp 18), type := 3, pos := "bits.go:348", after := #[{ on := 1, ground := Ground.data }, { on := 0, ground := Ground.phase }, { on := 1, ground := Ground.phase }], guard := none }] false)) Code.skip)) (Code.seq (Code.region 10 #[{ dst := some 19, op := Op.move (Operand.tmp 2), type := 3, pos := "bits.go:350", after := #[], guard := none }, { dst := some 20, op := Op.move (Operand.tmp 0), type := 119, pos := "bits.go:350", after := #[], guard := none }, { dst := some 21, op := Op.convert 119 5 (Operand.tmp 20), type := 5, pos := "bits.go:350", after := #[{ on := 1, ground := Ground.data }], guard := none }, { dst := some 22, op := Op.index 9 tab (Operand.tmp 21), type := 5, pos := "bits.go:350", after := #[{ on := 2, ground := Ground.data }], guard := none }, { dst := some 23, op := Op.convert 5 3 (Operand.tmp 22), type := 3, pos := "bits.go:350", after := #[{ on := 3, ground := Ground.data }], guard := none }, { dst := some 24, op := Op.binOp BinOp.add 3 (Operand.tmp 19) (Operand.tmp 23) 3, type := 3, pos := "bits.go:350", after := #[{ on := 0, ground := Ground.data }, { on := 4, ground := Ground.data }], guard := none }, { dst := some 2, op := Op.assign (Operand.tmp 24), type := 3, pos := "bits.go:350", after := #[{ on := 5, ground := Ground.data }, { on := 0, ground := Ground.phase }, { on := 1, ground := Ground.phase }, { on := 2, ground := Ground.phase }, { on := 3, ground := Ground.phase }, { on := 4, ground := Ground.phase }, { on := 5, ground := Ground.phase }], guard := none }] false) Code.ret)))))
set_option maxHeartbeats 4000000 in
set_option maxRecDepth 100000 in
theorem len64_aux (s : ByteArray) (hs : s.size = 256) (hf : Try.prog.funcs[101]? = some { Try.f101 with body := some (code101 (.const (.string s))) }) (n : Nat) (hn : n < 256) (w : World) : Calls Try.prog 101 #[.int .u64 n] w fun e w' => ∃ r : Int, e = .returned (.int .i64 r) ∧ ∃ m, w' = w.drewN m := by
  have h1 : decide ((4294967296 : Int) ≤ (n : Int)) = false := decide_eq_false (by omega)
  have h2 : decide ((65536 : Int) ≤ (n : Int)) = false := decide_eq_false (by omega)
  have h3 : decide ((256 : Int) ≤ (n : Int)) = false := decide_eq_false (by omega)
  have h4 : ((n : Int) % 256) = (n : Int) := by omega
  refine calls_of_wp hf rfl ?_
  dsimp only [code101]
  simp only [Try.ntmps101, List.size_toArray, List.length_cons, List.length_nil, Nat.reduceAdd, Nat.reduceSub, Array.replicate_succ,
     Array.replicate_zero, List.push_toArray, List.append_toArray, List.nil_append, List.cons_append]
  clear hf
  go_wp2
  go_ret
  exact ⟨_, rfl, 0, rfl⟩
theorem len64_calls (n : Nat) (hn : n < 256) (w : World) : Calls Try.prog 101 #[.int .u64 n] w fun e w' => ∃ r : Int, e = .returned (.int .i64 r) ∧ ∃ m, w' = w.drewN m :=
  len64_aux tab101 tab101_size (by have h := Try.func101; exact h.trans (by kernel_rfl)) n hn w
set_option maxHeartbeats 4000000 in
set_option maxRecDepth 100000 in
theorem len_calls (n : Nat) (hn : n < 256) (w : World) : Calls Try.prog 89 #[.int .u64 n] w fun e w' => ∃ r : Int, e = .returned (.int .i64 r) ∧ ∃ m, w' = w.drewN m := by
  go_enter Try.func89, Try.ntmps89
  go_wp2_with (go_at_call 101; refine (len64_calls n hn _).mono ?_; rintro e w' ⟨r, rfl, m, rfl⟩)
  go_ret
  exact ⟨_, rfl, m, rfl⟩
set_option maxHeartbeats 8000000 in
set_option maxRecDepth 100000 in
theorem pdq_calls (base g cap : Nat) (vs : List Value) (L : List (List S45)) (lim : Int) (w : World) (hw : base ≤ w.heap.size) (hS : SRow w base g cap vs L) (hne : ∀ c ∈ L, 0 < c.length) (hL : L.length ≤ 12) :
    Calls Try.prog 88 #[.slice (some ⟨g, 0, none⟩) L.length cap, .int .i64 0, .int .i64 L.length, .int .i64 lim, .func (.func 81) #[] #[]] w fun e w' => (∃ v, e = .returned v) ∧ (∃ vs', SRow w' base g cap vs' (sortL L)) ∧ Stay base w w' ∧ w'.heap.size = w.heap.size := by
  have hS' := Aside0.mk hS
  have hne' := Aside0.mk hne
  clear hS hne
  go_enter Try.func88, Try.ntmps88
  go_wp2
  go_loopg [1, 2] 1 (fun k v1 v2 wr => v1 = .int .i64 0 ∧ v2 = .int .i64 L.length ∧ wr = w)
  case atStart => exact ⟨rfl, rfl, rfl⟩
  case round =>
    obtain ⟨rfl, rfl, rfl⟩ := hrel
    have hlb : decide ((L.length : Int) ≤ 12) = true := decide_eq_true (by omega)
    go_wp2_with (go_at_call 92; refine (ins_calls base g cap vs L _ hw hS'.out hne'.out (by omega)).mono ?_; rintro e w' ⟨⟨v, rfl⟩, hS2, st2, sz2⟩)
    refine bodyPost_ret (results_none rfl _ _ _) rfl ?_
    exact ⟨⟨_, rfl⟩, hS2, st2, sz2⟩
set_option maxHeartbeats 8000000 in
set_option maxRecDepth 100000 in
theorem sort_calls (base g cap : Nat) (vs : List Value) (L : List (List S45)) (w : World) (hw : base ≤ w.heap.size) (hS : SRow w base g cap vs L) (hne : ∀ c ∈ L, 0 < c.length) (hL : L.length ≤ 12) :
    Calls Try.prog 80 #[.slice (some ⟨g, 0, none⟩) L.length cap, .func (.func 81) #[] #[]] w fun e w' => (∃ v, e = .returned v) ∧ (∃ vs', SRow w' base g cap vs' (sortL L)) ∧ Stay base w w' ∧ w'.heap.size = w.heap.size := by
  have hS' := Aside0.mk hS
  have hne' := Aside0.mk hne
  clear hS hne
  go_enter Try.func80, Try.ntmps80
  go_wp2_with (first | (go_at_call 89; refine (len_calls L.length (by omega) _).mono ?_; rintro e w' ⟨r, rfl, m, rfl⟩) | (go_at_call 88; refine (pdq_calls base g cap vs L r (w.drewN m) hw (hS'.out.drewN m) hne'.out hL).mono ?_; rintro e w' ⟨⟨v, rfl⟩, hS2, st2, sz2⟩))
  go_end0
  exact ⟨⟨_, rfl⟩, hS2, ((Stay.refl _ _).drewN _).trans st2, sz2⟩
set_option maxHeartbeats 4000000 in
set_option maxRecDepth 100000 in
theorem ins_none (A : Option Addr) (cap : Nat) (w : World) :
    Calls Try.prog 92 #[.slice A 0 cap, .int .i64 0, .int .i64 0, .func (.func 81) #[] #[]] w fun e w' => (∃ v, e = .returned v) ∧ w' = w := by
  go_enter Try.func92, Try.ntmps92
  go_wp2
  go_loopg [8] 1 (fun k v8 wr => v8 = .int .i64 1 ∧ wr = w)
  case atStart => exact ⟨rfl, rfl⟩
  case round =>
    obtain ⟨rfl, rfl⟩ := hrel
    go_wp2
    go_end0
    exact ⟨⟨_, rfl⟩, rfl⟩
set_option maxHeartbeats 4000000 in
set_option maxRecDepth 100000 in
theorem pdq_none (A : Option Addr) (cap : Nat) (lim : Int) (w : World) :
    Calls Try.prog 88 #[.slice A 0 cap, .int .i64 0, .int .i64 0, .int .i64 lim, .func (.func 81) #[] #[]] w fun e w' => (∃ v, e = .returned v) ∧ w' = w := by
  go_enter Try.func88, Try.ntmps88
  go_wp2
  go_loopg [1, 2] 1 (fun k v1 v2 wr => v1 = .int .i64 0 ∧ v2 = .int .i64 0 ∧ wr = w)
  case atStart => exact ⟨rfl, rfl, rfl⟩
  case round =>
    obtain ⟨rfl, rfl, rfl⟩ := hrel
    go_wp2_with (go_at_call 92; refine (ins_none A cap _).mono ?_; rintro e w' ⟨⟨v, rfl⟩, rfl⟩)
    refine bodyPost_ret (results_none rfl _ _ _) rfl ?_
    exact ⟨⟨_, rfl⟩, rfl⟩
set_option maxHeartbeats 4000000 in
set_option maxRecDepth 100000 in
theorem sort_none (A : Option Addr) (cap : Nat) (w : World) :
    Calls Try.prog 80 #[.slice A 0 cap, .func (.func 81) #[] #[]] w fun e w' => (∃ v, e = .returned v) ∧ ∃ m, w' = w.drewN m := by
  go_enter Try.func80, Try.ntmps80
  go_wp2_with (first | (go_at_call 89; refine (len_calls 0 (by omega) _).mono ?_; rintro e w' ⟨r, rfl, m, rfl⟩) | (go_at_call 88; refine (pdq_none A cap r _).mono ?_; rintro e w' ⟨⟨v, rfl⟩, rfl⟩))
  go_end0
  exact ⟨⟨_, rfl⟩, _, rfl⟩
end Go.Proofs.Ytojnnfhalpefmaa.H
