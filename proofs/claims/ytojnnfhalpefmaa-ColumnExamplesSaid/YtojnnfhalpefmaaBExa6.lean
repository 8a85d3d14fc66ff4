/- A part of the proof: texts of this seat joined (printed and by hand), without what is not used. -/
import Derived.Test.YtojnnfhalpefmaaBExa5
set_option linter.unusedVariables false
set_option linter.unusedSimpArgs false
set_option linter.unusedSectionVars false
section
namespace Go.Proofs.Ytojnnfhalpefmaa.M
open Go.RowKit Go.Proofs.YtojnnfhalpefmaaW.PrintWords Go.Proofs.YtojnnfhalpefmaaW.PrintLast Go.Proofs.YtojnnfhalpefmaaW.PrintMore
attribute [local go_sem] max2_int min2_int max_two min_two max_three min_three max_four min_four
structure S68 where
  f0 : Int
  f1 : (List S45)
  f2 : Int
def z68 : S68 := ⟨(0 : Int), ([] : List S45), (0 : Int)⟩
def k68 : Kd S68 := Kd.iso (Kd.pair (Kd.int .i64) (Kd.pair (Kd.slice 45 k45) (Kd.int .i64))) (fun x : S68 => (x.f0, x.f1, x.f2))
theorem k68_open {w : World} {x : S68} {cs : List Value} (h : k68.K w x cs) : ∃ A1 c1, cs = [.int .i64 x.f0, .slice A1 x.f1.length c1, .int .i64 x.f2] ∧ x.f1.length ≤ c1 ∧ k45.C w A1 x.f1.length x.f1 := by
  obtain ⟨_, _, rfl, rfl, ⟨_, _, rfl, ⟨A1, c1, rfl, l1, g1⟩, rfl⟩⟩ := h
  exact ⟨A1, c1, rfl, l1, g1⟩
theorem k68_mk (w : World) (x : S68) {A1 : Option Addr} {c1 : Nat} (l1 : x.f1.length ≤ c1) (g1 : k45.C w A1 x.f1.length x.f1) : k68.K w x [.int .i64 x.f0, .slice A1 x.f1.length c1, .int .i64 x.f2] := ⟨[.int .i64 x.f0], [.slice A1 x.f1.length c1, .int .i64 x.f2], rfl, rfl, ⟨[.slice A1 x.f1.length c1], [.int .i64 x.f2], rfl, ⟨A1, c1, rfl, l1, g1⟩, rfl⟩⟩
theorem k68_openF {W : World} {ok : Nat → Prop} {x : S68} {cs : List Value} (h : Kd.FK k68 W ok x cs) : ∃ A1 c1, cs = [.int .i64 x.f0, .slice A1 x.f1.length c1, .int .i64 x.f2] ∧ x.f1.length ≤ c1 ∧ Kd.F k45 W ok A1 x.f1.length x.f1 := by
  obtain ⟨A1, c1, rfl, l1, _⟩ := k68_open (Kd.FK_now h)
  exact ⟨A1, c1, rfl, l1, (fun W' hW => by obtain ⟨A1_, c1_, he, l1_, g1_⟩ := k68_open (h W' hW); injection (Option.some.inj (show some (Value.slice A1 x.f1.length c1) = some (Value.slice A1_ x.f1.length c1_) from congrArg (fun l => l[1]?) he)) with ha_ _ _; rw [ha_]; exact g1_)⟩
theorem k68_mkF (W : World) (ok : Nat → Prop) (x : S68) {A1 : Option Addr} {c1 : Nat} (l1 : x.f1.length ≤ c1) (g1 : Kd.F k45 W ok A1 x.f1.length x.f1) : Kd.FK k68 W ok x [.int .i64 x.f0, .slice A1 x.f1.length c1, .int .i64 x.f2] := fun W2 hW => k68_mk W2 x l1 (g1 W2 hW)
def rd_T68 (xs : List S68) (i : Int) : S68 := xs.getD i.toNat z68
theorem at_T68 {w : World} {A : Option Addr} {n : Nat} {xs : List S68} (h : Kd.C k68 w A n xs) (i : Int) (h0 : 0 ≤ i) (h1 : i < n) : ∃ ad A1 c1, A = some ad ∧ w.cell? (ad.add (i.toNat * 3)) = some (.int .i64 (rd_T68 xs i).f0) ∧ w.cell? ⟨(ad.add (i.toNat * 3)).block, (ad.add (i.toNat * 3)).off + 1, none⟩ = some (.slice A1 (rd_T68 xs i).f1.length c1) ∧ w.cell? ⟨(ad.add (i.toNat * 3)).block, (ad.add (i.toNat * 3)).off + 2, none⟩ = some (.int .i64 (rd_T68 xs i).f2) ∧ (rd_T68 xs i).f1.length ≤ c1 ∧ k45.C w A1 (rd_T68 xs i).f1.length (rd_T68 xs i).f1 := by
  obtain ⟨ad, c, e, _, hK, hc0⟩ := Kd.C_get h z68 i h0 h1
  have hc : ∀ j u, c[j]? = some u → w.cell? (ad.add (i.toNat * 3 + j)) = some u := hc0
  obtain ⟨A1, c1, rfl, l1, g1⟩ := k68_open hK
  exact ⟨ad, A1, c1, e, hc 0 _ rfl, by rw [← add_field _ _ 1 (by omega)]; exact hc 1 _ rfl, by rw [← add_field _ _ 2 (by omega)]; exact hc 2 _ rfl, l1, g1⟩
def cE.l0 : Nat → List (S45) → List (List (S45)) → List (S68) → Int → Int → Option (Bool)
 | 0, _, _, _, _, _ => none
 | k + 1, x1, x2, x111, x112, x113 => if x113 < x112 then (if 0 ≤ x113 then (if x113 < (x111.length : Int) then ((column_Add.f k ((rd_T68 x111 x113).f0) ((rd_T68 x111 x113).f1) 1 ([] : List (S45))).bind fun bt224 => ((column_Add.f k ((rd_T68 x111 x113).f0) ([] : List (S45)) 0 ((rd_T68 x111 x113).f1)).bind fun bt228 => ((column_Scale.f k ((rd_T68 x111 x113).f0) ((rd_T68 x111 x113).f1) 0).bind fun bt232 => ((column_Dot.f k ((rd_T68 x111 x113).f0) ((rd_T68 x111 x113).f1) ((rd_T68 x111 x113).f1)).bind fun bt236 => ((column_Dense.f k ((rd_T68 x111 x113).f0) ((rd_T68 x111 x113).f1) 1024).bind fun bt238 => ((column_Combine.f k ((rd_T68 x111 x113).f0) ([] : List (List (S45))) ((rd_T68 x111 x113).f1)).bind fun bt242 => ((column_Combine.f k ((rd_T68 x111 x113).f0) (([(rd_T68 x111 x113).f1] : List (List (S45)))) ([] : List (S45))).bind fun bt249 => ((column_Rest.f k ((rd_T68 x111 x113).f0) ([] : List (List (S45))) ((rd_T68 x111 x113).f1)).bind fun bt253 => ((column_Basis.f k ((rd_T68 x111 x113).f0) (([(rd_T68 x111 x113).f1] : List (List (S45))))).bind fun bt263 => ((column_KernelB.f k ((rd_T68 x111 x113).f0) (([[], (rd_T68 x111 x113).f1] : List (List (S45))))).bind fun bt270 => (if ((rd_T68 x111 x113).f2) = 0 then (if (((rd_T68 x111 x113).f1).length : Int) > 0 then ((column_Check.f k ((rd_T68 x111 x113).f0) ((rd_T68 x111 x113).f1)).bind fun t274 => (if t274 = ((rd_T68 x111 x113).f2) then (if bt224.2 = ((rd_T68 x111 x113).f2) then (if bt228.2 = ((rd_T68 x111 x113).f2) then (if bt232.2 = ((rd_T68 x111 x113).f2) then (if bt236.2 = ((rd_T68 x111 x113).f2) then (if bt238.2 = ((rd_T68 x111 x113).f2) then (if bt242.2 = 10 then (if bt249.2 = ((rd_T68 x111 x113).f2) then (if bt253.2.2 = ((rd_T68 x111 x113).f2) then (if bt263.2 = ((rd_T68 x111 x113).f2) then (if bt270.2 = ((rd_T68 x111 x113).f2) then (cE.l0 k x1 x2 x111 x112 (wrap64 (x113 + 1))) else (some false)) else (some false)) else (some false)) else (some false)) else (some false)) else (some false)) else (some false)) else (some false)) else (some false)) else (some false)) else (some false))) else ((column_Check.f k ((rd_T68 x111 x113).f0) ((rd_T68 x111 x113).f1)).bind fun t275 => (if t275 = ((rd_T68 x111 x113).f2) then (if bt224.2 = ((rd_T68 x111 x113).f2) then (if bt228.2 = ((rd_T68 x111 x113).f2) then (if bt232.2 = ((rd_T68 x111 x113).f2) then (if bt236.2 = ((rd_T68 x111 x113).f2) then (if bt238.2 = ((rd_T68 x111 x113).f2) then (if bt242.2 = ((rd_T68 x111 x113).f2) then (if bt249.2 = ((rd_T68 x111 x113).f2) then (if bt253.2.2 = ((rd_T68 x111 x113).f2) then (if bt263.2 = ((rd_T68 x111 x113).f2) then (if bt270.2 = ((rd_T68 x111 x113).f2) then (cE.l0 k x1 x2 x111 x112 (wrap64 (x113 + 1))) else (some false)) else (some false)) else (some false)) else (some false)) else (some false)) else (some false)) else (some false)) else (some false)) else (some false)) else (some false)) else (some false)))) else ((column_Check.f k ((rd_T68 x111 x113).f0) ((rd_T68 x111 x113).f1)).bind fun t276 => (if t276 = ((rd_T68 x111 x113).f2) then (if bt224.2 = ((rd_T68 x111 x113).f2) then (if bt228.2 = ((rd_T68 x111 x113).f2) then (if bt232.2 = ((rd_T68 x111 x113).f2) then (if bt236.2 = ((rd_T68 x111 x113).f2) then (if bt238.2 = ((rd_T68 x111 x113).f2) then (if bt242.2 = ((rd_T68 x111 x113).f2) then (if bt249.2 = ((rd_T68 x111 x113).f2) then (if bt253.2.2 = ((rd_T68 x111 x113).f2) then (if bt263.2 = ((rd_T68 x111 x113).f2) then (if bt270.2 = ((rd_T68 x111 x113).f2) then (cE.l0 k x1 x2 x111 x112 (wrap64 (x113 + 1))) else (some false)) else (some false)) else (some false)) else (some false)) else (some false)) else (some false)) else (some false)) else (some false)) else (some false)) else (some false)) else (some false)))))))))))))) else (none)) else (none)) else ((column_Combine.f k 4 x2 ([] : List (S45))).bind fun bt277 => ((column_Rest.f k 4 x2 x1).bind fun bt281 => ((column_Basis.f k 4 x2).bind fun bt288 => ((column_Rank.f k 4 ([] : List (List (S45)))).bind fun bt292 => (if 1024 ≤ (x2.length : Int) then ((column_KernelB.f k 5 (x2.take 1024)).bind fun bt299 => ((toruslaw04_exA.f).bind fun t303 => ((column_Rest.f k 5 (([[], t303] : List (List (S45)))) ([] : List (S45))).bind fun bt309 => ((toruslaw04_exA.f).bind fun t316 => ((column_Rest.f k 5 (([t316, (([(⟨3, 2⟩ : S45)] : List (S45))), []] : List (List (S45)))) ([] : List (S45))).bind fun bt325 => (if 1025 ≤ 35184372088832 then ((column_Of.f k 5 (List.replicate 1025 0)).bind fun bt335 => ((column_Of.f k 6 (List.replicate 1025 0)).bind fun bt342 => ((toruslaw04_exA.f).bind fun t346 => ((column_Dense.f k 5 t346 3).bind fun bt349 => ((column_Dense.f k 5 ([] : List (S45)) (-1)).bind fun bt353 => ((column_Dense.f k 5 ([] : List (S45)) 1025).bind fun bt357 => ((toruslaw04_exA.f).bind fun t361 => ((column_Dense.f k 5 t361 4).bind fun bt364 => ((column_Of.f k 7 (([(-1), 7, 4611686018427387904, 0, (-9223372036854775808)] : List Int))).bind fun bt371 => (if bt277.2 = 3 then (if bt281.2.2 = 3 then (if bt288.2 = 3 then (if bt292.2 = 8 then (if bt299.2 = 0 then (if bt309.2.2 = 9 then (if bt325.2.2 = 5 then (if bt335.2 = 3 then (if bt342.2 = 8 then (if bt349.2 = 10 then (if bt353.2 = 10 then (if bt357.2 = 10 then (if bt364.2 = 0 then ((torusref01_Same.f k bt364.1 (([2, 0, 0, 1] : List Int))).bind fun t378 => (if t378 = true then ((toruslaw04_is.f k bt371.1 bt371.2 (([(⟨0, 6⟩ : S45), (⟨2, 4⟩ : S45), (⟨4, 6⟩ : S45)] : List (S45)))).bind fun t382 => (if t382 = true then ((some (([(⟨5, 9⟩ : S45), (⟨(-3), 0⟩ : S45), (⟨5, 8⟩ : S45), (⟨2, (-1)⟩ : S45)] : List (S45)) : List (S45))).bind fun y383 => ((column_Low.f y383).bind fun bt386 => ((column_Low.f ([] : List (S45))).bind fun bt388 => ((toruslaw04_exB.f).bind fun t390 => ((toruslaw04_exA.f).bind fun t393 => ((column_Basis.f k 5 (([t390, t393] : List (List (S45))))).bind fun bt399 => (if bt386.1 = 2 then (if bt386.2 = true then (if bt388.1 = 0 then (if bt388.2 = true then (some false) else ((column_Coef.f k y383 5).bind fun t403 => (if t403 = 9 then ((column_Coef.f k y383 (-3)).bind fun t404 => (if t404 = 0 then ((column_Coef.f k y383 7).bind fun t405 => (if t405 = 0 then (if (bt399.1.length : Int) = 2 then (if 0 < (bt399.1.length : Int) then ((toruslaw04_exA.f).bind fun t407 => ((toruslaw04_is.f k (rd_L2 bt399.1 0) bt399.2 t407).bind fun t410 => (if t410 = true then (if 1 < (bt399.1.length : Int) then ((toruslaw04_is.f k (rd_L2 bt399.1 1) bt399.2 (([(⟨0, 1⟩ : S45), (⟨4, 1⟩ : S45)] : List (S45)))).bind fun t415 => (some t415)) else (none)) else (some false)))) else (none)) else (some false)) else (some false))) else (some false))) else (some false)))) else (some false)) else (some false)) else (some false)))))))) else (some false))) else (some false))) else (some false)) else (some false)) else (some false)) else (some false)) else (some false)) else (some false)) else (some false)) else (some false)) else (some false)) else (some false)) else (some false)) else (some false)) else (some false))))))))))) else (none))))))) else (none))))))
def cE.f (k : Nat)  : Option (Bool) := (toruslaw04_awake.f).bind fun t182 => (if t182 = true then ((some (([(⟨0, 5⟩ : S45)] : List (S45)) : List (S45))).bind fun y183 => (if 1025 ≤ 11728124029610 then ((some (([(⟨5, ([] : List (S45)), 0⟩ : S68), (⟨4, y183, 8⟩ : S68), (⟨5, y183, 1⟩ : S68), (⟨5, (([(⟨1024, 1⟩ : S45)] : List (S45))), 1⟩ : S68), (⟨5, (([(⟨1023, 4⟩ : S45)] : List (S45))), 0⟩ : S68), (⟨5, (([(⟨(-1), 1⟩ : S45)] : List (S45))), 1⟩ : S68), (⟨5, (([(⟨1, 0⟩ : S45)] : List (S45))), 1⟩ : S68), (⟨5, (([(⟨1, (-1)⟩ : S45)] : List (S45))), 1⟩ : S68), (⟨5, (([(⟨1, 1⟩ : S45), (⟨1, 1⟩ : S45)] : List (S45))), 6⟩ : S68), (⟨5, (([(⟨2, 1⟩ : S45), (⟨1, 5⟩ : S45)] : List (S45))), 1⟩ : S68), (⟨5, (([(⟨2, 1⟩ : S45), (⟨1, 1⟩ : S45), (⟨0, 9⟩ : S45)] : List (S45))), 6⟩ : S68), (⟨2, (([(⟨0, 1⟩ : S45)] : List (S45))), 0⟩ : S68), (⟨2, (([(⟨0, 2⟩ : S45)] : List (S45))), 1⟩ : S68)] : List (S68)) : List (S68))).bind fun y219 => (cE.l0 k y183 (List.replicate 1025 []) y219 (y219.length : Int) 0)) else (none))) else (some false))
theorem cE.mono_l : ∀ k, (∀ y0 y1 y2 y3 y4, LeO (cE.l0 k y0 y1 y2 y3 y4) (cE.l0 (k + 1) y0 y1 y2 y3 y4))
 | 0 => fun _ _ _ _ _ r h => by simp [cE.l0] at h
 | k + 1 => by
  have ih0 := cE.mono_l k
  ·intro y0 y1 y2 y3 y4
   unfold cE.l0
   repeat' first
   | (with_reducible exact ih0 _ _ _ _ _)
   | (with_reducible exact column_Add.mono _ _ _ _ _)
   | (with_reducible exact column_Basis.mono _ _ _)
   | (with_reducible exact column_Check.mono _ _ _)
   | (with_reducible exact column_Coef.mono _ _ _)
   | (with_reducible exact column_Combine.mono _ _ _ _)
   | (with_reducible exact column_Dense.mono _ _ _ _)
   | (with_reducible exact column_Dot.mono _ _ _ _)
   | (with_reducible exact column_KernelB.mono _ _ _)
   | (with_reducible exact column_Of.mono _ _ _)
   | (with_reducible exact column_Rank.mono _ _ _)
   | (with_reducible exact column_Rest.mono _ _ _ _)
   | (with_reducible exact column_Scale.mono _ _ _ _)
   | (with_reducible exact toruslaw04_is.mono _ _ _ _)
   | (with_reducible exact torusref01_Same.mono _ _ _)
   | (with_reducible exact LeO.refl _)
   | (with_reducible exact LeO.none _)
   | (with_reducible refine LeO.ite ?_ ?_)
   | (with_reducible refine LeO.bind ?_ (fun _ => ?_))
   | exact ih0 _ _ _ _ _
   | exact column_Add.mono _ _ _ _ _
   | exact column_Basis.mono _ _ _
   | exact column_Check.mono _ _ _
   | exact column_Coef.mono _ _ _
   | exact column_Combine.mono _ _ _ _
   | exact column_Dense.mono _ _ _ _
   | exact column_Dot.mono _ _ _ _
   | exact column_KernelB.mono _ _ _
   | exact column_Of.mono _ _ _
   | exact column_Rank.mono _ _ _
   | exact column_Rest.mono _ _ _ _
   | exact column_Scale.mono _ _ _ _
   | exact toruslaw04_is.mono _ _ _ _
   | exact torusref01_Same.mono _ _ _
   | exact LeO.none _
   | refine LeO.ite ?_ ?_
   | refine LeO.bind ?_ (fun _ => ?_)
theorem cE.mono : ∀ k, LeO (cE.f k ) (cE.f (k + 1) ) := by
 intro  k
 have ih0 := cE.mono_l k
 unfold cE.f
 repeat' first
   | (with_reducible exact ih0 _ _ _ _ _)
   | (with_reducible exact column_Add.mono _ _ _ _ _)
   | (with_reducible exact column_Basis.mono _ _ _)
   | (with_reducible exact column_Check.mono _ _ _)
   | (with_reducible exact column_Coef.mono _ _ _)
   | (with_reducible exact column_Combine.mono _ _ _ _)
   | (with_reducible exact column_Dense.mono _ _ _ _)
   | (with_reducible exact column_Dot.mono _ _ _ _)
   | (with_reducible exact column_KernelB.mono _ _ _)
   | (with_reducible exact column_Of.mono _ _ _)
   | (with_reducible exact column_Rank.mono _ _ _)
   | (with_reducible exact column_Rest.mono _ _ _ _)
   | (with_reducible exact column_Scale.mono _ _ _ _)
   | (with_reducible exact toruslaw04_is.mono _ _ _ _)
   | (with_reducible exact torusref01_Same.mono _ _ _)
   | (with_reducible exact LeO.refl _)
   | (with_reducible exact LeO.none _)
   | (with_reducible refine LeO.ite ?_ ?_)
   | (with_reducible refine LeO.bind ?_ (fun _ => ?_))
   | exact ih0 _ _ _ _ _
   | exact column_Add.mono _ _ _ _ _
   | exact column_Basis.mono _ _ _
   | exact column_Check.mono _ _ _
   | exact column_Coef.mono _ _ _
   | exact column_Combine.mono _ _ _ _
   | exact column_Dense.mono _ _ _ _
   | exact column_Dot.mono _ _ _ _
   | exact column_KernelB.mono _ _ _
   | exact column_Of.mono _ _ _
   | exact column_Rank.mono _ _ _
   | exact column_Rest.mono _ _ _ _
   | exact column_Scale.mono _ _ _ _
   | exact toruslaw04_is.mono _ _ _ _
   | exact torusref01_Same.mono _ _ _
   | exact LeO.none _
   | refine LeO.ite ?_ ?_
   | refine LeO.bind ?_ (fun _ => ?_)
def cE.T21 : Bool × List (List Nat × List Nat) := (true, [([], []), ([0], [0]), ([], []), ([2], [2]), ([1, 3], [1, 3]), ([], []), ([5], [5]), ([4, 6], [4, 6]), ([7, 4], [7]), ([8], [8]), ([8], [8]), ([10, 8], [8, 10]), ([9, 11, 8], [8, 9, 11]), ([8, 12], [8, 12]), ([13, 8], [13]), ([14], [14]), ([14], [14]), ([16, 14], [14, 16]), ([15, 17, 14], [14, 15, 17]), ([14, 18], [14, 18]), ([19, 14], [19]), ([20], [20]), ([20], [20]), ([22, 20], [20, 22]), ([21, 23, 20], [20, 21, 23]), ([20, 24], [20, 24]), ([25, 20], [25]), ([26], [26]), ([26], [26]), ([28, 26], [26, 28]), ([27, 29, 26], [26, 27, 29]), ([26, 30], [26, 30]), ([31, 26], [31]), ([32], [32]), ([32], [32]), ([34, 32], [32, 34]), ([33, 35, 32], [32, 33, 35]), ([32, 36], [32, 36]), ([37, 32], [37]), ([38], [38]), ([38], [38]), ([39, 40, 38], [38, 39, 40]), ([38, 41], [38, 41]), ([42, 38], [42]), ([43], [43]), ([43], [43]), ([45, 43], [43, 45]), ([44, 46, 43], [43, 44, 46]), ([43, 47], [43, 47]), ([48, 43], [48]), ([49], [49]), ([49], [49]), ([51, 49], [49, 51]), ([50, 52, 49], [49, 50, 52]), ([49, 53], [49, 53]), ([54, 49], [54]), ([55], [55]), ([55], [55]), ([57, 55], [55, 57]), ([56, 58, 55], [55, 56, 58]), ([55, 59], [55, 59]), ([60, 55], [60]), ([61], [61]), ([61], [61]), ([63, 61], [61, 63]), ([62, 64, 61], [61, 62, 64]), ([61, 65], [61, 65])])
def cE.B21 : List Nat := [0, 1, 0, 4, 15, 0, 32, 127, 255, 511, 511, 1535, 4095, 8191, 16383, 32767, 32767, 98303, 262143, 524287, 1048575, 2097151, 2097151, 6291455, 16777215, 33554431, 67108863, 134217727, 134217727, 402653183, 1073741823, 2147483647, 4294967295, 8589934591, 8589934591, 25769803775, 68719476735, 137438953471, 274877906943, 549755813887, 549755813887, 2199023255551, 4398046511103, 8796093022207, 17592186044415, 17592186044415, 52776558133247, 140737488355327, 281474976710655, 562949953421311, 1125899906842623, 1125899906842623, 3377699720527871, 9007199254740991, 18014398509481983, 36028797018963967, 72057594037927935, 72057594037927935, 216172782113783807, 576460752303423487, 1152921504606846975, 2305843009213693951, 4611686018427387903, 4611686018427387903, 13835058055282163711, 36893488147419103231, 73786976294838206463]
theorem cE.tab21 : rtab .any (opsOf Try.f11 21) = cE.T21 := by kernel_rfl
theorem cE.bits21 : waitsOk cE.T21.2 cE.B21 = true := by kernel_rfl
def cE.T44 : Bool × List (List Nat × List Nat) := (true, [([], []), ([0], [0]), ([1], [1]), ([2], [2]), ([2, 3], [2, 3]), ([4, 2], [4]), ([5], [5]), ([6, 5], [5, 6]), ([5, 7], [5, 7]), ([8, 5], [8]), ([9], [9]), ([10, 9], [9, 10]), ([9, 11], [9, 11]), ([12, 9], [12]), ([13], [13]), ([14, 13, 13], [13, 14]), ([15, 13], [13, 15]), ([13, 16], [13, 16]), ([17, 15], [17]), ([18], [18]), ([19, 18, 18], [18, 19]), ([20, 18], [18, 20]), ([18, 21], [18, 21]), ([22, 20], [22]), ([23], [23]), ([24, 23, 23], [23, 24]), ([25, 23], [23, 25]), ([23, 26], [23, 26]), ([27, 25], [27]), ([28], [28]), ([29, 28], [28, 29]), ([30, 28], [28, 30]), ([28, 31], [28, 31]), ([32, 28], [32]), ([33], [33]), ([34, 33], [33, 34]), ([35, 33], [33, 35]), ([33], [33]), ([33, 33], [33]), ([36, 37, 38, 38, 33], [33, 36, 37, 38]), ([33, 39], [33, 39]), ([40, 39], [40]), ([41], [41]), ([42, 41], [41, 42]), ([43, 41], [41, 43]), ([41], [41]), ([41], [41]), ([41], [41]), ([46, 47, 41], [41, 46, 47]), ([44, 45, 48, 41, 41], [41, 44, 45, 48]), ([41, 49], [41, 49]), ([50, 49, 0, 1, 2, 3, 4, 5, 6, 7, 8, 9, 10, 11, 12, 13, 14, 15, 16, 17, 18, 19, 20, 21, 22, 23, 24, 25, 26, 27, 28, 29, 30, 31, 32, 33, 34, 35, 36, 37, 38, 39, 40, 41, 42, 43, 44, 45, 46, 47, 48, 49, 50], [50])])
def cE.B44 : List Nat := [0, 1, 3, 7, 15, 31, 63, 127, 255, 511, 1023, 2047, 4095, 8191, 16383, 32767, 65535, 131071, 262143, 524287, 1048575, 2097151, 4194303, 8388607, 16777215, 33554431, 67108863, 134217727, 268435455, 536870911, 1073741823, 2147483647, 4294967295, 8589934591, 17179869183, 34359738367, 68719476735, 17179869183, 17179869183, 549755813887, 1099511627775, 2199023255551, 4398046511103, 8796093022207, 17592186044415, 4398046511103, 4398046511103, 4398046511103, 215504279044095, 562949953421311, 1125899906842623, 2251799813685247]
theorem cE.tab44 : rtab .any (opsOf Try.f11 44) = cE.T44 := by kernel_rfl
theorem cE.bits44 : waitsOk cE.T44.2 cE.B44 = true := by kernel_rfl
end Go.Proofs.Ytojnnfhalpefmaa.M
end

section
namespace Go.Proofs.Ytojnnfhalpefmaa.M
open Go.RowKit Go.Proofs.YtojnnfhalpefmaaW.PrintWords Go.Proofs.YtojnnfhalpefmaaW.PrintLast Go.Proofs.YtojnnfhalpefmaaW.PrintMore
theorem column_Add.calls_r (k : Nat) (a0 : Int) (P1_ : Nat → Prop) (A1 : Option Addr) (c1 : Nat) (l1 : List (S45)) (a2 : Int) (r1 : List (S45)) (r2 : Int) (w : World) (hs1 : Kd.V k45 45 w w.heap.size (fun k_ => P1_ k_) (.slice A1 l1.length c1) l1) (h : column_Add.f k a0 l1 a2 [] = some (r1, r2)) :
  Calls Try.prog 28 #[.int .i64 a0, .slice A1 l1.length c1, .int .i64 a2, .slice none 0 0] w fun e w' => ∃ v0_ : Value, e = .returned (.tuple #[v0_, .int .i64 r2]) ∧ Kd.R k45 45 w' w.heap.size (fun k_ => (w.heap.size ≤ k_)) v0_ r1 ∧ Below w.heap.size w w' :=
 column_Add.calls k a0 P1_ A1 c1 l1 a2 (fun _ => False) none 0 [] r1 r2 w hs1 (Kd.V_nil _ _ _ _ _) h
theorem column_Add.calls_l (k : Nat) (a0 : Int) (a2 : Int) (P3_ : Nat → Prop) (A3 : Option Addr) (c3 : Nat) (l3 : List (S45)) (r1 : List (S45)) (r2 : Int) (w : World) (hs3 : Kd.V k45 45 w w.heap.size (fun k_ => P3_ k_) (.slice A3 l3.length c3) l3) (h : column_Add.f k a0 [] a2 l3 = some (r1, r2)) :
  Calls Try.prog 28 #[.int .i64 a0, .slice none 0 0, .int .i64 a2, .slice A3 l3.length c3] w fun e w' => ∃ v0_ : Value, e = .returned (.tuple #[v0_, .int .i64 r2]) ∧ Kd.R k45 45 w' w.heap.size (fun k_ => (w.heap.size ≤ k_)) v0_ r1 ∧ Below w.heap.size w w' :=
 column_Add.calls k a0 (fun _ => False) none 0 [] a2 P3_ A3 c3 l3 r1 r2 w (Kd.V_nil _ _ _ _ _) hs3 h
theorem column_Combine.calls_l (k : Nat) (a0 : Int) (A2 : Option Addr) (c2 : Nat) (l2 : List (S45)) (r1 : List (S45)) (r2 : Int) (w : World) (hr2 : Kd.C k45 w A2 l2.length l2) (hc2 : l2.length ≤ c2) (h : column_Combine.f k a0 [] l2 = some (r1, r2)) :
  Calls Try.prog 43 #[.int .i64 a0, .slice none 0 0, .slice A2 l2.length c2] w fun e w' => ∃ v0_ : Value, e = .returned (.tuple #[v0_, .int .i64 r2]) ∧ Kd.R k45 45 w' w.heap.size (fun _ => True) v0_ r1 ∧ Below w.heap.size w w' :=
 column_Combine.calls k a0 none 0 [] A2 c2 l2 r1 r2 w (Kd.C_nil _ _) (Nat.le_refl _) hr2 hc2 h
theorem column_Combine.calls_r (k : Nat) (a0 : Int) (A1 : Option Addr) (c1 : Nat) (l1 : List (List (S45))) (r1 : List (S45)) (r2 : Int) (w : World) (hr1 : Kd.C (Kd.slice 45 k45) w A1 l1.length l1) (hc1 : l1.length ≤ c1) (h : column_Combine.f k a0 l1 [] = some (r1, r2)) :
  Calls Try.prog 43 #[.int .i64 a0, .slice A1 l1.length c1, .slice none 0 0] w fun e w' => ∃ v0_ : Value, e = .returned (.tuple #[v0_, .int .i64 r2]) ∧ Kd.R k45 45 w' w.heap.size (fun _ => True) v0_ r1 ∧ Below w.heap.size w w' :=
 column_Combine.calls k a0 A1 c1 l1 none 0 [] r1 r2 w hr1 hc1 (Kd.C_nil _ _) (Nat.le_refl _) h
theorem column_Rest.calls_l (k : Nat) (a0 : Int) (A2 : Option Addr) (c2 : Nat) (l2 : List (S45)) (r1 : List (S45)) (r2 : List (S45)) (r3 : Int) (w : World) (hr2 : Kd.C k45 w A2 l2.length l2) (hc2 : l2.length ≤ c2) (h : column_Rest.f k a0 [] l2 = some (r1, r2, r3)) :
  Calls Try.prog 45 #[.int .i64 a0, .slice none 0 0, .slice A2 l2.length c2] w fun e w' => ∃ v0_ v1_ : Value, e = .returned (.tuple #[v0_, v1_, .int .i64 r3]) ∧ Kd.R k45 45 w' w.heap.size (fun k_ => some k_ ≠ (v1_ : Value).ownBlock) v0_ r1 ∧ Kd.R k45 45 w' w.heap.size (fun k_ => some k_ ≠ (v0_ : Value).ownBlock) v1_ r2 ∧ Below w.heap.size w w' :=
 column_Rest.calls k a0 none 0 [] A2 c2 l2 r1 r2 r3 w (Kd.C_nil _ _) (Nat.le_refl _) hr2 hc2 h
theorem column_Rest.calls_r (k : Nat) (a0 : Int) (A1 : Option Addr) (c1 : Nat) (l1 : List (List (S45))) (r1 : List (S45)) (r2 : List (S45)) (r3 : Int) (w : World) (hr1 : Kd.C (Kd.slice 45 k45) w A1 l1.length l1) (hc1 : l1.length ≤ c1) (h : column_Rest.f k a0 l1 [] = some (r1, r2, r3)) :
  Calls Try.prog 45 #[.int .i64 a0, .slice A1 l1.length c1, .slice none 0 0] w fun e w' => ∃ v0_ v1_ : Value, e = .returned (.tuple #[v0_, v1_, .int .i64 r3]) ∧ Kd.R k45 45 w' w.heap.size (fun k_ => some k_ ≠ (v1_ : Value).ownBlock) v0_ r1 ∧ Kd.R k45 45 w' w.heap.size (fun k_ => some k_ ≠ (v0_ : Value).ownBlock) v1_ r2 ∧ Below w.heap.size w w' :=
 column_Rest.calls k a0 A1 c1 l1 none 0 [] r1 r2 r3 w hr1 hc1 (Kd.C_nil _ _) (Nat.le_refl _) h
theorem column_Rank.calls_n (k : Nat) (a0 : Int) (r1 : Int) (r2 : Int) (w : World) (h : column_Rank.f k a0 [] = some (r1, r2)) :
  Calls Try.prog 39 #[.int .i64 a0, .slice none 0 0] w fun e w' => e = .returned (.tuple #[.int .i64 r1, .int .i64 r2]) ∧ Below w.heap.size w w' :=
 column_Rank.calls k a0 none 0 [] r1 r2 w (Kd.C_nil _ _) (Nat.le_refl _) h
theorem column_Dense.calls_n (k : Nat) (a0 : Int) (a2 : Int) (r1 : List Int) (r2 : Int) (w : World) (h : column_Dense.f k a0 [] a2 = some (r1, r2)) :
  Calls Try.prog 34 #[.int .i64 a0, .slice none 0 0, .int .i64 a2] w fun e w' => ∃ v0_ : Value, e = .returned (.tuple #[v0_, .int .i64 r2]) ∧ Kd.R (Kd.int .i64) 3 w' w.heap.size (fun _ => True) v0_ r1 ∧ Below w.heap.size w w' :=
 column_Dense.calls k a0 none 0 [] a2 r1 r2 w (Kd.C_nil _ _) (Nat.le_refl _) h
theorem column_Low.calls_n (r1 : Int) (r2 : Bool) (w : World) (h : column_Low.f [] = some (r1, r2)) :
  Calls Try.prog 22 #[.slice none 0 0] w fun e w' => e = .returned (.tuple #[.int .i64 r1, .bool r2]) ∧ Drawn0 w w' :=
 column_Low.calls none 0 [] r1 r2 w (Kd.C_nil _ _) (Nat.le_refl _) h
end Go.Proofs.Ytojnnfhalpefmaa.M
end

section
namespace Go.Proofs.Ytojnnfhalpefmaa.M
open Go.RowKit Go.Proofs.YtojnnfhalpefmaaW.PrintWords
def subC : List Nat → Option Code → Option Code
 | [], o => o
 | 0 :: l, some (.seq a _) => subC l (some a)
 | 1 :: l, some (.seq _ b) => subC l (some b)
 | 2 :: l, some (.block _ b) => subC l (some b)
 | 2 :: l, some (.loop b) => subC l (some b)
 | _ :: _, _ => none
def WpC (p : List Nat) (Q : Exit → Act → World → Prop) (a : Act) (w : World) : Prop := ∀ c, subC p Try.f11.body = some c → c.wp Try.prog Q a w
theorem wpC_mk {p : List Nat} {Q : Exit → Act → World → Prop} {a : Act} {w : World} {c : Code} (h : subC p Try.f11.body = some c) (hw : c.wp Try.prog Q a w) : WpC p Q a w := fun d h' => by
 rw [h] at h'
 cases h'
 exact hw
end Go.Proofs.Ytojnnfhalpefmaa.M
end

section
section
namespace Go.Proofs.YtojnnfhalpefmaaW.PrintWords
open Go.RowKit
namespace Kd
section
variable {α : Type} {d : Kd α} {e base n cc g : Nat} {ok ok' okp S : Nat → Prop} {w w1 W W1 : World} {A : Option Addr} {u v v1 : Value} {xs : List α} {x : α} {c : List Value}
theorem N_old (h : N d e W base ok v xs) (hb : Below W.heap.size W w1) : N d e w1 base (fun k => ok k ∧ k < W.heap.size) v xs := N_below (N_bound h) hb
theorem N_told {b : Nat} (h : N d e w1 base (fun k => ok k ∧ k < b) v xs) (hbase : ∀ k, u.ownBlock = some k → b ≤ k) : N d e w1 base (fun k => (ok k ∧ some k ≠ u.ownBlock) ∧ k < b) v xs :=
 N_mono h (fun k hk => ⟨⟨hk.1, fun e => Nat.lt_irrefl _ (Nat.lt_of_lt_of_le hk.2 (hbase k e.symm))⟩, hk.2⟩)
end
end Kd
end Go.Proofs.YtojnnfhalpefmaaW.PrintWords
end
section
namespace Go.Proofs.YtojnnfhalpefmaaW.PrintWords
open Go.RowKit
namespace Kd
section
variable {α : Type} {d : Kd α} {e base n cap g : Nat} {ok ok' okp : Nat → Prop} {w w1 W : World} {v v1 : Value} {xs ys : List α}
theorem FK_raw {x : α} {c : List Value} (h : FK d W ok x c) : c = c ∧ c.length = d.sz ∧ ∀ u ∈ c, u.oneCell' = true := ⟨rfl, d.K_len (FK_now h), d.K_one (FK_now h)⟩
end
section
variable {P : Program} {ops : Array Oper} {rest : List Oper} {o : Oper} {a : Act} {Q : Exit → Act → World → Prop} {Kc : Act → World → Prop} {α : Type}
end
end Kd
end Go.Proofs.YtojnnfhalpefmaaW.PrintWords
end
section
namespace Go.Proofs.YtojnnfhalpefmaaW.PrintMore
open Go.RowKit Go.Proofs.YtojnnfhalpefmaaW.PrintWords
namespace Kd
open Go.Proofs.YtojnnfhalpefmaaW.PrintWords.Kd
end Kd
namespace Kd
open Go.Proofs.YtojnnfhalpefmaaW.PrintWords.Kd
section
variable {α : Type} {d : Kd α} {e base g N : Nat} {ok : Nat → Prop} {W w1 : World} {u v : Value} {xs : List α}
theorem R_old (hu : d.R e W base ok u xs) (hb : Below W.heap.size W w1) : d.R e w1 base (fun k => ok k ∧ k < W.heap.size) u xs :=
 R_mono (R_below (R_bound hu) hb) (fun _ h => ⟨h.1, h.2.2.1⟩)
theorem R_told (h : d.R e w1 base (fun k => ok k ∧ k < N) u xs) (hbase : ∀ k, v.ownBlock = some k → N ≤ k) : d.R e w1 base (fun k => (ok k ∧ some k ≠ v.ownBlock) ∧ k < N) u xs :=
 R_mono h (fun k hk => ⟨⟨hk.1, fun e => Nat.lt_irrefl _ (Nat.lt_of_lt_of_le hk.2 (hbase k e.symm))⟩, hk.2⟩)
end
end Kd
end Go.Proofs.YtojnnfhalpefmaaW.PrintMore
namespace Go.Proofs.YtojnnfhalpefmaaW.PrintWords
open Go.RowKit
section
variable {P : Program} {ops : Array Oper} {rest : List Oper} {o : Oper} {a : Act} {Q : Exit → Act → World → Prop} {W : World}
end
namespace Kd
section
variable {α : Type} {d : Kd α} {e base : Nat} {ok : Nat → Prop} {W w1 : World} {v : Value} {xs : List α}
end
section
variable {α : Type} {d : Kd α} {e base g n cap : Nat} {ok oki okp : Nat → Prop} {W : World} {xs : List α} {i : Int} {c : List Value}
end
section
variable {α : Type} {d : Kd α} {e base b b' g N : Nat} {ok ok1 : Nat → Prop} {W W2 w1 : World} {u v : Value} {xs ys : List α} {S : Nat → Prop}
end
end Kd
end Go.Proofs.YtojnnfhalpefmaaW.PrintWords
namespace Go.Proofs.YtojnnfhalpefmaaW.PrintWords
open Go.RowKit
namespace Kd
section
variable {α β : Type} {d : Kd α} {e base base' n m c g N' lo hi : Nat} {ok ok' S : Nat → Prop} {w W w1 : World} {A : Option Addr} {ad : Addr} {u v v1 : Value} {xs : List α}
end
end Kd
end Go.Proofs.YtojnnfhalpefmaaW.PrintWords
end
end

section
section
namespace Go.Proofs.YtojnnfhalpefmaaW.PrintWords
open Go.RowKit
section
variable {P : Program} {ops : Array Oper} {rest : List Oper} {o : Oper} {a : Act} {Q : Exit → Act → World → Prop}
end
section
variable {P : Program}
end
section
variable {P : Program} {ops : Array Oper} {rest : List Oper} {o : Oper} {a : Act} {Q : Exit → Act → World → Prop}
end
section
variable {P : Program} {ops : Array Oper} {rest : List Oper} {o : Oper} {a : Act} {Q : Exit → Act → World → Prop}
end
section
variable {P : Program} {ops : Array Oper} {o : Oper} {a : Act} {Q : Exit → Act → World → Prop} {K : Act → World → Prop}
end
section
variable {α : Type} {enc : α → Value} {d : α}
end
section
variable {α : Type} {P : Program} {ops : Array Oper} {rest : List Oper} {o : Oper} {a : Act} {Q : Exit → Act → World → Prop}
end
section
variable {P : Program}
end
section
variable {α : Type} {R R' : α → List Value → Prop} {e : TypeId} {size : Nat} {w w1 : World} {base : Nat} {v : Value} {ps : List α}
end
section
variable {P : Program} {ops : Array Oper} {rest : List Oper} {o : Oper} {a : Act} {Q : Exit → Act → World → Prop} {α : Type} {R : α → List Value → Prop}
end
section
variable {P : Program} {ops : Array Oper} {o : Oper} {a : Act} {Q : Exit → Act → World → Prop} {K : Act → World → Prop} {α : Type} {R : α → List Value → Prop}
end
section
variable {α : Type} {P : Program}
end
section
variable {P : Program} {ops : Array Oper} {rest : List Oper} {o : Oper} {a : Act} {Q : Exit → Act → World → Prop}
end
namespace Kd
section
variable {α : Type} {d : Kd α} {e : Nat} {w w1 : World} {base : Nat} {ok ok' : Nat → Prop} {v : Value} {xs : List α}
end
section
variable {P : Program} {ops : Array Oper} {rest : List Oper} {o : Oper} {a : Act} {Q : Exit → Act → World → Prop} {α : Type}
end
section
variable {P : Program} {ops : Array Oper} {o : Oper} {a : Act} {Q : Exit → Act → World → Prop} {Kc : Act → World → Prop} {α : Type}
end
end Kd
namespace Kd
section
variable {α : Type} {F : Kd α → Kd α} {sz : Nat} {E : List Nat} {hs : ∀ n, (upto F sz E n).sz = sz} {hE : ∀ n q, q ∈ (upto F sz E n).E → q ∈ E}
end
end Kd
namespace Kd
end Kd
namespace Kd
section
variable {α β : Type} {d : Kd α} {d' : Kd β} {e e' : Nat} {w w1 W : World} {base b b' : Nat} {ok ok' okv oku : Nat → Prop} {v u : Value} {xs : List α} {ys : List β}
end
section
variable {w W : World} {A : Option Addr} {n : Nat}
variable {α : Type} {enc : α → Value} {h1 : ∀ x, (enc x).oneCell' = true} {e base g cap : Nat} {ok : Nat → Prop} {xs : List α}
end
section
variable {P : Program} {ops : Array Oper} {rest : List Oper} {o : Oper} {a : Act} {Q : Exit → Act → World → Prop}
variable {α : Type}
end
end Kd
section
variable {P : Program}
end
section
variable {w w1 : World} {base n size : Nat} {e : TypeId} {v : Value} {xs : List Value}
end
section
variable {P : Program}
end
namespace Kd
section
variable {α : Type} {d : Kd α} {e : Nat} {w w1 W : World} {base : Nat} {ok ok' : Nat → Prop} {v : Value} {xs : List α}
end
section
variable {P : Program} {ops : Array Oper} {rest : List Oper} {o : Oper} {a : Act} {Q' : Exit → Act → World → Prop} {Kc : Act → World → Prop} {α : Type}
end
end Kd
namespace Kd
section
variable {α : Type} {d : Kd α} {e e' : Nat} {w w1 W : World} {base : Nat} {ok : Nat → Prop} {u v : Value} {xs : List α}
end
end Kd
namespace Kd
section
variable {α : Type} {d : Kd α} {e base g n cap : Nat} {ok okp : Nat → Prop} {W : World} {xs : List α}
end
end Kd
namespace Kd
section
variable {α : Type} {F : Kd α → Kd α} {sz : Nat} {E : List Nat} {hs : ∀ n, (upto F sz E n).sz = sz} {hE : ∀ n q, q ∈ (upto F sz E n).E → q ∈ E}
end
end Kd
namespace Kd
section
variable {P : Program} {ops : Array Oper} {rest : List Oper} {o : Oper} {a : Act} {Q : Exit → Act → World → Prop} {α : Type}
end
end Kd
namespace Kd
section
variable {P : Program} {ops : Array Oper} {rest : List Oper} {o : Oper} {a : Act} {Q : Exit → Act → World → Prop} {α : Type}
end
end Kd
namespace Kd
section
variable {α : Type} {k : Kd α} {w : World} {A : Option Addr} {xs : List α} {m c : Nat}
theorem C_take (h : k.C w A xs.length xs) (hm : m ≤ xs.length) : k.C w A (xs.take m).length (xs.take m) := by
 have hl : (xs.take m).length = m := by rw [List.length_take]; omega
 refine ⟨rfl, by rw [hl]; have := h.2.1; omega, fun hp => ?_⟩
 obtain ⟨ad, e, hc⟩ := h.2.2 (by omega)
 refine ⟨ad, e, fun j p hj => hc j p ?_⟩
 rw [List.getElem?_take] at hj
 split at hj
 ·exact hj
 ·cases hj
end
end Kd
section
variable {P : Program}
end
namespace Kd
section
variable {α β : Type} {d : Kd α} {d' : Kd β} {e e' base base' n : Nat} {ok ok' : Nat → Prop} {w W w1 W1 : World} {v u : Value} {xs : List α} {ys : List β} {A : Option Addr} {c : Nat}
end
section
variable {α : Type} {enc : α → Value} {h1 : ∀ x, (enc x).oneCell' = true} {w W : World} {A : Option Addr} {n g : Nat} {xs : List α}
end
end Kd
namespace Kd
section
variable {α : Type} {d : Kd α} {e base g : Nat} {ok : Nat → Prop} {w w1 : World} {v : Value} {xs : List α} {o : Obj}
end
end Kd
section
variable {P : Program} {ops : Array Oper} {rest : List Oper} {o : Oper} {a : Act} {Q : Exit → Act → World → Prop}
end
namespace Kd
section
variable {α : Type} {enc : α → Value} {h1 : ∀ x, (enc x).oneCell' = true} {e base g n cap : Nat} {ok : Nat → Prop} {W : World} {xs : List α}
end
end Kd
section
variable {P : Program} {ops : Array Oper} {rest : List Oper} {o : Oper} {a : Act} {Q : Exit → Act → World → Prop}
end
namespace Kd
section
variable {α : Type} {enc : α → Value} {h1 : ∀ x, (enc x).oneCell' = true} {e base g n cap : Nat} {ok : Nat → Prop} {W : World} {xs : List α}
end
end Kd
section
variable {P : Program} {ops : Array Oper} {rest : List Oper} {o : Oper} {a : Act} {Q : Exit → Act → World → Prop} {W : World}
end
section
variable {P : Program} {ops : Array Oper} {o : Oper} {a : Act} {Q : Exit → Act → World → Prop} {Kc : Act → World → Prop}
namespace Kd
variable {α : Type}
end Kd
end
section
variable {P : Program} {tmps : Array Value} {w : World}
end
namespace Kd
section
variable {P : Program} {α : Type}
end
section
variable {P : Program} {ops : Array Oper} {rest : List Oper} {o : Oper} {a : Act} {Q : Exit → Act → World → Prop} {Kc : Act → World → Prop} {α : Type}
end
end Kd
end Go.Proofs.YtojnnfhalpefmaaW.PrintWords
end
section
namespace Go.Proofs.YtojnnfhalpefmaaW.PrintWords
open Go.RowKit
namespace Kd
section
variable {α : Type} {d : Kd α} {e base g n c : Nat} {ok : Nat → Prop} {w w0 W : World} {A : Option Addr} {xs : List α}
end
end Kd
end Go.Proofs.YtojnnfhalpefmaaW.PrintWords
end
section
namespace Go.Proofs.YtojnnfhalpefmaaW.PrintWords
open Go.RowKit
namespace Foot
variable {P Q : World → Prop} {W W1 : World} {ok ok' : Nat → Prop}
theorem imp (h : Foot P W ok) (hi : ∀ W', P W' → Q W') : Foot Q W ok := fun W' hW => hi W' (h W' hW)
end Foot
namespace Kd
section
variable {α β : Type} {d : Kd α} {e base n n' cc g N : Nat} {ok ok' okp S : Nat → Prop} {w w0 w1 W W1 : World} {A A' : Option Addr} {u v v1 : Value} {xs : List α} {xs' : List β} {d' : Kd β} {x : α} {c : List Value}
theorem F_imp (h : F d W ok A n xs) (hi : ∀ W', d.C W' A n xs → d'.C W' A' n' xs') : F d' W ok A' n' xs' := Foot.imp h hi
end
end Kd
end Go.Proofs.YtojnnfhalpefmaaW.PrintWords
end
section
namespace Go.Proofs.YtojnnfhalpefmaaW.PrintMore
open Go.RowKit Go.Proofs.YtojnnfhalpefmaaW.PrintWords
namespace Kd
open Go.Proofs.YtojnnfhalpefmaaW.PrintWords.Kd
end Kd
namespace Kd
open Go.Proofs.YtojnnfhalpefmaaW.PrintWords.Kd
section
variable {α : Type} {d : Kd α} {e base g N : Nat} {ok : Nat → Prop} {W w1 : World} {u v : Value} {xs : List α}
end
end Kd
end Go.Proofs.YtojnnfhalpefmaaW.PrintMore
namespace Go.Proofs.YtojnnfhalpefmaaW.PrintWords
open Go.RowKit
section
variable {P : Program} {ops : Array Oper} {rest : List Oper} {o : Oper} {a : Act} {Q : Exit → Act → World → Prop} {W : World}
end
namespace Kd
section
variable {α : Type} {d : Kd α} {e base : Nat} {ok : Nat → Prop} {W w1 : World} {v : Value} {xs : List α}
end
section
variable {α : Type} {d : Kd α} {e base g n cap : Nat} {ok oki okp : Nat → Prop} {W : World} {xs : List α} {i : Int} {c : List Value}
end
section
variable {α : Type} {d : Kd α} {e base b b' g N : Nat} {ok ok1 : Nat → Prop} {W W2 w1 : World} {u v : Value} {xs ys : List α} {S : Nat → Prop}
end
end Kd
end Go.Proofs.YtojnnfhalpefmaaW.PrintWords
namespace Go.Proofs.YtojnnfhalpefmaaW.PrintWords
open Go.RowKit
namespace Kd
section
variable {α β : Type} {d : Kd α} {e base base' n m c g N' lo hi : Nat} {ok ok' S : Nat → Prop} {w W w1 : World} {A : Option Addr} {ad : Addr} {u v v1 : Value} {xs : List α}
theorem N_V (h : N d e W base ok v xs) : V d e W base' ok v xs := by
 obtain ⟨A, c, rfl⟩ := N_slice h
 exact ⟨A, c, rfl, (N_reads' h).2.1, N_F h⟩
theorem F_take (h : F d W ok A xs.length xs) (hm : m ≤ xs.length) : F d W ok A (xs.take m).length (xs.take m) := F_imp h (fun _ hC => C_take hC hm)
end
end Kd
end Go.Proofs.YtojnnfhalpefmaaW.PrintWords
end
end

section
namespace Go.Proofs.YtojnnfhalpefmaaW.PrintWords
open Go.RowKit
namespace Kd
section
variable {α : Type} {d : Kd α} {e base b : Nat} {ok : Nat → Prop} {W w1 : World} {u v : Value} {xs : List α}
theorem V_old (h : V d e W base ok v xs) (hb : Below W.heap.size W w1) : V d e w1 base (fun k => ok k ∧ k < W.heap.size) v xs := V_map h (fun _ hf => F_below (F_bound hf) hb)
theorem V_told (h : V d e w1 base (fun k => ok k ∧ k < b) v xs) (hbase : ∀ k, u.ownBlock = some k → b ≤ k) : V d e w1 base (fun k => (ok k ∧ some k ≠ u.ownBlock) ∧ k < b) v xs :=
 V_mono h (fun k hk => ⟨⟨hk.1, fun e => Nat.lt_irrefl _ (Nat.lt_of_lt_of_le hk.2 (hbase k e.symm))⟩, hk.2⟩)
end
end Kd
end Go.Proofs.YtojnnfhalpefmaaW.PrintWords
end

section
section
namespace Go.Proofs.YtojnnfhalpefmaaW.PrintWords
open Go.RowKit
section
variable {P : Program} {ops : Array Oper} {rest : List Oper} {o : Oper} {a : Act} {Q : Exit → Act → World → Prop}
end
section
variable {P : Program}
end
section
variable {P : Program} {ops : Array Oper} {rest : List Oper} {o : Oper} {a : Act} {Q : Exit → Act → World → Prop}
end
section
variable {P : Program} {ops : Array Oper} {rest : List Oper} {o : Oper} {a : Act} {Q : Exit → Act → World → Prop}
end
section
variable {P : Program} {ops : Array Oper} {o : Oper} {a : Act} {Q : Exit → Act → World → Prop} {K : Act → World → Prop}
end
section
variable {α : Type} {enc : α → Value} {d : α}
end
section
variable {α : Type} {P : Program} {ops : Array Oper} {rest : List Oper} {o : Oper} {a : Act} {Q : Exit → Act → World → Prop}
end
section
variable {P : Program}
end
section
variable {α : Type} {R R' : α → List Value → Prop} {e : TypeId} {size : Nat} {w w1 : World} {base : Nat} {v : Value} {ps : List α}
end
section
variable {P : Program} {ops : Array Oper} {rest : List Oper} {o : Oper} {a : Act} {Q : Exit → Act → World → Prop} {α : Type} {R : α → List Value → Prop}
end
section
variable {P : Program} {ops : Array Oper} {o : Oper} {a : Act} {Q : Exit → Act → World → Prop} {K : Act → World → Prop} {α : Type} {R : α → List Value → Prop}
end
section
variable {α : Type} {P : Program}
end
section
variable {P : Program} {ops : Array Oper} {rest : List Oper} {o : Oper} {a : Act} {Q : Exit → Act → World → Prop}
end
namespace Kd
section
variable {α : Type} {d : Kd α} {e : Nat} {w w1 : World} {base : Nat} {ok ok' : Nat → Prop} {v : Value} {xs : List α}
end
section
variable {P : Program} {ops : Array Oper} {rest : List Oper} {o : Oper} {a : Act} {Q : Exit → Act → World → Prop} {α : Type}
end
section
variable {P : Program} {ops : Array Oper} {o : Oper} {a : Act} {Q : Exit → Act → World → Prop} {Kc : Act → World → Prop} {α : Type}
end
end Kd
namespace Kd
section
variable {α : Type} {F : Kd α → Kd α} {sz : Nat} {E : List Nat} {hs : ∀ n, (upto F sz E n).sz = sz} {hE : ∀ n q, q ∈ (upto F sz E n).E → q ∈ E}
end
end Kd
namespace Kd
end Kd
namespace Kd
section
variable {α β : Type} {d : Kd α} {d' : Kd β} {e e' : Nat} {w w1 W : World} {base b b' : Nat} {ok ok' okv oku : Nat → Prop} {v u : Value} {xs : List α} {ys : List β}
end
section
variable {w W : World} {A : Option Addr} {n : Nat}
variable {α : Type} {enc : α → Value} {h1 : ∀ x, (enc x).oneCell' = true} {e base g cap : Nat} {ok : Nat → Prop} {xs : List α}
end
section
variable {P : Program} {ops : Array Oper} {rest : List Oper} {o : Oper} {a : Act} {Q : Exit → Act → World → Prop}
variable {α : Type}
end
end Kd
section
variable {P : Program}
theorem cut_to (t e : TypeId) (kh : IntKind) {i : TypeInfo} (ht : P.underlying t = some (.slice e)) (hi : P.info? e = some i) (A : Option Addr) (n c : Nat) (j : Int) (h0 : 0 ≤ j) (hm : j ≤ n) (hc : n ≤ c) :
  ∀ W : World, (Instr.slice t (.slice A n c) none (some (.int kh j)) none).run P W = .ok (.slice A j.toNat c) W := by
 intro W
 have hel : P.elem t = e := by simp [Program.elem, ht]
 have hu : P.underlying t = some (.slice (P.elem t)) := by rw [hel]; exact ht
 have ha : (A.map fun x => x.add 0) = A := by cases A <;> simp [Addr.add]
 rw [run_slice_h W t A n c hu kh j h0 (by omega), hel]
 simp [sizeOf, typeInfo, hi, sliced, Result.andThen, ha]
end
section
variable {w w1 : World} {base n size : Nat} {e : TypeId} {v : Value} {xs : List Value}
end
section
variable {P : Program}
end
namespace Kd
section
variable {α : Type} {d : Kd α} {e : Nat} {w w1 W : World} {base : Nat} {ok ok' : Nat → Prop} {v : Value} {xs : List α}
end
section
variable {P : Program} {ops : Array Oper} {rest : List Oper} {o : Oper} {a : Act} {Q' : Exit → Act → World → Prop} {Kc : Act → World → Prop} {α : Type}
end
end Kd
namespace Kd
section
variable {α : Type} {d : Kd α} {e e' : Nat} {w w1 W : World} {base : Nat} {ok : Nat → Prop} {u v : Value} {xs : List α}
end
end Kd
namespace Kd
section
variable {α : Type} {d : Kd α} {e base g n cap : Nat} {ok okp : Nat → Prop} {W : World} {xs : List α}
end
end Kd
namespace Kd
section
variable {α : Type} {F : Kd α → Kd α} {sz : Nat} {E : List Nat} {hs : ∀ n, (upto F sz E n).sz = sz} {hE : ∀ n q, q ∈ (upto F sz E n).E → q ∈ E}
end
end Kd
namespace Kd
section
variable {P : Program} {ops : Array Oper} {rest : List Oper} {o : Oper} {a : Act} {Q : Exit → Act → World → Prop} {α : Type}
end
end Kd
namespace Kd
section
variable {P : Program} {ops : Array Oper} {rest : List Oper} {o : Oper} {a : Act} {Q : Exit → Act → World → Prop} {α : Type}
end
end Kd
namespace Kd
section
variable {α : Type} {k : Kd α} {w : World} {A : Option Addr} {xs : List α} {m c : Nat}
end
end Kd
section
variable {P : Program}
end
namespace Kd
section
variable {α β : Type} {d : Kd α} {d' : Kd β} {e e' base base' n : Nat} {ok ok' : Nat → Prop} {w W w1 W1 : World} {v u : Value} {xs : List α} {ys : List β} {A : Option Addr} {c : Nat}
end
section
variable {α : Type} {enc : α → Value} {h1 : ∀ x, (enc x).oneCell' = true} {w W : World} {A : Option Addr} {n g : Nat} {xs : List α}
end
end Kd
namespace Kd
section
variable {α : Type} {d : Kd α} {e base g : Nat} {ok : Nat → Prop} {w w1 : World} {v : Value} {xs : List α} {o : Obj}
theorem freshB (hb : w.heap[g]? = some o) : ∀ k, w.heap.size ≤ k → k ≠ g := fun k hk => by have := blk_lt hb; omega
end
end Kd
section
variable {P : Program} {ops : Array Oper} {rest : List Oper} {o : Oper} {a : Act} {Q : Exit → Act → World → Prop}
end
namespace Kd
section
variable {α : Type} {enc : α → Value} {h1 : ∀ x, (enc x).oneCell' = true} {e base g n cap : Nat} {ok : Nat → Prop} {W : World} {xs : List α}
end
end Kd
section
variable {P : Program} {ops : Array Oper} {rest : List Oper} {o : Oper} {a : Act} {Q : Exit → Act → World → Prop}
end
namespace Kd
section
variable {α : Type} {enc : α → Value} {h1 : ∀ x, (enc x).oneCell' = true} {e base g n cap : Nat} {ok : Nat → Prop} {W : World} {xs : List α}
end
end Kd
section
variable {P : Program} {ops : Array Oper} {rest : List Oper} {o : Oper} {a : Act} {Q : Exit → Act → World → Prop} {W : World}
end
section
variable {P : Program} {ops : Array Oper} {o : Oper} {a : Act} {Q : Exit → Act → World → Prop} {Kc : Act → World → Prop}
namespace Kd
variable {α : Type}
end Kd
end
section
variable {P : Program} {tmps : Array Value} {w : World}
end
namespace Kd
section
variable {P : Program} {α : Type}
end
section
variable {P : Program} {ops : Array Oper} {rest : List Oper} {o : Oper} {a : Act} {Q : Exit → Act → World → Prop} {Kc : Act → World → Prop} {α : Type}
end
end Kd
end Go.Proofs.YtojnnfhalpefmaaW.PrintWords
end
section
namespace Go.Proofs.YtojnnfhalpefmaaW.PrintWords
open Go.RowKit
namespace Foot
variable {P Q : World → Prop} {W W1 : World} {ok ok' : Nat → Prop}
end Foot
namespace Kd
section
variable {α β : Type} {d : Kd α} {e base n n' cc g N : Nat} {ok ok' okp S : Nat → Prop} {w w0 w1 W W1 : World} {A A' : Option Addr} {u v v1 : Value} {xs : List α} {xs' : List β} {d' : Kd β} {x : α} {c : List Value}
theorem F_far (h : F d W ok A n xs) {p : Addr} (hok : ∀ k, ok k → k ≠ p.block) (u : Value) : F d (W.setCell p u) ok A n xs := F_step h (fun k hk _ => Below.heap_setCell W p u k (hok k hk))
theorem F_elderB (h : F d W ok A n xs) (a : Nat) (ha : W.heap.size ≤ a) : F d W (fun k => ok k ∧ k ≠ a) A n xs := F_mono (F_bound h) (fun k hk => ⟨hk.1, by have := hk.2; omega⟩)
end
end Kd
end Go.Proofs.YtojnnfhalpefmaaW.PrintWords
end
section
namespace Go.Proofs.YtojnnfhalpefmaaW.PrintWords
open Go.RowKit
namespace Kd
section
variable {α : Type} {d : Kd α} {e base n cc g : Nat} {ok ok' okp S : Nat → Prop} {w w1 W W1 : World} {A : Option Addr} {u v v1 : Value} {xs : List α} {x : α} {c : List Value}
theorem N_far (h : N d e w base ok v xs) {p : Addr} (hok : ∀ k, ok k → k ≠ p.block) (u : Value) : N d e (w.setCell p u) base ok v xs := N_step h (fun k ho _ => Below.heap_setCell w p u k (hok k ho))
theorem N_elderB (h : N d e w base ok v xs) (a : Nat) (ha : w.heap.size ≤ a) : N d e w base (fun k => ok k ∧ k ≠ a) v xs := N_mono (N_bound h) (fun k hk => ⟨hk.1, by have := hk.2; omega⟩)
end
end Kd
end Go.Proofs.YtojnnfhalpefmaaW.PrintWords
end
section
namespace Go.Proofs.YtojnnfhalpefmaaW.PrintWords
open Go.RowKit
namespace Kd
section
variable {α : Type} {d : Kd α} {e base n cap g : Nat} {ok ok' okp : Nat → Prop} {w w1 W : World} {v v1 : Value} {xs ys : List α}
end
section
variable {P : Program} {ops : Array Oper} {rest : List Oper} {o : Oper} {a : Act} {Q : Exit → Act → World → Prop} {Kc : Act → World → Prop} {α : Type}
theorem N_make (d : Kd α) {w0 W : World} (base e : Nat) (hgd : o.guard = none) {N' : Tmp} (hd : o.dst = some N') (t : TypeId) (x y : Operand) (ho : o.op = .makeSlice t x y) (n : Int) (hx : a.eval x = .int .i64 n) (hy : a.eval y = .int .i64 n)
  (ht : P.underlying t = some (.slice e)) (z : Value) (bytes : Nat) (hinfo : (P.info? e).map (fun i => (i.zero, i.size, i.bytes)) = some (some z, d.sz, bytes)) (hz : z.cells.size = d.sz) (hs0 : 0 < d.sz) (hb0 : 0 < bytes)
  (z0 : α) {ok okp : Nat → Prop} (hzero : FK d W okp z0 z.cells.toList) (hok : ∀ k, okp k → ok k) (hfresh : ok W.heap.size) (h0 : 0 ≤ n) (hl : n.toNat * bytes ≤ 281474976710656) (HB : Below base w0 W) (hbase : base ≤ W.heap.size)
  (h : ∀ v1 w1, N d e w1 base ok v1 (List.replicate n.toNat z0) → Below base w0 w1 → W.grownBy w1 none → (∃ b, v1.ownBlock = some b ∧ W.heap.size ≤ b) → wpList P ops Q rest (a.put o.dst v1) w1) :
  wpList P ops Q (o :: rest) a W := by
 refine R_make (raw d.sz) base e hgd hd t x y ho n hx hy ht z bytes hinfo hz hs0 hb0 z.cells.toList (ok := fun k => k = W.heap.size) (okp := fun _ => False) (FK_raw hzero) (fun _ hk => hk.elim) rfl h0 hl HB hbase ?_
 intro v1 w1 hr hb hg hat
 refine h v1 w1 (N_made hr hg hat (by rw [List.length_replicate, List.length_replicate]) (fun j y c hy hc => ?_) hok hfresh) hb hg hat
 have h1 := (List.getElem?_eq_some_iff.1 hy).2
 have h2 := (List.getElem?_eq_some_iff.1 hc).2
 rw [List.getElem_replicate] at h1 h2
 rw [← h1, ← h2]
 exact hzero
end
end Kd
end Go.Proofs.YtojnnfhalpefmaaW.PrintWords
end
section
namespace Go.Proofs.YtojnnfhalpefmaaW.PrintMore
open Go.RowKit Go.Proofs.YtojnnfhalpefmaaW.PrintWords
namespace Kd
open Go.Proofs.YtojnnfhalpefmaaW.PrintWords.Kd
end Kd
namespace Kd
open Go.Proofs.YtojnnfhalpefmaaW.PrintWords.Kd
section
variable {α : Type} {d : Kd α} {e base g N : Nat} {ok : Nat → Prop} {W w1 : World} {u v : Value} {xs : List α}
end
end Kd
end Go.Proofs.YtojnnfhalpefmaaW.PrintMore
namespace Go.Proofs.YtojnnfhalpefmaaW.PrintWords
open Go.RowKit
section
variable {P : Program} {ops : Array Oper} {rest : List Oper} {o : Oper} {a : Act} {Q : Exit → Act → World → Prop} {W : World}
end
namespace Kd
section
variable {α : Type} {d : Kd α} {e base : Nat} {ok : Nat → Prop} {W w1 : World} {v : Value} {xs : List α}
end
section
variable {α : Type} {d : Kd α} {e base g n cap : Nat} {ok oki okp : Nat → Prop} {W : World} {xs : List α} {i : Int} {c : List Value}
end
section
variable {α : Type} {d : Kd α} {e base b b' g N : Nat} {ok ok1 : Nat → Prop} {W W2 w1 : World} {u v : Value} {xs ys : List α} {S : Nat → Prop}
end
end Kd
end Go.Proofs.YtojnnfhalpefmaaW.PrintWords
namespace Go.Proofs.YtojnnfhalpefmaaW.PrintWords
open Go.RowKit
namespace Kd
section
variable {α β : Type} {d : Kd α} {e base base' n m c g N' lo hi : Nat} {ok ok' S : Nat → Prop} {w W w1 : World} {A : Option Addr} {ad : Addr} {u v v1 : Value} {xs : List α}
theorem V_far (h : V d e W base ok v xs) {p : Addr} (hok : ∀ k, ok k → k ≠ p.block) (u : Value) : V d e (W.setCell p u) base ok v xs := V_map h (fun _ hf => F_far hf hok u)
theorem V_elderB (h : V d e W base ok v xs) (a : Nat) (ha : W.heap.size ≤ a) : V d e W base (fun k => ok k ∧ k ≠ a) v xs := V_map h (fun _ hf => F_elderB hf a ha)
end
end Kd
end Go.Proofs.YtojnnfhalpefmaaW.PrintWords
end
end

section
namespace Go.Proofs.Ytojnnfhalpefmaa.M
open Go.RowKit Go.Proofs.YtojnnfhalpefmaaW.PrintWords Go.Proofs.YtojnnfhalpefmaaW.PrintLast Go.Proofs.YtojnnfhalpefmaaW.PrintMore
attribute [local go_sem] max2_int min2_int max_two min_two max_three min_three max_four min_four
def ExRel (w : World) (r : Bool) (k : Nat) (y183 : List S45) (y186 : List (List S45)) (y219 : List S68) (v187 : Value) (Ao9 Ao42 : Option Addr) (co9 co42 : Nat) (kq : Nat) (v113 : Value) (w' : World) : Prop := ∃ (x113_1 : Int), v113 = .int .i64 x113_1 ∧ As (cE.l0 kq y183 y186 y219 (y219.length : Int) x113_1 = some r) ∧ As (kq ≤ k) ∧ As (Kd.R k45 45 w' w.heap.size (fun _ => True) (.slice Ao9 y183.length co9) y183) ∧ As (Kd.N (Kd.slice 45 k45) 22 w' w.heap.size (fun k_ => some k_ ≠ ((.slice Ao9 y183.length co9) : Value).ownBlock ∧ some k_ ≠ ((.slice Ao42 y219.length co42) : Value).ownBlock) v187 y186) ∧ As (Kd.N k68 68 w' w.heap.size (fun k_ => some k_ ≠ (v187 : Value).ownBlock) (.slice Ao42 y219.length co42) y219) ∧ As (Below w.heap.size w w')
def WpS (p : List Nat) (Q : Exit → Act → World → Prop) (a : Act) (w : World) : Prop := ∀ c1 c2, subC p Try.f11.body = some (.seq c1 c2) → ∀ K : Act → World → Prop, (∀ a w, c2.wp Try.prog Q a w → K a w) → c1.wp Try.prog (Exit.then K Q) a w
theorem wpS_mk {p : List Nat} {Q : Exit → Act → World → Prop} {a : Act} {w : World} {c1 c2 : Code} (h : subC p Try.f11.body = some (.seq c1 c2)) (hw : ∀ K : Act → World → Prop, (∀ a w, c2.wp Try.prog Q a w → K a w) → c1.wp Try.prog (Exit.then K Q) a w) : WpS p Q a w := fun d1 d2 h' => by
 rw [h] at h'
 cases h'
 exact hw
end Go.Proofs.Ytojnnfhalpefmaa.M
end
