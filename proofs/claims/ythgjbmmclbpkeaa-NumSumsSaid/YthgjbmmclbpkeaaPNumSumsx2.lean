-- Laid by wip/xprint (a turned scratch copy of the kit's print): this session's text; Lean checks it.
import Derived.Test.YthgjbmmclbpkeaaPNumSumsx0
import Derived.Test.YthgjbmmclbpkeaaPNumSumsx1
namespace Go.Proofs.Ythgjbmmclbpkeaa.PNumSums
open Go.RowKit Go.Proofs.YthgjbmmclbpkeaaW.PrintWords Go.Proofs.YthgjbmmclbpkeaaW.PrintLast Go.Proofs.YthgjbmmclbpkeaaW.PrintMore
attribute [local go_sem] max2_int min2_int max_two min_two max_three min_three max_four min_four   -- for this text's walks alone
set_option linter.unusedVariables false
set_option linter.unusedSimpArgs false

/-! ### draylaw1_NumRuns: function 3 -/
def draylaw1_NumRuns.j0 : Nat → Int → Bool → Int → Bool → Int → Bool → Bool → Option (Bool)
  | 0, _, _, _, _, _, _, _ => none
  | k + 1, x9, x10, x11, x12, x13, x14, x15 => (num_Sat.f k (([1125899906842624, 1, (-1)] : List Int))).bind fun t137 => (if t137 = 1125899906842623 then ((num_Sat.f k (([1125899906842629, (-7)] : List Int))).bind fun t141 => (if x15 = true then (if t141 = 1125899906842617 then (if x9 = (-12) then (if x10 = true then (if x11 = 1125899906842624 then (if x12 = true then (if x13 = 0 then (if x14 = true then (none) else ((num_Clip.f 5 7 3).bind fun t142 => (if t142 = 7 then ((num_Clip.f 8 7 3).bind fun t143 => (if t143 = 3 then ((num_Clip.f 4 3 7).bind fun t144 => (some (t144 == 4))) else (none))) else (none)))) else (none)) else (none)) else (none)) else (none)) else (none)) else (none)) else (none))) else (none))
def draylaw1_NumRuns.f (k : Nat)  : Option (Bool) := (num_Sum.f k ([] : List Int)).bind fun bt111 => ((num_Sum.f k (([1, 2, (-5)] : List Int))).bind fun bt116 => ((num_Sum.f k (([1125899906842624, 1, (-1)] : List Int))).bind fun bt121 => ((num_Sum.f k (([1125899906842624, (-1), 1] : List Int))).bind fun bt126 => ((num_Mul.f k (-3) 4).bind fun bt128 => ((num_Mul.f k 33554432 33554432).bind fun bt130 => ((num_Mul.f k 67108864 33554432).bind fun bt132 => (if bt111.1 = 0 then (if bt111.2 = true then (if bt116.1 = (-2) then (if bt116.2 = true then (if bt121.1 = 0 then (if bt121.2 = true then (draylaw1_NumRuns.j0 k bt128.1 bt128.2 bt130.1 bt130.2 bt132.1 bt132.2 false) else (if bt126.1 = 1125899906842624 then (draylaw1_NumRuns.j0 k bt128.1 bt128.2 bt130.1 bt130.2 bt132.1 bt132.2 bt126.2) else (draylaw1_NumRuns.j0 k bt128.1 bt128.2 bt130.1 bt130.2 bt132.1 bt132.2 false))) else (draylaw1_NumRuns.j0 k bt128.1 bt128.2 bt130.1 bt130.2 bt132.1 bt132.2 false)) else (draylaw1_NumRuns.j0 k bt128.1 bt128.2 bt130.1 bt130.2 bt132.1 bt132.2 false)) else (draylaw1_NumRuns.j0 k bt128.1 bt128.2 bt130.1 bt130.2 bt132.1 bt132.2 false)) else (draylaw1_NumRuns.j0 k bt128.1 bt128.2 bt130.1 bt130.2 bt132.1 bt132.2 false)) else (draylaw1_NumRuns.j0 k bt128.1 bt128.2 bt130.1 bt130.2 bt132.1 bt132.2 false))))))))
theorem draylaw1_NumRuns.mono_l : ∀ k, (∀ y0 y1 y2 y3 y4 y5 y6, LeO (draylaw1_NumRuns.j0 k y0 y1 y2 y3 y4 y5 y6) (draylaw1_NumRuns.j0 (k + 1) y0 y1 y2 y3 y4 y5 y6))
  | 0 => fun _ _ _ _ _ _ _ r h => by simp [draylaw1_NumRuns.j0] at h
  | k + 1 => by
    have ih0 := draylaw1_NumRuns.mono_l k
    · intro y0 y1 y2 y3 y4 y5 y6
      unfold draylaw1_NumRuns.j0
      repeat' first
      | (with_reducible exact ih0 _ _ _ _ _ _ _)
      | (with_reducible exact num_Mul.mono _ _ _)
      | (with_reducible exact num_Sat.mono _ _)
      | (with_reducible exact num_Sum.mono _ _)
      | (with_reducible exact LeO.refl _)
      | (with_reducible exact LeO.none _)
      | (with_reducible refine LeO.ite ?_ ?_)
      | (with_reducible refine LeO.bind ?_ (fun _ => ?_))
      | exact ih0 _ _ _ _ _ _ _
      | exact num_Mul.mono _ _ _
      | exact num_Sat.mono _ _
      | exact num_Sum.mono _ _
      | exact LeO.none _
      | refine LeO.ite ?_ ?_
      | refine LeO.bind ?_ (fun _ => ?_)
theorem draylaw1_NumRuns.mono : ∀ k, LeO (draylaw1_NumRuns.f k ) (draylaw1_NumRuns.f (k + 1) ) := by
  intro  k
  have ih0 := draylaw1_NumRuns.mono_l k
  unfold draylaw1_NumRuns.f
  repeat' first
      | (with_reducible exact ih0 _ _ _ _ _ _ _)
      | (with_reducible exact num_Mul.mono _ _ _)
      | (with_reducible exact num_Sat.mono _ _)
      | (with_reducible exact num_Sum.mono _ _)
      | (with_reducible exact LeO.refl _)
      | (with_reducible exact LeO.none _)
      | (with_reducible refine LeO.ite ?_ ?_)
      | (with_reducible refine LeO.bind ?_ (fun _ => ?_))
      | exact ih0 _ _ _ _ _ _ _
      | exact num_Mul.mono _ _ _
      | exact num_Sat.mono _ _
      | exact num_Sum.mono _ _
      | exact LeO.none _
      | refine LeO.ite ?_ ?_
      | refine LeO.bind ?_ (fun _ => ?_)
set_option maxHeartbeats 8000000 in
set_option maxRecDepth 100000 in
theorem draylaw1_NumRuns.calls (k : Nat)  (r : Bool) (w : World) (h : draylaw1_NumRuns.f k  = some r) :
    Calls Try.prog 3 #[] w fun e w' => e = .returned (.bool r) ∧ Below w.heap.size w w' := by
  have HB := Aside0.mk (Below.refl w.heap.size w)
  have H : ((num_Sum.f k ([] : List Int)).bind fun bt111 => ((num_Sum.f k (([1, 2, (-5)] : List Int))).bind fun bt116 => ((num_Sum.f k (([1125899906842624, 1, (-1)] : List Int))).bind fun bt121 => ((num_Sum.f k (([1125899906842624, (-1), 1] : List Int))).bind fun bt126 => ((num_Mul.f k (-3) 4).bind fun bt128 => ((num_Mul.f k 33554432 33554432).bind fun bt130 => ((num_Mul.f k 67108864 33554432).bind fun bt132 => (if bt111.1 = 0 then (if bt111.2 = true then (if bt116.1 = (-2) then (if bt116.2 = true then (if bt121.1 = 0 then (if bt121.2 = true then (draylaw1_NumRuns.j0 k bt128.1 bt128.2 bt130.1 bt130.2 bt132.1 bt132.2 false) else (if bt126.1 = 1125899906842624 then (draylaw1_NumRuns.j0 k bt128.1 bt128.2 bt130.1 bt130.2 bt132.1 bt132.2 bt126.2) else (draylaw1_NumRuns.j0 k bt128.1 bt128.2 bt130.1 bt130.2 bt132.1 bt132.2 false))) else (draylaw1_NumRuns.j0 k bt128.1 bt128.2 bt130.1 bt130.2 bt132.1 bt132.2 false)) else (draylaw1_NumRuns.j0 k bt128.1 bt128.2 bt130.1 bt130.2 bt132.1 bt132.2 false)) else (draylaw1_NumRuns.j0 k bt128.1 bt128.2 bt130.1 bt130.2 bt132.1 bt132.2 false)) else (draylaw1_NumRuns.j0 k bt128.1 bt128.2 bt130.1 bt130.2 bt132.1 bt132.2 false)) else (draylaw1_NumRuns.j0 k bt128.1 bt128.2 bt130.1 bt130.2 bt132.1 bt132.2 false))))))))) = some r := h
  clear h
  replace H := Option.bind_eq_some_iff.mp H
  obtain ⟨⟨t111, t112⟩, A10, H⟩ := H
  replace H : ((num_Sum.f k (([1, 2, (-5)] : List Int))).bind fun bt116 => ((num_Sum.f k (([1125899906842624, 1, (-1)] : List Int))).bind fun bt121 => ((num_Sum.f k (([1125899906842624, (-1), 1] : List Int))).bind fun bt126 => ((num_Mul.f k (-3) 4).bind fun bt128 => ((num_Mul.f k 33554432 33554432).bind fun bt130 => ((num_Mul.f k 67108864 33554432).bind fun bt132 => (if t111 = 0 then (if t112 = true then (if bt116.1 = (-2) then (if bt116.2 = true then (if bt121.1 = 0 then (if bt121.2 = true then (draylaw1_NumRuns.j0 k bt128.1 bt128.2 bt130.1 bt130.2 bt132.1 bt132.2 false) else (if bt126.1 = 1125899906842624 then (draylaw1_NumRuns.j0 k bt128.1 bt128.2 bt130.1 bt130.2 bt132.1 bt132.2 bt126.2) else (draylaw1_NumRuns.j0 k bt128.1 bt128.2 bt130.1 bt130.2 bt132.1 bt132.2 false))) else (draylaw1_NumRuns.j0 k bt128.1 bt128.2 bt130.1 bt130.2 bt132.1 bt132.2 false)) else (draylaw1_NumRuns.j0 k bt128.1 bt128.2 bt130.1 bt130.2 bt132.1 bt132.2 false)) else (draylaw1_NumRuns.j0 k bt128.1 bt128.2 bt130.1 bt130.2 bt132.1 bt132.2 false)) else (draylaw1_NumRuns.j0 k bt128.1 bt128.2 bt130.1 bt130.2 bt132.1 bt132.2 false)) else (draylaw1_NumRuns.j0 k bt128.1 bt128.2 bt130.1 bt130.2 bt132.1 bt132.2 false)))))))) = some r := H
  have A1 := Aside0.mk A10
  clear A10
  obtain ⟨y113, hy113⟩ : ∃ y_ : List Int, y_ = (([1, 2, (-5)] : List Int)) := ⟨_, rfl⟩
  replace H : ((num_Sum.f k y113).bind fun bt116 => ((num_Sum.f k (([1125899906842624, 1, (-1)] : List Int))).bind fun bt121 => ((num_Sum.f k (([1125899906842624, (-1), 1] : List Int))).bind fun bt126 => ((num_Mul.f k (-3) 4).bind fun bt128 => ((num_Mul.f k 33554432 33554432).bind fun bt130 => ((num_Mul.f k 67108864 33554432).bind fun bt132 => (if t111 = 0 then (if t112 = true then (if bt116.1 = (-2) then (if bt116.2 = true then (if bt121.1 = 0 then (if bt121.2 = true then (draylaw1_NumRuns.j0 k bt128.1 bt128.2 bt130.1 bt130.2 bt132.1 bt132.2 false) else (if bt126.1 = 1125899906842624 then (draylaw1_NumRuns.j0 k bt128.1 bt128.2 bt130.1 bt130.2 bt132.1 bt132.2 bt126.2) else (draylaw1_NumRuns.j0 k bt128.1 bt128.2 bt130.1 bt130.2 bt132.1 bt132.2 false))) else (draylaw1_NumRuns.j0 k bt128.1 bt128.2 bt130.1 bt130.2 bt132.1 bt132.2 false)) else (draylaw1_NumRuns.j0 k bt128.1 bt128.2 bt130.1 bt130.2 bt132.1 bt132.2 false)) else (draylaw1_NumRuns.j0 k bt128.1 bt128.2 bt130.1 bt130.2 bt132.1 bt132.2 false)) else (draylaw1_NumRuns.j0 k bt128.1 bt128.2 bt130.1 bt130.2 bt132.1 bt132.2 false)) else (draylaw1_NumRuns.j0 k bt128.1 bt128.2 bt130.1 bt130.2 bt132.1 bt132.2 false)))))))) = some r := by first | (rw [hy113]; with_reducible exact H) | (have H2_ := (Option.bind_some _ _).symm.trans H; rw [hy113]; with_reducible exact H2_) | (have H2_ := (Option.bind_some _ _).symm.trans H; with_reducible exact H2_) | with_reducible exact H | (rw [hy113]; exact H) | exact H
  have Ny113 := Aside0.mk hy113
  clear hy113
  replace H := Option.bind_eq_some_iff.mp H
  obtain ⟨⟨t116, t117⟩, A20, H⟩ := H
  replace H : ((num_Sum.f k (([1125899906842624, 1, (-1)] : List Int))).bind fun bt121 => ((num_Sum.f k (([1125899906842624, (-1), 1] : List Int))).bind fun bt126 => ((num_Mul.f k (-3) 4).bind fun bt128 => ((num_Mul.f k 33554432 33554432).bind fun bt130 => ((num_Mul.f k 67108864 33554432).bind fun bt132 => (if t111 = 0 then (if t112 = true then (if t116 = (-2) then (if t117 = true then (if bt121.1 = 0 then (if bt121.2 = true then (draylaw1_NumRuns.j0 k bt128.1 bt128.2 bt130.1 bt130.2 bt132.1 bt132.2 false) else (if bt126.1 = 1125899906842624 then (draylaw1_NumRuns.j0 k bt128.1 bt128.2 bt130.1 bt130.2 bt132.1 bt132.2 bt126.2) else (draylaw1_NumRuns.j0 k bt128.1 bt128.2 bt130.1 bt130.2 bt132.1 bt132.2 false))) else (draylaw1_NumRuns.j0 k bt128.1 bt128.2 bt130.1 bt130.2 bt132.1 bt132.2 false)) else (draylaw1_NumRuns.j0 k bt128.1 bt128.2 bt130.1 bt130.2 bt132.1 bt132.2 false)) else (draylaw1_NumRuns.j0 k bt128.1 bt128.2 bt130.1 bt130.2 bt132.1 bt132.2 false)) else (draylaw1_NumRuns.j0 k bt128.1 bt128.2 bt130.1 bt130.2 bt132.1 bt132.2 false)) else (draylaw1_NumRuns.j0 k bt128.1 bt128.2 bt130.1 bt130.2 bt132.1 bt132.2 false))))))) = some r := H
  have A2 := Aside0.mk A20
  clear A20
  obtain ⟨y118, hy118⟩ : ∃ y_ : List Int, y_ = (([1125899906842624, 1, (-1)] : List Int)) := ⟨_, rfl⟩
  replace H : ((num_Sum.f k y118).bind fun bt121 => ((num_Sum.f k (([1125899906842624, (-1), 1] : List Int))).bind fun bt126 => ((num_Mul.f k (-3) 4).bind fun bt128 => ((num_Mul.f k 33554432 33554432).bind fun bt130 => ((num_Mul.f k 67108864 33554432).bind fun bt132 => (if t111 = 0 then (if t112 = true then (if t116 = (-2) then (if t117 = true then (if bt121.1 = 0 then (if bt121.2 = true then (draylaw1_NumRuns.j0 k bt128.1 bt128.2 bt130.1 bt130.2 bt132.1 bt132.2 false) else (if bt126.1 = 1125899906842624 then (draylaw1_NumRuns.j0 k bt128.1 bt128.2 bt130.1 bt130.2 bt132.1 bt132.2 bt126.2) else (draylaw1_NumRuns.j0 k bt128.1 bt128.2 bt130.1 bt130.2 bt132.1 bt132.2 false))) else (draylaw1_NumRuns.j0 k bt128.1 bt128.2 bt130.1 bt130.2 bt132.1 bt132.2 false)) else (draylaw1_NumRuns.j0 k bt128.1 bt128.2 bt130.1 bt130.2 bt132.1 bt132.2 false)) else (draylaw1_NumRuns.j0 k bt128.1 bt128.2 bt130.1 bt130.2 bt132.1 bt132.2 false)) else (draylaw1_NumRuns.j0 k bt128.1 bt128.2 bt130.1 bt130.2 bt132.1 bt132.2 false)) else (draylaw1_NumRuns.j0 k bt128.1 bt128.2 bt130.1 bt130.2 bt132.1 bt132.2 false))))))) = some r := by first | (rw [hy118]; with_reducible exact H) | (have H2_ := (Option.bind_some _ _).symm.trans H; rw [hy118]; with_reducible exact H2_) | (have H2_ := (Option.bind_some _ _).symm.trans H; with_reducible exact H2_) | with_reducible exact H | (rw [hy118]; exact H) | exact H
  have Ny118 := Aside0.mk hy118
  clear hy118
  replace H := Option.bind_eq_some_iff.mp H
  obtain ⟨⟨t121, t122⟩, A30, H⟩ := H
  replace H : ((num_Sum.f k (([1125899906842624, (-1), 1] : List Int))).bind fun bt126 => ((num_Mul.f k (-3) 4).bind fun bt128 => ((num_Mul.f k 33554432 33554432).bind fun bt130 => ((num_Mul.f k 67108864 33554432).bind fun bt132 => (if t111 = 0 then (if t112 = true then (if t116 = (-2) then (if t117 = true then (if t121 = 0 then (if t122 = true then (draylaw1_NumRuns.j0 k bt128.1 bt128.2 bt130.1 bt130.2 bt132.1 bt132.2 false) else (if bt126.1 = 1125899906842624 then (draylaw1_NumRuns.j0 k bt128.1 bt128.2 bt130.1 bt130.2 bt132.1 bt132.2 bt126.2) else (draylaw1_NumRuns.j0 k bt128.1 bt128.2 bt130.1 bt130.2 bt132.1 bt132.2 false))) else (draylaw1_NumRuns.j0 k bt128.1 bt128.2 bt130.1 bt130.2 bt132.1 bt132.2 false)) else (draylaw1_NumRuns.j0 k bt128.1 bt128.2 bt130.1 bt130.2 bt132.1 bt132.2 false)) else (draylaw1_NumRuns.j0 k bt128.1 bt128.2 bt130.1 bt130.2 bt132.1 bt132.2 false)) else (draylaw1_NumRuns.j0 k bt128.1 bt128.2 bt130.1 bt130.2 bt132.1 bt132.2 false)) else (draylaw1_NumRuns.j0 k bt128.1 bt128.2 bt130.1 bt130.2 bt132.1 bt132.2 false)))))) = some r := H
  have A3 := Aside0.mk A30
  clear A30
  obtain ⟨y123, hy123⟩ : ∃ y_ : List Int, y_ = (([1125899906842624, (-1), 1] : List Int)) := ⟨_, rfl⟩
  replace H : ((num_Sum.f k y123).bind fun bt126 => ((num_Mul.f k (-3) 4).bind fun bt128 => ((num_Mul.f k 33554432 33554432).bind fun bt130 => ((num_Mul.f k 67108864 33554432).bind fun bt132 => (if t111 = 0 then (if t112 = true then (if t116 = (-2) then (if t117 = true then (if t121 = 0 then (if t122 = true then (draylaw1_NumRuns.j0 k bt128.1 bt128.2 bt130.1 bt130.2 bt132.1 bt132.2 false) else (if bt126.1 = 1125899906842624 then (draylaw1_NumRuns.j0 k bt128.1 bt128.2 bt130.1 bt130.2 bt132.1 bt132.2 bt126.2) else (draylaw1_NumRuns.j0 k bt128.1 bt128.2 bt130.1 bt130.2 bt132.1 bt132.2 false))) else (draylaw1_NumRuns.j0 k bt128.1 bt128.2 bt130.1 bt130.2 bt132.1 bt132.2 false)) else (draylaw1_NumRuns.j0 k bt128.1 bt128.2 bt130.1 bt130.2 bt132.1 bt132.2 false)) else (draylaw1_NumRuns.j0 k bt128.1 bt128.2 bt130.1 bt130.2 bt132.1 bt132.2 false)) else (draylaw1_NumRuns.j0 k bt128.1 bt128.2 bt130.1 bt130.2 bt132.1 bt132.2 false)) else (draylaw1_NumRuns.j0 k bt128.1 bt128.2 bt130.1 bt130.2 bt132.1 bt132.2 false)))))) = some r := by first | (rw [hy123]; with_reducible exact H) | (have H2_ := (Option.bind_some _ _).symm.trans H; rw [hy123]; with_reducible exact H2_) | (have H2_ := (Option.bind_some _ _).symm.trans H; with_reducible exact H2_) | with_reducible exact H | (rw [hy123]; exact H) | exact H
  have Ny123 := Aside0.mk hy123
  clear hy123
  replace H := Option.bind_eq_some_iff.mp H
  obtain ⟨⟨t126, t127⟩, A40, H⟩ := H
  replace H : ((num_Mul.f k (-3) 4).bind fun bt128 => ((num_Mul.f k 33554432 33554432).bind fun bt130 => ((num_Mul.f k 67108864 33554432).bind fun bt132 => (if t111 = 0 then (if t112 = true then (if t116 = (-2) then (if t117 = true then (if t121 = 0 then (if t122 = true then (draylaw1_NumRuns.j0 k bt128.1 bt128.2 bt130.1 bt130.2 bt132.1 bt132.2 false) else (if t126 = 1125899906842624 then (draylaw1_NumRuns.j0 k bt128.1 bt128.2 bt130.1 bt130.2 bt132.1 bt132.2 t127) else (draylaw1_NumRuns.j0 k bt128.1 bt128.2 bt130.1 bt130.2 bt132.1 bt132.2 false))) else (draylaw1_NumRuns.j0 k bt128.1 bt128.2 bt130.1 bt130.2 bt132.1 bt132.2 false)) else (draylaw1_NumRuns.j0 k bt128.1 bt128.2 bt130.1 bt130.2 bt132.1 bt132.2 false)) else (draylaw1_NumRuns.j0 k bt128.1 bt128.2 bt130.1 bt130.2 bt132.1 bt132.2 false)) else (draylaw1_NumRuns.j0 k bt128.1 bt128.2 bt130.1 bt130.2 bt132.1 bt132.2 false)) else (draylaw1_NumRuns.j0 k bt128.1 bt128.2 bt130.1 bt130.2 bt132.1 bt132.2 false))))) = some r := H
  have A4 := Aside0.mk A40
  clear A40
  replace H := Option.bind_eq_some_iff.mp H
  obtain ⟨⟨t128, t129⟩, A50, H⟩ := H
  replace H : ((num_Mul.f k 33554432 33554432).bind fun bt130 => ((num_Mul.f k 67108864 33554432).bind fun bt132 => (if t111 = 0 then (if t112 = true then (if t116 = (-2) then (if t117 = true then (if t121 = 0 then (if t122 = true then (draylaw1_NumRuns.j0 k t128 t129 bt130.1 bt130.2 bt132.1 bt132.2 false) else (if t126 = 1125899906842624 then (draylaw1_NumRuns.j0 k t128 t129 bt130.1 bt130.2 bt132.1 bt132.2 t127) else (draylaw1_NumRuns.j0 k t128 t129 bt130.1 bt130.2 bt132.1 bt132.2 false))) else (draylaw1_NumRuns.j0 k t128 t129 bt130.1 bt130.2 bt132.1 bt132.2 false)) else (draylaw1_NumRuns.j0 k t128 t129 bt130.1 bt130.2 bt132.1 bt132.2 false)) else (draylaw1_NumRuns.j0 k t128 t129 bt130.1 bt130.2 bt132.1 bt132.2 false)) else (draylaw1_NumRuns.j0 k t128 t129 bt130.1 bt130.2 bt132.1 bt132.2 false)) else (draylaw1_NumRuns.j0 k t128 t129 bt130.1 bt130.2 bt132.1 bt132.2 false)))) = some r := H
  have A5 := Aside0.mk A50
  clear A50
  replace H := Option.bind_eq_some_iff.mp H
  obtain ⟨⟨t130, t131⟩, A60, H⟩ := H
  replace H : ((num_Mul.f k 67108864 33554432).bind fun bt132 => (if t111 = 0 then (if t112 = true then (if t116 = (-2) then (if t117 = true then (if t121 = 0 then (if t122 = true then (draylaw1_NumRuns.j0 k t128 t129 t130 t131 bt132.1 bt132.2 false) else (if t126 = 1125899906842624 then (draylaw1_NumRuns.j0 k t128 t129 t130 t131 bt132.1 bt132.2 t127) else (draylaw1_NumRuns.j0 k t128 t129 t130 t131 bt132.1 bt132.2 false))) else (draylaw1_NumRuns.j0 k t128 t129 t130 t131 bt132.1 bt132.2 false)) else (draylaw1_NumRuns.j0 k t128 t129 t130 t131 bt132.1 bt132.2 false)) else (draylaw1_NumRuns.j0 k t128 t129 t130 t131 bt132.1 bt132.2 false)) else (draylaw1_NumRuns.j0 k t128 t129 t130 t131 bt132.1 bt132.2 false)) else (draylaw1_NumRuns.j0 k t128 t129 t130 t131 bt132.1 bt132.2 false))) = some r := H
  have A6 := Aside0.mk A60
  clear A60
  replace H := Option.bind_eq_some_iff.mp H
  obtain ⟨⟨t132, t133⟩, A70, H⟩ := H
  replace H : (if t111 = 0 then (if t112 = true then (if t116 = (-2) then (if t117 = true then (if t121 = 0 then (if t122 = true then (draylaw1_NumRuns.j0 k t128 t129 t130 t131 t132 t133 false) else (if t126 = 1125899906842624 then (draylaw1_NumRuns.j0 k t128 t129 t130 t131 t132 t133 t127) else (draylaw1_NumRuns.j0 k t128 t129 t130 t131 t132 t133 false))) else (draylaw1_NumRuns.j0 k t128 t129 t130 t131 t132 t133 false)) else (draylaw1_NumRuns.j0 k t128 t129 t130 t131 t132 t133 false)) else (draylaw1_NumRuns.j0 k t128 t129 t130 t131 t132 t133 false)) else (draylaw1_NumRuns.j0 k t128 t129 t130 t131 t132 t133 false)) else (draylaw1_NumRuns.j0 k t128 t129 t130 t131 t132 t133 false)) = some r := H
  have A7 := Aside0.mk A70
  clear A70
  have HC8 := Aside0.mk H
  clear H
  go_enter Try.func3, Try.ntmps3
  go_upto_region 8 with (first | ((with_reducible refine gate_callee (f := 11) rfl ?_); refine goesL_ (some 18) rfl rfl Try.func11 (by kernel_rfl) rfl #[.slice none 0 0] rfl (by (try simp only [List.map_toArray, List.map_cons, List.map_nil]); first | done | rfl | (simp only [List.length_drop, List.length_take]; rfl)) ?_; (refine (num_Sum.calls k _ _ ([] : List Int) t111 t112 _ ?side1 ?side2 A1.out).mono ?_); (case side1 => exact Kd.C_nil _ _); (case side2 => exact Nat.le_refl _); rintro e w' ⟨rfl, ⟨nd, rfl⟩⟩; refine ⟨_, rfl, ?_⟩) | ((with_reducible refine gate_dst (N := 22) rfl ?_); (try (refine gate_guard (by rfl) ?_; dsimp only)); refine Kd.R_lit (Kd.int .i64) _ 3 ?hg (N := 22) ?hd (xs := ([1, 2, (-5)] : List Int)) (inner := [.int .i64 1, .int .i64 2, .int .i64 (-5)]) (ok := fun _ => True) (okp := fun _ => True) ?hr ?hp (fun _ hk => hk) trivial (Below.refl _ _) (Nat.le_refl _) (by simp) ?_; (case hd => rfl); (case hg => rfl); (case hr => first | (go_simp; done) | (go_simp; rfl)); (case hp => exact (Reps.one (show Kd.M (Kd.int .i64) _ _ _ 1 [.int .i64 1] from rfl) (Reps.one (show Kd.M (Kd.int .i64) _ _ _ 2 [.int .i64 2] from rfl) (Reps.one (show Kd.M (Kd.int .i64) _ _ _ (-5) [.int .i64 (-5)] from rfl) (Reps.none _ _))))); intro v114 w9 ho10 hb hg_ hnew_; clear hg_ hnew_; (first | rw [← Ny113.out] at ho10 | (simp only [Int.reduceToNat] at ho10; rw [← Ny113.out] at ho10)); have n0_ := Aside0.mk (Kd.R_lower ho10 (below_size (by repeat (first | (with_reducible first | exact HB.out | apply below_alloc | apply pw_below_drewN | apply below_drew1) | exact HB.out)))); have n1_ := Aside0.mk (below_step (by repeat (first | (with_reducible first | exact HB.out | apply below_alloc | apply pw_below_drewN | apply below_drew1) | exact HB.out)) hb); clear HB; have HO115 := n0_; have HB := n1_; clear n0_ n1_; clear hb ho10; obtain ⟨Ao11, co11, eo11⟩ := Kd.R_slice HO115.out; subst eo11) | ((with_reducible refine gate_callee (f := 11) rfl ?_); refine goesL_ (some 23) rfl rfl Try.func11 (by kernel_rfl) rfl #[.slice Ao11 y113.length co11] rfl (by (try simp only [List.map_toArray, List.map_cons, List.map_nil]); first | done | rfl | (simp only [List.length_drop, List.length_take]; rfl)) ?_; (with_reducible refine (num_Sum.calls k _ _ y113 t116 t117 _ ?side1 ?side2 A2.out).mono ?_); (case side1 => repeat (first | exact (Kd.R_reads' HO115.out).2.2 | (with_reducible refine Kd.C_alloc ?_ _) | (with_reducible refine Kd.C_drewN ?_ _) | (with_reducible refine Kd.C_drew ?_))); (case side2 => exact (Kd.R_reads' HO115.out).2.1); rintro e w' ⟨rfl, ⟨nd, rfl⟩⟩; refine ⟨_, rfl, ?_⟩) | ((with_reducible refine gate_dst (N := 27) rfl ?_); (try (refine gate_guard (by rfl) ?_; dsimp only)); refine Kd.R_lit (Kd.int .i64) _ 3 ?hg (N := 27) ?hd (xs := ([1125899906842624, 1, (-1)] : List Int)) (inner := [.int .i64 1125899906842624, .int .i64 1, .int .i64 (-1)]) (ok := fun _ => True) (okp := fun _ => True) ?hr ?hp (fun _ hk => hk) trivial (Below.refl _ _) (Nat.le_refl _) (by simp) ?_; (case hd => rfl); (case hg => rfl); (case hr => first | (go_simp; done) | (go_simp; rfl)); (case hp => exact (Reps.one (show Kd.M (Kd.int .i64) _ _ _ 1125899906842624 [.int .i64 1125899906842624] from rfl) (Reps.one (show Kd.M (Kd.int .i64) _ _ _ 1 [.int .i64 1] from rfl) (Reps.one (show Kd.M (Kd.int .i64) _ _ _ (-1) [.int .i64 (-1)] from rfl) (Reps.none _ _))))); intro v119 w12 ho13 hb hg_ hnew_; clear hg_ hnew_; (first | rw [← Ny118.out] at ho13 | (simp only [Int.reduceToNat] at ho13; rw [← Ny118.out] at ho13)); have n0_ := Aside0.mk (Kd.R_elder' (by (with_reducible repeat (first | apply Kd.R_alloc | apply Kd.R_drewN | apply Kd.R_drew)); exact HO115.out) (Kd.R_base ho13) hb); have n1_ := Aside0.mk (Kd.R_lower (Kd.R_new' ho13 (Kd.R_lt (by (with_reducible repeat (first | apply Kd.R_alloc | apply Kd.R_drewN | apply Kd.R_drew)); exact HO115.out))) (below_size (by repeat (first | (with_reducible first | exact HB.out | apply below_alloc | apply pw_below_drewN | apply below_drew1) | exact HB.out)))); have n2_ := Aside0.mk (below_step (by repeat (first | (with_reducible first | exact HB.out | apply below_alloc | apply pw_below_drewN | apply below_drew1) | exact HB.out)) hb); clear HO115; clear HB; have HO115 := n0_; have HO120 := n1_; have HB := n2_; clear n0_ n1_ n2_; clear hb ho13; obtain ⟨Ao14, co14, eo14⟩ := Kd.R_slice HO120.out; subst eo14) | ((with_reducible refine gate_callee (f := 11) rfl ?_); refine goesL_ (some 28) rfl rfl Try.func11 (by kernel_rfl) rfl #[.slice Ao14 y118.length co14] rfl (by (try simp only [List.map_toArray, List.map_cons, List.map_nil]); first | done | rfl | (simp only [List.length_drop, List.length_take]; rfl)) ?_; (with_reducible refine (num_Sum.calls k _ _ y118 t121 t122 _ ?side1 ?side2 A3.out).mono ?_); (case side1 => repeat (first | exact (Kd.R_reads' HO120.out).2.2 | (with_reducible refine Kd.C_alloc ?_ _) | (with_reducible refine Kd.C_drewN ?_ _) | (with_reducible refine Kd.C_drew ?_))); (case side2 => exact (Kd.R_reads' HO120.out).2.1); rintro e w' ⟨rfl, ⟨nd, rfl⟩⟩; refine ⟨_, rfl, ?_⟩) | ((with_reducible refine gate_dst (N := 32) rfl ?_); (try (refine gate_guard (by rfl) ?_; dsimp only)); refine Kd.R_lit (Kd.int .i64) _ 3 ?hg (N := 32) ?hd (xs := ([1125899906842624, (-1), 1] : List Int)) (inner := [.int .i64 1125899906842624, .int .i64 (-1), .int .i64 1]) (ok := fun _ => True) (okp := fun _ => True) ?hr ?hp (fun _ hk => hk) trivial (Below.refl _ _) (Nat.le_refl _) (by simp) ?_; (case hd => rfl); (case hg => rfl); (case hr => first | (go_simp; done) | (go_simp; rfl)); (case hp => exact (Reps.one (show Kd.M (Kd.int .i64) _ _ _ 1125899906842624 [.int .i64 1125899906842624] from rfl) (Reps.one (show Kd.M (Kd.int .i64) _ _ _ (-1) [.int .i64 (-1)] from rfl) (Reps.one (show Kd.M (Kd.int .i64) _ _ _ 1 [.int .i64 1] from rfl) (Reps.none _ _))))); intro v124 w15 ho16 hb hg_ hnew_; clear hg_ hnew_; (first | rw [← Ny123.out] at ho16 | (simp only [Int.reduceToNat] at ho16; rw [← Ny123.out] at ho16)); have n0_ := Aside0.mk (Kd.R_elder' (by (with_reducible repeat (first | apply Kd.R_alloc | apply Kd.R_drewN | apply Kd.R_drew)); exact HO115.out) (Kd.R_base ho16) hb); have n1_ := Aside0.mk (Kd.R_elder' (by (with_reducible repeat (first | apply Kd.R_alloc | apply Kd.R_drewN | apply Kd.R_drew)); exact HO120.out) (Kd.R_base ho16) hb); have n2_ := Aside0.mk (Kd.R_lower (Kd.R_new' (Kd.R_new' ho16 (Kd.R_lt (by (with_reducible repeat (first | apply Kd.R_alloc | apply Kd.R_drewN | apply Kd.R_drew)); exact HO115.out))) (Kd.R_lt (by (with_reducible repeat (first | apply Kd.R_alloc | apply Kd.R_drewN | apply Kd.R_drew)); exact HO120.out))) (below_size (by repeat (first | (with_reducible first | exact HB.out | apply below_alloc | apply pw_below_drewN | apply below_drew1) | exact HB.out)))); have n3_ := Aside0.mk (below_step (by repeat (first | (with_reducible first | exact HB.out | apply below_alloc | apply pw_below_drewN | apply below_drew1) | exact HB.out)) hb); clear HO115; clear HO120; clear HB; have HO115 := n0_; have HO120 := n1_; have HO125 := n2_; have HB := n3_; clear n0_ n1_ n2_ n3_; clear hb ho16; obtain ⟨Ao17, co17, eo17⟩ := Kd.R_slice HO125.out; subst eo17) | ((with_reducible refine gate_callee (f := 11) rfl ?_); refine goesL_ (some 33) rfl rfl Try.func11 (by kernel_rfl) rfl #[.slice Ao17 y123.length co17] rfl (by (try simp only [List.map_toArray, List.map_cons, List.map_nil]); first | done | rfl | (simp only [List.length_drop, List.length_take]; rfl)) ?_; (with_reducible refine (num_Sum.calls k _ _ y123 t126 t127 _ ?side1 ?side2 A4.out).mono ?_); (case side1 => repeat (first | exact (Kd.R_reads' HO125.out).2.2 | (with_reducible refine Kd.C_alloc ?_ _) | (with_reducible refine Kd.C_drewN ?_ _) | (with_reducible refine Kd.C_drew ?_))); (case side2 => exact (Kd.R_reads' HO125.out).2.1); rintro e w' ⟨rfl, ⟨nd, rfl⟩⟩; refine ⟨_, rfl, ?_⟩) | ((with_reducible refine gate_callee (f := 12) rfl ?_); refine goesL_ (some 37) rfl rfl Try.func12 (by kernel_rfl) rfl #[.int .i64 (-3), .int .i64 4] rfl (by (try simp only [List.map_toArray, List.map_cons, List.map_nil]); first | done | rfl | (simp only [List.length_drop, List.length_take]; rfl)) ?_; (with_reducible refine (num_Mul.calls k (-3) 4 t128 t129 _ A5.out).mono ?_); rintro e w' ⟨rfl, ⟨nd, rfl⟩⟩; refine ⟨_, rfl, ?_⟩) | ((with_reducible refine gate_callee (f := 12) rfl ?_); refine goesL_ (some 41) rfl rfl Try.func12 (by kernel_rfl) rfl #[.int .i64 33554432, .int .i64 33554432] rfl (by (try simp only [List.map_toArray, List.map_cons, List.map_nil]); first | done | rfl | (simp only [List.length_drop, List.length_take]; rfl)) ?_; (with_reducible refine (num_Mul.calls k 33554432 33554432 t130 t131 _ A6.out).mono ?_); rintro e w' ⟨rfl, ⟨nd, rfl⟩⟩; refine ⟨_, rfl, ?_⟩) | ((with_reducible refine gate_callee (f := 12) rfl ?_); refine goesL_ (some 45) rfl rfl Try.func12 (by kernel_rfl) rfl #[.int .i64 67108864, .int .i64 33554432] rfl (by (try simp only [List.map_toArray, List.map_cons, List.map_nil]); first | done | rfl | (simp only [List.length_drop, List.length_take]; rfl)) ?_; (with_reducible refine (num_Mul.calls k 67108864 33554432 t132 t133 _ A7.out).mono ?_); rintro e w' ⟨rfl, ⟨nd, rfl⟩⟩; refine ⟨_, rfl, ?_⟩))
  (try simp only [Act.put, List.setIfInBounds_toArray, List.set_cons_zero, List.set_cons_succ])
  go_cut [15] (fun v15 wc => ∃ (kq : Nat) (x15_7 : Bool), v15 = .bool x15_7 ∧ Aside0 (draylaw1_NumRuns.j0 kq t128 t129 t130 t131 t132 t133 x15_7 = some r) ∧ Aside0 (kq ≤ k) ∧ Aside0 (Below w.heap.size w wc))
  case first =>
    have H := HC8.out
    clear HC8
    by_cases c18 : t111 = 0
    · rw [if_pos c18] at H
      have c18b0 : (t111 == 0) = true := beq_iff_eq.mpr c18
      have c18b1 : (t111 != 0) = false := bne_eq_false_iff_eq.mpr c18
      clear c18
      (first | rw [c18b0] | (simp only [i64_w, i32_w]; rw [c18b0]) | skip)
      by_cases c19 : t112 = true
      · subst c19
        have H1 : (if t116 = (-2) then (if t117 = true then (if t121 = 0 then (if t122 = true then (draylaw1_NumRuns.j0 k t128 t129 t130 t131 t132 t133 false) else (if t126 = 1125899906842624 then (draylaw1_NumRuns.j0 k t128 t129 t130 t131 t132 t133 t127) else (draylaw1_NumRuns.j0 k t128 t129 t130 t131 t132 t133 false))) else (draylaw1_NumRuns.j0 k t128 t129 t130 t131 t132 t133 false)) else (draylaw1_NumRuns.j0 k t128 t129 t130 t131 t132 t133 false)) else (draylaw1_NumRuns.j0 k t128 t129 t130 t131 t132 t133 false)) = some r := by rw [if_pos rfl] at H; exact H
        clear H
        have H := H1
        clear H1
        by_cases c20 : t116 = (-2)
        · rw [if_pos c20] at H
          have c20b0 : (t116 == (-2)) = true := beq_iff_eq.mpr c20
          have c20b1 : (t116 != (-2)) = false := bne_eq_false_iff_eq.mpr c20
          clear c20
          by_cases c21 : t117 = true
          · subst c21
            have H1 : (if t121 = 0 then (if t122 = true then (draylaw1_NumRuns.j0 k t128 t129 t130 t131 t132 t133 false) else (if t126 = 1125899906842624 then (draylaw1_NumRuns.j0 k t128 t129 t130 t131 t132 t133 t127) else (draylaw1_NumRuns.j0 k t128 t129 t130 t131 t132 t133 false))) else (draylaw1_NumRuns.j0 k t128 t129 t130 t131 t132 t133 false)) = some r := by rw [if_pos rfl] at H; exact H
            clear H
            have H := H1
            clear H1
            by_cases c22 : t121 = 0
            · rw [if_pos c22] at H
              have c22b0 : (t121 == 0) = true := beq_iff_eq.mpr c22
              have c22b1 : (t121 != 0) = false := bne_eq_false_iff_eq.mpr c22
              clear c22
              by_cases c23 : t122 = true
              · subst c23
                have H1 : (draylaw1_NumRuns.j0 k t128 t129 t130 t131 t132 t133 false) = some r := by rw [if_pos rfl] at H; exact H
                clear H
                have H := H1
                clear H1
                have H' := Aside0.mk H
                clear H
                go_wp2
                go_meet
                case rel => exact ⟨_, (false), (by first | rfl | (simp; done) | (simp [*]; done)), H', ⟨by first | omega | exact Nat.le_refl _⟩, ⟨by repeat (first | (with_reducible first | exact HB.out | apply below_alloc | apply pw_below_drewN | apply below_drew1) | exact HB.out)⟩⟩
              · replace c23 := Bool.eq_false_iff.mpr c23
                subst c23
                have H1 : (if t126 = 1125899906842624 then (draylaw1_NumRuns.j0 k t128 t129 t130 t131 t132 t133 t127) else (draylaw1_NumRuns.j0 k t128 t129 t130 t131 t132 t133 false)) = some r := by rw [if_neg (show ¬ (false = true) by decide)] at H; exact H
                clear H
                have H := H1
                clear H1
                by_cases c24 : t126 = 1125899906842624
                · rw [if_pos c24] at H
                  have c24b0 : (t126 == 1125899906842624) = true := beq_iff_eq.mpr c24
                  have c24b1 : (t126 != 1125899906842624) = false := bne_eq_false_iff_eq.mpr c24
                  clear c24
                  have H' := Aside0.mk H
                  clear H
                  go_wp2
                  go_meet
                  case rel => exact ⟨_, (t127), (by first | rfl | (simp; done) | (simp [*]; done)), H', ⟨by first | omega | exact Nat.le_refl _⟩, ⟨by repeat (first | (with_reducible first | exact HB.out | apply below_alloc | apply pw_below_drewN | apply below_drew1) | exact HB.out)⟩⟩
                · rw [if_neg c24] at H
                  have c24b0 : (t126 == 1125899906842624) = false := beq_eq_false_iff_ne.mpr c24
                  have c24b1 : (t126 != 1125899906842624) = true := bne_iff_ne.mpr c24
                  have H' := Aside0.mk H
                  clear H
                  go_wp2
                  go_meet
                  case rel => exact ⟨_, (false), (by first | rfl | (simp; done) | (simp [*]; done)), H', ⟨by first | omega | exact Nat.le_refl _⟩, ⟨by repeat (first | (with_reducible first | exact HB.out | apply below_alloc | apply pw_below_drewN | apply below_drew1) | exact HB.out)⟩⟩
            · rw [if_neg c22] at H
              have c22b0 : (t121 == 0) = false := beq_eq_false_iff_ne.mpr c22
              have c22b1 : (t121 != 0) = true := bne_iff_ne.mpr c22
              have H' := Aside0.mk H
              clear H
              go_wp2
              go_meet
              case rel => exact ⟨_, (false), (by first | rfl | (simp; done) | (simp [*]; done)), H', ⟨by first | omega | exact Nat.le_refl _⟩, ⟨by repeat (first | (with_reducible first | exact HB.out | apply below_alloc | apply pw_below_drewN | apply below_drew1) | exact HB.out)⟩⟩
          · replace c21 := Bool.eq_false_iff.mpr c21
            subst c21
            have H1 : (draylaw1_NumRuns.j0 k t128 t129 t130 t131 t132 t133 false) = some r := by rw [if_neg (show ¬ (false = true) by decide)] at H; exact H
            clear H
            have H := H1
            clear H1
            have H' := Aside0.mk H
            clear H
            go_wp2
            go_meet
            case rel => exact ⟨_, (false), (by first | rfl | (simp; done) | (simp [*]; done)), H', ⟨by first | omega | exact Nat.le_refl _⟩, ⟨by repeat (first | (with_reducible first | exact HB.out | apply below_alloc | apply pw_below_drewN | apply below_drew1) | exact HB.out)⟩⟩
        · rw [if_neg c20] at H
          have c20b0 : (t116 == (-2)) = false := beq_eq_false_iff_ne.mpr c20
          have c20b1 : (t116 != (-2)) = true := bne_iff_ne.mpr c20
          have H' := Aside0.mk H
          clear H
          go_wp2
          go_meet
          case rel => exact ⟨_, (false), (by first | rfl | (simp; done) | (simp [*]; done)), H', ⟨by first | omega | exact Nat.le_refl _⟩, ⟨by repeat (first | (with_reducible first | exact HB.out | apply below_alloc | apply pw_below_drewN | apply below_drew1) | exact HB.out)⟩⟩
      · replace c19 := Bool.eq_false_iff.mpr c19
        subst c19
        have H1 : (draylaw1_NumRuns.j0 k t128 t129 t130 t131 t132 t133 false) = some r := by rw [if_neg (show ¬ (false = true) by decide)] at H; exact H
        clear H
        have H := H1
        clear H1
        have H' := Aside0.mk H
        clear H
        go_wp2
        go_meet
        case rel => exact ⟨_, (false), (by first | rfl | (simp; done) | (simp [*]; done)), H', ⟨by first | omega | exact Nat.le_refl _⟩, ⟨by repeat (first | (with_reducible first | exact HB.out | apply below_alloc | apply pw_below_drewN | apply below_drew1) | exact HB.out)⟩⟩
    · rw [if_neg c18] at H
      have c18b0 : (t111 == 0) = false := beq_eq_false_iff_ne.mpr c18
      have c18b1 : (t111 != 0) = true := bne_iff_ne.mpr c18
      (first | rw [c18b0] | (simp only [i64_w, i32_w]; rw [c18b0]) | skip)
      have H' := Aside0.mk H
      clear H
      go_wp2
      go_meet
      case rel => exact ⟨_, (false), (by first | rfl | (simp; done) | (simp [*]; done)), H', ⟨by first | omega | exact Nat.le_refl _⟩, ⟨by repeat (first | (with_reducible first | exact HB.out | apply below_alloc | apply pw_below_drewN | apply below_drew1) | exact HB.out)⟩⟩
  case rest =>
    clear HC8
    try clear c1
    try clear c2
    try clear p2
    try clear c3
    try clear c11
    try clear c12
    try clear c18
    try clear c18b0
    try clear c18b1
    try clear c19
    try clear c20
    try clear c20b0
    try clear c20b1
    try clear c21
    try clear c22
    try clear c22b0
    try clear c22b1
    try clear c23
    try clear c24
    try clear c24b0
    try clear c24b1
    obtain ⟨kq, x15_7, rfl, HA, HJ7, HB⟩ := hcut
    cases kq with
    | zero => exact absurd HA.out (by simp [draylaw1_NumRuns.j0])
    | succ kj7 =>
      have H := HA.out
      clear HA
      simp only [draylaw1_NumRuns.j0] at H
      obtain ⟨y134, hy134⟩ : ∃ y_ : List Int, y_ = (([1125899906842624, 1, (-1)] : List Int)) := ⟨_, rfl⟩
      replace H : ((num_Sat.f kj7 y134).bind fun t137 => (if t137 = 1125899906842623 then ((num_Sat.f kj7 (([1125899906842629, (-7)] : List Int))).bind fun t141 => (if x15_7 = true then (if t141 = 1125899906842617 then (if t128 = (-12) then (if t129 = true then (if t130 = 1125899906842624 then (if t131 = true then (if t132 = 0 then (if t133 = true then (none) else ((num_Clip.f 5 7 3).bind fun t142 => (if t142 = 7 then ((num_Clip.f 8 7 3).bind fun t143 => (if t143 = 3 then ((num_Clip.f 4 3 7).bind fun t144 => (some (t144 == 4))) else (none))) else (none)))) else (none)) else (none)) else (none)) else (none)) else (none)) else (none)) else (none))) else (none))) = some r := by first | (rw [hy134]; with_reducible exact H) | (have H2_ := (Option.bind_some _ _).symm.trans H; rw [hy134]; with_reducible exact H2_) | (have H2_ := (Option.bind_some _ _).symm.trans H; with_reducible exact H2_) | with_reducible exact H | (rw [hy134]; exact H) | exact H
      have Ny134 := Aside0.mk hy134
      clear hy134
      replace H := Option.bind_eq_some_iff.mp H
      obtain ⟨t137, A250, H⟩ := H
      replace H : (if t137 = 1125899906842623 then ((num_Sat.f kj7 (([1125899906842629, (-7)] : List Int))).bind fun t141 => (if x15_7 = true then (if t141 = 1125899906842617 then (if t128 = (-12) then (if t129 = true then (if t130 = 1125899906842624 then (if t131 = true then (if t132 = 0 then (if t133 = true then (none) else ((num_Clip.f 5 7 3).bind fun t142 => (if t142 = 7 then ((num_Clip.f 8 7 3).bind fun t143 => (if t143 = 3 then ((num_Clip.f 4 3 7).bind fun t144 => (some (t144 == 4))) else (none))) else (none)))) else (none)) else (none)) else (none)) else (none)) else (none)) else (none)) else (none))) else (none)) = some r := H
      have A25 := Aside0.mk A250
      clear A250
      by_cases c26 : t137 = 1125899906842623
      · rw [if_pos c26] at H
        have c26b0 : (t137 == 1125899906842623) = true := beq_iff_eq.mpr c26
        have c26b1 : (t137 != 1125899906842623) = false := bne_eq_false_iff_eq.mpr c26
        clear c26
        obtain ⟨y138, hy138⟩ : ∃ y_ : List Int, y_ = (([1125899906842629, (-7)] : List Int)) := ⟨_, rfl⟩
        replace H : ((num_Sat.f kj7 y138).bind fun t141 => (if x15_7 = true then (if t141 = 1125899906842617 then (if t128 = (-12) then (if t129 = true then (if t130 = 1125899906842624 then (if t131 = true then (if t132 = 0 then (if t133 = true then (none) else ((num_Clip.f 5 7 3).bind fun t142 => (if t142 = 7 then ((num_Clip.f 8 7 3).bind fun t143 => (if t143 = 3 then ((num_Clip.f 4 3 7).bind fun t144 => (some (t144 == 4))) else (none))) else (none)))) else (none)) else (none)) else (none)) else (none)) else (none)) else (none)) else (none))) = some r := by first | (rw [hy138]; with_reducible exact H) | (have H2_ := (Option.bind_some _ _).symm.trans H; rw [hy138]; with_reducible exact H2_) | (have H2_ := (Option.bind_some _ _).symm.trans H; with_reducible exact H2_) | with_reducible exact H | (rw [hy138]; exact H) | exact H
        have Ny138 := Aside0.mk hy138
        clear hy138
        replace H := Option.bind_eq_some_iff.mp H
        obtain ⟨t141, A270, H⟩ := H
        replace H : (if x15_7 = true then (if t141 = 1125899906842617 then (if t128 = (-12) then (if t129 = true then (if t130 = 1125899906842624 then (if t131 = true then (if t132 = 0 then (if t133 = true then (none) else ((num_Clip.f 5 7 3).bind fun t142 => (if t142 = 7 then ((num_Clip.f 8 7 3).bind fun t143 => (if t143 = 3 then ((num_Clip.f 4 3 7).bind fun t144 => (some (t144 == 4))) else (none))) else (none)))) else (none)) else (none)) else (none)) else (none)) else (none)) else (none)) else (none)) = some r := H
        have A27 := Aside0.mk A270
        clear A270
        by_cases c28 : x15_7 = true
        · subst c28
          have H1 : (if t141 = 1125899906842617 then (if t128 = (-12) then (if t129 = true then (if t130 = 1125899906842624 then (if t131 = true then (if t132 = 0 then (if t133 = true then (none) else ((num_Clip.f 5 7 3).bind fun t142 => (if t142 = 7 then ((num_Clip.f 8 7 3).bind fun t143 => (if t143 = 3 then ((num_Clip.f 4 3 7).bind fun t144 => (some (t144 == 4))) else (none))) else (none)))) else (none)) else (none)) else (none)) else (none)) else (none)) else (none)) = some r := by rw [if_pos rfl] at H; exact H
          clear H
          have H := H1
          clear H1
          by_cases c29 : t141 = 1125899906842617
          · rw [if_pos c29] at H
            have c29b0 : (t141 == 1125899906842617) = true := beq_iff_eq.mpr c29
            have c29b1 : (t141 != 1125899906842617) = false := bne_eq_false_iff_eq.mpr c29
            clear c29
            by_cases c30 : t128 = (-12)
            · rw [if_pos c30] at H
              have c30b0 : (t128 == (-12)) = true := beq_iff_eq.mpr c30
              have c30b1 : (t128 != (-12)) = false := bne_eq_false_iff_eq.mpr c30
              clear c30
              by_cases c31 : t129 = true
              · subst c31
                have H1 : (if t130 = 1125899906842624 then (if t131 = true then (if t132 = 0 then (if t133 = true then (none) else ((num_Clip.f 5 7 3).bind fun t142 => (if t142 = 7 then ((num_Clip.f 8 7 3).bind fun t143 => (if t143 = 3 then ((num_Clip.f 4 3 7).bind fun t144 => (some (t144 == 4))) else (none))) else (none)))) else (none)) else (none)) else (none)) = some r := by rw [if_pos rfl] at H; exact H
                clear H
                have H := H1
                clear H1
                by_cases c32 : t130 = 1125899906842624
                · rw [if_pos c32] at H
                  have c32b0 : (t130 == 1125899906842624) = true := beq_iff_eq.mpr c32
                  have c32b1 : (t130 != 1125899906842624) = false := bne_eq_false_iff_eq.mpr c32
                  clear c32
                  by_cases c33 : t131 = true
                  · subst c33
                    have H1 : (if t132 = 0 then (if t133 = true then (none) else ((num_Clip.f 5 7 3).bind fun t142 => (if t142 = 7 then ((num_Clip.f 8 7 3).bind fun t143 => (if t143 = 3 then ((num_Clip.f 4 3 7).bind fun t144 => (some (t144 == 4))) else (none))) else (none)))) else (none)) = some r := by rw [if_pos rfl] at H; exact H
                    clear H
                    have H := H1
                    clear H1
                    by_cases c34 : t132 = 0
                    · rw [if_pos c34] at H
                      have c34b0 : (t132 == 0) = true := beq_iff_eq.mpr c34
                      have c34b1 : (t132 != 0) = false := bne_eq_false_iff_eq.mpr c34
                      clear c34
                      by_cases c35 : t133 = true
                      · subst c35
                        have H1 : (none) = some r := by rw [if_pos rfl] at H; exact H
                        clear H
                        have H := H1
                        clear H1
                        exact absurd H (by simp)
                      · replace c35 := Bool.eq_false_iff.mpr c35
                        subst c35
                        have H1 : ((num_Clip.f 5 7 3).bind fun t142 => (if t142 = 7 then ((num_Clip.f 8 7 3).bind fun t143 => (if t143 = 3 then ((num_Clip.f 4 3 7).bind fun t144 => (some (t144 == 4))) else (none))) else (none))) = some r := by rw [if_neg (show ¬ (false = true) by decide)] at H; exact H
                        clear H
                        have H := H1
                        clear H1
                        replace H := Option.bind_eq_some_iff.mp H
                        obtain ⟨t142, A360, H⟩ := H
                        replace H : (if t142 = 7 then ((num_Clip.f 8 7 3).bind fun t143 => (if t143 = 3 then ((num_Clip.f 4 3 7).bind fun t144 => (some (t144 == 4))) else (none))) else (none)) = some r := H
                        have A36 := Aside0.mk A360
                        clear A360
                        by_cases c37 : t142 = 7
                        · rw [if_pos c37] at H
                          have c37b0 : (t142 == 7) = true := beq_iff_eq.mpr c37
                          have c37b1 : (t142 != 7) = false := bne_eq_false_iff_eq.mpr c37
                          clear c37
                          replace H := Option.bind_eq_some_iff.mp H
                          obtain ⟨t143, A380, H⟩ := H
                          replace H : (if t143 = 3 then ((num_Clip.f 4 3 7).bind fun t144 => (some (t144 == 4))) else (none)) = some r := H
                          have A38 := Aside0.mk A380
                          clear A380
                          by_cases c39 : t143 = 3
                          · rw [if_pos c39] at H
                            have c39b0 : (t143 == 3) = true := beq_iff_eq.mpr c39
                            have c39b1 : (t143 != 3) = false := bne_eq_false_iff_eq.mpr c39
                            clear c39
                            replace H := Option.bind_eq_some_iff.mp H
                            obtain ⟨t144, A400, H⟩ := H
                            replace H : (some (t144 == 4)) = some r := H
                            have A40 := Aside0.mk A400
                            clear A400
                            obtain rfl := Option.some.inj H
                            go_wp2_with (first | ((with_reducible refine gate_dst (N := 75) rfl ?_); (try (refine gate_guard (by rfl) ?_; dsimp only)); refine Kd.R_lit (Kd.int .i64) _ 3 ?hg (N := 75) ?hd (xs := ([1125899906842624, 1, (-1)] : List Int)) (inner := [.int .i64 1125899906842624, .int .i64 1, .int .i64 (-1)]) (ok := fun _ => True) (okp := fun _ => True) ?hr ?hp (fun _ hk => hk) trivial (Below.refl _ _) (Nat.le_refl _) (by simp) ?_; (case hd => rfl); (case hg => rfl); (case hr => first | (go_simp; done) | (go_simp; rfl)); (case hp => exact (Reps.one (show Kd.M (Kd.int .i64) _ _ _ 1125899906842624 [.int .i64 1125899906842624] from rfl) (Reps.one (show Kd.M (Kd.int .i64) _ _ _ 1 [.int .i64 1] from rfl) (Reps.one (show Kd.M (Kd.int .i64) _ _ _ (-1) [.int .i64 (-1)] from rfl) (Reps.none _ _))))); intro v135 w41 ho42 hb hg_ hnew_; clear hg_ hnew_; (first | rw [← Ny134.out] at ho42 | (simp only [Int.reduceToNat] at ho42; rw [← Ny134.out] at ho42)); have n0_ := Aside0.mk (Kd.R_lower ho42 (below_size (by repeat (first | (with_reducible first | exact HB.out | apply below_alloc | apply pw_below_drewN | apply below_drew1) | exact HB.out)))); have n1_ := Aside0.mk (below_step (by repeat (first | (with_reducible first | exact HB.out | apply below_alloc | apply pw_below_drewN | apply below_drew1) | exact HB.out)) hb); clear HB; have HO136 := n0_; have HB := n1_; clear n0_ n1_; clear hb ho42; obtain ⟨Ao43, co43, eo43⟩ := Kd.R_slice HO136.out; subst eo43) | ((with_reducible refine gate_callee (f := 13) rfl ?_); refine goesL_ (some 76) rfl rfl Try.func13 (by kernel_rfl) rfl #[.slice Ao43 y134.length co43] rfl (by (try simp only [List.map_toArray, List.map_cons, List.map_nil]); first | done | rfl | (simp only [List.length_drop, List.length_take]; rfl)) ?_; (with_reducible refine (num_Sat.calls kj7 _ _ y134 t137 _ ?side1 ?side2 A25.out).mono ?_); (case side1 => repeat (first | exact (Kd.R_reads' HO136.out).2.2 | (with_reducible refine Kd.C_alloc ?_ _) | (with_reducible refine Kd.C_drewN ?_ _) | (with_reducible refine Kd.C_drew ?_))); (case side2 => exact (Kd.R_reads' HO136.out).2.1); rintro e w' ⟨rfl, ⟨nd, rfl⟩⟩; refine ⟨_, rfl, ?_⟩) | ((with_reducible refine gate_dst (N := 79) rfl ?_); (try (refine gate_guard (by rfl) ?_; dsimp only)); refine Kd.R_lit (Kd.int .i64) _ 3 ?hg (N := 79) ?hd (xs := ([1125899906842629, (-7)] : List Int)) (inner := [.int .i64 1125899906842629, .int .i64 (-7)]) (ok := fun _ => True) (okp := fun _ => True) ?hr ?hp (fun _ hk => hk) trivial (Below.refl _ _) (Nat.le_refl _) (by simp) ?_; (case hd => rfl); (case hg => rfl); (case hr => first | (go_simp; done) | (go_simp; rfl)); (case hp => exact (Reps.one (show Kd.M (Kd.int .i64) _ _ _ 1125899906842629 [.int .i64 1125899906842629] from rfl) (Reps.one (show Kd.M (Kd.int .i64) _ _ _ (-7) [.int .i64 (-7)] from rfl) (Reps.none _ _)))); intro v139 w44 ho45 hb hg_ hnew_; clear hg_ hnew_; (first | rw [← Ny138.out] at ho45 | (simp only [Int.reduceToNat] at ho45; rw [← Ny138.out] at ho45)); have n0_ := Aside0.mk (Kd.R_elder' (by (with_reducible repeat (first | apply Kd.R_alloc | apply Kd.R_drewN | apply Kd.R_drew)); exact HO136.out) (Kd.R_base ho45) hb); have n1_ := Aside0.mk (Kd.R_lower (Kd.R_new' ho45 (Kd.R_lt (by (with_reducible repeat (first | apply Kd.R_alloc | apply Kd.R_drewN | apply Kd.R_drew)); exact HO136.out))) (below_size (by repeat (first | (with_reducible first | exact HB.out | apply below_alloc | apply pw_below_drewN | apply below_drew1) | exact HB.out)))); have n2_ := Aside0.mk (below_step (by repeat (first | (with_reducible first | exact HB.out | apply below_alloc | apply pw_below_drewN | apply below_drew1) | exact HB.out)) hb); clear HO136; clear HB; have HO136 := n0_; have HO140 := n1_; have HB := n2_; clear n0_ n1_ n2_; clear hb ho45; obtain ⟨Ao46, co46, eo46⟩ := Kd.R_slice HO140.out; subst eo46) | (go_at_call 13; (with_reducible refine (num_Sat.calls kj7 _ _ y138 t141 _ ?side1 ?side2 A27.out).mono ?_); (case side1 => repeat (first | exact (Kd.R_reads' HO140.out).2.2 | (with_reducible refine Kd.C_alloc ?_ _) | (with_reducible refine Kd.C_drewN ?_ _) | (with_reducible refine Kd.C_drew ?_))); (case side2 => exact (Kd.R_reads' HO140.out).2.1); rintro e w' ⟨rfl, ⟨nd, rfl⟩⟩) | (go_at_call 14; (with_reducible refine (num_Clip.calls 5 7 3 t142 _ A36.out).mono ?_); rintro e w' ⟨rfl, ⟨nd, rfl⟩⟩) | (go_at_call 14; (with_reducible refine (num_Clip.calls 8 7 3 t143 _ A38.out).mono ?_); rintro e w' ⟨rfl, ⟨nd, rfl⟩⟩) | (go_at_call 14; (with_reducible refine (num_Clip.calls 4 3 7 t144 _ A40.out).mono ?_); rintro e w' ⟨rfl, ⟨nd, rfl⟩⟩))
                            go_ret
                            exact ⟨by first | rfl | (simp [errW_none, errW_some] <;> rfl) | (simp [*, errW_none, errW_some] <;> rfl), by repeat (first | (with_reducible first | exact HB.out | apply below_alloc | apply pw_below_drewN | apply below_drew1) | exact HB.out)⟩
                          · rw [if_neg c39] at H
                            exact absurd H (by simp)
                        · rw [if_neg c37] at H
                          exact absurd H (by simp)
                    · rw [if_neg c34] at H
                      exact absurd H (by simp)
                  · replace c33 := Bool.eq_false_iff.mpr c33
                    subst c33
                    have H1 : (none) = some r := by rw [if_neg (show ¬ (false = true) by decide)] at H; exact H
                    clear H
                    have H := H1
                    clear H1
                    exact absurd H (by simp)
                · rw [if_neg c32] at H
                  exact absurd H (by simp)
              · replace c31 := Bool.eq_false_iff.mpr c31
                subst c31
                have H1 : (none) = some r := by rw [if_neg (show ¬ (false = true) by decide)] at H; exact H
                clear H
                have H := H1
                clear H1
                exact absurd H (by simp)
            · rw [if_neg c30] at H
              exact absurd H (by simp)
          · rw [if_neg c29] at H
            exact absurd H (by simp)
        · replace c28 := Bool.eq_false_iff.mpr c28
          subst c28
          have H1 : (none) = some r := by rw [if_neg (show ¬ (false = true) by decide)] at H; exact H
          clear H
          have H := H1
          clear H1
          exact absurd H (by simp)
      · rw [if_neg c26] at H
        exact absurd H (by simp)

/-! ### draybook_Roomy_int: function 18 (walked by hand: the print takes no copy) -/
def draybook_Roomy_int.f (l0 : List Int) (a1 : Int) : Option (List Int) := if (l0.length + 80) * 8 ≤ 281474976710656 then some (l0 ++ List.replicate 80 a1) else none
theorem draybook_Roomy_int.calls (A0 : Option Addr) (c0 : Nat) (l0 : List Int) (a1 : Int) (r : List Int) (w : World) (hr0 : Kd.C (Kd.int .i64) w A0 l0.length l0) (hc0 : l0.length ≤ c0) (h : draybook_Roomy_int.f l0 a1 = some r) :
    Calls Try.prog 18 #[.slice A0 l0.length c0, .int .i64 a1] w fun e w' => ∃ v0_ : Value, e = .returned (v0_) ∧ Kd.R (Kd.int .i64) 3 w' w.heap.size (fun _ => True) v0_ r ∧ Below w.heap.size w w' := by
  have hb : (l0.length + 80) * 8 ≤ 281474976710656 := by
    unfold draybook_Roomy_int.f at h
    split at h
    · assumption
    · cases h
  have hrr : r = l0 ++ List.replicate 80 a1 := by
    unfold draybook_Roomy_int.f at h
    rw [if_pos hb] at h
    exact (Option.some.inj h).symm
  have HR := Lib.hid hrr
  clear hrr h
  have hlen : l0.length + 80 ≤ 281474976710656 := by omega
  obtain ⟨i0, hi, hz0, hz1, hz2⟩ := info_parts info3
  have hmk : ∀ W : World, (Instr.makeSlice 30 (.int .i64 ((l0.length : Int) + 80)) (.int .i64 ((l0.length : Int) + 80))).run Try.prog W = .ok (.slice (some ⟨W.heap.size, 0, none⟩) (l0.length + 80) (l0.length + 80)) (W.alloc (.cells (madeCells (Value.int .i64 0).cells ((l0.length + 80) * 1)) 3)) := by
    intro W
    have hr := run_make (P := Try.prog) W 30 3 i0 (.int .i64 0) Try.underlying30 hi hz0 .i64 .i64 ((l0.length : Int) + 80) ((l0.length : Int) + 80) (by omega) (Int.le_refl _) (by rw [hz2]; omega) (by omega)
    rw [hz1, show ((l0.length : Int) + 80).toNat = l0.length + 80 by omega] at hr
    exact hr
  clear hi hz0 hz1 hz2 i0
  have hrd := hr0.2.2
  obtain ⟨cur0, hcur0⟩ : ∃ c, c = List.replicate (l0.length + 80) (Value.int .i64 0) := ⟨_, rfl⟩
  have hcl : cur0.length = l0.length + 80 := by rw [hcur0]; simp
  have hblk : (w.alloc (.cells (madeCells #[Value.int .i64 0] (l0.length + 80)) 3)).heap[w.heap.size]? = some (.cells cur0.toArray 3 (0, 0)) := by
    rw [heap_alloc_new, hcur0, xr_made]
  have hpos : 0 < (nums .i64 l0).length → some (⟨w.heap.size, 0, none⟩ : Addr) = some ⟨w.heap.size, 0, none⟩ ∧ ∃ ad, A0 = some ad ∧ ∀ j v, (nums .i64 l0)[j]? = some v → (w.alloc (.cells (madeCells #[Value.int .i64 0] (l0.length + 80)) 3)).cell? (ad.add j) = some v := by
    intro hpos
    refine ⟨rfl, ?_⟩
    rw [nums_length] at hpos
    obtain ⟨ad, e, hcell⟩ := hrd hpos
    exact ⟨ad, e, fun j v hv => pw_cell_below (below_alloc (Below.refl _ _) _) (xr_cells hcell j v hv)⟩
  have HPOS := Lib.hid hpos
  have HBLK := Lib.hid hblk
  have hsp : splice cur0 0 (nums .i64 l0) = xr_cur .i64 l0 a1 0 := xr_first _ _ _ _ hcur0
  have HSP := Lib.hid hsp
  have hfit : 0 + (nums .i64 l0).length ≤ cur0.length := by rw [nums_length, hcl]; omega
  have HFIT := Lib.hid hfit
  have hmin : (nums .i64 l0).length = Nat.min l0.length (l0.length + 80) := by rw [nums_length]; exact (Nat.min_eq_left (by omega)).symm
  have HMIN := Lib.hid hmin
  have HC := Lib.hid hr0
  clear hr0 hrd hcl hcur0 hblk hpos hsp hfit hmin
  go_enter Try.func18, Try.ntmps18
  go_wp2_with (refine wpList_copy_splice rfl (.tmp 11) (.tmp 12) 30 30 rfl 3 Try.underlying30 (by kernel_rfl) (some ⟨w.heap.size, 0, none⟩) A0 (l0.length + 80) (l0.length + 80) l0.length c0 rfl rfl w.heap.size 0 cur0 3 HBLK.out (nums .i64 l0) HMIN.out HPOS.out HFIT.out (nums_one .i64 l0) w.heap.size w (below_alloc (Below.refl _ _) _) (Nat.le_refl _) ?_; intro w1 hw1 hb1; have HB1 := Lib.hid hb1; clear hb1 hmk)
  go_loopw [6] (fun v6 wr => ∃ m : Nat, l0.length ≤ m ∧ m ≤ l0.length + 80 ∧ v6 = .int .i64 (m : Int) ∧ Hid (wr.heap[w.heap.size]? = some (.cells (xr_cur .i64 l0 a1 (m - l0.length)).toArray 3 (0, 0))) ∧ Hid (Below w.heap.size w wr)) (fun v6 _ => l0.length + 80 - (intOf v6).toNat)
  case atStart => exact ⟨l0.length, by omega, by omega, rfl, Lib.hid (by rw [hw1.out, HSP.out, Nat.sub_self]), HB1⟩
  case round =>
    obtain ⟨m, hm1, hm2, rfl, hh, hbw⟩ := hrel
    by_cases hlt : m < l0.length + 80
    · obtain ⟨x, hx⟩ := xr_at .i64 l0 a1 (m - l0.length) m (by omega) hlt
      have hcell : wr.cell? ⟨w.heap.size, m, none⟩ = some x := by
        rw [cell_of_row wr w.heap.size m _ _ _ hh.out]; simpa using hx
      have hfro : wr.frozen? ⟨w.heap.size, m, none⟩ = false := by
        have h := hh.out
        simp [World.frozen?, h]
      clear hx
      go_wp2_with fail
      go_roundw
      case rel => exact ⟨m + 1, by omega, by omega, by go_num, Lib.hid (xr_store hm1 hlt hh.out), Lib.hid (hbw.out.setCell (Nat.le_refl _) _)⟩
      case measure => simp [intOf]; omega
    · have he : m = l0.length + 80 := by omega
      subst he
      go_wp2_with fail
      go_ret
      refine ⟨_, rfl, ?_, hbw.out⟩
      have h := hh.out
      rw [show l0.length + 80 - l0.length = 80 by omega, xr_last] at h
      rw [HR.out]
      have ho := xr_own (W := w) h (Nat.le_refl _) (by simp; omega)
      simpa using ho

/-! ### drayref1_In: function 16 -/
def drayref1_In.f (a0 : Int) : Option (Bool) := if (-1125899906842624) ≤ a0 then (some (decide (a0 ≤ 1125899906842624))) else (some false)
set_option maxHeartbeats 8000000 in
set_option maxRecDepth 100000 in
theorem drayref1_In.calls (a0 : Int) (r : Bool) (w : World) (h : drayref1_In.f a0 = some r) :
    Calls Try.prog 16 #[.int .i64 a0] w fun e w' => e = .returned (.bool r) ∧ Drawn0 w w' := by
  have H : (if (-1125899906842624) ≤ a0 then (some (decide (a0 ≤ 1125899906842624))) else (some false)) = some r := h
  clear h
  by_cases c2 : (-1125899906842624) ≤ a0
  · rw [if_pos c2] at H
    have c2b0 : decide ((-1125899906842624) ≤ a0) = true := decide_eq_true c2
    clear c2
    obtain rfl := Option.some.inj H
    go_enter Try.func16, Try.ntmps16
    go_wp2
    go_ret
    exact ⟨by first | rfl | (simp; done) | (simp [*]; done), by repeat (first | exact Drawn0.refl _ | apply Drawn0.step)⟩
  · rw [if_neg c2] at H
    have c2b0 : decide ((-1125899906842624) ≤ a0) = false := decide_eq_false c2
    clear c2
    obtain rfl := Option.some.inj H
    go_enter Try.func16, Try.ntmps16
    go_wp2
    go_ret
    exact ⟨by first | rfl | (simp; done) | (simp [*]; done), by repeat (first | exact Drawn0.refl _ | apply Drawn0.step)⟩

/-! ### drayref1_Sum: function 19 -/
def drayref1_Sum.l0 : Nat → List Int → Int → Int → Option (Int × Bool)
  | 0, _, _, _ => none
  | k + 1, x0, x4, x5 => if x5 < (x0.length : Int) then (if 0 ≤ x5 then ((drayref1_In.f (rd x0 x5)).bind fun t146 => (if t146 = true then ((drayref1_In.f (wrap64 (x4 + (rd x0 x5)))).bind fun t148 => (if t148 = true then (drayref1_Sum.l0 k x0 (wrap64 (x4 + (rd x0 x5))) (wrap64 (x5 + 1))) else (some (0, false)))) else (some (0, false)))) else (none)) else (some (x4, true))
def drayref1_Sum.f (k : Nat) (l0 : List Int) : Option (Int × Bool) := drayref1_Sum.l0 k l0 0 0
theorem drayref1_Sum.mono_l : ∀ k, (∀ y0 y1 y2, LeO (drayref1_Sum.l0 k y0 y1 y2) (drayref1_Sum.l0 (k + 1) y0 y1 y2))
  | 0 => fun _ _ _ r h => by simp [drayref1_Sum.l0] at h
  | k + 1 => by
    have ih0 := drayref1_Sum.mono_l k
    · intro y0 y1 y2
      unfold drayref1_Sum.l0
      repeat' first
      | (with_reducible exact ih0 _ _ _)
      | (with_reducible exact LeO.refl _)
      | (with_reducible exact LeO.none _)
      | (with_reducible refine LeO.ite ?_ ?_)
      | (with_reducible refine LeO.bind ?_ (fun _ => ?_))
      | exact ih0 _ _ _
      | exact LeO.none _
      | refine LeO.ite ?_ ?_
      | refine LeO.bind ?_ (fun _ => ?_)
theorem drayref1_Sum.mono : ∀ a0 k, LeO (drayref1_Sum.f k a0) (drayref1_Sum.f (k + 1) a0) := by
  intro a0 k
  have ih0 := drayref1_Sum.mono_l k
  unfold drayref1_Sum.f
  repeat' first
      | (with_reducible exact ih0 _ _ _)
      | (with_reducible exact LeO.refl _)
      | (with_reducible exact LeO.none _)
      | (with_reducible refine LeO.ite ?_ ?_)
      | (with_reducible refine LeO.bind ?_ (fun _ => ?_))
      | exact ih0 _ _ _
      | exact LeO.none _
      | refine LeO.ite ?_ ?_
      | refine LeO.bind ?_ (fun _ => ?_)
set_option maxHeartbeats 8000000 in
set_option maxRecDepth 100000 in
theorem drayref1_Sum.calls (k : Nat) (A0 : Option Addr) (c0 : Nat) (l0 : List Int) (r1 : Int) (r2 : Bool) (w : World) (hr0 : Kd.C (Kd.int .i64) w A0 l0.length l0) (hc0 : l0.length ≤ c0) (h : drayref1_Sum.f k l0 = some (r1, r2)) :
    Calls Try.prog 19 #[.slice A0 l0.length c0] w fun e w' => e = .returned (.tuple #[.int .i64 r1, .bool r2]) ∧ Drawn0 w w' := by
  have HR0 := Aside0.mk hr0
  have HC0 := Aside0.mk hc0
  clear hr0 hc0
  have H : (drayref1_Sum.l0 k l0 0 0) = some (r1, r2) := h
  clear h
  have H' := Aside0.mk H
  clear H
  go_enter Try.func19, Try.ntmps19
  go_wp2
  go_loopg [4, 5] k (fun kq v4 v5 w' => ∃ (x4_1 : Int) (x5_1 : Int), v4 = .int .i64 x4_1 ∧ v5 = .int .i64 x5_1 ∧ Aside0 (drayref1_Sum.l0 kq l0 x4_1 x5_1 = some (r1, r2)) ∧ Aside0 (kq ≤ k) ∧ Drawn0 w w')
  case atStart => exact ⟨(0), (0), (by first | rfl | (simp; done) | (simp [*]; done)), (by first | rfl | (simp; done) | (simp [*]; done)), H', ⟨Nat.le_refl _⟩, by repeat (first | exact Drawn0.refl _ | apply Drawn0.step)⟩
  case round =>
    clear H'
    try clear c1
    obtain ⟨x4_1, x5_1, rfl, rfl, HA, HK1, ⟨m1, rfl⟩⟩ := hrel
    cases gk with
    | zero => exact absurd HA.out (by simp [drayref1_Sum.l0])
    | succ k1 =>
      have H := HA.out
      clear HA
      simp only [drayref1_Sum.l0] at H
      by_cases c2 : x5_1 < (l0.length : Int)
      · rw [if_pos c2] at H
        have c2b0 : decide (x5_1 < (l0.length : Int)) = true := decide_eq_true c2
        clear c2
        by_cases c3 : 0 ≤ x5_1
        · rw [if_pos c3] at H
          have c3b0 : decide (0 ≤ x5_1) = true := decide_eq_true c3
          clear c3
          replace H := Option.bind_eq_some_iff.mp H
          obtain ⟨t146, A40, H⟩ := H
          replace H : (if t146 = true then ((drayref1_In.f (wrap64 (x4_1 + (rd l0 x5_1)))).bind fun t148 => (if t148 = true then (drayref1_Sum.l0 k1 l0 (wrap64 (x4_1 + (rd l0 x5_1))) (wrap64 (x5_1 + 1))) else (some (0, false)))) else (some (0, false))) = some (r1, r2) := H
          have A4 := Aside0.mk A40
          clear A40
          by_cases c5 : t146 = true
          · subst c5
            have H1 : ((drayref1_In.f (wrap64 (x4_1 + (rd l0 x5_1)))).bind fun t148 => (if t148 = true then (drayref1_Sum.l0 k1 l0 (wrap64 (x4_1 + (rd l0 x5_1))) (wrap64 (x5_1 + 1))) else (some (0, false)))) = some (r1, r2) := by rw [if_pos rfl] at H; exact H
            clear H
            have H := H1
            clear H1
            replace H := Option.bind_eq_some_iff.mp H
            obtain ⟨t148, A60, H⟩ := H
            replace H : (if t148 = true then (drayref1_Sum.l0 k1 l0 (wrap64 (x4_1 + (rd l0 x5_1))) (wrap64 (x5_1 + 1))) else (some (0, false))) = some (r1, r2) := H
            have A6 := Aside0.mk A60
            clear A60
            by_cases c7 : t148 = true
            · subst c7
              have H1 : (drayref1_Sum.l0 k1 l0 (wrap64 (x4_1 + (rd l0 x5_1))) (wrap64 (x5_1 + 1))) = some (r1, r2) := by rw [if_pos rfl] at H; exact H
              clear H
              have H := H1
              clear H1
              have H' := Aside0.mk H
              clear H
              have p145 : 0 ≤ (x5_1 : Int) := of_decide_eq_true (by first | (with_reducible assumption) | assumption)
              have q145 : x5_1 < (l0.length : Int) := of_decide_eq_true (by first | (with_reducible assumption) | assumption)
              obtain ⟨ad145, e145, hx145_0⟩ := Kd.at_int HR0.out x5_1 p145 q145
              cases e145
              replace p145 := eq_true p145
              replace q145 := eq_true q145
              go_wp2_with (first | ((with_reducible refine gate_callee (f := 16) rfl ?_); refine goesL_ (some 16) rfl rfl Try.func16 (by kernel_rfl) rfl #[.int .i64 (rd l0 x5_1)] rfl (by (try simp only [List.map_toArray, List.map_cons, List.map_nil]); first | done | rfl | (simp only [List.length_drop, List.length_take]; rfl)) ?_; (with_reducible refine (drayref1_In.calls (rd l0 x5_1) true _ A4.out).mono ?_); rintro e w' ⟨rfl, ⟨nd, rfl⟩⟩; refine ⟨_, rfl, ?_⟩; have p147 : 0 ≤ (x5_1 : Int) := of_decide_eq_true (by first | (with_reducible assumption) | assumption); have q147 : x5_1 < (l0.length : Int) := of_decide_eq_true (by first | (with_reducible assumption) | assumption); obtain ⟨ad147, e147, hx147_0⟩ := Kd.at_int HR0.out x5_1 p147 q147; obtain rfl : ad145 = ad147 := (by injection e147); replace p147 := eq_true p147; replace q147 := eq_true q147) | (go_at_call 16; (with_reducible refine (drayref1_In.calls (wrap64 (x4_1 + (rd l0 x5_1))) true _ A6.out).mono ?_); rintro e w' ⟨rfl, ⟨nd, rfl⟩⟩; have p149 : 0 ≤ (x5_1 : Int) := of_decide_eq_true (by first | (with_reducible assumption) | assumption); have q149 : x5_1 < (l0.length : Int) := of_decide_eq_true (by first | (with_reducible assumption) | assumption); obtain ⟨ad149, e149, hx149_0⟩ := Kd.at_int HR0.out x5_1 p149 q149; obtain rfl : ad145 = ad149 := (by injection e149); replace p149 := eq_true p149; replace q149 := eq_true q149))
              go_roundg k1
              case measure => have := HK1.out; omega
              case rel => exact ⟨(wrap64 (x4_1 + (rd l0 x5_1))), (wrap64 (x5_1 + 1)), (by first | rfl | (simp; done) | (simp [*]; done)), (by first | rfl | (simp; done) | (simp [*]; done)), H', ⟨by have := HK1.out; omega⟩, by repeat (first | exact Drawn0.refl _ | apply Drawn0.step)⟩
            · replace c7 := Bool.eq_false_iff.mpr c7
              subst c7
              have H1 : (some (0, false)) = some (r1, r2) := by rw [if_neg (show ¬ (false = true) by decide)] at H; exact H
              clear H
              have H := H1
              clear H1
              simp only [Option.some.injEq, Prod.mk.injEq] at H
              obtain ⟨rfl, rfl⟩ := H
              have p145 : 0 ≤ (x5_1 : Int) := of_decide_eq_true (by first | (with_reducible assumption) | assumption)
              have q145 : x5_1 < (l0.length : Int) := of_decide_eq_true (by first | (with_reducible assumption) | assumption)
              obtain ⟨ad145, e145, hx145_0⟩ := Kd.at_int HR0.out x5_1 p145 q145
              cases e145
              replace p145 := eq_true p145
              replace q145 := eq_true q145
              go_wp2_with (first | ((with_reducible refine gate_callee (f := 16) rfl ?_); refine goesL_ (some 16) rfl rfl Try.func16 (by kernel_rfl) rfl #[.int .i64 (rd l0 x5_1)] rfl (by (try simp only [List.map_toArray, List.map_cons, List.map_nil]); first | done | rfl | (simp only [List.length_drop, List.length_take]; rfl)) ?_; (with_reducible refine (drayref1_In.calls (rd l0 x5_1) true _ A4.out).mono ?_); rintro e w' ⟨rfl, ⟨nd, rfl⟩⟩; refine ⟨_, rfl, ?_⟩; have p147 : 0 ≤ (x5_1 : Int) := of_decide_eq_true (by first | (with_reducible assumption) | assumption); have q147 : x5_1 < (l0.length : Int) := of_decide_eq_true (by first | (with_reducible assumption) | assumption); obtain ⟨ad147, e147, hx147_0⟩ := Kd.at_int HR0.out x5_1 p147 q147; obtain rfl : ad145 = ad147 := (by injection e147); replace p147 := eq_true p147; replace q147 := eq_true q147) | (go_at_call 16; (with_reducible refine (drayref1_In.calls (wrap64 (x4_1 + (rd l0 x5_1))) false _ A6.out).mono ?_); rintro e w' ⟨rfl, ⟨nd, rfl⟩⟩))
              go_ret2
              exact ⟨by first | rfl | (simp; done) | (simp [*]; done), by repeat (first | exact Drawn0.refl _ | apply Drawn0.step)⟩
          · replace c5 := Bool.eq_false_iff.mpr c5
            subst c5
            have H1 : (some (0, false)) = some (r1, r2) := by rw [if_neg (show ¬ (false = true) by decide)] at H; exact H
            clear H
            have H := H1
            clear H1
            simp only [Option.some.injEq, Prod.mk.injEq] at H
            obtain ⟨rfl, rfl⟩ := H
            have p145 : 0 ≤ (x5_1 : Int) := of_decide_eq_true (by first | (with_reducible assumption) | assumption)
            have q145 : x5_1 < (l0.length : Int) := of_decide_eq_true (by first | (with_reducible assumption) | assumption)
            obtain ⟨ad145, e145, hx145_0⟩ := Kd.at_int HR0.out x5_1 p145 q145
            cases e145
            replace p145 := eq_true p145
            replace q145 := eq_true q145
            go_wp2_with (first | ((with_reducible refine gate_callee (f := 16) rfl ?_); refine goesL_ (some 16) rfl rfl Try.func16 (by kernel_rfl) rfl #[.int .i64 (rd l0 x5_1)] rfl (by (try simp only [List.map_toArray, List.map_cons, List.map_nil]); first | done | rfl | (simp only [List.length_drop, List.length_take]; rfl)) ?_; (with_reducible refine (drayref1_In.calls (rd l0 x5_1) false _ A4.out).mono ?_); rintro e w' ⟨rfl, ⟨nd, rfl⟩⟩; refine ⟨_, rfl, ?_⟩))
            go_ret2
            exact ⟨by first | rfl | (simp; done) | (simp [*]; done), by repeat (first | exact Drawn0.refl _ | apply Drawn0.step)⟩
        · rw [if_neg c3] at H
          exact absurd H (by simp)
      · rw [if_neg c2] at H
        have c2b0 : decide (x5_1 < (l0.length : Int)) = false := decide_eq_false c2
        clear c2
        simp only [Option.some.injEq, Prod.mk.injEq] at H
        obtain ⟨rfl, rfl⟩ := H
        go_wp2
        go_ret2
        exact ⟨by first | rfl | (simp; done) | (simp [*]; done), by repeat (first | exact Drawn0.refl _ | apply Drawn0.step)⟩

/-! ### drayref1_Clip: function 17 -/
def drayref1_Clip.f (a0 : Int) (a1 : Int) (a2 : Int) : Option (Int) := if a0 < a1 then (some a1) else (if a0 > a2 then (some a2) else (some a0))
set_option maxHeartbeats 8000000 in
set_option maxRecDepth 100000 in
theorem drayref1_Clip.calls (a0 : Int) (a1 : Int) (a2 : Int) (r : Int) (w : World) (h : drayref1_Clip.f a0 a1 a2 = some r) :
    Calls Try.prog 17 #[.int .i64 a0, .int .i64 a1, .int .i64 a2] w fun e w' => e = .returned (.int .i64 r) ∧ Drawn0 w w' := by
  have H : (if a0 < a1 then (some a1) else (if a0 > a2 then (some a2) else (some a0))) = some r := h
  clear h
  by_cases c4 : a0 < a1
  · rw [if_pos c4] at H
    have c4b0 : decide (a0 < a1) = true := decide_eq_true c4
    clear c4
    obtain rfl := Option.some.inj H
    go_enter Try.func17, Try.ntmps17
    go_wp2
    go_ret
    exact ⟨by first | rfl | (simp; done) | (simp [*]; done), by repeat (first | exact Drawn0.refl _ | apply Drawn0.step)⟩
  · rw [if_neg c4] at H
    have c4b0 : decide (a0 < a1) = false := decide_eq_false c4
    clear c4
    by_cases c5 : a0 > a2
    · rw [if_pos c5] at H
      have c5b0 : decide (a2 < a0) = true := decide_eq_true c5
      clear c5
      obtain rfl := Option.some.inj H
      go_enter Try.func17, Try.ntmps17
      go_wp2
      go_ret
      exact ⟨by first | rfl | (simp; done) | (simp [*]; done), by repeat (first | exact Drawn0.refl _ | apply Drawn0.step)⟩
    · rw [if_neg c5] at H
      have c5b0 : decide (a2 < a0) = false := decide_eq_false c5
      clear c5
      obtain rfl := Option.some.inj H
      go_enter Try.func17, Try.ntmps17
      go_wp2
      go_ret
      exact ⟨by first | rfl | (simp; done) | (simp [*]; done), by repeat (first | exact Drawn0.refl _ | apply Drawn0.step)⟩

/-! ### drayref1_Sat: function 20 -/
def drayref1_Sat.l0 : Nat → List Int → Int → Int → Option (Int)
  | 0, _, _, _ => none
  | k + 1, x0, x3, x4 => if x4 < (x0.length : Int) then (if 0 ≤ x4 then ((drayref1_Clip.f (rd x0 x4) (-1125899906842624) 1125899906842624).bind fun t151 => ((drayref1_Clip.f (wrap64 (x3 + t151)) (-1125899906842624) 1125899906842624).bind fun t152 => (drayref1_Sat.l0 k x0 t152 (wrap64 (x4 + 1))))) else (none)) else (some x3)
def drayref1_Sat.f (k : Nat) (l0 : List Int) : Option (Int) := drayref1_Sat.l0 k l0 0 0
theorem drayref1_Sat.mono_l : ∀ k, (∀ y0 y1 y2, LeO (drayref1_Sat.l0 k y0 y1 y2) (drayref1_Sat.l0 (k + 1) y0 y1 y2))
  | 0 => fun _ _ _ r h => by simp [drayref1_Sat.l0] at h
  | k + 1 => by
    have ih0 := drayref1_Sat.mono_l k
    · intro y0 y1 y2
      unfold drayref1_Sat.l0
      repeat' first
      | (with_reducible exact ih0 _ _ _)
      | (with_reducible exact LeO.refl _)
      | (with_reducible exact LeO.none _)
      | (with_reducible refine LeO.ite ?_ ?_)
      | (with_reducible refine LeO.bind ?_ (fun _ => ?_))
      | exact ih0 _ _ _
      | exact LeO.none _
      | refine LeO.ite ?_ ?_
      | refine LeO.bind ?_ (fun _ => ?_)
theorem drayref1_Sat.mono : ∀ a0 k, LeO (drayref1_Sat.f k a0) (drayref1_Sat.f (k + 1) a0) := by
  intro a0 k
  have ih0 := drayref1_Sat.mono_l k
  unfold drayref1_Sat.f
  repeat' first
      | (with_reducible exact ih0 _ _ _)
      | (with_reducible exact LeO.refl _)
      | (with_reducible exact LeO.none _)
      | (with_reducible refine LeO.ite ?_ ?_)
      | (with_reducible refine LeO.bind ?_ (fun _ => ?_))
      | exact ih0 _ _ _
      | exact LeO.none _
      | refine LeO.ite ?_ ?_
      | refine LeO.bind ?_ (fun _ => ?_)
set_option maxHeartbeats 8000000 in
set_option maxRecDepth 100000 in
theorem drayref1_Sat.calls (k : Nat) (A0 : Option Addr) (c0 : Nat) (l0 : List Int) (r : Int) (w : World) (hr0 : Kd.C (Kd.int .i64) w A0 l0.length l0) (hc0 : l0.length ≤ c0) (h : drayref1_Sat.f k l0 = some r) :
    Calls Try.prog 20 #[.slice A0 l0.length c0] w fun e w' => e = .returned (.int .i64 r) ∧ Drawn0 w w' := by
  have HR0 := Aside0.mk hr0
  have HC0 := Aside0.mk hc0
  clear hr0 hc0
  have H : (drayref1_Sat.l0 k l0 0 0) = some r := h
  clear h
  have H' := Aside0.mk H
  clear H
  go_enter Try.func20, Try.ntmps20
  go_wp2
  go_loopg [3, 4] k (fun kq v3 v4 w' => ∃ (x3_1 : Int) (x4_1 : Int), v3 = .int .i64 x3_1 ∧ v4 = .int .i64 x4_1 ∧ Aside0 (drayref1_Sat.l0 kq l0 x3_1 x4_1 = some r) ∧ Aside0 (kq ≤ k) ∧ Drawn0 w w')
  case atStart => exact ⟨(0), (0), (by first | rfl | (simp; done) | (simp [*]; done)), (by first | rfl | (simp; done) | (simp [*]; done)), H', ⟨Nat.le_refl _⟩, by repeat (first | exact Drawn0.refl _ | apply Drawn0.step)⟩
  case round =>
    clear H'
    obtain ⟨x3_1, x4_1, rfl, rfl, HA, HK1, ⟨m1, rfl⟩⟩ := hrel
    cases gk with
    | zero => exact absurd HA.out (by simp [drayref1_Sat.l0])
    | succ k1 =>
      have H := HA.out
      clear HA
      simp only [drayref1_Sat.l0] at H
      by_cases c2 : x4_1 < (l0.length : Int)
      · rw [if_pos c2] at H
        have c2b0 : decide (x4_1 < (l0.length : Int)) = true := decide_eq_true c2
        clear c2
        by_cases c3 : 0 ≤ x4_1
        · rw [if_pos c3] at H
          have c3b0 : decide (0 ≤ x4_1) = true := decide_eq_true c3
          clear c3
          replace H := Option.bind_eq_some_iff.mp H
          obtain ⟨t151, A40, H⟩ := H
          replace H : ((drayref1_Clip.f (wrap64 (x3_1 + t151)) (-1125899906842624) 1125899906842624).bind fun t152 => (drayref1_Sat.l0 k1 l0 t152 (wrap64 (x4_1 + 1)))) = some r := H
          have A4 := Aside0.mk A40
          clear A40
          replace H := Option.bind_eq_some_iff.mp H
          obtain ⟨t152, A50, H⟩ := H
          replace H : (drayref1_Sat.l0 k1 l0 t152 (wrap64 (x4_1 + 1))) = some r := H
          have A5 := Aside0.mk A50
          clear A50
          have H' := Aside0.mk H
          clear H
          have p150 : 0 ≤ (x4_1 : Int) := of_decide_eq_true (by first | (with_reducible assumption) | assumption)
          have q150 : x4_1 < (l0.length : Int) := of_decide_eq_true (by first | (with_reducible assumption) | assumption)
          obtain ⟨ad150, e150, hx150_0⟩ := Kd.at_int HR0.out x4_1 p150 q150
          cases e150
          replace p150 := eq_true p150
          replace q150 := eq_true q150
          go_wp2_with (first | ((with_reducible refine gate_callee (f := 17) rfl ?_); refine goesL_ (some 16) rfl rfl Try.func17 (by kernel_rfl) rfl #[.int .i64 (rd l0 x4_1), .int .i64 (-1125899906842624), .int .i64 1125899906842624] rfl (by (try simp only [List.map_toArray, List.map_cons, List.map_nil]); first | done | rfl | (simp only [List.length_drop, List.length_take]; rfl)) ?_; (with_reducible refine (drayref1_Clip.calls (rd l0 x4_1) (-1125899906842624) 1125899906842624 t151 _ A4.out).mono ?_); rintro e w' ⟨rfl, ⟨nd, rfl⟩⟩; refine ⟨_, rfl, ?_⟩) | ((with_reducible refine gate_callee (f := 17) rfl ?_); refine goesL_ (some 18) rfl rfl Try.func17 (by kernel_rfl) rfl #[.int .i64 (wrap64 (x3_1 + t151)), .int .i64 (-1125899906842624), .int .i64 1125899906842624] rfl (by (try simp only [List.map_toArray, List.map_cons, List.map_nil]); first | done | rfl | (simp only [List.length_drop, List.length_take]; rfl)) ?_; (with_reducible refine (drayref1_Clip.calls (wrap64 (x3_1 + t151)) (-1125899906842624) 1125899906842624 t152 _ A5.out).mono ?_); rintro e w' ⟨rfl, ⟨nd, rfl⟩⟩; refine ⟨_, rfl, ?_⟩))
          go_roundg k1
          case measure => have := HK1.out; omega
          case rel => exact ⟨(t152), (wrap64 (x4_1 + 1)), (by first | rfl | (simp; done) | (simp [*]; done)), (by first | rfl | (simp; done) | (simp [*]; done)), H', ⟨by have := HK1.out; omega⟩, by repeat (first | exact Drawn0.refl _ | apply Drawn0.step)⟩
        · rw [if_neg c3] at H
          exact absurd H (by simp)
      · rw [if_neg c2] at H
        have c2b0 : decide (x4_1 < (l0.length : Int)) = false := decide_eq_false c2
        clear c2
        obtain rfl := Option.some.inj H
        go_wp2
        go_ret
        exact ⟨by first | rfl | (simp; done) | (simp [*]; done), by repeat (first | exact Drawn0.refl _ | apply Drawn0.step)⟩

end Go.Proofs.Ythgjbmmclbpkeaa.PNumSums
