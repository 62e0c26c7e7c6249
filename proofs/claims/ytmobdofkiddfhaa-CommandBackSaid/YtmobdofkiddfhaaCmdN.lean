/- Package command: named, Right; drayref15.Right. -/
import Derived.Test.YtmobdofkiddfhaaCmdGa
set_option linter.unusedVariables false
set_option linter.unusedSimpArgs false
namespace Go.Proofs.Ytmobdofkiddfhaa
open Go.RowKit B
structure Nmd where
  o : Bool
  d : Bool
  i : Bool
  c : Bool
  ok : Bool
def nmd (k : Int) : Nmd := if k = 1 then ⟨true, false, false, false, true⟩ else if k = 2 ∨ k = 4 ∨ k = 7 then ⟨false, false, true, false, true⟩ else if k = 3 then ⟨false, true, false, false, true⟩ else if k = 5 then ⟨false, false, true, true, true⟩ else if k = 6 then ⟨false, false, false, true, true⟩ else ⟨false, false, false, false, false⟩
theorem results_tmp5 {fn : Func} {t u v x y : Tmp} (h : fn.results = #[.tmp t, .tmp u, .tmp v, .tmp x, .tmp y]) (tmps : Array Value) (P : Program) (w : World) :
    (results fn tmps).run P w = .ok (.tuple #[tmps.getD t undef, tmps.getD u undef, tmps.getD v undef, tmps.getD x undef, tmps.getD y undef]) w := by
  simp [results, h]
set_option maxRecDepth 100000 in
set_option maxHeartbeats 4000000 in
theorem named_any (k : Int) (w : World) :
    Calls Try.prog 79 #[.int .i64 k] w fun e w' => e = .returned (.tuple #[.bool (nmd k).o, .bool (nmd k).d, .bool (nmd k).i, .bool (nmd k).c, .bool (nmd k).ok]) ∧ w = w' := by
  by_cases k1 : k = 1
  · have hn : nmd k = ⟨true, false, false, false, true⟩ := by simp [nmd, k1]
    have e1 : (k == 1) = true := by simp [k1]
    have e2 : (k == 2) = false := by simp [k1]
    have e4 : (k == 4) = false := by simp [k1]
    have e7 : (k == 7) = false := by simp [k1]
    have e3 : (k == 3) = false := by simp [k1]
    have e5 : (k == 5) = false := by simp [k1]
    have e6 : (k == 6) = false := by simp [k1]
    rw [hn]
    clear hn k1
    go_enter Try.func79, Try.ntmps79
    go_wp2_with fail
    refine bodyPost_ret (results_tmp5 rfl _ _ _) rfl ?_
    exact ⟨rfl, rfl⟩
  by_cases k2 : k = 2
  · have hn : nmd k = ⟨false, false, true, false, true⟩ := by simp [nmd, k2]
    have e1 : (k == 1) = false := by simp [k2]
    have e2 : (k == 2) = true := by simp [k2]
    have e4 : (k == 4) = false := by simp [k2]
    have e7 : (k == 7) = false := by simp [k2]
    have e3 : (k == 3) = false := by simp [k2]
    have e5 : (k == 5) = false := by simp [k2]
    have e6 : (k == 6) = false := by simp [k2]
    rw [hn]
    clear hn k2
    go_enter Try.func79, Try.ntmps79
    go_wp2_with fail
    refine bodyPost_ret (results_tmp5 rfl _ _ _) rfl ?_
    exact ⟨rfl, rfl⟩
  by_cases k4 : k = 4
  · have hn : nmd k = ⟨false, false, true, false, true⟩ := by simp [nmd, k4]
    have e1 : (k == 1) = false := by simp [k4]
    have e2 : (k == 2) = false := by simp [k4]
    have e4 : (k == 4) = true := by simp [k4]
    have e7 : (k == 7) = false := by simp [k4]
    have e3 : (k == 3) = false := by simp [k4]
    have e5 : (k == 5) = false := by simp [k4]
    have e6 : (k == 6) = false := by simp [k4]
    rw [hn]
    clear hn k4
    go_enter Try.func79, Try.ntmps79
    go_wp2_with fail
    refine bodyPost_ret (results_tmp5 rfl _ _ _) rfl ?_
    exact ⟨rfl, rfl⟩
  by_cases k7 : k = 7
  · have hn : nmd k = ⟨false, false, true, false, true⟩ := by simp [nmd, k7]
    have e1 : (k == 1) = false := by simp [k7]
    have e2 : (k == 2) = false := by simp [k7]
    have e4 : (k == 4) = false := by simp [k7]
    have e7 : (k == 7) = true := by simp [k7]
    have e3 : (k == 3) = false := by simp [k7]
    have e5 : (k == 5) = false := by simp [k7]
    have e6 : (k == 6) = false := by simp [k7]
    rw [hn]
    clear hn k7
    go_enter Try.func79, Try.ntmps79
    go_wp2_with fail
    refine bodyPost_ret (results_tmp5 rfl _ _ _) rfl ?_
    exact ⟨rfl, rfl⟩
  by_cases k3 : k = 3
  · have hn : nmd k = ⟨false, true, false, false, true⟩ := by simp [nmd, k3]
    have e1 : (k == 1) = false := by simp [k3]
    have e2 : (k == 2) = false := by simp [k3]
    have e4 : (k == 4) = false := by simp [k3]
    have e7 : (k == 7) = false := by simp [k3]
    have e3 : (k == 3) = true := by simp [k3]
    have e5 : (k == 5) = false := by simp [k3]
    have e6 : (k == 6) = false := by simp [k3]
    rw [hn]
    clear hn k3
    go_enter Try.func79, Try.ntmps79
    go_wp2_with fail
    refine bodyPost_ret (results_tmp5 rfl _ _ _) rfl ?_
    exact ⟨rfl, rfl⟩
  by_cases k5 : k = 5
  · have hn : nmd k = ⟨false, false, true, true, true⟩ := by simp [nmd, k5]
    have e1 : (k == 1) = false := by simp [k5]
    have e2 : (k == 2) = false := by simp [k5]
    have e4 : (k == 4) = false := by simp [k5]
    have e7 : (k == 7) = false := by simp [k5]
    have e3 : (k == 3) = false := by simp [k5]
    have e5 : (k == 5) = true := by simp [k5]
    have e6 : (k == 6) = false := by simp [k5]
    rw [hn]
    clear hn k5
    go_enter Try.func79, Try.ntmps79
    go_wp2_with fail
    refine bodyPost_ret (results_tmp5 rfl _ _ _) rfl ?_
    exact ⟨rfl, rfl⟩
  by_cases k6 : k = 6
  · have hn : nmd k = ⟨false, false, false, true, true⟩ := by simp [nmd, k6]
    have e1 : (k == 1) = false := by simp [k6]
    have e2 : (k == 2) = false := by simp [k6]
    have e4 : (k == 4) = false := by simp [k6]
    have e7 : (k == 7) = false := by simp [k6]
    have e3 : (k == 3) = false := by simp [k6]
    have e5 : (k == 5) = false := by simp [k6]
    have e6 : (k == 6) = true := by simp [k6]
    rw [hn]
    clear hn k6
    go_enter Try.func79, Try.ntmps79
    go_wp2_with fail
    refine bodyPost_ret (results_tmp5 rfl _ _ _) rfl ?_
    exact ⟨rfl, rfl⟩
  have hn : nmd k = ⟨false, false, false, false, false⟩ := by simp [nmd, k1, k2, k4, k7, k3, k5, k6]
  have e1 : (k == 1) = false := by simp [k1]
  have e2 : (k == 2) = false := by simp [k2]
  have e4 : (k == 4) = false := by simp [k4]
  have e7 : (k == 7) = false := by simp [k7]
  have e3 : (k == 3) = false := by simp [k3]
  have e5 : (k == 5) = false := by simp [k5]
  have e6 : (k == 6) = false := by simp [k6]
  rw [hn]
  clear hn k1 k2 k4 k7 k3 k5 k6
  go_enter Try.func79, Try.ntmps79
  go_wp2_with fail
  refine bodyPost_ret (results_tmp5 rfl _ _ _) rfl ?_
  exact ⟨rfl, rfl⟩
end Go.Proofs.Ytmobdofkiddfhaa
