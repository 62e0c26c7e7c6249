/- Package net, walked: draykeep.Message, drayref22.Entries of messages without entries. -/
import Derived.Test.YthjabbheobpoeaaNi
set_option linter.unusedVariables false
set_option linter.unusedSimpArgs false
namespace Go.Proofs.Ythjabbheobpoeaa
open Go.RowKit B
set_option maxRecDepth 100000 in
set_option maxHeartbeats 4000000 in
theorem Entries_nil (A B : Option Addr) (c d : Nat) (w : World) : Calls Try.prog 26 #[.slice A 0 c, .slice B 0 d] w fun e w' => e = .returned (.bool true) ∧ w = w' := by
  go_enter Try.func26, Try.ntmps26
  go_wp2_with fail
  go_loopw [5] (fun v5 wr => v5 = .int .i64 0 ∧ w = wr) (fun _ _ => 0)
  case atStart => exact ⟨rfl, rfl⟩
  case round =>
    obtain ⟨rfl, rfl⟩ := hrel
    go_wp2_with fail
    go_ret
    exact ⟨rfl, rfl⟩
set_option maxRecDepth 100000 in
set_option maxHeartbeats 8000000 in
theorem Message_nil (q : Msg) (hq : q.es = []) (A B : Option Addr) (c d : Nat) (w : World) : Calls Try.prog 12 #[.agg (msgC q A c), .agg (msgC q B d)] w fun e w' => e = .returned (.bool true) ∧ Ext None_ w w' := by
  obtain ⟨k, f, t, tm, ix, at_, cm, yes, es, snap⟩ := q
  have hq : es = [] := hq
  subst hq
  go_enter Try.func12, Try.ntmps12
  go_wp2_with (go_at_call 26; refine (Entries_nil A B c d _).mono ?_; rintro e w1 ⟨rfl, rfl⟩)
  go_ret
  exact ⟨rfl, (x0 w _).trans0 (x0 _ _)⟩
end Go.Proofs.Ythjabbheobpoeaa
