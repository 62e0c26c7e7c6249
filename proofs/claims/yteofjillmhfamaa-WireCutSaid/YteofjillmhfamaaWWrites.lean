/- Chapter 3's statements, walked: WireWrites. -/
import Derived.Test.YteofjillmhfamaaWPut
set_option linter.unusedVariables false
set_option linter.unusedSimpArgs false
namespace Go.Proofs.Yteofjillmhfamaa
open Go.RowKit B
theorem putI_any (A : Option Addr) (c : Nat) (l : List Int) (x : Item) (A2 : Option Addr) (c2 : Nat) (w : World) (hrow : Row w A (B8 l)) (hx : ItOk w x A2 c2) (hlen : l.length ≤ 4000) :
    Calls Try.prog 17 #[.slice A l.length c, x.val A2 c2] w fun e w' => ∃ v1 v2, e = .returned (.tuple #[v1, v2]) ∧ OwnB w' (fun k => w.heap.size ≤ k) v1 (l ++ encI x) ∧ OwnB w' (fun k => w.heap.size ≤ k) v2 (l ++ encI x) ∧ Ext None_ w w' := by
  by_cases k1 : x.kind = 1
  · exact put1_any A c l x A2 c2 w hrow hx hlen (by simp [k1])
  by_cases k2 : x.kind = 2
  · exact put2_any A c l x A2 c2 w hrow hx hlen (by simp [k2])
  by_cases k3 : x.kind = 3
  · exact put3_any A c l x A2 c2 w hrow hx hlen (by simp [k3])
  by_cases k4 : x.kind = 4
  · exact put4_any A c l x A2 c2 w hrow hx hlen (by simp [k4])
  exact put5_any A c l x A2 c2 w hrow hx hlen (by simp [k1, k2, k3, k4])
end Go.Proofs.Yteofjillmhfamaa
