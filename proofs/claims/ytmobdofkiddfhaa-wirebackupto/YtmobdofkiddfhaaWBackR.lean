/- WireBack, as the row asks for it. -/
import Derived.Test.YtmobdofkiddfhaaWBackL
import Derived.Test.YtmobdofkiddfhaaOpenI
set_option linter.unusedVariables false
namespace Go.Proofs.Ytmobdofkiddfhaa
open Go.RowKit B
theorem wireBack_row {w : World} (x : ItsA) (hx : Its w x.a x.its ∧ x.its.length ≤ x.cap ∧ x.cap ≤ 1048576) (b : List Int) {A : Option Addr} {c : Nat} (hrow : Row w A (B8 b)) (hc : b.length ≤ c) (hlen : c ≤ 1048576) (hb : Byt b) :
    Calls Try.prog 7 #[x.val, .slice A b.length c] w fun e w' => e = .returned (.bool true) ∧ Ext None_ w w' :=
  wireBack_any x.its b hx.1 hx.2.1 hx.2.2 hrow hb hc hlen
end Go.Proofs.Ytmobdofkiddfhaa
