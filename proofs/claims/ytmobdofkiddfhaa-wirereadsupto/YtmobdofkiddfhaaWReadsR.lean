/- WireReads, as the row asks for it. -/
import Derived.Test.YtmobdofkiddfhaaWReads2
import Derived.Test.YtmobdofkiddfhaaOpenI
set_option linter.unusedVariables false
namespace Go.Proofs.Ytmobdofkiddfhaa
open Go.RowKit B
theorem wireReads_row (b : List Int) {A : Option Addr} {c : Nat} {w : World} (hrow : Row w A (B8 b)) (hc : b.length ≤ c) (hlen : c ≤ 1048576) (hb : Byt b) (x : ItsA) (hx : Its w x.a x.its ∧ x.its.length ≤ x.cap ∧ x.cap ≤ 1048576) :
    Calls Try.prog 6 #[.slice A b.length c, x.val] w fun e w' => e = .returned (.bool true) ∧ Ext None_ w w' :=
  wireReads_any b x.its hrow hb hc hlen hx.1 hx.2.1 hx.2.2
end Go.Proofs.Ytmobdofkiddfhaa
