/- WireCut, as the row asks for it. -/
import Derived.Test.YtmobdofkiddfhaaWCut
import Derived.Test.YtmobdofkiddfhaaOpenI
set_option linter.unusedVariables false
namespace Go.Proofs.Ytmobdofkiddfhaa
open Go Go.RowKit B
theorem wireCut_row {w : World} (x : ItA) (hx : ItOk w x.x x.A x.c) (n : Int) (hn : (Lit.int .i64 n).wf = true) :
    Calls Try.prog 8 #[x.val, .int .i64 n] w fun e w' => e = .returned (.bool true) ∧ Ext None_ w w' :=
  wireCut_any x.x x.A x.c n hx (i64_of hn)
end Go.Proofs.Ytmobdofkiddfhaa
