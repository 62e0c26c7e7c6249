-- Laid by wip/xprint (a turned scratch copy of the kit's print): this session's text; Lean checks it.
import Derived.Test.YtdfpobcfcjmbdaaPSumBurstsx0
import Derived.Test.YtdfpobcfcjmbdaaPSumBurstsx1
import Derived.Test.YtdfpobcfcjmbdaaPSumBurstsx2
import Derived.Test.YtdfpobcfcjmbdaaPSumBurstsx3
namespace Go.Proofs.Ytdfpobcfcjmbdaa.PSumBursts
open Go.RowKit Go.Proofs.YtdfpobcfcjmbdaaW.PrintWords Go.Proofs.YtdfpobcfcjmbdaaW.PrintLast Go.Proofs.YtdfpobcfcjmbdaaW.PrintMore
attribute [local go_sem] max2_int min2_int max_two min_two max_three min_three max_four min_four   -- for this text's walks alone
set_option linter.unusedVariables false
set_option linter.unusedSimpArgs false

end Go.Proofs.Ytdfpobcfcjmbdaa.PSumBursts
