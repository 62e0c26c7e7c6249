/- Chapter 2's closed runs come out true: draylaw2.SumRuns answers true; no condition. -/
import Derived.Test.YtdfpobcfcjmbdaaPSumRunsx
import Derived.Test.YtdfpobcfcjmbdaaWWords
import Derived.Laws.BitsLemmas
namespace Go.Proofs.Ytdfpobcfcjmbdaa.Pure
open Go.RowKit Go.Proofs.Ytdfpobcfcjmbdaa.PSumRuns Go.Proofs.YtdfpobcfcjmbdaaW.PrintWords Go.Proofs.YtdfpobcfcjmbdaaW.PrintLast
set_option linter.unusedVariables false
set_option linter.unusedSimpArgs false

theorem runs1 : ∃ k, draylaw2_SumRuns.f k = some true := ⟨200, by decide +kernel⟩
theorem runs : ∃ K, ∀ k, K ≤ k → draylaw2_SumRuns.f k = some true := by
  obtain ⟨K, hK⟩ := runs1
  exact ⟨K, fun k hk => at_rounds draylaw2_SumRuns.mono hk hK⟩
theorem SumRuns : ∃ k, draylaw2_SumRuns.f k = some true := runs1

end Go.Proofs.Ytdfpobcfcjmbdaa.Pure
