/- Chapter 21's runs; draylaw21.FrameRuns answers true; no condition. -/
import Derived.Test.YtdkpcfgomdfadaaPFrameRunsx3
import Derived.Test.YtdkpcfgomdfadaaWWords
namespace Go.Proofs.Ytdkpcfgomdfadaa.Pure
open Go.RowKit Go.Proofs.Ytdkpcfgomdfadaa.PFrameRuns Go.Proofs.YtdkpcfgomdfadaaW.PrintWords Go.Proofs.YtdkpcfgomdfadaaW.PrintLast

theorem FrameRuns : ∃ k, draylaw21_FrameRuns.f k = some true := ⟨200, by decide +kernel⟩

end Go.Proofs.Ytdkpcfgomdfadaa.Pure
