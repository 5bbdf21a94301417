/- The pure statement of FnExactFirstDesk: both first desks are 3:0,1, and marks put into the one are found again. Conditions: none. -/
import Derived.Test.YtgbpkajbddokoaaB3
import Derived.Test.YtgbpkajbddokoaaQ0
namespace Go.Proofs.Ytgbpkajbddokoaa.Q
open Go.RowKit Go.Proofs.Ytgbpkajbddokoaa.B Go.Proofs.YtgbpkajbddokoaaW.PrintWords Go.Proofs.YtgbpkajbddokoaaW.PrintLast Go.Proofs.YtgbpkajbddokoaaW.PrintMore
set_option linter.unusedVariables false
set_option linter.unusedSimpArgs false
theorem FnExactFirstDesk : ∃ k, laws_FnExactFirstDesk.f k = some true := ⟨10, by decide +kernel⟩
end Go.Proofs.Ytgbpkajbddokoaa.Q
