/- The reference's going over a rung. No program, no memory. -/
import Derived.Test.YtjppgokdocjljaaB2
import Derived.Test.YtjppgokdocjljaaQovr
namespace Go.Proofs.Ytjppgokdocjljaa.Q
open Go.RowKit Go.Proofs.Ytjppgokdocjljaa.B Go.Proofs.YtjppgokdocjljaaW.PrintWords Go.Proofs.YtjppgokdocjljaaW.PrintLast Go.Proofs.YtjppgokdocjljaaW.PrintMore
set_option linter.unusedVariables false
set_option linter.unusedSimpArgs false
theorem laOver_f (w r : Int) : spec_laOver.f w r = some (ovr w r) := by
  unfold spec_laOver.f ovr; split
  · rfl
  · split <;> rfl
end Go.Proofs.Ytjppgokdocjljaa.Q
