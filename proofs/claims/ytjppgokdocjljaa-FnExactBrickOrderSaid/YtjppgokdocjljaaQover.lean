/- The program's going over a rung. No program, no memory. -/
import Derived.Test.YtjppgokdocjljaaB2
import Derived.Test.YtjppgokdocjljaaQovr
namespace Go.Proofs.Ytjppgokdocjljaa.Q
open Go.RowKit Go.Proofs.Ytjppgokdocjljaa.B Go.Proofs.YtjppgokdocjljaaW.PrintWords Go.Proofs.YtjppgokdocjljaaW.PrintLast Go.Proofs.YtjppgokdocjljaaW.PrintMore
set_option linter.unusedVariables false
set_option linter.unusedSimpArgs false
theorem over_f (w r : Int) : impl_over.f w r = some (ovr w r) := by
  unfold impl_over.f ovr; split
  · rfl
  · split <;> rfl
end Go.Proofs.Ytjppgokdocjljaa.Q
