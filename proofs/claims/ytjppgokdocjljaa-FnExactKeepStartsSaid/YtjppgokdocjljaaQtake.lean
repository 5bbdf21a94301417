/- A start taken out of rungs, as a plain function. No program, no memory. -/
import Derived.Test.YtjppgokdocjljaaQovr
namespace Go.Proofs.Ytjppgokdocjljaa.Q
open Go.RowKit Go.Proofs.Ytjppgokdocjljaa.B Go.Proofs.YtjppgokdocjljaaW.PrintWords Go.Proofs.YtjppgokdocjljaaW.PrintLast Go.Proofs.YtjppgokdocjljaaW.PrintMore
set_option linter.unusedVariables false
set_option linter.unusedSimpArgs false
def tk (s : Int) : List Int → List Int
  | [] => []
  | r :: l => if ovr s r = s then (if s < r then wrap64 (r - 1) :: tk s l else r :: tk s l) else tk (ovr s r) l
theorem tk_length (l : List Int) : ∀ s, (tk s l).length ≤ l.length := by
  induction l with
  | nil => intro s; simp [tk]
  | cons r l ih =>
    intro s
    unfold tk
    split
    · split
      · simp; exact ih s
      · simp; exact ih s
    · have := ih (ovr s r); simp; omega
end Go.Proofs.Ytjppgokdocjljaa.Q
