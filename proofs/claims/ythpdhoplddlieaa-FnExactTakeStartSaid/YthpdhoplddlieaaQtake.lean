/- A start taken out of rungs, as a plain function. No program, no memory. -/
import Derived.Test.YthpdhoplddlieaaQovr
namespace Go.Proofs.Ythpdhoplddlieaa.Q
open Go.RowKit Go.Proofs.Ythpdhoplddlieaa.B Go.Proofs.YthpdhoplddlieaaW.PrintWords Go.Proofs.YthpdhoplddlieaaW.PrintLast Go.Proofs.YthpdhoplddlieaaW.PrintMore
set_option linter.unusedVariables false
set_option linter.unusedSimpArgs false
def tk (s : Int) : List Int → List Int
  | [] => []
  | r :: l => if ovr s r = s then (if s < r then wrap64 (r - 1) :: tk s l else r :: tk s l) else tk (ovr s r) l
theorem tk_length (l : List Int) : ∀ s, (tk s l).length ≤ l.length := by
  induction l with
  | nil => intro s; simp [tk]
  | cons r l ih =>
    intro s
    unfold tk
    split
    · split
      · simp; exact ih s
      · simp; exact ih s
    · have := ih (ovr s r); simp; omega
end Go.Proofs.Ythpdhoplddlieaa.Q
