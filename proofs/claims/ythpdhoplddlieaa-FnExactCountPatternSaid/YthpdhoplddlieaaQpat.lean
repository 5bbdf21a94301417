/- The pattern of a list at places. No program, no memory. -/
import Derived.Test.YthpdhoplddlieaaQ0
namespace Go.Proofs.Ythpdhoplddlieaa.Q
open Go.RowKit Go.Proofs.Ythpdhoplddlieaa.B Go.Proofs.YthpdhoplddlieaaW.PrintWords Go.Proofs.YthpdhoplddlieaaW.PrintLast Go.Proofs.YthpdhoplddlieaaW.PrintMore
set_option linter.unusedVariables false
set_option linter.unusedSimpArgs false
def lessN (p : List Int) (l : List Int) (i : Int) : Int := ((l.filter fun j => decide (rd p j < rd p i)).length : Int)
def patL (p l : List Int) : List Int := l.map (lessN p l)
theorem lessN_le (p l : List Int) (i : Int) : 0 ≤ lessN p l i ∧ lessN p l i ≤ l.length := by
  unfold lessN; have := List.length_filter_le (fun j => decide (rd p j < rd p i)) l; omega
end Go.Proofs.Ythpdhoplddlieaa.Q
