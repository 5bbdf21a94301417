/- Who wins the placing game. No program, no memory. -/
import Derived.Test.YthpdhoplddlieaaQovr
namespace Go.Proofs.Ythpdhoplddlieaa.Q
open Go.RowKit Go.Proofs.Ythpdhoplddlieaa.B Go.Proofs.YthpdhoplddlieaaW.PrintWords Go.Proofs.YthpdhoplddlieaaW.PrintLast Go.Proofs.YthpdhoplddlieaaW.PrintMore
set_option linter.unusedVariables false
set_option linter.unusedSimpArgs false
/-- Who wins with so many moves left, where the next one is the first one's or not. -/
def win (n : Nat) (goal : Int) : Nat → Bool → Int → Bool
  | 0, _, w => w == goal
  | m + 1, f, w => if f = true then (List.range' 0 (n - 1)).any (fun r => win n goal m (!f) (ovr w r)) else (List.range' 0 (n - 1)).all (fun r => win n goal m (!f) (ovr w r))
end Go.Proofs.Ythpdhoplddlieaa.Q
