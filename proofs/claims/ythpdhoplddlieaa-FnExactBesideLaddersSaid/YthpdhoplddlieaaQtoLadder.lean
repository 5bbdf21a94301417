/- toLadder copies a ladder. No program, no memory. -/
import Derived.Test.YthpdhoplddlieaaB1
import Derived.Test.YthpdhoplddlieaaQtoIntS
namespace Go.Proofs.Ythpdhoplddlieaa.Q
open Go.RowKit Go.Proofs.Ythpdhoplddlieaa.B Go.Proofs.YthpdhoplddlieaaW.PrintWords Go.Proofs.YthpdhoplddlieaaW.PrintLast Go.Proofs.YthpdhoplddlieaaW.PrintMore
set_option linter.unusedVariables false
set_option linter.unusedSimpArgs false
theorem toLadder_ev (a : Int) (l : List Int) (hn : l.length ≤ 17592186043904) : Ev (fun k => laws_toLadder.f k a l) (a, l) := by
  unfold laws_toLadder.f
  exact Ev.bind (toIntS_ev l hn) (Ev.now _)
end Go.Proofs.Ythpdhoplddlieaa.Q
