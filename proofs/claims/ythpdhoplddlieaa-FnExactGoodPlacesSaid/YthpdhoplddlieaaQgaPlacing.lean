/- What the reference asks of a placing game. No program, no memory. -/
import Derived.Test.YthpdhoplddlieaaB9
import Derived.Test.YthpdhoplddlieaaQl1In
namespace Go.Proofs.Ythpdhoplddlieaa.Q
open Go.RowKit Go.Proofs.Ythpdhoplddlieaa.B Go.Proofs.YthpdhoplddlieaaW.PrintWords Go.Proofs.YthpdhoplddlieaaW.PrintLast Go.Proofs.YthpdhoplddlieaaW.PrintMore
set_option linter.unusedVariables false
set_option linter.unusedSimpArgs false
theorem gaPlacing_f (a g m : Int) : spec_gaPlacing.f a g m = some (inB a 2 8 && (inB g 0 (wrap64 (a - 1)) && inB m 0 8)) := by
  unfold spec_gaPlacing.f
  simp only [l1In_f, Option.bind_some]
  cases inB a 2 8 <;> cases inB g 0 (wrap64 (a - 1)) <;> simp
end Go.Proofs.Ythpdhoplddlieaa.Q
