/- What the program asks of a placing game. No program, no memory. -/
import Derived.Test.YthpdhoplddlieaaB9
import Derived.Test.YthpdhoplddlieaaB12
import Derived.Test.YthpdhoplddlieaaQbetween
namespace Go.Proofs.Ythpdhoplddlieaa.Q
open Go.RowKit Go.Proofs.Ythpdhoplddlieaa.B Go.Proofs.YthpdhoplddlieaaW.PrintWords Go.Proofs.YthpdhoplddlieaaW.PrintLast Go.Proofs.YthpdhoplddlieaaW.PrintMore
set_option linter.unusedVariables false
set_option linter.unusedSimpArgs false
theorem isPlacing_f (a w g m : Int) : impl_isPlacing.f a w g m = some (inB a 2 8 && (inB w 0 (wrap64 (a - 1)) && (inB g 0 (wrap64 (a - 1)) && inB m 0 8))) := by
  unfold impl_isPlacing.f impl_isWires.f
  simp only [btw_f, Option.bind_some]
  cases inB a 2 8 <;> cases inB w 0 (wrap64 (a - 1)) <;> cases inB g 0 (wrap64 (a - 1)) <;> simp
end Go.Proofs.Ythpdhoplddlieaa.Q
