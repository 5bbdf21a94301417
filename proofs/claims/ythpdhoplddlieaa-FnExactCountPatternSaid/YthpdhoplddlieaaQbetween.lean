/- The program's bounds. No program, no memory. -/
import Derived.Test.YthpdhoplddlieaaB2
import Derived.Test.YthpdhoplddlieaaQ0
namespace Go.Proofs.Ythpdhoplddlieaa.Q
open Go.RowKit Go.Proofs.Ythpdhoplddlieaa.B Go.Proofs.YthpdhoplddlieaaW.PrintWords Go.Proofs.YthpdhoplddlieaaW.PrintLast Go.Proofs.YthpdhoplddlieaaW.PrintMore
set_option linter.unusedVariables false
set_option linter.unusedSimpArgs false
theorem btw_f (a b c : Int) : impl_between.f a b c = some (inB a b c) := by
  unfold impl_between.f inB
  split
  · rename_i h; simp [h]
  · rename_i h; simp; omega
end Go.Proofs.Ythpdhoplddlieaa.Q
