/- The reference's bounds. No program, no memory. -/
import Derived.Test.YtkbojnmepapkhaaB1
import Derived.Test.YtkbojnmepapkhaaQ0
namespace Go.Proofs.Ytkbojnmepapkhaa.Q
open Go.RowKit Go.Proofs.Ytkbojnmepapkhaa.B Go.Proofs.YtkbojnmepapkhaaW.PrintWords Go.Proofs.YtkbojnmepapkhaaW.PrintLast Go.Proofs.YtkbojnmepapkhaaW.PrintMore
set_option linter.unusedVariables false
set_option linter.unusedSimpArgs false
theorem l1In_f (a b c : Int) : spec_l1In.f a b c = some (inB a b c) := by
  unfold spec_l1In.f inB
  split
  · rename_i h; simp [h]
  · rename_i h; simp; omega
theorem inB_iff (a b c : Int) : inB a b c = true ↔ b ≤ a ∧ a ≤ c := by unfold inB; simp
end Go.Proofs.Ytkbojnmepapkhaa.Q
