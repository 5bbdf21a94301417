/- A ladder, if it is one: the reference's laIf and the program's checked. No program, no memory. -/
import Derived.Test.YthpdhoplddlieaaB4
import Derived.Test.YthpdhoplddlieaaB16
import Derived.Test.YthpdhoplddlieaaQlaGood
namespace Go.Proofs.Ythpdhoplddlieaa.Q
open Go.RowKit Go.Proofs.Ythpdhoplddlieaa.B Go.Proofs.YthpdhoplddlieaaW.PrintWords Go.Proofs.YthpdhoplddlieaaW.PrintLast Go.Proofs.YthpdhoplddlieaaW.PrintMore
set_option linter.unusedVariables false
set_option linter.unusedSimpArgs false
def ifLadder (a : Int) (l : List Int) : Int × List Int × Bool := if isLadderB a l = true then (a, l, true) else (0, [], false)
theorem laIf_ev (a : Int) (l : List Int) : Ev (fun k => spec_laIf.f k a l) (ifLadder a l) := by
  unfold spec_laIf.f ifLadder
  refine Ev.bind (laGood_ev a l) ?_
  refine Ev.iteb (fun h => ?_) (fun h => ?_)
  · rw [h]; exact Ev.now _
  · rw [h]; exact Ev.now _
theorem checked_f (a : Int) (l : List Int) : impl_checked.f a l = some (ifLadder a l) := by
  unfold impl_checked.f impl_isLadder.f ifLadder
  simp only [Option.bind_some]
  cases isLadderB a l <;> rfl
theorem ifLadder_length (a : Int) (l : List Int) : (ifLadder a l).2.1.length ≤ 60 := by
  unfold ifLadder
  by_cases h : isLadderB a l = true
  · rw [if_pos h]; exact ((isLadderB_iff a l).1 h).2.2.1
  · rw [if_neg h]; exact Nat.zero_le _
end Go.Proofs.Ythpdhoplddlieaa.Q
