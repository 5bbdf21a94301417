/- heldLadder: marks put into a ladder are found again. No program, no memory. -/
import Derived.Test.YthpdhoplddlieaaB18
import Derived.Test.YthpdhoplddlieaaQmark
import Derived.Test.YthpdhoplddlieaaQmarkLad
namespace Go.Proofs.Ythpdhoplddlieaa.Q
open Go.RowKit Go.Proofs.Ythpdhoplddlieaa.B Go.Proofs.YthpdhoplddlieaaW.PrintWords Go.Proofs.YthpdhoplddlieaaW.PrintLast Go.Proofs.YthpdhoplddlieaaW.PrintMore
set_option linter.unusedVariables false
set_option linter.unusedSimpArgs false
theorem heldLadder_ev (a : Int) (m : Int) (n : Nat) (h0 : 0 ≤ m) (hn : m + n ≤ 9223372036854775807) : Ev (fun k => laws_heldLadder.f k a (marks m n) m) (markEnd m n) := by
  unfold laws_heldLadder.f
  refine Ev.bind (heldIntS_ev m n (by omega)) ?_
  have := markEnd_eq n m h0 hn
  have h : ¬ markEnd m n < 0 := by omega
  simp only [h, if_false]
  exact Ev.now _
end Go.Proofs.Ythpdhoplddlieaa.Q
