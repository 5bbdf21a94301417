/- markLadder and heldLadder: marks put into a ladder are found again. No program, no memory. -/
import Derived.Test.YtnmhokkkjpjmeaaB3
import Derived.Test.YtnmhokkkjpjmeaaQmark
namespace Go.Proofs.Ytnmhokkkjpjmeaa.Q
open Go.RowKit Go.Proofs.Ytnmhokkkjpjmeaa.B Go.Proofs.YtnmhokkkjpjmeaaW.PrintWords Go.Proofs.YtnmhokkkjpjmeaaW.PrintLast Go.Proofs.YtnmhokkkjpjmeaaW.PrintMore
set_option linter.unusedVariables false
set_option linter.unusedSimpArgs false
theorem markLadder_ev (a : Int) (l : List Int) (m : Int) (hn : l.length ≤ 9223372036854775807) : Ev (fun k => laws_markLadder.f k a l m) (markEnd m l.length, marks m l.length) := by
  unfold laws_markLadder.f
  exact Ev.bind (markIntS_ev l m hn) (Ev.now _)
theorem heldLadder_ev (a : Int) (m : Int) (n : Nat) (h0 : 0 ≤ m) (hn : m + n ≤ 9223372036854775807) : Ev (fun k => laws_heldLadder.f k a (marks m n) m) (markEnd m n) := by
  unfold laws_heldLadder.f
  refine Ev.bind (heldIntS_ev m n (by omega)) ?_
  have := markEnd_eq n m h0 hn
  have h : ¬ markEnd m n < 0 := by omega
  simp only [h, if_false]
  exact Ev.now _
end Go.Proofs.Ytnmhokkkjpjmeaa.Q
