/- eqLadder tells whether two ladders are equal. No program, no memory. -/
import Derived.Test.YtkbojnmepapkhaaB5
import Derived.Test.YtkbojnmepapkhaaQeqIntS
namespace Go.Proofs.Ytkbojnmepapkhaa.Q
open Go.RowKit Go.Proofs.Ytkbojnmepapkhaa.B Go.Proofs.YtkbojnmepapkhaaW.PrintWords Go.Proofs.YtkbojnmepapkhaaW.PrintLast Go.Proofs.YtkbojnmepapkhaaW.PrintMore
set_option linter.unusedVariables false
set_option linter.unusedSimpArgs false
theorem eqLadder_ev (a : Int) (l : List Int) (b : Int) (m : List Int) (hn : l.length ≤ 9223372036854775807) : Ev (fun k => laws_eqLadder.f k a l b m) (decide (a = b ∧ l = m)) := by
  unfold laws_eqLadder.f
  refine Ev.ite (fun h => ?_) (fun h => ?_)
  · refine Ev.bind (eqIntS_ev l m hn) ?_
    refine Ev.iteb (fun h2 => ?_) (fun h2 => ?_)
    · refine Ev.eq (Ev.now _) ?_; simp at h2; simp [h, h2]
    · refine Ev.eq (Ev.now _) ?_; simp at h2; simp [h2]
  · refine Ev.eq (Ev.now _) ?_; simp [h]
theorem eqLadder_refl (a : Int) (l : List Int) (hn : l.length ≤ 9223372036854775807) : Ev (fun k => laws_eqLadder.f k a l a l) true := Ev.eq (eqLadder_ev a l a l hn) (by simp)
end Go.Proofs.Ytkbojnmepapkhaa.Q
