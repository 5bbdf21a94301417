/- The reference tells the ladders that the program tells. No program, no memory. -/
import Derived.Test.YthpdhoplddlieaaB4
import Derived.Test.YthpdhoplddlieaaQl1All
namespace Go.Proofs.Ythpdhoplddlieaa.Q
open Go.RowKit Go.Proofs.Ythpdhoplddlieaa.B Go.Proofs.YthpdhoplddlieaaW.PrintWords Go.Proofs.YthpdhoplddlieaaW.PrintLast Go.Proofs.YthpdhoplddlieaaW.PrintMore
set_option linter.unusedVariables false
set_option linter.unusedSimpArgs false
theorem laGood_ev (a : Int) (l : List Int) : Ev (fun k => spec_laGood.f k a l) (isLadderB a l) := by
  unfold spec_laGood.f isLadderB
  simp only [l1In_f, Option.bind_some]
  refine Ev.iteb (fun h => ?_) (fun h => ?_)
  · rw [h, Bool.true_and]
    refine Ev.ite (fun h2 => ?_) (fun h2 => ?_)
    · have h3 : decide (l.length ≤ 60) = true := by simp; omega
      rw [h3, Bool.true_and]
      refine Ev.bind (l1All_ev l 0 _ (by omega)) ?_
      refine Ev.eq (Ev.now _) ?_
      rw [List.all_eq_not_any_not]
    · have h3 : decide (l.length ≤ 60) = false := by simp; omega
      rw [h3, Bool.false_and]; exact Ev.now _
  · rw [h, Bool.false_and]; exact Ev.now _
theorem isLadderB_iff (a : Int) (l : List Int) : isLadderB a l = true ↔ 2 ≤ a ∧ a ≤ 8 ∧ l.length ≤ 60 ∧ ∀ r ∈ l, 0 ≤ r ∧ r ≤ a - 2 := by
  unfold isLadderB
  by_cases h : 2 ≤ a ∧ a ≤ 8
  · have e : wrap64 (a - 2) = a - 2 := wrap_in (by omega) (by omega)
    rw [e]
    simp [inB, h.1, h.2]
  · constructor
    · intro h2; simp [inB] at h2; exact absurd h2.1 h
    · intro h2; exact absurd ⟨h2.1, h2.2.1⟩ h
end Go.Proofs.Ythpdhoplddlieaa.Q
