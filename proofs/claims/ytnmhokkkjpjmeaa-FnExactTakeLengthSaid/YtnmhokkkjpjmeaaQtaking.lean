/- Ladders for the taking game, told by both alike. No program, no memory. -/
import Derived.Test.YtnmhokkkjpjmeaaB1
import Derived.Test.YtnmhokkkjpjmeaaQlaGood
import Derived.Test.YtnmhokkkjpjmeaaQgaHome
import Derived.Test.YtnmhokkkjpjmeaaQisHomely
namespace Go.Proofs.Ytnmhokkkjpjmeaa.Q
open Go.RowKit Go.Proofs.Ytnmhokkkjpjmeaa.B Go.Proofs.YtnmhokkkjpjmeaaW.PrintWords Go.Proofs.YtnmhokkkjpjmeaaW.PrintLast Go.Proofs.YtnmhokkkjpjmeaaW.PrintMore
set_option linter.unusedVariables false
set_option linter.unusedSimpArgs false
def takingB (a : Int) (l : List Int) : Bool := isLadderB a l && (decide (l.length ≤ 12) && !(homeB a.toNat l))
theorem takingB_in {a : Int} {l : List Int} (h : takingB a l = true) : ∃ n : Nat, a = (n : Int) ∧ 2 ≤ n ∧ n ≤ 8 ∧ l.length ≤ 12 ∧ homeB n l = false ∧ isLadderB a l = true := by
  unfold takingB at h
  simp only [Bool.and_eq_true, decide_eq_true_eq, Bool.not_eq_true'] at h
  have hl := (isLadderB_iff a l).1 h.1
  exact ⟨a.toNat, by omega, by omega, by omega, h.2.1, h.2.2, h.1⟩
theorem gaTaking_ev (a : Int) (l : List Int) : Ev (fun k => spec_gaTaking.f k a l) (takingB a l) := by
  unfold spec_gaTaking.f takingB
  refine Ev.bind (laGood_ev _ l) ?_
  by_cases h : isLadderB a l = true
  · have hl := (isLadderB_iff a l).1 h
    obtain ⟨n, rfl⟩ : ∃ n : Nat, a = n := ⟨a.toNat, by omega⟩
    simp only [h, if_true, Bool.true_and]
    by_cases h2 : l.length ≤ 12
    · have g : (l.length : Int) ≤ 12 := by omega
      simp only [g, h2, if_true, decide_true, Bool.true_and]
      exact Ev.bind (gaHome_ev n l (by omega) (by omega)) (Ev.now _)
    · have g : ¬ (l.length : Int) ≤ 12 := by omega
      simp only [g, h2, if_false, decide_false, Bool.false_and]
      exact Ev.now _
  · have h' : isLadderB a l = false := by simpa using h
    simp only [h', Bool.false_eq_true, if_false, Bool.false_and]; exact Ev.now _
theorem isTaking_ev (a : Int) (l : List Int) : Ev (fun k => impl_isTaking.f k a l) (takingB a l) := by
  unfold impl_isTaking.f impl_isLadder.f takingB
  simp only [Option.bind_some]
  by_cases h : isLadderB a l = true
  · have hl := (isLadderB_iff a l).1 h
    obtain ⟨n, rfl⟩ : ∃ n : Nat, a = n := ⟨a.toNat, by omega⟩
    simp only [h, if_true, Bool.true_and]
    by_cases h2 : l.length ≤ 12
    · have g : (l.length : Int) ≤ 12 := by omega
      simp only [g, h2, if_true, decide_true, Bool.true_and]
      exact Ev.bind (isHomely_ev n l (by omega) (by omega)) (Ev.now _)
    · have g : ¬ (l.length : Int) ≤ 12 := by omega
      simp only [g, h2, if_false, decide_false, Bool.false_and]
      exact Ev.now _
  · have h' : isLadderB a l = false := by simpa using h
    simp only [h', Bool.false_eq_true, if_false, Bool.false_and]; exact Ev.now _
end Go.Proofs.Ytnmhokkkjpjmeaa.Q
