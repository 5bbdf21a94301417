/- Both give the same brick ladder. No program, no memory. -/
import Derived.Test.YtjppgokdocjljaaB2
import Derived.Test.YtjppgokdocjljaaB10
import Derived.Test.YtjppgokdocjljaaQl1In
import Derived.Test.YtjppgokdocjljaaQbetween
import Derived.Test.YtjppgokdocjljaaQlaIf
import Derived.Test.YtjppgokdocjljaaQbricks
namespace Go.Proofs.Ytjppgokdocjljaa.Q
open Go.RowKit Go.Proofs.Ytjppgokdocjljaa.B Go.Proofs.YtjppgokdocjljaaW.PrintWords Go.Proofs.YtjppgokdocjljaaW.PrintLast Go.Proofs.YtjppgokdocjljaaW.PrintMore
set_option linter.unusedVariables false
set_option linter.unusedSimpArgs false
theorem ifLadder_good (a : Int) (l : List Int) : (ifLadder a l).2.2 = true → (ifLadder a l).1 = a ∧ isLadderB a (ifLadder a l).2.1 = true := by
  unfold ifLadder
  by_cases h : isLadderB a l = true
  · rw [if_pos h]; exact fun _ => ⟨rfl, h⟩
  · rw [if_neg h]; simp
theorem BrickLadder_both (a x : Int) : ∃ r, Ev (fun k => spec_BrickLadder.f k a x) r ∧ Ev (fun k => impl_BrickLadder.f k a x) r ∧ r.2.1.length ≤ 60 ∧ (r.2.2 = true → r.1 = a ∧ isLadderB a r.2.1 = true) := by
  unfold spec_BrickLadder.f impl_BrickLadder.f spec_lvWires.f impl_isWires.f
  simp only [l1In_f, btw_f, Option.bind_some]
  have fail : Ev (fun k => spec_BrickLadder.j0 k a x true) (0, [], false) := Ev.succ (Ev.ret fun k => by rw [spec_BrickLadder.j0]; rfl)
  cases h1 : inB a 2 8 with
  | false => exact ⟨_, by simpa using fail, by simpa using Ev.now _, by simp, by simp⟩
  | true =>
    cases h2 : inB x 0 20 with
    | false => exact ⟨_, by simpa using fail, by simpa using Ev.now _, by simp, by simp⟩
    | true =>
      have ha := (inB_iff _ _ _).1 h1
      have hx := (inB_iff _ _ _).1 h2
      obtain ⟨n, rfl⟩ : ∃ n : Nat, a = n := ⟨a.toNat, by omega⟩
      obtain ⟨m, rfl⟩ : ∃ n : Nat, x = n := ⟨x.toNat, by omega⟩
      refine ⟨ifLadder n (bricksL n m), ?_, ?_, ifLadder_length _ _, ifLadder_good _ _⟩
      · simp only [if_true, Bool.not_true]
        refine Ev.succ ?_
        simp only [spec_BrickLadder.j0, Bool.false_eq_true, if_false]
        exact Ev.bind (lvBricks_ev n m (by omega) (by omega) (by omega)) (Ev.bind (laIf_ev _ _) (Ev.now _))
      · simp only [if_true]
        exact Ev.bind (bricks_ev n m (by omega) (by omega) (by omega)) (Ev.now _)
end Go.Proofs.Ytjppgokdocjljaa.Q
