/- The pure statement of FnExactIsDesk: the program's IsDesk and the reference's give the same. Conditions: none beyond the law's own. -/
import Derived.Test.YtgbpkajbddokoaaB2
import Derived.Test.YtgbpkajbddokoaaB5
import Derived.Test.YtgbpkajbddokoaaB6
import Derived.Test.YtgbpkajbddokoaaQ2
namespace Go.Proofs.Ytgbpkajbddokoaa.Q
open Go.RowKit Go.Proofs.Ytgbpkajbddokoaa.B Go.Proofs.YtgbpkajbddokoaaW.PrintWords Go.Proofs.YtgbpkajbddokoaaW.PrintLast Go.Proofs.YtgbpkajbddokoaaW.PrintMore
set_option linter.unusedVariables false
set_option linter.unusedSimpArgs false
theorem FnExactIsDesk : ∀ (a0_0 : Int) (l0_1 : List Int) (a0_2 : Bool), (Lit.int .i64 a0_0).wf = true → l0_1.length ≤ maxLen → (∀ x ∈ l0_1, (Lit.int .i64 x).wf = true) → ∃ k, laws_FnExactIsDesk.f k a0_0 l0_1 a0_2 = some true := by
  intro a l b _ hm _
  refine Ev.rounds ?_
  unfold maxLen at hm
  unfold laws_FnExactIsDesk.f laws_szDesk.f
  simp only [szLadder_f a l hm, Option.bind_some]
  by_cases h : l.length ≤ 1048576
  · have h2 : ¬ (1048576 - (l.length : Int)) < 0 := by omega
    simp only [h, if_true, h2, if_false, Option.bind_some]
    have hd : Ev (fun k => laws_toDesk.f k a l b) (a, l, b) := by
      unfold laws_toDesk.f
      exact Ev.bind (toLadder_ev a l (by omega)) (Ev.now _)
    refine Ev.bind hd ?_
    have hs : Ev (fun k => spec_IsDesk.f k a l b) (isLadderB a l) := by
      unfold spec_IsDesk.f spec_coGood.f
      exact Ev.bind (Ev.bind (laGood_ev a l) (Ev.now _)) (Ev.now _)
    refine Ev.bind hs (Ev.bind hd ?_)
    unfold impl_IsDesk.f impl_isLadder.f
    simp only [Option.bind_some, bne_self_eq_false, Bool.false_eq_true, if_false, not_true, if_true]
    refine Ev.bind hd ?_
    have he : Ev (fun k => laws_eqDesk.f k a l b a l b) true := by
      unfold laws_eqDesk.f
      refine Ev.bind (eqLadder_refl a l (by omega)) ?_
      simpa using Ev.now _
    refine Ev.bind he ?_
    simpa using Ev.now _
  · simp only [h, if_false]
    simpa using Ev.now _
end Go.Proofs.Ytgbpkajbddokoaa.Q
