/- The pure statement of FnExactDepthOf: the program's DepthOf and the reference's give the same. Conditions: none beyond the law's own. -/
import Derived.Test.YtkbojnmepapkhaaB4
import Derived.Test.YtkbojnmepapkhaaB7
import Derived.Test.YtkbojnmepapkhaaB8
import Derived.Test.YtkbojnmepapkhaaQlvLev
import Derived.Test.YtkbojnmepapkhaaQtoLadder
import Derived.Test.YtkbojnmepapkhaaQeqLadder
import Derived.Test.YtkbojnmepapkhaaQszLadder
namespace Go.Proofs.Ytkbojnmepapkhaa.Q
open Go.RowKit Go.Proofs.Ytkbojnmepapkhaa.B Go.Proofs.YtkbojnmepapkhaaW.PrintWords Go.Proofs.YtkbojnmepapkhaaW.PrintLast Go.Proofs.YtkbojnmepapkhaaW.PrintMore
set_option linter.unusedVariables false
set_option linter.unusedSimpArgs false
theorem DepthOf_both (a : Int) (l : List Int) : ∃ r, Ev (fun k => spec_DepthOf.f k a l) r ∧ Ev (fun k => impl_DepthOf.f k a l) r := by
  by_cases h : isLadderB a l = true
  · have hl := (isLadderB_iff a l).1 h
    obtain ⟨r, hs, hi, hlen, hel⟩ := levels_both h
    refine ⟨((r.length : Int), true), ?_, ?_⟩
    · unfold spec_DepthOf.f
      refine Ev.bind (laGood_ev _ l) ?_
      simp only [h, if_true]
      refine Ev.bind hs ?_
      exact Ev.now _
    · unfold impl_DepthOf.f impl_LevelsOf.f impl_isLadder.f
      simp only [Option.bind_some, h, if_true]
      exact Ev.bind (Ev.bind hi (Ev.now _)) (Ev.now _)
  · have h' : isLadderB a l = false := by simpa using h
    refine ⟨(0, false), ?_, ?_⟩
    · unfold spec_DepthOf.f
      refine Ev.bind (laGood_ev _ l) ?_
      simp only [h', Bool.false_eq_true, if_false]; exact Ev.now _
    · unfold impl_DepthOf.f impl_LevelsOf.f impl_isLadder.f
      simp only [Option.bind_some, h', Bool.false_eq_true, if_false]
      exact Ev.now _
theorem FnExactDepthOf : ∀ (a0_0 : Int) (l0_1 : List Int), (Lit.int .i64 a0_0).wf = true → l0_1.length ≤ maxLen → (∀ x ∈ l0_1, (Lit.int .i64 x).wf = true) → ∃ k, laws_FnExactDepthOf.f k a0_0 l0_1 = some true := by
  intro a l _ hm _
  unfold maxLen at hm
  refine Ev.rounds ?_
  unfold laws_FnExactDepthOf.f
  simp only [szLadder_f a l hm, Option.bind_some]
  by_cases hl : l.length ≤ 1048576
  · have h2 : ¬ (1048576 - (l.length : Int)) < 0 := by omega
    have hneg := h2
    obtain ⟨r, hs, hi⟩ := DepthOf_both a l
    simp only [hl, if_true, h2, if_false]
    repeat' (first
      | exact Ev.now _
      | ((with_reducible refine Ev.bind hs ?_); try dsimp only)
      | ((with_reducible refine Ev.bind hi ?_); try dsimp only)
      | ((with_reducible refine Ev.bind (toLadder_ev _ _ (by omega)) ?_); try dsimp only)
      | ((with_reducible refine Ev.bind (toIntS_ev _ (by omega)) ?_); try dsimp only)
      | ((with_reducible refine Ev.bind (eqLadder_refl _ _ (by omega)) ?_); try dsimp only)
      | ((with_reducible refine Ev.bind (eqIntS_refl _ (by omega)) ?_); try dsimp only)
      | ((with_reducible refine Ev.bind (markLadder_ev _ _ _ (by omega)) ?_); try dsimp only)
      | ((with_reducible refine Ev.bind (markIntS_ev _ _ (by omega)) ?_); try dsimp only)
      | ((with_reducible refine Ev.bind (heldIntS_ev _ _ (by omega)) ?_); try dsimp only)
      | ((with_reducible refine Ev.bind (eqIntSS_refl _ (by assumption)) ?_); try dsimp only)
      | ((with_reducible refine Ev.bind (markIntSS_ev _ _ (by assumption)) ?_); try dsimp only)
      | ((with_reducible refine Ev.bind (heldIntSS_ev _ _ (by assumption) (by omega) (by omega)) ?_); try dsimp only)
      | simp only [if_true, if_false, bne_self_eq_false, Bool.false_eq_true, eq_self, Option.bind_some, hneg]
      )
  · simp only [hl, if_false]
    simpa using Ev.now _
end Go.Proofs.Ytkbojnmepapkhaa.Q
