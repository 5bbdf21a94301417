/- The pure statement of FnExactLevelsOf: the program's LevelsOf and the reference's give the same. Conditions: none beyond the law's own. -/
import Derived.Test.YtkbojnmepapkhaaB4
import Derived.Test.YtkbojnmepapkhaaB6
import Derived.Test.YtkbojnmepapkhaaB7
import Derived.Test.YtkbojnmepapkhaaQlvLev
import Derived.Test.YtkbojnmepapkhaaQmarkSS
import Derived.Test.YtkbojnmepapkhaaQmarkLad
import Derived.Test.YtkbojnmepapkhaaQtoLadder
import Derived.Test.YtkbojnmepapkhaaQeqLadder
import Derived.Test.YtkbojnmepapkhaaQszLadder
import Derived.Test.YtkbojnmepapkhaaQtoIntS
import Derived.Test.YtkbojnmepapkhaaQeqIntS
import Derived.Test.YtkbojnmepapkhaaQmark
namespace Go.Proofs.Ytkbojnmepapkhaa.Q
open Go.RowKit Go.Proofs.Ytkbojnmepapkhaa.B Go.Proofs.YtkbojnmepapkhaaW.PrintWords Go.Proofs.YtkbojnmepapkhaaW.PrintLast Go.Proofs.YtkbojnmepapkhaaW.PrintMore
set_option linter.unusedVariables false
set_option linter.unusedSimpArgs false
theorem LevelsOf_both (a : Int) (l : List Int) : ∃ r, Ev (fun k => spec_LevelsOf.f k a l) r ∧ Ev (fun k => impl_LevelsOf.f k a l) r ∧ smallSS r.1 := by
  by_cases h : isLadderB a l = true
  · have hl := (isLadderB_iff a l).1 h
    obtain ⟨r, hs, hi, hlen, hel⟩ := levels_both h
    refine ⟨(r, true), ?_, ?_, ⟨by simp only; omega, fun x hx => by have := hel x hx; omega⟩⟩
    · unfold spec_LevelsOf.f
      refine Ev.bind (laGood_ev _ l) ?_
      simp only [h, if_true]
      refine Ev.bind hs ?_
      exact Ev.now _
    · unfold impl_LevelsOf.f impl_isLadder.f
      simp only [Option.bind_some, h, if_true]
      exact Ev.bind hi (Ev.now _)
  · have h' : isLadderB a l = false := by simpa using h
    refine ⟨([], false), ?_, ?_, by simp [smallSS]⟩
    · unfold spec_LevelsOf.f
      refine Ev.bind (laGood_ev _ l) ?_
      simp only [h', Bool.false_eq_true, if_false]; exact Ev.now _
    · unfold impl_LevelsOf.f impl_isLadder.f
      simp only [Option.bind_some, h', Bool.false_eq_true, if_false]
      exact Ev.now _
theorem FnExactLevelsOf : ∀ (a0_0 : Int) (l0_1 : List Int), (Lit.int .i64 a0_0).wf = true → l0_1.length ≤ maxLen → (∀ x ∈ l0_1, (Lit.int .i64 x).wf = true) → ∃ k, laws_FnExactLevelsOf.f k a0_0 l0_1 = some true := by
  intro a l _ hm _
  unfold maxLen at hm
  refine Ev.rounds ?_
  unfold laws_FnExactLevelsOf.f
  simp only [szLadder_f a l hm, Option.bind_some]
  by_cases hl : l.length ≤ 1048576
  · have h2 : ¬ (1048576 - (l.length : Int)) < 0 := by omega
    obtain ⟨r, hs, hi, hsm⟩ := LevelsOf_both a l
    have hneg := markEndSS_neg r.1 hsm
    have hneg2 : ¬ markEnd 1 l.length < 0 := by have := markEnd_eq l.length 1 (by omega) (by omega); omega
    simp only [hl, if_true, h2, if_false]
    repeat' (first
      | exact Ev.now _
      | ((with_reducible refine Ev.bind hs ?_); try dsimp only)
      | ((with_reducible refine Ev.bind hi ?_); try dsimp only)
      | ((with_reducible refine Ev.bind (toLadder_ev _ _ (by omega)) ?_); try dsimp only)
      | ((with_reducible refine Ev.bind (toIntS_ev _ (by omega)) ?_); try dsimp only)
      | ((with_reducible refine Ev.bind (eqLadder_refl _ _ (by omega)) ?_); try dsimp only)
      | ((with_reducible refine Ev.bind (eqIntS_refl _ (by omega)) ?_); try dsimp only)
      | ((with_reducible refine Ev.bind (markLadder_ev _ _ _ (by omega)) ?_); try dsimp only)
      | ((with_reducible refine Ev.bind (markIntS_ev _ _ (by omega)) ?_); try dsimp only)
      | ((with_reducible refine Ev.bind (heldIntS_ev _ _ (by omega)) ?_); try dsimp only)
      | ((with_reducible refine Ev.bind (eqIntSS_refl _ (by assumption)) ?_); try dsimp only)
      | ((with_reducible refine Ev.bind (markIntSS_ev _ _ (by assumption)) ?_); try dsimp only)
      | ((with_reducible refine Ev.bind (heldIntSS_ev _ _ (by assumption) (by omega) (by omega)) ?_); try dsimp only)
      | simp only [if_true, if_false, bne_self_eq_false, Bool.false_eq_true, eq_self, Option.bind_some, hneg, hneg2]
      )
  · simp only [hl, if_false]
    simpa using Ev.now _
end Go.Proofs.Ytkbojnmepapkhaa.Q
