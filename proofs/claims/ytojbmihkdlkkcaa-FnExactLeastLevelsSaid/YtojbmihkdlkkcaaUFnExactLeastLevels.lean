/- The pure statement of FnExactLeastLevels: the program's LeastLevels and the reference's give the same. Conditions: none beyond the law's own. -/
import Derived.Test.YtojbmihkdlkkcaaB7
import Derived.Test.YtojbmihkdlkkcaaQmade
import Derived.Test.YtojbmihkdlkkcaaQmarkSS
import Derived.Test.YtojbmihkdlkkcaaQtoIntS
import Derived.Test.YtojbmihkdlkkcaaQeqIntS
import Derived.Test.YtojbmihkdlkkcaaQmark
namespace Go.Proofs.Ytojbmihkdlkkcaa.Q
open Go.RowKit Go.Proofs.Ytojbmihkdlkkcaa.B Go.Proofs.YtojbmihkdlkkcaaW.PrintWords Go.Proofs.YtojbmihkdlkkcaaW.PrintLast Go.Proofs.YtojbmihkdlkkcaaW.PrintMore
set_option linter.unusedVariables false
set_option linter.unusedSimpArgs false
theorem FnExactLeastLevels : ∀ (l0 : List Int), l0.length ≤ maxLen → (∀ x ∈ l0, (Lit.int .i64 x).wf = true) → ∃ k, laws_FnExactLeastLevels.f k l0 = some true := by
  intro p _ _
  refine Ev.rounds ?_
  unfold laws_FnExactLeastLevels.f
  by_cases hp : (p.length : Int) > 1048576
  · simp only [hp, if_true]; exact Ev.now _
  · simp only [hp, if_false]
    have hs := LeastLevels_spec p
    have hi := LeastLevels_impl p
    have hsm := leastLv_small p
    generalize leastLv p = r at hs hi hsm
    have hneg := markEndSS_neg r.1 hsm
    have hneg2 : ¬ markEnd 1 p.length < 0 := by have := markEnd_eq p.length 1 (by omega) (by omega); omega
    repeat' (first
      | exact Ev.now _
      | ((with_reducible refine Ev.bind hs ?_); try dsimp only)
      | ((with_reducible refine Ev.bind hi ?_); try dsimp only)
      | ((with_reducible refine Ev.bind (toIntS_ev _ (by omega)) ?_); try dsimp only)
      | ((with_reducible refine Ev.bind (eqIntS_refl _ (by omega)) ?_); try dsimp only)
      | ((with_reducible refine Ev.bind (markIntS_ev _ _ (by omega)) ?_); try dsimp only)
      | ((with_reducible refine Ev.bind (heldIntS_ev _ _ (by omega)) ?_); try dsimp only)
      | ((with_reducible refine Ev.bind (eqIntSS_refl _ (by assumption)) ?_); try dsimp only)
      | ((with_reducible refine Ev.bind (markIntSS_ev _ _ (by assumption)) ?_); try dsimp only)
      | ((with_reducible refine Ev.bind (heldIntSS_ev _ _ (by assumption) (by omega) (by omega)) ?_); try dsimp only)
      | simp only [if_true, if_false, bne_self_eq_false, Bool.false_eq_true, eq_self, Option.bind_some, hneg, hneg2]
      )
end Go.Proofs.Ytojbmihkdlkkcaa.Q
