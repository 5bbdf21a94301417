/- The pure statement of FnExactLadderOfLevels: the program's LadderOfLevels and the reference's give the same. Conditions: none beyond the law's own. -/
import Derived.Test.YtkbojnmepapkhaaB7
import Derived.Test.YtkbojnmepapkhaaQlolSS
import Derived.Test.YtkbojnmepapkhaaQmarkSS
import Derived.Test.YtkbojnmepapkhaaQmarkLadder
import Derived.Test.YtkbojnmepapkhaaQtoLadder
import Derived.Test.YtkbojnmepapkhaaQeqLadder
import Derived.Test.YtkbojnmepapkhaaQtoIntS
import Derived.Test.YtkbojnmepapkhaaQeqIntS
import Derived.Test.YtkbojnmepapkhaaQmark
namespace Go.Proofs.Ytkbojnmepapkhaa.Q
open Go.RowKit Go.Proofs.Ytkbojnmepapkhaa.B Go.Proofs.YtkbojnmepapkhaaW.PrintWords Go.Proofs.YtkbojnmepapkhaaW.PrintLast Go.Proofs.YtkbojnmepapkhaaW.PrintMore
set_option linter.unusedVariables false
set_option linter.unusedSimpArgs false
theorem FnExactLadderOfLevels : ∀ (a0 : Int) (l1 : List (List Int)), (Lit.int .i64 a0).wf = true → l1.length ≤ maxLen → (∀ x ∈ l1, x.length ≤ maxLen ∧ ∀ y ∈ x, (Lit.int .i64 y).wf = true) → ∃ k, laws_FnExactLadderOfLevels.f k a0 l1 = some true := by
  intro a l _ hm hr
  unfold maxLen at hm hr
  refine Ev.rounds ?_
  unfold laws_FnExactLadderOfLevels.f
  obtain ⟨z, hz, hz2⟩ := szIntSS_ev l (by omega) (fun x hx => by have := (hr x hx).1; omega)
  refine Ev.bind hz ?_
  rcases hz2 with h | ⟨h1, h2, h3⟩
  · simp only [h, if_true]; exact Ev.now _
  · simp only [h3, if_false]
    obtain ⟨r, hs, hi, hlen⟩ := lol_both a l h2 h1
    have hsm : smallSS l := ⟨by omega, fun x hx => by have := row_le_flat hx; omega⟩
    have hto := toIntSS_ev l h1 h2
    have hneg := markEndSS_neg l hsm
    have hneg2 : ¬ markEnd 1 r.2.1.length < 0 := by have := markEnd_eq r.2.1.length 1 (by omega) (by omega); omega
    refine Ev.bind hto ?_
    refine Ev.bind hs ?_
    refine Ev.bind hto ?_
    refine Ev.bind hi ?_
    refine Ev.bind (eqLadder_refl _ _ (by omega)) ?_
    simp only [if_true, bne_self_eq_false, Bool.false_eq_true, if_false]
    refine Ev.bind hto ?_
    refine Ev.bind (eqIntSS_refl _ hsm) ?_
    simp only [if_true]
    refine Ev.bind (markIntSS_ev _ _ hsm) ?_
    simp only [hneg, if_false]
    refine Ev.bind (eqLadder_refl _ _ (by omega)) ?_
    simp only [if_true]
    refine Ev.bind (markLadder_ev _ _ _ (by omega)) ?_
    refine Ev.bind (heldLadder_ev _ _ _ (by omega) (by omega)) ?_
    simp only [hneg2, if_false, if_true]
    refine Ev.bind hto ?_
    refine Ev.bind hi ?_
    refine Ev.bind (eqLadder_refl _ _ (by omega)) ?_
    simp only [if_true, bne_self_eq_false, Bool.false_eq_true, if_false]
    refine Ev.bind (heldLadder_ev _ _ _ (by omega) (by omega)) ?_
    simp only [hneg2, if_false, if_true]
    exact Ev.now _
end Go.Proofs.Ytkbojnmepapkhaa.Q
