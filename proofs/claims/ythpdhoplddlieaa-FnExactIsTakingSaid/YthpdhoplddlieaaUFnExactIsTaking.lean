/- The pure statement of FnExactIsTaking: the program's IsTaking and the reference's give the same. Conditions: none beyond the law's own. -/
import Derived.Test.YthpdhoplddlieaaB4
import Derived.Test.YthpdhoplddlieaaB23
import Derived.Test.YthpdhoplddlieaaQlaGood
import Derived.Test.YthpdhoplddlieaaQgaHome
import Derived.Test.YthpdhoplddlieaaQisHomely
import Derived.Test.YthpdhoplddlieaaQtoLadder
import Derived.Test.YthpdhoplddlieaaQeqLadder
import Derived.Test.YthpdhoplddlieaaQszLadder
namespace Go.Proofs.Ythpdhoplddlieaa.Q
open Go.RowKit Go.Proofs.Ythpdhoplddlieaa.B Go.Proofs.YthpdhoplddlieaaW.PrintWords Go.Proofs.YthpdhoplddlieaaW.PrintLast Go.Proofs.YthpdhoplddlieaaW.PrintMore
set_option linter.unusedVariables false
set_option linter.unusedSimpArgs false
theorem IsTaking_both (a : Int) (l : List Int) : ∃ r, Ev (fun k => spec_IsTaking.f k a l) r ∧ Ev (fun k => impl_IsTaking.f k a l) r := by
  by_cases h : isLadderB a l = true
  · have hl := (isLadderB_iff a l).1 h
    obtain ⟨n, rfl⟩ : ∃ n : Nat, a = n := ⟨a.toNat, by omega⟩
    refine ⟨if (l.length : Int) ≤ 12 then !(homeB n l) else false, ?_, ?_⟩
    · unfold spec_IsTaking.f spec_gaTaking.f
      refine Ev.bind (Ev.bind (laGood_ev _ l) ?_) (Ev.now _)
      simp only [h, if_true]
      refine Ev.ite (fun h2 => ?_) (fun h2 => ?_)
      · rw [if_pos h2]; exact Ev.bind (gaHome_ev n l (by omega) (by omega)) (Ev.now _)
      · rw [if_neg h2]; exact Ev.now _
    · unfold impl_IsTaking.f impl_isTaking.f impl_isLadder.f
      refine Ev.bind (a := if (l.length : Int) ≤ 12 then !(homeB n l) else false) ?_ (Ev.now _)
      simp only [Option.bind_some, h, if_true]
      refine Ev.ite (fun h2 => ?_) (fun h2 => ?_)
      · rw [if_pos h2]; exact Ev.bind (isHomely_ev n l (by omega) (by omega)) (Ev.now _)
      · rw [if_neg h2]; exact Ev.now _
  · have h' : isLadderB a l = false := by simpa using h
    refine ⟨false, ?_, ?_⟩
    · unfold spec_IsTaking.f spec_gaTaking.f
      refine Ev.bind (Ev.bind (laGood_ev _ l) ?_) (Ev.now _)
      simp only [h', Bool.false_eq_true, if_false]; exact Ev.now _
    · unfold impl_IsTaking.f impl_isTaking.f impl_isLadder.f
      simp only [Option.bind_some, h', Bool.false_eq_true, if_false]; exact Ev.now _
theorem FnExactIsTaking : ∀ (a0_0 : Int) (l0_1 : List Int), (Lit.int .i64 a0_0).wf = true → l0_1.length ≤ maxLen → (∀ x ∈ l0_1, (Lit.int .i64 x).wf = true) → ∃ k, laws_FnExactIsTaking.f k a0_0 l0_1 = some true := by
  intro a l _ hm _
  unfold maxLen at hm
  refine Ev.rounds ?_
  unfold laws_FnExactIsTaking.f
  simp only [szLadder_f a l hm, Option.bind_some]
  by_cases hl : l.length ≤ 1048576
  · have h2 : ¬ (1048576 - (l.length : Int)) < 0 := by omega
    have hneg := h2
    obtain ⟨r, hs, hi⟩ := IsTaking_both a l
    simp only [hl, if_true, h2, if_false]
    repeat' (first
      | exact Ev.now _
      | ((with_reducible refine Ev.bind hs ?_); try dsimp only)
      | ((with_reducible refine Ev.bind hi ?_); try dsimp only)
      | ((with_reducible refine Ev.bind (toLadder_ev _ _ (by omega)) ?_); try dsimp only)
      | ((with_reducible refine Ev.bind (toIntS_ev _ (by omega)) ?_); try dsimp only)
      | ((with_reducible refine Ev.bind (eqLadder_refl _ _ (by omega)) ?_); try dsimp only)
      | ((with_reducible refine Ev.bind (eqIntS_refl _ (by omega)) ?_); try dsimp only)
      | ((with_reducible refine Ev.bind (markLadder_ev _ _ _ (by omega)) ?_); try dsimp only)
      | ((with_reducible refine Ev.bind (markIntS_ev _ _ (by omega)) ?_); try dsimp only)
      | ((with_reducible refine Ev.bind (heldLadder_ev _ _ _ (by omega) (by omega)) ?_); try dsimp only)
      | ((with_reducible refine Ev.bind (heldIntS_ev _ _ (by omega)) ?_); try dsimp only)
      | simp only [if_true, if_false, bne_self_eq_false, Bool.false_eq_true, eq_self, Option.bind_some, hneg]
      )
  · simp only [hl, if_false]
    simpa using Ev.now _
end Go.Proofs.Ythpdhoplddlieaa.Q
