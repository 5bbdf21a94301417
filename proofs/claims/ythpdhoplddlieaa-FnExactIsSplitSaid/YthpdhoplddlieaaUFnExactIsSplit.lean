/- The pure statement of FnExactIsSplit: the program's IsSplit and the reference's give the same. Conditions: none beyond the law's own. -/
import Derived.Test.YthpdhoplddlieaaB4
import Derived.Test.YthpdhoplddlieaaB6
import Derived.Test.YthpdhoplddlieaaQlaGood
import Derived.Test.YthpdhoplddlieaaQl1In
import Derived.Test.YthpdhoplddlieaaQbetween
import Derived.Test.YthpdhoplddlieaaQhas
import Derived.Test.YthpdhoplddlieaaQContains
import Derived.Test.YthpdhoplddlieaaQtoLadder
import Derived.Test.YthpdhoplddlieaaQeqLadder
import Derived.Test.YthpdhoplddlieaaQszLadder
namespace Go.Proofs.Ythpdhoplddlieaa.Q
open Go.RowKit Go.Proofs.Ythpdhoplddlieaa.B Go.Proofs.YthpdhoplddlieaaW.PrintWords Go.Proofs.YthpdhoplddlieaaW.PrintLast Go.Proofs.YthpdhoplddlieaaW.PrintMore
set_option linter.unusedVariables false
set_option linter.unusedSimpArgs false
theorem IsSplit_both (a : Int) (l : List Int) (x : Int) (hl : l.length ≤ 1048576) : ∃ r, Ev (fun k => spec_IsSplit.f k a l x) r ∧ Ev (fun k => impl_IsSplit.f k a l x) r := by
  refine ⟨if isLadderB a l = true then (if inB x 1 (wrap64 (a - 1)) = true then (!(decide (wrap64 (x - 1) ∈ l)), true) else (false, false)) else (false, false), ?_, ?_⟩
  · unfold spec_IsSplit.f
    refine Ev.bind (laGood_ev a l) ?_
    refine Ev.iteb (fun h => ?_) (fun h => ?_)
    · simp only [l1In_f, Option.bind_some]
      refine Ev.iteb (fun h2 => ?_) (fun h2 => ?_)
      · rw [if_pos h, if_pos h2]; exact Ev.bind (l1Has_ev l _ (by omega)) (Ev.now _)
      · rw [if_pos h, if_neg (by simp [h2])]; exact Ev.now _
    · rw [if_neg (by simp [h])]; exact Ev.now _
  · unfold impl_IsSplit.f impl_isLadder.f
    simp only [Option.bind_some, btw_f]
    refine Ev.iteb (fun h => ?_) (fun h => ?_)
    · refine Ev.iteb (fun h2 => ?_) (fun h2 => ?_)
      · rw [if_pos h, if_pos h2]
        unfold impl_isSplit.f
        exact Ev.bind (Ev.bind (Contains_ev l _ (by omega)) (Ev.now _)) (Ev.now _)
      · rw [if_pos h, if_neg (by simp [h2])]; exact Ev.now _
    · rw [if_neg (by simp [h])]; exact Ev.now _
theorem FnExactIsSplit : ∀ (a0_0 : Int) (l0_1 : List Int) (a1 : Int), (Lit.int .i64 a0_0).wf = true → l0_1.length ≤ maxLen → (∀ x ∈ l0_1, (Lit.int .i64 x).wf = true) → (Lit.int .i64 a1).wf = true → ∃ k, laws_FnExactIsSplit.f k a0_0 l0_1 a1 = some true := by
  intro a l x _ hm _ _
  unfold maxLen at hm
  refine Ev.rounds ?_
  unfold laws_FnExactIsSplit.f
  simp only [szLadder_f a l hm, Option.bind_some]
  by_cases hl : l.length ≤ 1048576
  · have h2 : ¬ (1048576 - (l.length : Int)) < 0 := by omega
    obtain ⟨r, hs, hi⟩ := IsSplit_both a l x hl
    have hneg := h2
    simp only [hl, if_true, h2, if_false]
    repeat' (first
      | exact Ev.now _
      | ((with_reducible refine Ev.bind hs ?_); try dsimp only)
      | ((with_reducible refine Ev.bind hi ?_); try dsimp only)
      | ((with_reducible refine Ev.bind (toLadder_ev _ _ (by omega)) ?_); try dsimp only)
      | ((with_reducible refine Ev.bind (toIntS_ev _ (by omega)) ?_); try dsimp only)
      | ((with_reducible refine Ev.bind (eqLadder_refl _ _ (by omega)) ?_); try dsimp only)
      | ((with_reducible refine Ev.bind (eqIntS_refl _ (by omega)) ?_); try dsimp only)
      | ((with_reducible refine Ev.bind (markLadder_ev _ _ _ (by omega)) ?_); try dsimp only)
      | ((with_reducible refine Ev.bind (markIntS_ev _ _ (by omega)) ?_); try dsimp only)
      | ((with_reducible refine Ev.bind (heldLadder_ev _ _ _ (by omega) (by omega)) ?_); try dsimp only)
      | ((with_reducible refine Ev.bind (heldIntS_ev _ _ (by omega)) ?_); try dsimp only)
      | simp only [if_true, if_false, bne_self_eq_false, Bool.false_eq_true, eq_self, Option.bind_some, hneg]
      | (refine Ev.succ ?_; simp only [laws_FnExactIsSplit.j0])
      )
  · simp only [hl, if_false]
    simpa using Ev.now _
end Go.Proofs.Ythpdhoplddlieaa.Q
