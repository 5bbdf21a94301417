/- The pure statement of FnExactDoubleLadder: the program's DoubleLadder and the reference's give the same. Conditions: none beyond the law's own. -/
import Derived.Test.YthpdhoplddlieaaB4
import Derived.Test.YthpdhoplddlieaaB18
import Derived.Test.YthpdhoplddlieaaB19
import Derived.Test.YthpdhoplddlieaaQlaIf
import Derived.Test.YthpdhoplddlieaaQtoLadder
import Derived.Test.YthpdhoplddlieaaQeqLadder
import Derived.Test.YthpdhoplddlieaaQmarkLadder
import Derived.Test.YthpdhoplddlieaaQszLadder
namespace Go.Proofs.Ythpdhoplddlieaa.Q
open Go.RowKit Go.Proofs.Ythpdhoplddlieaa.B Go.Proofs.YthpdhoplddlieaaW.PrintWords Go.Proofs.YthpdhoplddlieaaW.PrintLast Go.Proofs.YthpdhoplddlieaaW.PrintMore
set_option linter.unusedVariables false
set_option linter.unusedSimpArgs false
def dbl (r : Int) : List Int := [wrap64 ((wrap64 (2 * r)) + 1), wrap64 (2 * r), wrap64 ((wrap64 (2 * r)) + 2), wrap64 ((wrap64 (2 * r)) + 1)]
theorem dbl_length (l : List Int) : (l.flatMap dbl).length = 4 * l.length := by
  induction l with
  | nil => rfl
  | cons x l ih => rw [List.flatMap_cons, List.length_append, ih]; simp [dbl]; omega
theorem DoubleLadder_both (a : Int) (l : List Int) : ∃ r, Ev (fun k => spec_DoubleLadder.f k a l) r ∧ Ev (fun k => impl_DoubleLadder.f k a l) r ∧ r.2.1.length ≤ 60 := by
  by_cases h : isLadderB a l = true
  · have hl := ((isLadderB_iff a l).1 h).2.2.1
    refine ⟨ifLadder (wrap64 (2 * a)) (l.flatMap dbl), ?_, ?_, ifLadder_length _ _⟩
    · unfold spec_DoubleLadder.f
      refine Ev.bind (laGood_ev a l) ?_
      simp only [h, if_true]
      have key := Ev.inv (σ := List Int) (L := fun k j s => spec_DoubleLadder.l0 k l (l.length : Int) (j : Int) (wrap64 (2 * a)) s) (r := ifLadder (wrap64 (2 * a)) (l.flatMap dbl)) (n := l.length)
        (Inv := fun j s => s = (l.take j).flatMap dbl)
        (fun s hs => by
          subst hs
          refine Ev.succ ?_
          have g1 : ¬ (l.length : Int) < (l.length : Int) := by omega
          simp only [spec_DoubleLadder.l0, g1, if_false, List.take_length]
          exact Ev.bind (laIf_ev _ _) (Ev.now _))
        (fun j s hj hs ih => by
          subst hs
          refine Ev.succ ?_
          have g1 : (j : Int) < (l.length : Int) := by omega
          have g0 : (0 : Int) ≤ (j : Int) := by omega
          have g2 : ((l.take j).flatMap dbl).length + [wrap64 ((wrap64 (2 * l[j])) + 1), wrap64 (2 * l[j]), wrap64 ((wrap64 (2 * l[j])) + 2), wrap64 ((wrap64 (2 * l[j])) + 1)].length < 17592186044416 := by rw [dbl_length, List.length_take]; simp; omega
          simp only [spec_DoubleLadder.l0, g1, g0, if_true, rd_nat l j hj, Option.bind_some, wrap_nat j _ hj (by omega)]
          simp only [g2, if_true]
          refine ih _ ?_
          rw [take_snoc l j hj, List.flatMap_append]; simp [dbl])
      exact key 0 [] (Nat.zero_le _) rfl
    · unfold impl_DoubleLadder.f impl_isLadder.f
      simp only [Option.bind_some, h, if_true]
      have key := Ev.inv (σ := List Int) (L := fun k j s => impl_DoubleLadder.l0 k l (l.length : Int) (j : Int) (wrap64 (2 * a)) s) (r := ifLadder (wrap64 (2 * a)) (l.flatMap dbl)) (n := l.length)
        (Inv := fun j s => s = (l.take j).flatMap dbl)
        (fun s hs => by
          subst hs
          refine Ev.succ ?_
          have g1 : ¬ (l.length : Int) < (l.length : Int) := by omega
          simp only [impl_DoubleLadder.l0, g1, if_false, List.take_length, checked_f, Option.bind_some]
          exact Ev.now _)
        (fun j s hj hs ih => by
          subst hs
          refine Ev.succ ?_
          have g1 : (j : Int) < (l.length : Int) := by omega
          have g0 : (0 : Int) ≤ (j : Int) := by omega
          have g2 : ((l.take j).flatMap dbl).length + [wrap64 ((wrap64 (2 * l[j])) + 1), wrap64 (2 * l[j]), wrap64 ((wrap64 (2 * l[j])) + 2), wrap64 ((wrap64 (2 * l[j])) + 1)].length < 17592186044416 := by rw [dbl_length, List.length_take]; simp; omega
          simp only [impl_DoubleLadder.l0, g1, g0, if_true, rd_nat l j hj, Option.bind_some, wrap_nat j _ hj (by omega)]
          simp only [g2, if_true]
          refine ih _ ?_
          rw [take_snoc l j hj, List.flatMap_append]; simp [dbl])
      exact key 0 [] (Nat.zero_le _) rfl
  · have h' : isLadderB a l = false := by simpa using h
    refine ⟨(0, [], false), ?_, ?_, Nat.zero_le _⟩
    · unfold spec_DoubleLadder.f
      refine Ev.bind (laGood_ev a l) ?_
      simp only [h', Bool.false_eq_true, if_false]
      exact Ev.now _
    · unfold impl_DoubleLadder.f impl_isLadder.f
      simp only [Option.bind_some, h', Bool.false_eq_true, if_false]
      exact Ev.now _
theorem FnExactDoubleLadder : ∀ (a0_0 : Int) (l0_1 : List Int), (Lit.int .i64 a0_0).wf = true → l0_1.length ≤ maxLen → (∀ x ∈ l0_1, (Lit.int .i64 x).wf = true) → ∃ k, laws_FnExactDoubleLadder.f k a0_0 l0_1 = some true := by
  intro a l _ hm _
  unfold maxLen at hm
  refine Ev.rounds ?_
  unfold laws_FnExactDoubleLadder.f
  simp only [szLadder_f a l hm, Option.bind_some]
  by_cases hl : l.length ≤ 1048576
  · have h2 : ¬ (1048576 - (l.length : Int)) < 0 := by omega
    obtain ⟨r, hs, hi, hr⟩ := DoubleLadder_both a l
    have hneg : ¬ markEnd 1 r.2.1.length < 0 := by have := markEnd_eq r.2.1.length 1 (by omega) (by omega); omega
    have hneg2 : ¬ markEnd 1 l.length < 0 := by have := markEnd_eq l.length 1 (by omega) (by omega); omega
    simp only [hl, if_true, h2, if_false]
    repeat' (first
      | exact Ev.now _
      | ((with_reducible refine Ev.bind hs ?_); try dsimp only)
      | ((with_reducible refine Ev.bind hi ?_); try dsimp only)
      | ((with_reducible refine Ev.bind (toLadder_ev _ _ (by omega)) ?_); try dsimp only)
      | ((with_reducible refine Ev.bind (toIntS_ev _ (by omega)) ?_); try dsimp only)
      | ((with_reducible refine Ev.bind (eqLadder_refl _ _ (by omega)) ?_); try dsimp only)
      | ((with_reducible refine Ev.bind (eqIntS_refl _ (by omega)) ?_); try dsimp only)
      | ((with_reducible refine Ev.bind (markLadder_ev _ _ _ (by omega)) ?_); try dsimp only)
      | ((with_reducible refine Ev.bind (markIntS_ev _ _ (by omega)) ?_); try dsimp only)
      | ((with_reducible refine Ev.bind (heldLadder_ev _ _ _ (by omega) (by omega)) ?_); try dsimp only)
      | ((with_reducible refine Ev.bind (heldIntS_ev _ _ (by omega)) ?_); try dsimp only)
      | simp only [if_true, if_false, bne_self_eq_false, Bool.false_eq_true, eq_self, Option.bind_some, hneg, hneg2]
      | (refine Ev.succ ?_; simp only [laws_FnExactDoubleLadder.j0])
      | (refine Ev.succ ?_; simp only [laws_FnExactDoubleLadder.j1])
      | (refine Ev.succ ?_; simp only [laws_FnExactDoubleLadder.j2])
      )
  · simp only [hl, if_false]
    simpa using Ev.now _
end Go.Proofs.Ythpdhoplddlieaa.Q
