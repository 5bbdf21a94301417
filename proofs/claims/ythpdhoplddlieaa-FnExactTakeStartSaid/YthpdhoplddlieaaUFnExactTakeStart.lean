/- The pure statement of FnExactTakeStart: the program's TakeStart and the reference's give the same. Conditions: none beyond the law's own. -/
import Derived.Test.YthpdhoplddlieaaB4
import Derived.Test.YthpdhoplddlieaaB24
import Derived.Test.YthpdhoplddlieaaB25
import Derived.Test.YthpdhoplddlieaaQlaGood
import Derived.Test.YthpdhoplddlieaaQl1In
import Derived.Test.YthpdhoplddlieaaQbetween
import Derived.Test.YthpdhoplddlieaaQmrTake
import Derived.Test.YthpdhoplddlieaaQtakeStart
import Derived.Test.YthpdhoplddlieaaQtoLadder
import Derived.Test.YthpdhoplddlieaaQeqLadder
import Derived.Test.YthpdhoplddlieaaQmarkLadder
import Derived.Test.YthpdhoplddlieaaQszLadder
namespace Go.Proofs.Ythpdhoplddlieaa.Q
open Go.RowKit Go.Proofs.Ythpdhoplddlieaa.B Go.Proofs.YthpdhoplddlieaaW.PrintWords Go.Proofs.YthpdhoplddlieaaW.PrintLast Go.Proofs.YthpdhoplddlieaaW.PrintMore
set_option linter.unusedVariables false
set_option linter.unusedSimpArgs false
theorem TakeStart_both (a : Int) (l : List Int) (x : Int) : ∃ r, Ev (fun k => spec_TakeStart.f k a l x) r ∧ Ev (fun k => impl_TakeStart.f k a l x) r ∧ r.2.1.length ≤ 60 := by
  refine ⟨if isLadderB a l = true then (if inB x 0 (wrap64 (a - 1)) = true then (if a < 3 then (0, [], false) else (wrap64 (a - 1), tk x l, true)) else (0, [], false)) else (0, [], false), ?_, ?_, ?_⟩
  · unfold spec_TakeStart.f spec_laWire.f
    by_cases h : isLadderB a l = true
    · have hl := (isLadderB_iff a l).1 h
      refine Ev.bind (a := inB x 0 (wrap64 (a - 1))) (Ev.bind (laGood_ev a l) ?_) ?_
      · simp only [h, if_true, l1In_f, Option.bind_some]; exact Ev.now _
      · rw [if_pos h]
        refine Ev.iteb (fun h2 => ?_) (fun h2 => ?_)
        · rw [if_pos h2]
          refine Ev.ite (fun h3 => ?_) (fun h3 => ?_)
          · rw [if_pos h3]; exact Ev.now _
          · rw [if_neg h3]; exact Ev.bind (mrTake_ev l x (by omega)) (Ev.now _)
        · rw [if_neg (by simp [h2])]; exact Ev.now _
    · have h' : isLadderB a l = false := by simpa using h
      refine Ev.bind (a := false) (Ev.bind (laGood_ev a l) ?_) ?_
      · simp only [h', Bool.false_eq_true, if_false]; exact Ev.now _
      · rw [if_neg h]; simp only [Bool.false_eq_true, if_false]; exact Ev.now _
  · unfold impl_TakeStart.f impl_hasWire.f impl_isLadder.f
    simp only [Option.bind_some, btw_f]
    by_cases h : isLadderB a l = true
    · have hl := (isLadderB_iff a l).1 h
      simp only [h, if_true, Option.bind_some]
      refine Ev.iteb (fun h2 => ?_) (fun h2 => ?_)
      · rw [if_pos h2]
        refine Ev.ite (fun h3 => ?_) (fun h3 => ?_)
        · rw [if_pos h3]; exact Ev.now _
        · rw [if_neg h3]; exact Ev.bind (takeStart_ev a l x (by omega)) (Ev.now _)
      · rw [if_neg (by simp [h2])]; exact Ev.now _
    · have h' : isLadderB a l = false := by simpa using h
      simp only [h', Bool.false_eq_true, if_false, Option.bind_some]
      exact Ev.now _
  · split
    · rename_i h
      have hl := (isLadderB_iff a l).1 h
      split
      · split
        · simp
        · have := tk_length l x; simp only; omega
      · simp
    · simp
theorem FnExactTakeStart : ∀ (a0_0 : Int) (l0_1 : List Int) (a1 : Int), (Lit.int .i64 a0_0).wf = true → l0_1.length ≤ maxLen → (∀ x ∈ l0_1, (Lit.int .i64 x).wf = true) → (Lit.int .i64 a1).wf = true → ∃ k, laws_FnExactTakeStart.f k a0_0 l0_1 a1 = some true := by
  intro a l x _ hm _ _
  unfold maxLen at hm
  refine Ev.rounds ?_
  unfold laws_FnExactTakeStart.f
  simp only [szLadder_f a l hm, Option.bind_some]
  by_cases hl : l.length ≤ 1048576
  · have h2 : ¬ (1048576 - (l.length : Int)) < 0 := by omega
    obtain ⟨r, hs, hi, hr⟩ := TakeStart_both a l x
    have hneg : ¬ markEnd 1 r.2.1.length < 0 := by have := markEnd_eq r.2.1.length 1 (by omega) (by omega); omega
    have hneg2 : ¬ markEnd 1 l.length < 0 := by have := markEnd_eq l.length 1 (by omega) (by omega); omega
    simp only [hl, if_true, h2, if_false]
    repeat' (first
      | exact Ev.now _
      | ((with_reducible refine Ev.bind hs ?_); try dsimp only)
      | ((with_reducible refine Ev.bind hi ?_); try dsimp only)
      | ((with_reducible refine Ev.bind (toLadder_ev _ _ (by omega)) ?_); try dsimp only)
      | ((with_reducible refine Ev.bind (toIntS_ev _ (by omega)) ?_); try dsimp only)
      | ((with_reducible refine Ev.bind (eqLadder_refl _ _ (by omega)) ?_); try dsimp only)
      | ((with_reducible refine Ev.bind (eqIntS_refl _ (by omega)) ?_); try dsimp only)
      | ((with_reducible refine Ev.bind (markLadder_ev _ _ _ (by omega)) ?_); try dsimp only)
      | ((with_reducible refine Ev.bind (markIntS_ev _ _ (by omega)) ?_); try dsimp only)
      | ((with_reducible refine Ev.bind (heldLadder_ev _ _ _ (by omega) (by omega)) ?_); try dsimp only)
      | ((with_reducible refine Ev.bind (heldIntS_ev _ _ (by omega)) ?_); try dsimp only)
      | simp only [if_true, if_false, bne_self_eq_false, Bool.false_eq_true, eq_self, Option.bind_some, hneg, hneg2]
      | (refine Ev.succ ?_; simp only [laws_FnExactTakeStart.j0])
      | (refine Ev.succ ?_; simp only [laws_FnExactTakeStart.j1])
      | (refine Ev.succ ?_; simp only [laws_FnExactTakeStart.j2])
      )
  · simp only [hl, if_false]
    simpa using Ev.now _
end Go.Proofs.Ythpdhoplddlieaa.Q
