/- The pure statement of FnExactRungsOn: the program's RungsOn and the reference's give the same. Conditions: none beyond the law's own. -/
import Derived.Test.YtjppgokdocjljaaB2
import Derived.Test.YtjppgokdocjljaaB7
import Derived.Test.YtjppgokdocjljaaQmrOver
import Derived.Test.YtjppgokdocjljaaQoversI
import Derived.Test.YtjppgokdocjljaaQway
import Derived.Test.YtjppgokdocjljaaQlaGood
import Derived.Test.YtjppgokdocjljaaQtoLadder
import Derived.Test.YtjppgokdocjljaaQeqLadder
import Derived.Test.YtjppgokdocjljaaQszLadder
import Derived.Test.YtjppgokdocjljaaQmarkLadder
import Derived.Test.YtjppgokdocjljaaQtoIntS
import Derived.Test.YtjppgokdocjljaaQeqIntS
import Derived.Test.YtjppgokdocjljaaQmark
namespace Go.Proofs.Ytjppgokdocjljaa.Q
open Go.RowKit Go.Proofs.Ytjppgokdocjljaa.B Go.Proofs.YtjppgokdocjljaaW.PrintWords Go.Proofs.YtjppgokdocjljaaW.PrintLast Go.Proofs.YtjppgokdocjljaaW.PrintMore
set_option linter.unusedVariables false
set_option linter.unusedSimpArgs false
theorem RungsOn_both (a : Int) (l : List Int) : ∃ r, Ev (fun k => spec_RungsOn.f k a l) r ∧ Ev (fun k => impl_RungsOn.f k a l) r ∧ r.1.length ≤ 60 := by
  by_cases h : isLadderB a l = true
  · have hl := (isLadderB_iff a l).1 h
    obtain ⟨n, rfl⟩ : ∃ n : Nat, a = n := ⟨a.toNat, by omega⟩
    refine ⟨(rungsOn n l, true), ?_, ?_, by rw [rungsOn_length]; omega⟩
    · unfold spec_RungsOn.f
      refine Ev.bind (laGood_ev _ l) ?_
      simp only [h, if_true]
      exact Ev.bind (mrOver_ev n l (by omega) (by omega)) (Ev.now _)
    · unfold impl_RungsOn.f impl_isLadder.f
      simp only [Option.bind_some, h, if_true]
      have key := Ev.inv (σ := List Int) (L := fun k j s => impl_RungsOn.l0 k s (n : Int) (j : Int) (n : Int) l) (r := (rungsOn n l, true)) (n := n)
        (Inv := fun j s => s = (rungsOn n l).take j)
        (fun s hs => by
          subst hs
          refine Ev.succ (Ev.ret fun k => ?_)
          rw [impl_RungsOn.l0, if_neg (by omega), List.take_of_length_le (by rw [rungsOn_length]; omega)])
        (fun j s hj hs ih => by
          subst hs
          refine Ev.succ ?_
          have h1 : (j : Int) < (n : Int) := by omega
          have h3 : ((rungsOn n l).take j).length < 17592186044416 := by rw [List.length_take, rungsOn_length]; omega
          simp only [impl_RungsOn.l0, h1, if_true, wrap_nat j n hj (by omega)]
          refine Ev.bind (way_ev (n : Int) l (j : Int) (by omega)) ?_
          refine Ev.bind (overs_ev _ l.length (downs_length l _) (by omega)) ?_
          simp only [h3, if_true]
          exact ih _ (rungsOn_take n j l hj).symm)
      exact key 0 [] (Nat.zero_le _) rfl
  · have h' : isLadderB a l = false := by simpa using h
    refine ⟨([], false), ?_, ?_, by simp⟩
    · unfold spec_RungsOn.f
      refine Ev.bind (laGood_ev _ l) ?_
      simp only [h', Bool.false_eq_true, if_false]; exact Ev.now _
    · unfold impl_RungsOn.f impl_isLadder.f
      simp only [Option.bind_some, h', Bool.false_eq_true, if_false]
      exact Ev.now _
theorem FnExactRungsOn : ∀ (a0_0 : Int) (l0_1 : List Int), (Lit.int .i64 a0_0).wf = true → l0_1.length ≤ maxLen → (∀ x ∈ l0_1, (Lit.int .i64 x).wf = true) → ∃ k, laws_FnExactRungsOn.f k a0_0 l0_1 = some true := by
  intro a l _ hm _
  unfold maxLen at hm
  refine Ev.rounds ?_
  unfold laws_FnExactRungsOn.f
  simp only [szLadder_f a l hm, Option.bind_some]
  by_cases hl : l.length ≤ 1048576
  · have h2 : ¬ (1048576 - (l.length : Int)) < 0 := by omega
    obtain ⟨r, hs, hi, hr⟩ := RungsOn_both a l
    have hneg : ¬ markEnd 1 r.1.length < 0 := by have := markEnd_eq r.1.length 1 (by omega) (by omega); omega
    have hneg2 : ¬ markEnd 1 l.length < 0 := by have := markEnd_eq l.length 1 (by omega) (by omega); omega
    simp only [hl, if_true, h2, if_false]
    repeat' (first
      | exact Ev.now _
      | ((with_reducible refine Ev.bind hs ?_); try dsimp only)
      | ((with_reducible refine Ev.bind hi ?_); try dsimp only)
      | ((with_reducible refine Ev.bind (toLadder_ev _ _ (by omega)) ?_); try dsimp only)
      | ((with_reducible refine Ev.bind (toIntS_ev _ (by omega)) ?_); try dsimp only)
      | ((with_reducible refine Ev.bind (eqLadder_refl _ _ (by omega)) ?_); try dsimp only)
      | ((with_reducible refine Ev.bind (eqIntS_refl _ (by omega)) ?_); try dsimp only)
      | ((with_reducible refine Ev.bind (markLadder_ev _ _ _ (by omega)) ?_); try dsimp only)
      | ((with_reducible refine Ev.bind (markIntS_ev _ _ (by omega)) ?_); try dsimp only)
      | ((with_reducible refine Ev.bind (heldLadder_ev _ _ _ (by omega) (by omega)) ?_); try dsimp only)
      | ((with_reducible refine Ev.bind (heldIntS_ev _ _ (by omega)) ?_); try dsimp only)
      | simp only [if_true, if_false, bne_self_eq_false, Bool.false_eq_true, eq_self, Option.bind_some, hneg, hneg2]
      )
  · simp only [hl, if_false]
    simpa using Ev.now _
end Go.Proofs.Ytjppgokdocjljaa.Q
