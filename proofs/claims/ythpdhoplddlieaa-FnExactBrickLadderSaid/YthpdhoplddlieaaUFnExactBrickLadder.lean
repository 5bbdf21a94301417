/- The pure statement of FnExactBrickLadder: the program's BrickLadder and the reference's give the same. Conditions: none beyond the law's own. -/
import Derived.Test.YthpdhoplddlieaaB12
import Derived.Test.YthpdhoplddlieaaB15
import Derived.Test.YthpdhoplddlieaaQl1In
import Derived.Test.YthpdhoplddlieaaQbetween
import Derived.Test.YthpdhoplddlieaaQlaIf
import Derived.Test.YthpdhoplddlieaaQbricks
import Derived.Test.YthpdhoplddlieaaQeqLadder
import Derived.Test.YthpdhoplddlieaaQmarkLadder
namespace Go.Proofs.Ythpdhoplddlieaa.Q
open Go.RowKit Go.Proofs.Ythpdhoplddlieaa.B Go.Proofs.YthpdhoplddlieaaW.PrintWords Go.Proofs.YthpdhoplddlieaaW.PrintLast Go.Proofs.YthpdhoplddlieaaW.PrintMore
set_option linter.unusedVariables false
set_option linter.unusedSimpArgs false
theorem BrickLadder_both (a x : Int) : ∃ r, Ev (fun k => spec_BrickLadder.f k a x) r ∧ Ev (fun k => impl_BrickLadder.f k a x) r ∧ r.2.1.length ≤ 60 := by
  unfold spec_BrickLadder.f impl_BrickLadder.f spec_lvWires.f impl_isWires.f
  simp only [l1In_f, btw_f, Option.bind_some]
  have fail : Ev (fun k => spec_BrickLadder.j0 k a x true) (0, [], false) := Ev.succ (Ev.ret fun k => by rw [spec_BrickLadder.j0]; rfl)
  cases h1 : inB a 2 8 with
  | false => exact ⟨_, by simpa using fail, by simpa using Ev.now _, by simp⟩
  | true =>
    cases h2 : inB x 0 20 with
    | false => exact ⟨_, by simpa using fail, by simpa using Ev.now _, by simp⟩
    | true =>
      have ha := (inB_iff _ _ _).1 h1
      have hx := (inB_iff _ _ _).1 h2
      obtain ⟨n, rfl⟩ : ∃ n : Nat, a = n := ⟨a.toNat, by omega⟩
      obtain ⟨m, rfl⟩ : ∃ n : Nat, x = n := ⟨x.toNat, by omega⟩
      refine ⟨ifLadder n (bricksL n m), ?_, ?_, ifLadder_length _ _⟩
      · simp only [if_true, Bool.not_true]
        refine Ev.succ ?_
        simp only [spec_BrickLadder.j0, Bool.false_eq_true, if_false]
        exact Ev.bind (lvBricks_ev n m (by omega) (by omega) (by omega)) (Ev.bind (laIf_ev _ _) (Ev.now _))
      · simp only [if_true]
        exact Ev.bind (bricks_ev n m (by omega) (by omega) (by omega)) (Ev.now _)
theorem FnExactBrickLadder : ∀ (a0 : Int) (a1 : Int), (Lit.int .i64 a0).wf = true → (Lit.int .i64 a1).wf = true → ∃ k, laws_FnExactBrickLadder.f k a0 a1 = some true := by
  intro a x _ _
  obtain ⟨r, hs, hi, hr⟩ := BrickLadder_both a x
  refine Ev.rounds ?_
  have hneg : ¬ markEnd 1 r.2.1.length < 0 := by have := markEnd_eq r.2.1.length 1 (by omega) (by omega); omega
  unfold laws_FnExactBrickLadder.f
  repeat' (first
    | exact Ev.now _
    | ((with_reducible refine Ev.bind hs ?_); try dsimp only)
    | ((with_reducible refine Ev.bind hi ?_); try dsimp only)
    | ((with_reducible refine Ev.bind (toLadder_ev _ _ (by omega)) ?_); try dsimp only)
    | ((with_reducible refine Ev.bind (toIntS_ev _ (by omega)) ?_); try dsimp only)
    | ((with_reducible refine Ev.bind (eqLadder_refl _ _ (by omega)) ?_); try dsimp only)
    | ((with_reducible refine Ev.bind (eqIntS_refl _ (by omega)) ?_); try dsimp only)
    | ((with_reducible refine Ev.bind (markLadder_ev _ _ _ (by omega)) ?_); try dsimp only)
    | ((with_reducible refine Ev.bind (markIntS_ev _ _ (by omega)) ?_); try dsimp only)
    | ((with_reducible refine Ev.bind (heldLadder_ev _ _ _ (by omega) (by omega)) ?_); try dsimp only)
    | ((with_reducible refine Ev.bind (heldIntS_ev _ _ (by omega)) ?_); try dsimp only)
    | simp only [if_true, if_false, bne_self_eq_false, Bool.false_eq_true, eq_self, Option.bind_some, hneg]
    | (refine Ev.succ ?_; simp only [laws_FnExactBrickLadder.j0])
    | (refine Ev.succ ?_; simp only [laws_FnExactBrickLadder.j1])
    )
end Go.Proofs.Ythpdhoplddlieaa.Q
