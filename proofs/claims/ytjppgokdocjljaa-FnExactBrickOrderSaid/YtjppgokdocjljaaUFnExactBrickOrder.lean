/- The pure statement of FnExactBrickOrder: the program's BrickOrder and the reference's give the same. Conditions: none beyond the law's own. -/
import Derived.Test.YtjppgokdocjljaaB10
import Derived.Test.YtjppgokdocjljaaQBrickLadder
import Derived.Test.YtjppgokdocjljaaQlaResult
import Derived.Test.YtjppgokdocjljaaQresult
import Derived.Test.YtjppgokdocjljaaQtoIntS
import Derived.Test.YtjppgokdocjljaaQeqIntS
import Derived.Test.YtjppgokdocjljaaQmark
namespace Go.Proofs.Ytjppgokdocjljaa.Q
open Go.RowKit Go.Proofs.Ytjppgokdocjljaa.B Go.Proofs.YtjppgokdocjljaaW.PrintWords Go.Proofs.YtjppgokdocjljaaW.PrintLast Go.Proofs.YtjppgokdocjljaaW.PrintMore
set_option linter.unusedVariables false
set_option linter.unusedSimpArgs false
theorem BrickOrder_both (a x : Int) : ∃ r, Ev (fun k => spec_BrickOrder.f k a x) r ∧ Ev (fun k => impl_BrickOrder.f k a x) r ∧ r.1.length ≤ 60 := by
  obtain ⟨⟨q0, q1, q2⟩, hs, hi, hl, hg⟩ := BrickLadder_both a x
  cases q2 with
  | false =>
    refine ⟨([], false), Ev.bind hs ?_, Ev.bind hi ?_, by simp⟩
    · simp only [Bool.false_eq_true, if_false]; exact Ev.now _
    · simp only [Bool.false_eq_true, if_false]; exact Ev.now _
  | true =>
    obtain ⟨rfl, hg⟩ := hg rfl
    have hg := (isLadderB_iff _ _).1 hg
    simp only at hl hg
    obtain ⟨n, rfl⟩ : ∃ n : Nat, q0 = n := ⟨q0.toNat, by omega⟩
    refine ⟨(res n q1, true), Ev.bind hs ?_, Ev.bind hi ?_, by rw [res_length]; omega⟩
    · simp only [if_true]; exact Ev.bind (laResult_ev n q1 (by omega) (by omega)) (Ev.now _)
    · simp only [if_true]; exact Ev.bind (result_ev n q1 (by omega) (by omega)) (Ev.now _)
theorem FnExactBrickOrder : ∀ (a0 : Int) (a1 : Int), (Lit.int .i64 a0).wf = true → (Lit.int .i64 a1).wf = true → ∃ k, laws_FnExactBrickOrder.f k a0 a1 = some true := by
  intro a x _ _
  obtain ⟨r, hs, hi, hr⟩ := BrickOrder_both a x
  refine Ev.rounds ?_
  have hneg : ¬ markEnd 1 r.1.length < 0 := by have := markEnd_eq r.1.length 1 (by omega) (by omega); omega
  unfold laws_FnExactBrickOrder.f
  repeat' (first
    | exact Ev.now _
    | ((with_reducible refine Ev.bind hs ?_); try dsimp only)
    | ((with_reducible refine Ev.bind hi ?_); try dsimp only)
    | ((with_reducible refine Ev.bind (toLadder_ev _ _ (by omega)) ?_); try dsimp only)
    | ((with_reducible refine Ev.bind (toIntS_ev _ (by omega)) ?_); try dsimp only)
    | ((with_reducible refine Ev.bind (eqLadder_refl _ _ (by omega)) ?_); try dsimp only)
    | ((with_reducible refine Ev.bind (eqIntS_refl _ (by omega)) ?_); try dsimp only)
    | ((with_reducible refine Ev.bind (markLadder_ev _ _ _ (by omega)) ?_); try dsimp only)
    | ((with_reducible refine Ev.bind (markIntS_ev _ _ (by omega)) ?_); try dsimp only)
    | ((with_reducible refine Ev.bind (heldLadder_ev _ _ _ (by omega) (by omega)) ?_); try dsimp only)
    | ((with_reducible refine Ev.bind (heldIntS_ev _ _ (by omega)) ?_); try dsimp only)
    | simp only [if_true, if_false, bne_self_eq_false, Bool.false_eq_true, eq_self, Option.bind_some, hneg]
    )
end Go.Proofs.Ytjppgokdocjljaa.Q
