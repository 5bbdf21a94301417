/- The pure statement of FnExactAllLevels: the program's AllLevels and the reference's give the same. Conditions: none beyond the law's own. -/
import Derived.Test.YtgbpkajbddokoaaB2
import Derived.Test.YtgbpkajbddokoaaB3
import Derived.Test.YtgbpkajbddokoaaB13
import Derived.Test.YtgbpkajbddokoaaQlva
import Derived.Test.YtgbpkajbddokoaaQl1In
import Derived.Test.YtgbpkajbddokoaaQmarkSS
namespace Go.Proofs.Ytgbpkajbddokoaa.Q
open Go.RowKit Go.Proofs.Ytgbpkajbddokoaa.B Go.Proofs.YtgbpkajbddokoaaW.PrintWords Go.Proofs.YtgbpkajbddokoaaW.PrintLast Go.Proofs.YtgbpkajbddokoaaW.PrintMore
set_option linter.unusedVariables false
set_option linter.unusedSimpArgs false
theorem AllLevels_both (a : Int) : ∃ r, Ev (fun k => spec_AllLevels.f k a) r ∧ Ev (fun _ => impl_AllLevels.f a) r ∧ smallSS r.1 := by
  unfold spec_AllLevels.f impl_AllLevels.f spec_lvWires.f
  simp only [l1In_f, Option.bind_some]
  cases h : inB a 2 8 with
  | false => exact ⟨([], false), by simpa using Ev.now _, by simpa using Ev.now _, by simp [smallSS]⟩
  | true =>
    have ha := (inB_iff _ _ _).1 h
    obtain ⟨n, rfl⟩ : ∃ n : Nat, a = n := ⟨a.toNat, by omega⟩
    simp only [if_true]
    have e : ((n : Int)).toNat = n := by omega
    have sm := lva_small (n - 1) (by omega) 4 (by omega) 0 (by omega)
    refine ⟨(lva (n - 1) 4 0, true), Ev.bind (lvAll_ev n (by omega) (by omega) 4 0 (by omega) (by omega) (by omega)) (Ev.now _), ?_, by have := sm.1; simp only; omega, fun x hx => ?_⟩
    · rw [e, AllLevels_list n (by omega)]; exact Ev.now _
    · have h2 : x.length ≤ 8 := by simpa using List.all_eq_true.1 sm.2 x hx
      omega
theorem FnExactAllLevels : ∀ (a0 : Int), (Lit.int .i64 a0).wf = true → ∃ k, laws_FnExactAllLevels.f k a0 = some true := by
  intro a _
  refine Ev.rounds ?_
  obtain ⟨r, hs, hi, hsm⟩ := AllLevels_both a
  have hneg := markEndSS_neg r.1 hsm
  unfold laws_FnExactAllLevels.f
  repeat' (first
    | exact Ev.now _
    | ((with_reducible refine Ev.bind hs ?_); try dsimp only)
    | ((with_reducible refine Ev.bind hi ?_); try dsimp only)
    | ((with_reducible refine Ev.bind (toLadder_ev _ _ (by omega)) ?_); try dsimp only)
    | ((with_reducible refine Ev.bind (toIntS_ev _ (by omega)) ?_); try dsimp only)
    | ((with_reducible refine Ev.bind (eqLadder_refl _ _ (by omega)) ?_); try dsimp only)
    | ((with_reducible refine Ev.bind (eqIntS_refl _ (by omega)) ?_); try dsimp only)
    | ((with_reducible refine Ev.bind (markLadder_ev _ _ _ (by omega)) ?_); try dsimp only)
    | ((with_reducible refine Ev.bind (markIntS_ev _ _ (by omega)) ?_); try dsimp only)
    | ((with_reducible refine Ev.bind (heldLadder_ev _ _ _ (by omega) (by omega)) ?_); try dsimp only)
    | ((with_reducible refine Ev.bind (heldIntS_ev _ _ (by omega)) ?_); try dsimp only)
    | ((with_reducible refine Ev.bind (eqIntSS_refl _ (by assumption)) ?_); try dsimp only)
    | ((with_reducible refine Ev.bind (markIntSS_ev _ _ (by assumption)) ?_); try dsimp only)
    | ((with_reducible refine Ev.bind (heldIntSS_ev _ _ (by assumption) (by omega) (by omega)) ?_); try dsimp only)
    | simp only [if_true, if_false, bne_self_eq_false, Bool.false_eq_true, eq_self, Option.bind_some, hneg]
    )
end Go.Proofs.Ytgbpkajbddokoaa.Q
