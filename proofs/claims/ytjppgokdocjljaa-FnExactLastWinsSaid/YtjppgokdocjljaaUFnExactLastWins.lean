/- The pure statement of FnExactLastWins: the program's LastWins and the reference's give the same. Conditions: none beyond the law's own. -/
import Derived.Test.YtjppgokdocjljaaB2
import Derived.Test.YtjppgokdocjljaaB5
import Derived.Test.YtjppgokdocjljaaB6
import Derived.Test.YtjppgokdocjljaaQlasting
import Derived.Test.YtjppgokdocjljaaQtoLadder
import Derived.Test.YtjppgokdocjljaaQeqLadder
import Derived.Test.YtjppgokdocjljaaQszLadder
namespace Go.Proofs.Ytjppgokdocjljaa.Q
open Go.RowKit Go.Proofs.Ytjppgokdocjljaa.B Go.Proofs.YtjppgokdocjljaaW.PrintWords Go.Proofs.YtjppgokdocjljaaW.PrintLast Go.Proofs.YtjppgokdocjljaaW.PrintMore
set_option linter.unusedVariables false
set_option linter.unusedSimpArgs false
theorem LastWins_both (a : Int) (l : List Int) : ∃ r, Ev (fun k => spec_LastWins.f k a l) r ∧ Ev (fun k => impl_LastWins.f k a l) r := by
  by_cases h : isLadderB a l = true
  · have hl := (isLadderB_iff a l).1 h
    obtain ⟨n, rfl⟩ : ∃ n : Nat, a = n := ⟨a.toNat, by omega⟩
    by_cases c : lastingB n l = true
    · have c' : (l.length : Int) - ((ips (res n l) 0 n).length : Int) = 0 := by simp [lastingB] at c; omega
      refine ⟨((Int.tmod (wrap64 ((wrap64 (Int.tdiv (wrap64 ((n : Int) * (wrap64 ((n : Int) - 1)))) 2)) - (l.length : Int))) 2) == 1, true), ?_, ?_⟩
      rotate_left
      · unfold impl_LastWins.f impl_isLadder.f
        simp only [Option.bind_some, h, if_true]
        refine Ev.bind (needless_ev n l (by omega) (by omega)) ?_
        simp only [c', if_true]
        exact Ev.now _
      · unfold spec_LastWins.f
        refine Ev.bind (gaLasting_ev n l) ?_
        simp only [h, c, Bool.and_self, if_true]
        exact Ev.now _
    · have c' : ¬ (l.length : Int) - ((ips (res n l) 0 n).length : Int) = 0 := by simp [lastingB] at c; omega
      have c2 : lastingB n l = false := by simpa using c
      refine ⟨(false, false), ?_, ?_⟩
      · unfold spec_LastWins.f
        refine Ev.bind (gaLasting_ev n l) ?_
        simp only [c2, Bool.and_false, Bool.false_eq_true, if_false]
        exact Ev.now _
      · unfold impl_LastWins.f impl_isLadder.f
        simp only [Option.bind_some, h, if_true]
        refine Ev.bind (needless_ev n l (by omega) (by omega)) ?_
        simp only [c', if_false]
        exact Ev.now _
  · have h' : isLadderB a l = false := by simpa using h
    refine ⟨(false, false), ?_, ?_⟩
    · unfold spec_LastWins.f spec_gaLasting.f
      refine Ev.bind (a := false) (Ev.bind (laGood_ev _ l) ?_) ?_
      · simp only [h', Bool.false_eq_true, if_false]; exact Ev.now _
      · simp only [Bool.false_eq_true, if_false]; exact Ev.now _
    · unfold impl_LastWins.f impl_isLadder.f
      simp only [Option.bind_some, h', Bool.false_eq_true, if_false]
      exact Ev.now _
theorem FnExactLastWins : ∀ (a0_0 : Int) (l0_1 : List Int), (Lit.int .i64 a0_0).wf = true → l0_1.length ≤ maxLen → (∀ x ∈ l0_1, (Lit.int .i64 x).wf = true) → ∃ k, laws_FnExactLastWins.f k a0_0 l0_1 = some true := by
  intro a l _ hm _
  unfold maxLen at hm
  refine Ev.rounds ?_
  unfold laws_FnExactLastWins.f
  simp only [szLadder_f a l hm, Option.bind_some]
  by_cases hl : l.length ≤ 1048576
  · have h2 : ¬ (1048576 - (l.length : Int)) < 0 := by omega
    have hneg := h2
    obtain ⟨r, hs, hi⟩ := LastWins_both a l
    simp only [hl, if_true, h2, if_false]
    repeat' (first
      | exact Ev.now _
      | ((with_reducible refine Ev.bind hs ?_); try dsimp only)
      | ((with_reducible refine Ev.bind hi ?_); try dsimp only)
      | ((with_reducible refine Ev.bind (toLadder_ev _ _ (by omega)) ?_); try dsimp only)
      | ((with_reducible refine Ev.bind (toIntS_ev _ (by omega)) ?_); try dsimp only)
      | ((with_reducible refine Ev.bind (eqLadder_refl _ _ (by omega)) ?_); try dsimp only)
      | ((with_reducible refine Ev.bind (eqIntS_refl _ (by omega)) ?_); try dsimp only)
      | ((with_reducible refine Ev.bind (markLadder_ev _ _ _ (by omega)) ?_); try dsimp only)
      | ((with_reducible refine Ev.bind (markIntS_ev _ _ (by omega)) ?_); try dsimp only)
      | ((with_reducible refine Ev.bind (heldLadder_ev _ _ _ (by omega) (by omega)) ?_); try dsimp only)
      | ((with_reducible refine Ev.bind (heldIntS_ev _ _ (by omega)) ?_); try dsimp only)
      | simp only [if_true, if_false, bne_self_eq_false, Bool.false_eq_true, eq_self, Option.bind_some, hneg]
      )
  · simp only [hl, if_false]
    simpa using Ev.now _
end Go.Proofs.Ytjppgokdocjljaa.Q
