/- The pure statement of FnExactPlaceWinner: the program's PlaceWinner and the reference's give the same. Conditions: none beyond the law's own. -/
import Derived.Test.YtgbpkajbddokoaaB1
import Derived.Test.YtgbpkajbddokoaaB3
import Derived.Test.YtgbpkajbddokoaaB4
import Derived.Test.YtgbpkajbddokoaaB5
import Derived.Test.YtgbpkajbddokoaaB6
import Derived.Test.YtgbpkajbddokoaaQ1
import Derived.Test.YtgbpkajbddokoaaQplaces
namespace Go.Proofs.Ytgbpkajbddokoaa.Q
open Go.RowKit Go.Proofs.Ytgbpkajbddokoaa.B Go.Proofs.YtgbpkajbddokoaaW.PrintWords Go.Proofs.YtgbpkajbddokoaaW.PrintLast Go.Proofs.YtgbpkajbddokoaaW.PrintMore
set_option linter.unusedVariables false
set_option linter.unusedSimpArgs false
theorem gaPlacing_f (a g m : Int) : spec_gaPlacing.f a g m = some (inB a 2 8 && (inB g 0 (wrap64 (a - 1)) && inB m 0 8)) := by
  unfold spec_gaPlacing.f
  simp only [l1In_f, Option.bind_some]
  cases inB a 2 8 <;> cases inB g 0 (wrap64 (a - 1)) <;> simp
theorem isPlacing_f (a w g m : Int) : impl_isPlacing.f a w g m = some (inB a 2 8 && (inB w 0 (wrap64 (a - 1)) && (inB g 0 (wrap64 (a - 1)) && inB m 0 8))) := by
  unfold impl_isPlacing.f impl_isWires.f
  simp only [between_f, Option.bind_some]
  cases inB a 2 8 <;> cases inB w 0 (wrap64 (a - 1)) <;> cases inB g 0 (wrap64 (a - 1)) <;> simp
theorem FnExactPlaceWinner : ∀ (a0 : Int) (a1 : Int) (a2 : Int) (a3 : Int), (Lit.int .i64 a0).wf = true → (Lit.int .i64 a1).wf = true → (Lit.int .i64 a2).wf = true → (Lit.int .i64 a3).wf = true → ∃ k, laws_FnExactPlaceWinner.f k a0 a1 a2 a3 = some true := by
  intro a w g m _ _ _ _
  refine Ev.rounds ?_
  have both : ∃ r, Ev (fun k => spec_PlaceWinner.f k a w g m) r ∧ Ev (fun k => impl_PlaceWinner.f k a w g m) r := by
    unfold spec_PlaceWinner.f impl_PlaceWinner.f
    simp only [gaPlacing_f, isPlacing_f, l1In_f, Option.bind_some]
    cases h1 : inB a 2 8 with
    | false => exact ⟨_, Ev.now _, by simpa using Ev.now _⟩
    | true =>
      cases h2 : inB g 0 (wrap64 (a - 1)) with
      | false => exact ⟨_, by simpa using Ev.now _, by simpa using Ev.now _⟩
      | true =>
        cases h3 : inB m 0 8 with
        | false => exact ⟨_, by simpa using Ev.now _, by simpa using Ev.now _⟩
        | true =>
          cases h4 : inB w 0 (wrap64 (a - 1)) with
          | false => exact ⟨_, by simpa using Ev.now _, by simpa using Ev.now _⟩
          | true =>
            have ha := (inB_iff _ _ _).1 h1
            have e : wrap64 (a - 1) = a - 1 := wrap_in (by omega) (by omega)
            rw [e] at h2 h4
            have hg := (inB_iff _ _ _).1 h2
            have hm := (inB_iff _ _ _).1 h3
            have hw := (inB_iff _ _ _).1 h4
            obtain ⟨n, rfl⟩ : ∃ n : Nat, a = n := ⟨a.toNat, by omega⟩
            obtain ⟨mm, rfl⟩ : ∃ n : Nat, m = n := ⟨m.toNat, by omega⟩
            refine ⟨(win n g mm true w, true), ?_, ?_⟩
            · simp only [Bool.and_true, if_true]
              refine Ev.bind (gaPlaces_ev n (by omega) (by omega) g mm true (by omega) (by omega) (by omega)) ?_
              have g1 : w < ((wins n g mm true).length : Int) := by rw [wins_length]; omega
              simp only [hw.1, g1, if_true]
              rw [wins_rd hw.1 (by omega)]
              exact Ev.now _
            · simp only [Bool.and_true, if_true]
              exact Ev.bind (placeWins_ev n (by omega) (by omega) g mm w true (by omega)) (Ev.now _)
  obtain ⟨r, hs, hi⟩ := both
  unfold laws_FnExactPlaceWinner.f
  refine Ev.bind hs (Ev.bind hi ?_)
  simp only [bne_self_eq_false, Bool.false_eq_true, if_false]
  exact Ev.now _
end Go.Proofs.Ytgbpkajbddokoaa.Q
