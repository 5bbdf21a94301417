/- The pure statement of FnExactIsLevel: the program's IsLevel and the reference's give the same two bools on every list. Conditions: those of the law itself. -/
import Derived.Test.YtgbpkajbddokoaaB1
import Derived.Test.YtgbpkajbddokoaaB2
import Derived.Test.YtgbpkajbddokoaaQcopy
import Derived.Test.YtgbpkajbddokoaaQisLevel
namespace Go.Proofs.Ytgbpkajbddokoaa.Q
open Go.RowKit Go.Proofs.Ytgbpkajbddokoaa.B Go.Proofs.YtgbpkajbddokoaaW.PrintWords Go.Proofs.YtgbpkajbddokoaaW.PrintLast Go.Proofs.YtgbpkajbddokoaaW.PrintMore
set_option linter.unusedVariables false
set_option linter.unusedSimpArgs false
theorem FnExactIsLevel : ∀ (a0 : Int) (l1 : List Int), (Lit.int .i64 a0).wf = true → l1.length ≤ maxLen → (∀ x ∈ l1, (Lit.int .i64 x).wf = true) → ∃ k, laws_FnExactIsLevel.f k a0 l1 = some true := by
  intro a l hw _ _
  by_cases hl : (l.length : Int) > 1048576
  · exact ⟨0, by unfold laws_FnExactIsLevel.f; rw [if_pos hl]⟩
  obtain ⟨r, hr⟩ := isLevel_l0 a l (by omega) l.length (l.length + 2) 0 (by omega) (by omega) (by omega) (by omega)
  obtain ⟨b, hb⟩ := between_some a 2 8
  have hc : laws_toIntS.f (l.length + 2) l = some l := toIntS_f l (by omega) _ (by omega)
  have hc1 : laws_toIntS.f (l.length + 1) l = some l := toIntS_f l (by omega) _ (by omega)
  have he : laws_eqIntS.f (l.length + 1) l l = some true := by
    have := eqIntS_l0 l l rfl (by omega) l.length (l.length + 1) 0 (by omega) (by omega) (by omega)
    unfold laws_eqIntS.f
    rw [if_pos rfl]
    simpa using this
  refine ⟨l.length + 2, ?_⟩
  unfold laws_FnExactIsLevel.f
  rw [if_neg hl, hc]
  simp only [Option.bind_some]
  unfold spec_IsLevel.f impl_IsLevel.f spec_lvWires.f impl_isWires.f spec_lvGood.f impl_isLevel.f
  rw [good_eq, hr, in_between, hb]
  simp only [Option.bind_some]
  cases b <;> simp only [if_true, Option.bind_some, bne_self_eq_false, Bool.false_eq_true, if_false, laws_FnExactIsLevel.j0] <;>
    rw [hc1] <;> simp only [Option.bind_some] <;> rw [he] <;> rfl
end Go.Proofs.Ytgbpkajbddokoaa.Q
