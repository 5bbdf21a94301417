/- eqIntS tells whether two lists are equal. No program, no memory. -/
import Derived.Test.YtojbmihkdlkkcaaB2
import Derived.Test.YtojbmihkdlkkcaaQ0
namespace Go.Proofs.Ytojbmihkdlkkcaa.Q
open Go.RowKit Go.Proofs.Ytojbmihkdlkkcaa.B Go.Proofs.YtojbmihkdlkkcaaW.PrintWords Go.Proofs.YtojbmihkdlkkcaaW.PrintLast Go.Proofs.YtojbmihkdlkkcaaW.PrintMore
set_option linter.unusedVariables false
set_option linter.unusedSimpArgs false
theorem eqIntS_l0 (a b : List Int) (he : a.length = b.length) (hn : a.length ≤ 9223372036854775807) (d : Nat) : ∀ (k j : Nat), j ≤ a.length → a.length - j = d → d < k →
    laws_eqIntS.l0 k a b (j : Int) = some (decide (a.drop j = b.drop j)) := by
  induction d with
  | zero =>
    intro k j h1 hd hk
    obtain ⟨k, rfl⟩ : ∃ m, k = m + 1 := ⟨k - 1, by omega⟩
    have h2 : a.drop j = [] := List.drop_eq_nil_of_le (by omega)
    have h3 : b.drop j = [] := List.drop_eq_nil_of_le (by omega)
    rw [laws_eqIntS.l0, if_neg (by omega), h2, h3]; simp only [decide_true]
  | succ d ih =>
    intro k j h1 hd hk
    obtain ⟨k, rfl⟩ : ∃ m, k = m + 1 := ⟨k - 1, by omega⟩
    have hj : j < a.length := by omega
    have hj2 : j < b.length := by omega
    rw [laws_eqIntS.l0, if_pos (by omega), if_pos (by omega), if_pos (by omega), rd_nat a j hj, rd_nat b j hj2, wrap_succ (n := a.length) (by omega) (by omega) hn, List.drop_eq_getElem_cons hj, List.drop_eq_getElem_cons hj2]
    by_cases h : a[j] = b[j]
    · rw [if_pos h]
      have e2 : ((j : Int) + 1) = ((j + 1 : Nat) : Int) := rfl
      rw [e2, ih k (j + 1) (by omega) (by omega) (by omega)]
      refine congrArg some (decide_eq_decide.2 ?_)
      rw [List.cons.injEq]
      exact ⟨fun e => ⟨h, e⟩, fun e => e.2⟩
    · rw [if_neg h]
      refine congrArg some (decide_eq_false ?_).symm
      rw [List.cons.injEq]
      exact fun e => h e.1
theorem eqIntS_ev (a b : List Int) (hn : a.length ≤ 9223372036854775807) : Ev (fun k => laws_eqIntS.f k a b) (decide (a = b)) := by
  refine ⟨a.length + 1, fun k hk => ?_⟩
  show laws_eqIntS.f k a b = _
  unfold laws_eqIntS.f
  by_cases h : (a.length : Int) = (b.length : Int)
  · rw [if_pos h]
    have := eqIntS_l0 a b (by omega) hn a.length k 0 (by omega) (by omega) (by omega)
    simpa using this
  · rw [if_neg h]
    have : a ≠ b := fun e => h (by rw [e])
    simp [this]
theorem eqIntS_refl (l : List Int) (hn : l.length ≤ 9223372036854775807) : Ev (fun k => laws_eqIntS.f k l l) true := Ev.eq (eqIntS_ev l l hn) (by simp)
end Go.Proofs.Ytojbmihkdlkkcaa.Q
