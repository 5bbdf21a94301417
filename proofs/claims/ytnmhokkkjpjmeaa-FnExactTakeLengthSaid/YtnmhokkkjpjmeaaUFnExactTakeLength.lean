/- The pure statement of FnExactTakeLength: the program's TakeLength and the reference's give the same. Conditions: none beyond the law's own. -/
import Derived.Test.YtnmhokkkjpjmeaaB1
import Derived.Test.YtnmhokkkjpjmeaaB6
import Derived.Test.YtnmhokkkjpjmeaaB10
import Derived.Test.YtnmhokkkjpjmeaaQgaLong
import Derived.Test.YtnmhokkkjpjmeaaQtoLadder
import Derived.Test.YtnmhokkkjpjmeaaQeqLadder
import Derived.Test.YtnmhokkkjpjmeaaQszLadder
namespace Go.Proofs.Ytnmhokkkjpjmeaa.Q
open Go.RowKit Go.Proofs.Ytnmhokkkjpjmeaa.B Go.Proofs.YtnmhokkkjpjmeaaW.PrintWords Go.Proofs.YtnmhokkkjpjmeaaW.PrintLast Go.Proofs.YtnmhokkkjpjmeaaW.PrintMore
set_option linter.unusedVariables false
set_option linter.unusedSimpArgs false
theorem TakeLength_both (a : Int) (l : List Int) : ∃ r, Ev (fun k => spec_TakeLength.f k a l) r ∧ Ev (fun k => impl_TakeLength.f k a l) r := by
  cases h : takingB a l with
  | false =>
    refine ⟨(0, false), ?_, ?_⟩
    · unfold spec_TakeLength.f
      refine Ev.bind (gaTaking_ev a l) ?_
      simp only [h, Bool.false_eq_true, if_false]; exact Ev.now _
    · unfold impl_TakeLength.f
      refine Ev.bind (isTaking_ev a l) ?_
      simp only [h, Bool.false_eq_true, if_false]; exact Ev.now _
  | true =>
    obtain ⟨n, rfl, _, hn, hl, hhome, _⟩ := takingB_in h
    have hpos : 1 ≤ 2 ^ l.length := Nat.one_le_two_pow
    have hpow := pow_12 l.length hl
    obtain ⟨hs, ls, hev, hok⟩ := gaNew_ev (l := l) hn hl
    have hM : 2 ^ l.length - 1 < 2 ^ l.length := by omega
    have hMH : homeB n (leftR l (2 ^ l.length - 1)) = false := by rw [leftR_full]; exact hhome
    obtain ⟨_, hbd, hz⟩ := hok _ hM
    obtain ⟨hz, j, _, _, _, hbst⟩ := hz hMH
    refine ⟨(if ls.getD (2 ^ l.length - 1) 0 < 0 then -ls.getD (2 ^ l.length - 1) 0 else ls.getD (2 ^ l.length - 1) 0, true), ?_, ?_⟩
    · unfold spec_TakeLength.f
      refine Ev.bind (gaTaking_ev (n : Int) l) ?_
      simp only [h, if_true]
      refine Ev.bind hev ?_
      simp only
      have e : spec_l1Abs.f (ls.getD (2 ^ l.length - 1) 0) = some (if ls.getD (2 ^ l.length - 1) 0 < 0 then -ls.getD (2 ^ l.length - 1) 0 else ls.getD (2 ^ l.length - 1) 0) := by
        have hb1 := hbd.1
        have hb2 := hbd.2
        unfold spec_l1Abs.f spec_l1Most.f
        rw [wrap_in (i := -ls.getD (2 ^ l.length - 1) 0) (by omega) (by omega)]
        by_cases hv : ls.getD (2 ^ l.length - 1) 0 < 0
        · rw [if_pos hv, if_neg (by omega)]; rfl
        · rw [if_neg hv, if_pos (by omega)]; rfl
      rw [e]
      exact Ev.now _
    · unfold impl_TakeLength.f
      refine Ev.bind (isTaking_ev (n : Int) l) ?_
      simp only [h, hl, if_true]
      exact Ev.bind hbst (Ev.now _)
theorem FnExactTakeLength : ∀ (a0_0 : Int) (l0_1 : List Int), (Lit.int .i64 a0_0).wf = true → l0_1.length ≤ maxLen → (∀ x ∈ l0_1, (Lit.int .i64 x).wf = true) → ∃ k, laws_FnExactTakeLength.f k a0_0 l0_1 = some true := by
  intro a l _ hm _
  unfold maxLen at hm
  refine Ev.rounds ?_
  unfold laws_FnExactTakeLength.f
  simp only [szLadder_f a l hm, Option.bind_some]
  by_cases hl : l.length ≤ 1048576
  · have h2 : ¬ (1048576 - (l.length : Int)) < 0 := by omega
    have hneg := h2
    obtain ⟨r, hs, hi⟩ := TakeLength_both a l
    simp only [hl, if_true, h2, if_false]
    repeat' (first
      | exact Ev.now _
      | ((with_reducible refine Ev.bind hs ?_); try dsimp only)
      | ((with_reducible refine Ev.bind hi ?_); try dsimp only)
      | ((with_reducible refine Ev.bind (toLadder_ev _ _ (by omega)) ?_); try dsimp only)
      | ((with_reducible refine Ev.bind (toIntS_ev _ (by omega)) ?_); try dsimp only)
      | ((with_reducible refine Ev.bind (eqLadder_refl _ _ (by omega)) ?_); try dsimp only)
      | ((with_reducible refine Ev.bind (eqIntS_refl _ (by omega)) ?_); try dsimp only)
      | ((with_reducible refine Ev.bind (markLadder_ev _ _ _ (by omega)) ?_); try dsimp only)
      | ((with_reducible refine Ev.bind (markIntS_ev _ _ (by omega)) ?_); try dsimp only)
      | ((with_reducible refine Ev.bind (heldLadder_ev _ _ _ (by omega) (by omega)) ?_); try dsimp only)
      | ((with_reducible refine Ev.bind (heldIntS_ev _ _ (by omega)) ?_); try dsimp only)
      | simp only [if_true, if_false, bne_self_eq_false, Bool.false_eq_true, eq_self, Option.bind_some, hneg]
      )
  · simp only [hl, if_false]
    simpa using Ev.now _
end Go.Proofs.Ytnmhokkkjpjmeaa.Q
