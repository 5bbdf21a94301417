/- The pure statement of FnExactWidestLevel: the program's WidestLevel and the reference's give the same. Conditions: none beyond the law's own. -/
import Derived.Test.YtkbojnmepapkhaaB4
import Derived.Test.YtkbojnmepapkhaaB9
import Derived.Test.YtkbojnmepapkhaaQlvLev
import Derived.Test.YtkbojnmepapkhaaQmarkSS
import Derived.Test.YtkbojnmepapkhaaQtoLadder
import Derived.Test.YtkbojnmepapkhaaQeqLadder
import Derived.Test.YtkbojnmepapkhaaQszLadder
namespace Go.Proofs.Ytkbojnmepapkhaa.Q
open Go.RowKit Go.Proofs.Ytkbojnmepapkhaa.B Go.Proofs.YtkbojnmepapkhaaW.PrintWords Go.Proofs.YtkbojnmepapkhaaW.PrintLast Go.Proofs.YtkbojnmepapkhaaW.PrintMore
set_option linter.unusedVariables false
set_option linter.unusedSimpArgs false
def widest : List (List Int) → Int → Int
  | [], m => m
  | x :: l, m => widest l (if m > (x.length : Int) then m else (x.length : Int))
theorem widest_spec (out : List (List Int)) (h : out.length ≤ 100000) : ∀ (d j : Nat) (m : Int), j + d = out.length → Ev (fun k => spec_WidestLevel.l0 k m out (out.length : Int) (j : Int)) (widest (out.drop j) m, true)
  | 0, j, m, hj => by
    refine Ev.succ (Ev.ret fun k => ?_)
    rw [spec_WidestLevel.l0, if_neg (by omega), List.drop_eq_nil_of_le (by omega)]; rfl
  | d + 1, j, m, hj => by
    have hlt : j < out.length := by omega
    refine Ev.succ ?_
    have g0 : (0 : Int) ≤ (j : Int) := by omega
    have g1 : (j : Int) < (out.length : Int) := by omega
    rw [List.drop_eq_getElem_cons hlt]
    simp only [spec_WidestLevel.l0, g0, g1, if_true, rdL_nat out j hlt, wrap_nat j out.length hlt (by omega)]
    have e : spec_l1Most.f m (out[j].length : Int) = some (if m > (out[j].length : Int) then m else (out[j].length : Int)) := by unfold spec_l1Most.f; split <;> rfl
    rw [e]
    exact widest_spec out h d (j + 1) _ (by omega)
theorem widest_impl (out : List (List Int)) (h : out.length ≤ 100000) : ∀ (d j : Nat) (m : Int), j + d = out.length → Ev (fun k => impl_WidestLevel.l0 k m out (out.length : Int) (j : Int)) (widest (out.drop j) m, true)
  | 0, j, m, hj => by
    refine Ev.succ (Ev.ret fun k => ?_)
    rw [impl_WidestLevel.l0, if_neg (by omega), List.drop_eq_nil_of_le (by omega)]; rfl
  | d + 1, j, m, hj => by
    have hlt : j < out.length := by omega
    refine Ev.succ ?_
    have g0 : (0 : Int) ≤ (j : Int) := by omega
    have g1 : (j : Int) < (out.length : Int) := by omega
    rw [List.drop_eq_getElem_cons hlt]
    have e : mx m (out[j].length : Int) = (if m > (out[j].length : Int) then m else (out[j].length : Int)) := by unfold mx; split <;> split <;> omega
    simp only [impl_WidestLevel.l0, g0, g1, if_true, rdL_nat out j hlt, wrap_nat j out.length hlt (by omega), e]
    exact widest_impl out h d (j + 1) _ (by omega)
theorem WidestLevel_both (a : Int) (l : List Int) : ∃ r, Ev (fun k => spec_WidestLevel.f k a l) r ∧ Ev (fun k => impl_WidestLevel.f k a l) r := by
  by_cases h : isLadderB a l = true
  · have hl := (isLadderB_iff a l).1 h
    obtain ⟨r, hs, hi, hlen, hel⟩ := levels_both h
    refine ⟨(widest r 0, true), ?_, ?_⟩
    · unfold spec_WidestLevel.f
      refine Ev.bind (laGood_ev _ l) ?_
      simp only [h, if_true]
      refine Ev.bind hs ?_
      exact widest_spec r (by omega) r.length 0 0 (Nat.zero_add _)
    · unfold impl_WidestLevel.f impl_isLadder.f
      simp only [Option.bind_some, h, if_true]
      exact Ev.bind hi (widest_impl r (by omega) r.length 0 0 (Nat.zero_add _))
  · have h' : isLadderB a l = false := by simpa using h
    refine ⟨(0, false), ?_, ?_⟩
    · unfold spec_WidestLevel.f
      refine Ev.bind (laGood_ev _ l) ?_
      simp only [h', Bool.false_eq_true, if_false]; exact Ev.now _
    · unfold impl_WidestLevel.f impl_isLadder.f
      simp only [Option.bind_some, h', Bool.false_eq_true, if_false]
      exact Ev.now _
theorem FnExactWidestLevel : ∀ (a0_0 : Int) (l0_1 : List Int), (Lit.int .i64 a0_0).wf = true → l0_1.length ≤ maxLen → (∀ x ∈ l0_1, (Lit.int .i64 x).wf = true) → ∃ k, laws_FnExactWidestLevel.f k a0_0 l0_1 = some true := by
  intro a l _ hm _
  unfold maxLen at hm
  refine Ev.rounds ?_
  unfold laws_FnExactWidestLevel.f
  simp only [szLadder_f a l hm, Option.bind_some]
  by_cases hl : l.length ≤ 1048576
  · have h2 : ¬ (1048576 - (l.length : Int)) < 0 := by omega
    have hneg := h2
    obtain ⟨r, hs, hi⟩ := WidestLevel_both a l
    simp only [hl, if_true, h2, if_false]
    repeat' (first
      | exact Ev.now _
      | ((with_reducible refine Ev.bind hs ?_); try dsimp only)
      | ((with_reducible refine Ev.bind hi ?_); try dsimp only)
      | ((with_reducible refine Ev.bind (toLadder_ev _ _ (by omega)) ?_); try dsimp only)
      | ((with_reducible refine Ev.bind (toIntS_ev _ (by omega)) ?_); try dsimp only)
      | ((with_reducible refine Ev.bind (eqLadder_refl _ _ (by omega)) ?_); try dsimp only)
      | ((with_reducible refine Ev.bind (eqIntS_refl _ (by omega)) ?_); try dsimp only)
      | ((with_reducible refine Ev.bind (markLadder_ev _ _ _ (by omega)) ?_); try dsimp only)
      | ((with_reducible refine Ev.bind (markIntS_ev _ _ (by omega)) ?_); try dsimp only)
      | ((with_reducible refine Ev.bind (heldIntS_ev _ _ (by omega)) ?_); try dsimp only)
      | ((with_reducible refine Ev.bind (eqIntSS_refl _ (by assumption)) ?_); try dsimp only)
      | ((with_reducible refine Ev.bind (markIntSS_ev _ _ (by assumption)) ?_); try dsimp only)
      | ((with_reducible refine Ev.bind (heldIntSS_ev _ _ (by assumption) (by omega) (by omega)) ?_); try dsimp only)
      | simp only [if_true, if_false, bne_self_eq_false, Bool.false_eq_true, eq_self, Option.bind_some, hneg]
      )
  · simp only [hl, if_false]
    simpa using Ev.now _
end Go.Proofs.Ytkbojnmepapkhaa.Q
