/- The pure statement of FnExactLeastDepth: the program's LeastDepth and the reference's give the same. Conditions: none beyond the law's own. -/
import Derived.Test.YtojbmihkdlkkcaaB4
import Derived.Test.YtojbmihkdlkkcaaQfar
import Derived.Test.YtojbmihkdlkkcaaQl1In
import Derived.Test.YtojbmihkdlkkcaaQisOrder
import Derived.Test.YtojbmihkdlkkcaaQlaOrder
import Derived.Test.YtojbmihkdlkkcaaQbetween
import Derived.Test.YtojbmihkdlkkcaaQtoIntS
import Derived.Test.YtojbmihkdlkkcaaQeqIntS
namespace Go.Proofs.Ytojbmihkdlkkcaa.Q
open Go.RowKit Go.Proofs.Ytojbmihkdlkkcaa.B Go.Proofs.YtojbmihkdlkkcaaW.PrintWords Go.Proofs.YtojbmihkdlkkcaaW.PrintLast Go.Proofs.YtojbmihkdlkkcaaW.PrintMore
set_option linter.unusedVariables false
set_option linter.unusedSimpArgs false
def leastD (p : List Int) : Int × Bool := if orderB p = true ∧ 2 ≤ p.length ∧ p.length ≤ 6 then (lookF (depQ p.length) p, true) else (0, false)
theorem isMade_ev (p : List Int) : Ev (fun k => impl_isMade.f k p) (decide (orderB p = true ∧ 2 ≤ p.length ∧ p.length ≤ 6)) := by
  unfold impl_isMade.f
  refine Ev.bind (isOrder_ev p) ?_
  cases h : orderB p with
  | false => simpa using Ev.now _
  | true =>
    simp only [if_true, btw_f, Option.bind_some]
    refine Ev.ret fun k => ?_
    congr 1
    rw [Bool.eq_iff_iff, inB_iff, decide_eq_true_iff]
    simp only [true_and]
    omega
theorem lvMade_ev (p : List Int) : Ev (fun k => spec_lvMade.f k p) (decide (orderB p = true ∧ 2 ≤ p.length ∧ p.length ≤ 6)) := by
  unfold spec_lvMade.f
  refine Ev.bind (laOrder_ev p) ?_
  cases h : orderB p with
  | false => simpa using Ev.now _
  | true =>
    simp only [if_true, l1In_f, Option.bind_some]
    refine Ev.ret fun k => ?_
    congr 1
    rw [Bool.eq_iff_iff, inB_iff, decide_eq_true_iff]
    simp only [true_and]
    omega
theorem LeastDepth_spec (p : List Int) : Ev (fun k => spec_LeastDepth.f k p) (leastD p) := by
  unfold spec_LeastDepth.f leastD
  refine Ev.bind (lvMade_ev p) ?_
  by_cases h : orderB p = true ∧ 2 ≤ p.length ∧ p.length ≤ 6
  · have hp := isOrd_of_order h.1
    simp only [h, and_self, decide_true, if_true]
    refine Ev.bind (lvFar_ev p.length h.2.1 h.2.2) ?_
    refine Ev.bind (alRank_ev p (by omega)) ?_
    have hr := rank_lt h.2.2 hp
    have g1 : (0 : Int) ≤ ((rankL p : Nat) : Int) := by omega
    have g2 : ((rankL p : Nat) : Int) < ((farQ p.length (depQ p.length)).length : Int) := by
      have : (farQ p.length (depQ p.length)).length = (allO p.length).length := by simp [farQ]
      omega
    simp only [g1, g2, if_true, far_at h.2.2 _ hp]
    exact Ev.now _
  · rw [decide_eq_false h, if_neg h]
    simp only [Bool.false_eq_true, if_false]
    exact Ev.now _
theorem LeastDepth_impl (p : List Int) : Ev (fun k => impl_LeastDepth.f k p) (leastD p) := by
  unfold impl_LeastDepth.f leastD
  refine Ev.bind (isMade_ev p) ?_
  by_cases h : orderB p = true ∧ 2 ≤ p.length ∧ p.length ≤ 6
  · have hp := isOrd_of_order h.1
    simp only [h, and_self, decide_true, if_true]
    refine Ev.bind (depths_ev p.length h.2.1 h.2.2) ?_
    obtain ⟨K, hK⟩ := keyOk_ev h.2.2 hp
    refine ⟨K, fun k hk => ?_⟩
    simp only [hK k hk, if_true, look_both _ h.2.2 hp]
  · rw [decide_eq_false h, if_neg h]
    simp only [Bool.false_eq_true, if_false]
    exact Ev.now _
theorem FnExactLeastDepth : ∀ (l0 : List Int), l0.length ≤ maxLen → (∀ x ∈ l0, (Lit.int .i64 x).wf = true) → ∃ k, laws_FnExactLeastDepth.f k l0 = some true := by
  intro p _ _
  refine Ev.rounds ?_
  unfold laws_FnExactLeastDepth.f
  by_cases hp : (p.length : Int) > 1048576
  · simp only [hp, if_true]; exact Ev.now _
  · simp only [hp, if_false]
    have hs := LeastDepth_spec p
    have hi := LeastDepth_impl p
    generalize leastD p = r at hs hi
    have hneg : ¬ (1 : Int) < 0 := by omega
    repeat' (first
      | exact Ev.now _
      | ((with_reducible refine Ev.bind hs ?_); try dsimp only)
      | ((with_reducible refine Ev.bind hi ?_); try dsimp only)
      | ((with_reducible refine Ev.bind (toIntS_ev _ (by omega)) ?_); try dsimp only)
      | ((with_reducible refine Ev.bind (eqIntS_refl _ (by omega)) ?_); try dsimp only)
      | ((with_reducible refine Ev.bind (markIntS_ev _ _ (by omega)) ?_); try dsimp only)
      | ((with_reducible refine Ev.bind (heldIntS_ev _ _ (by omega)) ?_); try dsimp only)
      | simp only [if_true, if_false, bne_self_eq_false, Bool.false_eq_true, eq_self, Option.bind_some, hneg]
      )
end Go.Proofs.Ytojbmihkdlkkcaa.Q
