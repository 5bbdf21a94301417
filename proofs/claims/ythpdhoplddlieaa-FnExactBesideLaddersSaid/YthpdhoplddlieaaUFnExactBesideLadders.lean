/- The pure statement of FnExactBesideLadders: the program's BesideLadders and the reference's give the same. Conditions: none beyond the law's own. -/
import Derived.Test.YthpdhoplddlieaaB1
import Derived.Test.YthpdhoplddlieaaB4
import Derived.Test.YthpdhoplddlieaaB23
import Derived.Test.YthpdhoplddlieaaB24
import Derived.Test.YthpdhoplddlieaaB25
import Derived.Test.YthpdhoplddlieaaQlaIf
import Derived.Test.YthpdhoplddlieaaQtoLadder
import Derived.Test.YthpdhoplddlieaaQeqLadder
import Derived.Test.YthpdhoplddlieaaQmarkLadder
import Derived.Test.YthpdhoplddlieaaQszLadder
namespace Go.Proofs.Ythpdhoplddlieaa.Q
open Go.RowKit Go.Proofs.Ythpdhoplddlieaa.B Go.Proofs.YthpdhoplddlieaaW.PrintWords Go.Proofs.YthpdhoplddlieaaW.PrintLast Go.Proofs.YthpdhoplddlieaaW.PrintMore
set_option linter.unusedVariables false
set_option linter.unusedSimpArgs false
def besideR (a : Int) (l m : List Int) : List Int := l ++ m.map (fun r => wrap64 (a + r))
theorem besideR_length (a : Int) (l m : List Int) : (besideR a l m).length = l.length + m.length := by unfold besideR; rw [List.length_append, List.length_map]
theorem BesideLadders_both (a : Int) (l : List Int) (b : Int) (m : List Int) : ∃ r, Ev (fun k => spec_BesideLadders.f k a l b m) r ∧ Ev (fun k => impl_BesideLadders.f k a l b m) r ∧ r.2.1.length ≤ 60 := by
  by_cases h : isLadderB a l = true
  · by_cases h2 : isLadderB b m = true
    · have hl := ((isLadderB_iff a l).1 h).2.2.1
      have hm := ((isLadderB_iff b m).1 h2).2.2.1
      refine ⟨ifLadder (wrap64 (a + b)) (besideR a l m), ?_, ?_, ifLadder_length _ _⟩
      · unfold spec_BesideLadders.f
        refine Ev.bind (laGood_ev a l) ?_
        simp only [h, if_true]
        refine Ev.bind (laGood_ev b m) ?_
        simp only [h2, Bool.not_true]
        have e1 : spec_l1Own.f l = some l := by unfold spec_l1Own.f; simp only [Option.bind_some]; rw [if_pos (by simp; omega)]; rfl
        refine Ev.succ ?_
        simp only [spec_BesideLadders.j0, Bool.false_eq_true, if_false, e1, Option.bind_some]
        have key := Ev.inv (σ := List Int) (L := fun k j s => spec_BesideLadders.l0 k m (m.length : Int) (j : Int) a l (wrap64 (a + b)) s) (r := ifLadder (wrap64 (a + b)) (besideR a l m)) (n := m.length)
          (Inv := fun j s => s = besideR a l (m.take j))
          (fun s hs => by
            subst hs
            refine Ev.succ ?_
            have g1 : ¬ (m.length : Int) < (m.length : Int) := by omega
            simp only [spec_BesideLadders.l0, g1, if_false, List.take_length]
            exact Ev.bind (laIf_ev _ _) (Ev.now _))
          (fun j s hj hs ih => by
            subst hs
            refine Ev.succ ?_
            have g1 : (j : Int) < (m.length : Int) := by omega
            have g0 : (0 : Int) ≤ (j : Int) := by omega
            have g2 : (besideR a l (m.take j)).length < 17592186044416 := by rw [besideR_length, List.length_take]; omega
            simp only [spec_BesideLadders.l0, g1, g0, g2, if_true, rd_nat m j hj, wrap_nat j _ hj (by omega)]
            refine ih _ ?_
            rw [take_snoc m j hj]; unfold besideR; rw [List.map_append, List.append_assoc]; rfl)
        exact key 0 l (Nat.zero_le _) (by simp [besideR])
      · unfold impl_BesideLadders.f impl_isLadder.f
        simp only [Option.bind_some, h, h2, if_true, Bool.not_true]
        have e1 : slices_Clone_int_int.f l = some l := by unfold slices_Clone_int_int.f; rw [if_pos (by omega)]
        refine Ev.succ ?_
        simp only [impl_BesideLadders.j0, Bool.false_eq_true, if_false, e1, Option.bind_some]
        have key := Ev.inv (σ := List Int) (L := fun k j s => impl_BesideLadders.l0 k m (m.length : Int) (j : Int) a l (wrap64 (a + b)) s) (r := ifLadder (wrap64 (a + b)) (besideR a l m)) (n := m.length)
          (Inv := fun j s => s = besideR a l (m.take j))
          (fun s hs => by
            subst hs
            refine Ev.succ ?_
            have g1 : ¬ (m.length : Int) < (m.length : Int) := by omega
            simp only [impl_BesideLadders.l0, g1, if_false, List.take_length]
            simp only [checked_f, Option.bind_some]; exact Ev.now _)
          (fun j s hj hs ih => by
            subst hs
            refine Ev.succ ?_
            have g1 : (j : Int) < (m.length : Int) := by omega
            have g0 : (0 : Int) ≤ (j : Int) := by omega
            have g2 : (besideR a l (m.take j)).length < 17592186044416 := by rw [besideR_length, List.length_take]; omega
            simp only [impl_BesideLadders.l0, g1, g0, g2, if_true, rd_nat m j hj, wrap_nat j _ hj (by omega)]
            refine ih _ ?_
            rw [take_snoc m j hj]; unfold besideR; rw [List.map_append, List.append_assoc]; rfl)
        exact key 0 l (Nat.zero_le _) (by simp [besideR])
    · have h' : isLadderB b m = false := by simpa using h2
      refine ⟨(0, [], false), ?_, ?_, Nat.zero_le _⟩
      · unfold spec_BesideLadders.f
        refine Ev.bind (laGood_ev a l) ?_
        simp only [h, if_true]
        refine Ev.bind (laGood_ev b m) ?_
        simp only [h', Bool.not_false]
        refine Ev.succ ?_
        simp only [spec_BesideLadders.j0, if_true]
        exact Ev.now _
      · unfold impl_BesideLadders.f impl_isLadder.f
        simp only [Option.bind_some, h, h', if_true, Bool.not_false]
        refine Ev.succ ?_
        simp only [impl_BesideLadders.j0, if_true]
        exact Ev.now _
  · have h' : isLadderB a l = false := by simpa using h
    refine ⟨(0, [], false), ?_, ?_, Nat.zero_le _⟩
    · unfold spec_BesideLadders.f
      refine Ev.bind (laGood_ev a l) ?_
      simp only [h', Bool.false_eq_true, if_false]
      refine Ev.succ ?_
      simp only [spec_BesideLadders.j0, if_true]
      exact Ev.now _
    · unfold impl_BesideLadders.f impl_isLadder.f
      simp only [Option.bind_some, h', Bool.false_eq_true, if_false]
      refine Ev.succ ?_
      simp only [impl_BesideLadders.j0, if_true]
      exact Ev.now _
theorem szLadder_left (a : Int) (l : List Int) (left : Int) (h0 : 0 ≤ left) (h1 : left ≤ 1048576) (hn : l.length ≤ 9223372036854775807) : laws_szLadder.f a l left = some (if (l.length : Int) ≤ left then left - (l.length : Int) else -1) := by
  unfold laws_szLadder.f laws_szIntS.f
  have e : wrap64 (left - (l.length : Int)) = left - (l.length : Int) := wrap_in (by omega) (by omega)
  rw [e]
  by_cases h : (l.length : Int) ≤ left
  · rw [if_neg (by omega), if_pos h, Option.bind_some, if_neg (by omega)]
  · rw [if_pos (by omega), if_neg h]; rfl
theorem FnExactBesideLadders : ∀ (a0_0 : Int) (l0_1 : List Int) (a1_0 : Int) (l1_1 : List Int), (Lit.int .i64 a0_0).wf = true → l0_1.length ≤ maxLen → (∀ x ∈ l0_1, (Lit.int .i64 x).wf = true) → (Lit.int .i64 a1_0).wf = true → l1_1.length ≤ maxLen → (∀ x ∈ l1_1, (Lit.int .i64 x).wf = true) → ∃ k, laws_FnExactBesideLadders.f k a0_0 l0_1 a1_0 l1_1 = some true := by
  intro a l b m _ hm _ _ hm2 _
  refine Ev.rounds ?_
  unfold laws_FnExactBesideLadders.f
  have hm' : l.length ≤ 9223372036854775807 := by unfold maxLen at hm; omega
  simp only [szLadder_f a l hm', Option.bind_some]
  by_cases hl : l.length ≤ 1048576
  · have h2 : ¬ (1048576 - (l.length : Int)) < 0 := by omega
    simp only [hl, if_true, h2, if_false]
    have hm3 : m.length ≤ 9223372036854775807 := by unfold maxLen at hm2; omega
    simp only [szLadder_left b m (1048576 - (l.length : Int)) (by omega) (by omega) hm3, Option.bind_some]
    by_cases hl2 : (m.length : Int) ≤ 1048576 - (l.length : Int)
    · have h3 : ¬ (1048576 - (l.length : Int) - (m.length : Int)) < 0 := by omega
      obtain ⟨r, hs, hi, hr⟩ := BesideLadders_both a l b m
      have hneg : ¬ markEnd 1 r.2.1.length < 0 := by have := markEnd_eq r.2.1.length 1 (by omega) (by omega); omega
      have e1 := markEnd_eq l.length 1 (by omega) (by omega)
      have hneg2 : ¬ markEnd (markEnd 1 l.length) m.length < 0 := by have := markEnd_eq m.length (markEnd 1 l.length) (by omega) (by omega); omega
      clear e1
      simp only [hl2, if_true, h3, if_false]
      repeat' (first
        | exact Ev.now _
        | ((with_reducible refine Ev.bind hs ?_); try dsimp only)
        | ((with_reducible refine Ev.bind hi ?_); try dsimp only)
        | ((with_reducible refine Ev.bind (toLadder_ev _ _ (by omega)) ?_); try dsimp only)
        | ((with_reducible refine Ev.bind (toIntS_ev _ (by omega)) ?_); try dsimp only)
        | ((with_reducible refine Ev.bind (eqLadder_refl _ _ (by omega)) ?_); try dsimp only)
        | ((with_reducible refine Ev.bind (eqIntS_refl _ (by omega)) ?_); try dsimp only)
        | ((with_reducible refine Ev.bind (markLadder_ev _ _ _ (by omega)) ?_); try dsimp only)
        | ((with_reducible refine Ev.bind (markIntS_ev _ _ (by omega)) ?_); try dsimp only)
        | ((with_reducible refine Ev.bind (heldLadder_ev _ _ _ (by omega) (by omega)) ?_); try dsimp only)
        | ((with_reducible refine Ev.bind (heldIntS_ev _ _ (by omega)) ?_); try dsimp only)
        | simp only [if_true, if_false, bne_self_eq_false, Bool.false_eq_true, eq_self, Option.bind_some, hneg, hneg2]
        )
    · simp only [hl2, if_false]
      simpa using Ev.now _
  · simp only [hl, if_false]
    simpa using Ev.now _
end Go.Proofs.Ythpdhoplddlieaa.Q
