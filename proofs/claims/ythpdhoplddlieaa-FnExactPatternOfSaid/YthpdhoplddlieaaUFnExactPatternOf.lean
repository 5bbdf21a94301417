/- The pure statement of FnExactPatternOf: the program's PatternOf and the reference's give the same. Conditions: none beyond the law's own. -/
import Derived.Test.YthpdhoplddlieaaB20
import Derived.Test.YthpdhoplddlieaaQlaOrder
import Derived.Test.YthpdhoplddlieaaQisOrder
import Derived.Test.YthpdhoplddlieaaQmrRising
import Derived.Test.YthpdhoplddlieaaQisRising
import Derived.Test.YthpdhoplddlieaaQmrPattern
import Derived.Test.YthpdhoplddlieaaQpatternI
import Derived.Test.YthpdhoplddlieaaQtoIntS
import Derived.Test.YthpdhoplddlieaaQeqIntS
import Derived.Test.YthpdhoplddlieaaQmark
namespace Go.Proofs.Ythpdhoplddlieaa.Q
open Go.RowKit Go.Proofs.Ythpdhoplddlieaa.B Go.Proofs.YthpdhoplddlieaaW.PrintWords Go.Proofs.YthpdhoplddlieaaW.PrintLast Go.Proofs.YthpdhoplddlieaaW.PrintMore
set_option linter.unusedVariables false
set_option linter.unusedSimpArgs false
theorem rising_in {l : List Int} {b : Int} (hb : 0 ≤ b) (hb2 : b ≤ 9223372036854775807) (h : risingB l b = true) : ∀ x ∈ l, 0 ≤ x ∧ x < b := by
  intro x hx
  obtain ⟨i, hi, rfl⟩ := List.getElem_of_mem hx
  have := List.all_eq_true.1 h i (by simp [hi])
  have e : wrap64 (b - 1) = b - 1 := wrap_in (by omega) (by omega)
  unfold riseAt inB at this
  rw [e, rd_nat l i hi] at this
  simp at this
  omega
theorem PatternOf_both (p l : List Int) (hl : l.length ≤ 1048576) : ∃ r, Ev (fun k => spec_PatternOf.f k p l) r ∧ Ev (fun k => impl_PatternOf.f k p l) r ∧ r.1.length ≤ 1048576 := by
  refine ⟨if orderB p = true then (if (l.length : Int) = 0 then ([], false) else if risingB l (p.length : Int) = true then (patL p l, true) else ([], false)) else ([], false), ?_, ?_, ?_⟩
  · unfold spec_PatternOf.f
    refine Ev.bind (laOrder_ev p) ?_
    refine Ev.iteb (fun h => ?_) (fun h => ?_)
    · rw [if_pos h]
      refine Ev.ite (fun h2 => ?_) (fun h2 => ?_)
      · rw [if_pos h2]; exact Ev.now _
      · rw [if_neg h2]
        have hp := ((orderB_iff p).1 h).1
        refine Ev.bind (mrRising_ev l _ hl) ?_
        refine Ev.iteb (fun h3 => ?_) (fun h3 => ?_)
        · rw [if_pos h3]
          exact Ev.bind (mrPattern_ev p l hl (rising_in (by omega) (by omega) h3)) (Ev.now _)
        · rw [if_neg (by simp [h3])]; exact Ev.now _
    · rw [if_neg (by simp [h])]; exact Ev.now _
  · unfold impl_PatternOf.f
    refine Ev.bind (isOrder_ev p) ?_
    refine Ev.iteb (fun h => ?_) (fun h => ?_)
    · rw [if_pos h]
      refine Ev.ite (fun h2 => ?_) (fun h2 => ?_)
      · rw [if_pos h2]; exact Ev.now _
      · rw [if_neg h2]
        have hp := ((orderB_iff p).1 h).1
        refine Ev.bind (isRising_ev l _ hl) ?_
        refine Ev.iteb (fun h3 => ?_) (fun h3 => ?_)
        · rw [if_pos h3]
          exact Ev.bind (patternI_ev p l hl (rising_in (by omega) (by omega) h3)) (Ev.now _)
        · rw [if_neg (by simp [h3])]; exact Ev.now _
    · rw [if_neg (by simp [h])]; exact Ev.now _
  · split
    · split
      · simp
      · split
        · simp [patL]; exact hl
        · simp
    · simp
theorem FnExactPatternOf : ∀ (l0 : List Int) (l1 : List Int), l0.length ≤ maxLen → (∀ x ∈ l0, (Lit.int .i64 x).wf = true) → l1.length ≤ maxLen → (∀ x ∈ l1, (Lit.int .i64 x).wf = true) → ∃ k, laws_FnExactPatternOf.f k l0 l1 = some true := by
  intro p l _ _ _ _
  refine Ev.rounds ?_
  unfold laws_FnExactPatternOf.f
  by_cases hp : (p.length : Int) > 1048576
  · simp only [hp, if_true]; exact Ev.now _
  · by_cases hl : (l.length : Int) > 1048576
    · simp only [hp, hl, if_true, if_false]; exact Ev.now _
    · simp only [hp, hl, if_false]
      obtain ⟨r, hs, hi, hr⟩ := PatternOf_both p l (by omega)
      have e1 : markEnd 1 p.length = 1 + p.length := markEnd_eq p.length 1 (by omega) (by omega)
      have hneg : ¬ markEnd 1 r.1.length < 0 := by have := markEnd_eq r.1.length 1 (by omega) (by omega); omega
      have hneg2 : ¬ markEnd (markEnd 1 p.length) l.length < 0 := by rw [e1]; have := markEnd_eq l.length (1 + p.length) (by omega) (by omega); omega
      repeat' (first
        | exact Ev.now _
        | ((with_reducible refine Ev.bind hs ?_); try dsimp only)
        | ((with_reducible refine Ev.bind hi ?_); try dsimp only)
        | ((with_reducible refine Ev.bind (toLadder_ev _ _ (by omega)) ?_); try dsimp only)
        | ((with_reducible refine Ev.bind (toIntS_ev _ (by omega)) ?_); try dsimp only)
        | ((with_reducible refine Ev.bind (eqLadder_refl _ _ (by omega)) ?_); try dsimp only)
        | ((with_reducible refine Ev.bind (eqIntS_refl _ (by omega)) ?_); try dsimp only)
        | ((with_reducible refine Ev.bind (markLadder_ev _ _ _ (by omega)) ?_); try dsimp only)
        | ((with_reducible refine Ev.bind (markIntS_ev _ _ (by omega)) ?_); try dsimp only)
        | ((with_reducible refine Ev.bind (heldLadder_ev _ _ _ (by omega) (by omega)) ?_); try dsimp only)
        | ((with_reducible refine Ev.bind (heldIntS_ev _ _ (by omega)) ?_); try dsimp only)
        | simp only [if_true, if_false, bne_self_eq_false, Bool.false_eq_true, eq_self, Option.bind_some, hneg, hneg2]
        | (refine Ev.succ ?_; simp only [laws_FnExactPatternOf.j0])
        | (refine Ev.succ ?_; simp only [laws_FnExactPatternOf.j1])
        | (refine Ev.succ ?_; simp only [laws_FnExactPatternOf.j2])
        )
end Go.Proofs.Ythpdhoplddlieaa.Q
