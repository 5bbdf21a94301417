/- The reference's comparing of lists. No program, no memory. -/
import Derived.Test.YthpdhoplddlieaaB25
import Derived.Test.YthpdhoplddlieaaQ0
namespace Go.Proofs.Ythpdhoplddlieaa.Q
open Go.RowKit Go.Proofs.Ythpdhoplddlieaa.B Go.Proofs.YthpdhoplddlieaaW.PrintWords Go.Proofs.YthpdhoplddlieaaW.PrintLast Go.Proofs.YthpdhoplddlieaaW.PrintMore
set_option linter.unusedVariables false
set_option linter.unusedSimpArgs false
def lexB : List Int → List Int → Bool
  | [], [] => false
  | [], _ :: _ => true
  | _ :: _, [] => false
  | a :: l, b :: m => if a = b then lexB l m else decide (a < b)
theorem lexB_nil (b : List Int) : lexB [] b = decide (0 < b.length) := by cases b <;> simp [lexB]
theorem lexB_nil' (a : List Int) : lexB a [] = false := by cases a <;> rfl
theorem lexB_same (a : List Int) : ∀ b, (!(lexB a b) && !(lexB b a)) = decide (a = b) := by
  induction a with
  | nil => intro b; cases b <;> simp [lexB]
  | cons x a ih =>
    intro b
    cases b with
    | nil => simp [lexB]
    | cons y b =>
      rw [lexB, lexB]
      by_cases h : x = y
      · rw [if_pos h, if_pos h.symm, ih b]; simp [h]
      · rw [if_neg h, if_neg (fun e => h e.symm)]
        have : ¬ (x :: a) = (y :: b) := fun e => h (by injection e)
        rw [decide_eq_false this]
        rcases Int.lt_or_gt_of_ne h with h2 | h2
        · rw [decide_eq_true h2]; rfl
        · rw [decide_eq_true h2, Bool.not_true, Bool.and_false]
theorem lsLess_ev (a b : List Int) (ha : a.length ≤ 1000000) : Ev (fun k => spec_lsLess.f k a b) (lexB a b) := by
  unfold spec_lsLess.f
  have key := Ev.upto (L := fun k j (_ : Unit) => spec_lsLess.l0 k a b (j : Int)) (R := fun j _ => lexB (a.drop j) (b.drop j)) (n := a.length)
    (fun _ => by
      refine Ev.succ ?_
      have g : ¬ (a.length : Int) < (a.length : Int) := by omega
      simp only [spec_lsLess.l0, g, if_false]
      refine Ev.succ (Ev.ret fun k => ?_)
      simp only [spec_lsLess.j1, Bool.false_eq_true, if_false]
      rw [List.drop_length, lexB_nil, List.length_drop]
      congr 1
      rw [decide_eq_decide]; omega)
    (fun j _ hj ih => by
      refine Ev.succ ?_
      have g1 : (j : Int) < (a.length : Int) := by omega
      have g0 : (0 : Int) ≤ (j : Int) := by omega
      simp only [spec_lsLess.l0, g1, if_true]
      refine Ev.succ ?_
      by_cases hb : j < b.length
      · have g2 : (j : Int) < (b.length : Int) := by omega
        simp only [spec_lsLess.j1, decide_true, g0, g1, g2, if_true, rd_nat a j hj, rd_nat b j hb, wrap_nat j a.length hj (by omega)]
        rw [List.drop_eq_getElem_cons hj, List.drop_eq_getElem_cons hb, lexB]
        refine Ev.ite (fun c => ?_) (fun c => ?_)
        · rw [if_pos c]; exact ih ()
        · rw [if_neg c]; exact Ev.now _
      · have g2 : ¬ (j : Int) < (b.length : Int) := by omega
        have g3 : ¬ (a.length : Int) < (b.length : Int) := by omega
        simp only [spec_lsLess.j1, g2, g3, decide_false, Bool.false_eq_true, if_false]
        rw [show b.drop j = [] from List.drop_eq_nil_of_le (by omega), lexB_nil']
        exact Ev.now _)
  have := key 0 () (Nat.zero_le _)
  rw [List.drop_zero, List.drop_zero] at this
  exact this
theorem lsSame_ev (a b : List Int) (ha : a.length ≤ 1000000) (hb : b.length ≤ 1000000) : Ev (fun k => spec_lsSame.f k a b) (decide (a = b)) := by
  unfold spec_lsSame.f
  have e := lexB_same a b
  refine Ev.bind (lsLess_ev a b ha) ?_
  refine Ev.iteb (fun c => ?_) (fun c => ?_)
  · rw [c] at e; rw [← e]; exact Ev.now _
  · rw [c, Bool.not_false, Bool.true_and] at e
    refine Ev.bind (lsLess_ev b a hb) ?_
    rw [e]; exact Ev.now _
end Go.Proofs.Ythpdhoplddlieaa.Q
