/- The program works out who wins the placing game. No program, no memory. -/
import Derived.Test.YthpdhoplddlieaaB9
import Derived.Test.YthpdhoplddlieaaQwin
import Derived.Test.YthpdhoplddlieaaQover
namespace Go.Proofs.Ythpdhoplddlieaa.Q
open Go.RowKit Go.Proofs.Ythpdhoplddlieaa.B Go.Proofs.YthpdhoplddlieaaW.PrintWords Go.Proofs.YthpdhoplddlieaaW.PrintLast Go.Proofs.YthpdhoplddlieaaW.PrintMore
set_option linter.unusedVariables false
set_option linter.unusedSimpArgs false
theorem placeWins_ev (n : Nat) (hn1 : 2 ≤ n) (hn : n ≤ 8) (goal : Int) (m : Nat) : ∀ (w : Int) (f : Bool), m ≤ 8 → Ev (fun k => impl_placeWins.f k n w goal m f) (win n goal m f w) := by
  induction m with
  | zero =>
    intro w f _
    refine Ev.succ (Ev.ret fun k => ?_)
    rw [impl_placeWins.f, if_pos (by omega)]; rfl
  | succ m ih =>
    intro w f hm
    have hw : wrap64 ((n : Int) - 1) = ((n - 1 : Nat) : Int) := by unfold wrap64; omega
    have hw2 : wrap64 (((m + 1 : Nat) : Int) - 1) = (m : Int) := by unfold wrap64; omega
    have hne : ¬ ((m + 1 : Nat) : Int) = 0 := by omega
    refine Ev.succ ?_
    simp only [impl_placeWins.f, hne, if_false, hw]
    have key := Ev.upto (L := fun k j (_ : Unit) => impl_placeWins.l0 k n w goal ((m + 1 : Nat) : Int) f ((n - 1 : Nat) : Int) (j : Int)) (n := n - 1)
      (R := fun j _ => if f = true then (List.range' j (n - 1 - j)).any (fun r => win n goal m (!f) (ovr w r)) else (List.range' j (n - 1 - j)).all (fun r => win n goal m (!f) (ovr w r)))
      (fun _ => by
        refine Ev.succ (Ev.ret fun k => ?_)
        rw [impl_placeWins.l0, if_neg (by omega), Nat.sub_self]
        cases f <;> rfl)
      (fun j _ hj ihj => by
        refine Ev.succ ?_
        have h1 : (j : Int) < ((n - 1 : Nat) : Int) := by omega
        have e : n - 1 - j = (n - 1 - (j + 1)) + 1 := by omega
        simp only [impl_placeWins.l0, h1, if_true, over_f, Option.bind_some, hw2, wrap_nat j (n - 1) hj (by omega)]
        refine Ev.bind (ih (ovr w j) (!f) (by omega)) ?_
        rw [e, List.range'_succ]
        have := ihj ()
        cases f with
        | true =>
          cases h : win n goal m (!true) (ovr w j) with
          | true => exact Ev.eq (Ev.now _) (by have h' : win n goal m false (ovr w j) = true := h; simp only [if_true, Bool.not_true, List.any_cons, h', Bool.true_or])
          | false => exact Ev.eq this (by have h' : win n goal m false (ovr w j) = false := h; simp only [if_true, Bool.not_true, List.any_cons, h', Bool.false_or])
        | false =>
          cases h : win n goal m (!false) (ovr w j) with
          | true => exact Ev.eq this (by have h' : win n goal m true (ovr w j) = true := h; simp only [Bool.false_eq_true, if_false, Bool.not_false, List.all_cons, h', Bool.true_and])
          | false => exact Ev.eq (Ev.now _) (by have h' : win n goal m true (ovr w j) = false := h; simp only [Bool.false_eq_true, if_false, Bool.not_false, List.all_cons, h', Bool.false_and]))
    exact key 0 () (Nat.zero_le _)
end Go.Proofs.Ythpdhoplddlieaa.Q
