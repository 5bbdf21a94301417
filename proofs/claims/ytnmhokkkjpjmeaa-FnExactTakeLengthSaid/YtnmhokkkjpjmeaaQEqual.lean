/- What the library's Equal tell of lists of numbers. No program, no memory. -/
import Derived.Test.YtnmhokkkjpjmeaaB1
import Derived.Test.YtnmhokkkjpjmeaaQ0
namespace Go.Proofs.Ytnmhokkkjpjmeaa.Q
open Go.RowKit Go.Proofs.Ytnmhokkkjpjmeaa.B Go.Proofs.YtnmhokkkjpjmeaaW.PrintWords Go.Proofs.YtnmhokkkjpjmeaaW.PrintLast Go.Proofs.YtnmhokkkjpjmeaaW.PrintMore
set_option linter.unusedVariables false
set_option linter.unusedSimpArgs false
theorem Equal_ev (a b : List Int) (hn : a.length ≤ 9223372036854775807) : Ev (fun k => slices_Equal_int_int.f k a b) (decide (a = b)) := by
  unfold slices_Equal_int_int.f
  refine Ev.ite (fun he => ?_) (fun he => ?_)
  · have he' : a.length = b.length := by omega
    have key := Ev.upto (L := fun k j (_ : Unit) => slices_Equal_int_int.l0 k a b (a.length : Int) (j : Int)) (R := fun j _ => decide (a.drop j = b.drop j)) (n := a.length)
      (fun _ => by
        refine Ev.succ (Ev.ret fun k => ?_)
        rw [slices_Equal_int_int.l0, if_neg (by omega), List.drop_length, List.drop_eq_nil_of_le (by omega)]; simp)
      (fun j _ hj ih => by
        refine Ev.succ ?_
        have h1 : (j : Int) < (a.length : Int) := by omega
        have h2 : (j : Int) < (b.length : Int) := by omega
        have h0 : (0 : Int) ≤ (j : Int) := by omega
        have hj2 : j < b.length := by omega
        simp only [slices_Equal_int_int.l0, h1, h2, h0, if_true, rd_nat a j hj, rd_nat b j hj2, wrap_nat j _ hj hn]
        rw [List.drop_eq_getElem_cons hj, List.drop_eq_getElem_cons hj2]
        refine Ev.ite (fun h => ?_) (fun h => ?_)
        · refine Ev.eq (ih ()) (decide_eq_decide.2 ?_)
          rw [List.cons.injEq]
          exact ⟨fun e => ⟨h, e⟩, fun e => e.2⟩
        · refine Ev.eq (Ev.now _) (decide_eq_false ?_).symm
          rw [List.cons.injEq]
          exact fun e => h e.1)
    have := key 0 () (Nat.zero_le _)
    rw [List.drop_zero, List.drop_zero] at this
    exact this
  · refine Ev.eq (Ev.now _) (decide_eq_false ?_).symm
    exact fun e => he (by rw [e])
end Go.Proofs.Ytnmhokkkjpjmeaa.Q
