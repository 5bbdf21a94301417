/- What the reference's l1Has tells. No program, no memory. -/
import Derived.Test.YtojbmihkdlkkcaaB1
import Derived.Test.YtojbmihkdlkkcaaQ0
namespace Go.Proofs.Ytojbmihkdlkkcaa.Q
open Go.RowKit Go.Proofs.Ytojbmihkdlkkcaa.B Go.Proofs.YtojbmihkdlkkcaaW.PrintWords Go.Proofs.YtojbmihkdlkkcaaW.PrintLast Go.Proofs.YtojbmihkdlkkcaaW.PrintMore
set_option linter.unusedVariables false
set_option linter.unusedSimpArgs false
theorem l1Has_ev (l : List Int) (x : Int) (hn : l.length ≤ 9223372036854775807) : Ev (fun k => spec_l1Has.f k l x) (decide (x ∈ l)) := by
  have key := Ev.upto (L := fun k j (_ : Unit) => spec_l1Has.l0 k x l (l.length : Int) (j : Int)) (R := fun j _ => decide (x ∈ l.drop j)) (n := l.length)
    (fun _ => by
      refine Ev.succ (Ev.ret fun k => ?_)
      rw [spec_l1Has.l0, if_neg (by omega)]; simp)
    (fun j _ hj ih => by
      refine Ev.succ ?_
      have h1 : (j : Int) < (l.length : Int) := by omega
      have h0 : (0 : Int) ≤ (j : Int) := by omega
      simp only [spec_l1Has.l0, h1, h0, if_true, rd_nat l j hj, wrap_nat j _ hj hn]
      rw [List.drop_eq_getElem_cons hj]
      refine Ev.ite (fun h => ?_) (fun h => ?_)
      · refine Ev.eq (Ev.now _) ?_; simp [h]
      · refine Ev.eq (ih ()) ?_
        have h' : ¬ x = l[j] := fun e => h e.symm
        rw [decide_eq_decide, List.mem_cons]
        exact ⟨fun m => .inr m, fun m => m.resolve_left h'⟩)
  have := key 0 () (Nat.zero_le _)
  rw [List.drop_zero] at this
  exact this
end Go.Proofs.Ytojbmihkdlkkcaa.Q
