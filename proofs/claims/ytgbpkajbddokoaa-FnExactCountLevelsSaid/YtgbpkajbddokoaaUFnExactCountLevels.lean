/- The pure statement of FnExactCountLevels: the program's CountLevels and the reference's give the same. Conditions: none beyond the law's own. -/
import Derived.Test.YtgbpkajbddokoaaB2
import Derived.Test.YtgbpkajbddokoaaB3
import Derived.Test.YtgbpkajbddokoaaQlvAll
import Derived.Test.YtgbpkajbddokoaaQl1In
namespace Go.Proofs.Ytgbpkajbddokoaa.Q
open Go.RowKit Go.Proofs.Ytgbpkajbddokoaa.B Go.Proofs.YtgbpkajbddokoaaW.PrintWords Go.Proofs.YtgbpkajbddokoaaW.PrintLast Go.Proofs.YtgbpkajbddokoaaW.PrintMore
set_option linter.unusedVariables false
set_option linter.unusedSimpArgs false
theorem lvl_lva (n1 : Nat) (f : Nat) : ∀ (fr : Nat) (done : List Int), lvl n1 f fr done = (lva n1 f fr).map (done ++ ·) := by
  induction f with
  | zero => intro fr done; simp [lvl, lva]
  | succ f ih =>
    intro fr done
    simp only [lvl, lva, List.map_cons, List.append_nil, List.map_flatMap, ih, List.map_map]
    congr 1
    refine congrArg (fun g => List.flatMap g _) ?_
    funext q
    refine List.map_congr_left fun x _ => ?_
    simp
theorem lva_same : ∀ n1, n1 ≤ 7 → lva n1 8 0 = lva n1 4 0 := by decide +kernel
theorem AllLevels_list (n : Nat) (hn : n ≤ 8) : lvl (n - 1) 8 0 [] = lva (n - 1) 4 0 := by
  rw [lvl_lva, ← lva_same (n - 1) (by omega)]; simp
theorem FnExactCountLevels : ∀ (a0 : Int), (Lit.int .i64 a0).wf = true → ∃ k, laws_FnExactCountLevels.f k a0 = some true := by
  intro a _
  refine Ev.rounds ?_
  unfold laws_FnExactCountLevels.f spec_CountLevels.f impl_CountLevels.f impl_AllLevels.f spec_lvWires.f
  simp only [l1In_f, Option.bind_some]
  cases h : inB a 2 8 with
  | false => simpa using Ev.now _
  | true =>
    have ha := (inB_iff _ _ _).1 h
    obtain ⟨n, rfl⟩ : ∃ n : Nat, a = n := ⟨a.toNat, by omega⟩
    simp only [if_true]
    have e : ((n : Int)).toNat = n := by omega
    refine Ev.bind (Ev.bind (lvAll_ev n (by omega) (by omega) 4 0 (by omega) (by omega) (by omega)) (Ev.now _)) ?_
    simp only [e, AllLevels_list n (by omega), if_true, bne_self_eq_false, Bool.false_eq_true, if_false]
    exact Ev.now _
end Go.Proofs.Ytgbpkajbddokoaa.Q
