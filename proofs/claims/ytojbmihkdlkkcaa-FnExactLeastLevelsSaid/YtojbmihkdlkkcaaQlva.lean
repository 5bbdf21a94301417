/- The program's levels are the reference's. No program, no memory. -/
import Derived.Test.YtojbmihkdlkkcaaB1
import Derived.Test.YtojbmihkdlkkcaaQlvAll
namespace Go.Proofs.Ytojbmihkdlkkcaa.Q
open Go.RowKit Go.Proofs.Ytojbmihkdlkkcaa.B Go.Proofs.YtojbmihkdlkkcaaW.PrintWords Go.Proofs.YtojbmihkdlkkcaaW.PrintLast Go.Proofs.YtojbmihkdlkkcaaW.PrintMore
set_option linter.unusedVariables false
set_option linter.unusedSimpArgs false
theorem lvl_lva (n1 : Nat) (f : Nat) : ∀ (fr : Nat) (done : List Int), lvl n1 f fr done = (lva n1 f fr).map (done ++ ·) := by
  induction f with
  | zero => intro fr done; simp [lvl, lva]
  | succ f ih =>
    intro fr done
    simp only [lvl, lva, List.map_cons, List.append_nil, List.map_flatMap, ih, List.map_map]
    congr 1
    refine congrArg (fun g => List.flatMap g _) ?_
    funext q
    refine List.map_congr_left fun x _ => ?_
    simp
theorem lva_same : ∀ n1, n1 ≤ 7 → lva n1 8 0 = lva n1 4 0 := by decide +kernel
theorem AllLevels_list (n : Nat) (hn : n ≤ 8) : lvl (n - 1) 8 0 [] = lva (n - 1) 4 0 := by
  rw [lvl_lva, ← lva_same (n - 1) (by omega)]; simp
end Go.Proofs.Ytojbmihkdlkkcaa.Q
