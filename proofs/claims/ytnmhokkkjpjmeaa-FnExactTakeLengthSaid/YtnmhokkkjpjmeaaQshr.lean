/- Shifts by small numbers. No program, no memory. -/
import Derived.Test.YtnmhokkkjpjmeaaQ0
namespace Go.Proofs.Ytnmhokkkjpjmeaa.Q
open Go.RowKit Go.Proofs.Ytnmhokkkjpjmeaa.B Go.Proofs.YtnmhokkkjpjmeaaW.PrintWords Go.Proofs.YtnmhokkkjpjmeaaW.PrintLast Go.Proofs.YtnmhokkkjpjmeaaW.PrintMore
set_option linter.unusedVariables false
set_option linter.unusedSimpArgs false
theorem shl_one : ∀ n : Nat, n ≤ 20 → shl .i64 1 (n : Int) = ((2 ^ n : Nat) : Int) := by decide +kernel
theorem pow_small (n : Nat) (h : n ≤ 8) : 2 ^ n ≤ 256 := Nat.pow_le_pow_right (n := 2) (by omega) h
theorem pow_12 (n : Nat) (h : n ≤ 12) : 2 ^ n ≤ 4096 := Nat.pow_le_pow_right (n := 2) (by omega) h
theorem shr_bit (s j : Nat) (h : j ≤ 60) : Int.tmod (shr .i64 (s : Int) (j : Int)) 2 = ((s / 2 ^ j % 2 : Nat) : Int) := by
  have e : shr .i64 (s : Int) (j : Int) = ((s / 2 ^ j : Nat) : Int) := by
    unfold shr
    rw [show min ((j : Int)).toNat (IntKind.i64).bits = j from by show min j 64 = j; omega]
    push_cast; rfl
  rw [e]
  generalize s / 2 ^ j = m
  rw [Int.tmod_eq_emod_of_nonneg (by omega)]
  omega
end Go.Proofs.Ytnmhokkkjpjmeaa.Q
