/- The program's isLevel and the reference's lvGood tell the same. No program, no memory. -/
import Derived.Test.YtkbojnmepapkhaaB1
import Derived.Test.YtkbojnmepapkhaaB6
import Derived.Test.YtkbojnmepapkhaaQ0
namespace Go.Proofs.Ytkbojnmepapkhaa.Q
open Go.RowKit Go.Proofs.Ytkbojnmepapkhaa.B Go.Proofs.YtkbojnmepapkhaaW.PrintWords Go.Proofs.YtkbojnmepapkhaaW.PrintLast Go.Proofs.YtkbojnmepapkhaaW.PrintMore
set_option linter.unusedVariables false
set_option linter.unusedSimpArgs false
theorem wrap_pred {i : Int} {n : Nat} (h0 : 0 < i) (h : i < (n : Int)) (hn : n ≤ 140737488351232) : wrap64 (i - 1) = i - 1 := by
  unfold wrap64; omega
theorem in_between (a b c : Int) : spec_l1In.f a b c = impl_between.f a b c := rfl

theorem good_eq : ∀ (k : Nat) (n : Int) (l r : List Int) (m i : Int), spec_lvGood.l0 k n l r m i = impl_isLevel.l0 k n l r m i
  | 0, _, _, _, _, _ => rfl
  | k + 1, n, l, r, m, i => by
    simp only [spec_lvGood.l0, impl_isLevel.l0, in_between, good_eq k]

theorem between_some (a b c : Int) : ∃ r, impl_between.f a b c = some r := by
  unfold impl_between.f; split <;> exact ⟨_, rfl⟩

theorem isLevel_l0 (n : Int) (l : List Int) (hn : l.length ≤ 140737488351232) (d : Nat) : ∀ (k : Nat) (i : Int), 0 ≤ i → i ≤ l.length → (l.length : Int) - i = d → d < k →
    ∃ r, impl_isLevel.l0 k n l l (l.length : Int) i = some r := by
  induction d with
  | zero =>
    intro k i h0 h1 hd hk
    obtain ⟨k, rfl⟩ : ∃ m, k = m + 1 := ⟨k - 1, by omega⟩
    simp only [impl_isLevel.l0]; rw [if_neg (by omega)]; exact ⟨_, rfl⟩
  | succ d ih =>
    intro k i h0 h1 hd hk
    obtain ⟨k, rfl⟩ : ∃ m, k = m + 1 := ⟨k - 1, by omega⟩
    obtain ⟨b, hb⟩ := between_some (rd l i) 0 (wrap64 (n - 2))
    obtain ⟨r, hr⟩ := ih k (i + 1) (by omega) (by omega) (by omega) (by omega)
    have hw := wrap_succ (n := l.length) h0 (show i < (l.length : Int) by omega) (by omega)
    simp only [impl_isLevel.l0]
    rw [if_pos (by omega), if_pos (by omega), if_pos (by omega), hb, hw, hr]
    simp only [Option.bind_some]
    cases b with
    | false => exact ⟨_, rfl⟩
    | true =>
      simp only [if_true]
      by_cases h : 0 < i
      · rw [if_pos h, wrap_pred (n := l.length) h (by omega) hn, if_pos (by omega), if_pos (by omega)]
        split <;> exact ⟨_, rfl⟩
      · rw [if_neg h]; exact ⟨_, rfl⟩
end Go.Proofs.Ytkbojnmepapkhaa.Q
