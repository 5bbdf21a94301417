/- toIntS copies a list. No program, no memory. -/
import Derived.Test.YtojbmihkdlkkcaaB5
import Derived.Test.YtojbmihkdlkkcaaQ0
namespace Go.Proofs.Ytojbmihkdlkkcaa.Q
open Go.RowKit Go.Proofs.Ytojbmihkdlkkcaa.B Go.Proofs.YtojbmihkdlkkcaaW.PrintWords Go.Proofs.YtojbmihkdlkkcaaW.PrintLast Go.Proofs.YtojbmihkdlkkcaaW.PrintMore
set_option linter.unusedVariables false
set_option linter.unusedSimpArgs false
theorem toIntS_l0 (l : List Int) (hn : l.length ≤ 140737488351232) (d : Nat) : ∀ (k j : Nat), j ≤ l.length → l.length - j = d → d < k →
    laws_toIntS.l0 k l (l.take j ++ List.replicate (l.length - j) 0) (j : Int) = some l := by
  induction d with
  | zero =>
    intro k j h1 hd hk
    obtain ⟨k, rfl⟩ : ∃ m, k = m + 1 := ⟨k - 1, by omega⟩
    have : j = l.length := by omega
    subst this
    rw [laws_toIntS.l0, if_neg (by omega)]; simp
  | succ d ih =>
    intro k j h1 hd hk
    obtain ⟨k, rfl⟩ : ∃ m, k = m + 1 := ⟨k - 1, by omega⟩
    have hj : j < l.length := by omega
    rw [laws_toIntS.l0, if_pos (by omega), if_pos (by omega), if_pos (by simp; omega), wrap_succ (n := l.length) (by omega) (by omega) (by omega)]
    have e : (j : Int).toNat = j := rfl
    have e2 : ((j : Int) + 1) = ((j + 1 : Nat) : Int) := rfl
    unfold rd
    rw [e, copy_step l j hj, e2]
    exact ih k (j + 1) (by omega) (by omega) (by omega)
theorem toIntS_f (l : List Int) (hn : l.length ≤ 17592186043904) (k : Nat) (hk : l.length < k) : laws_toIntS.f k l = some l := by
  unfold laws_toIntS.f
  rw [if_pos (by omega), if_pos (by simp; omega)]
  have := toIntS_l0 l (by omega) l.length k 0 (by omega) (by omega) hk
  simpa using this
theorem toIntS_ev (l : List Int) (hn : l.length ≤ 17592186043904) : Ev (fun k => laws_toIntS.f k l) l :=
  ⟨l.length + 1, fun k hk => toIntS_f l hn k (by omega)⟩
end Go.Proofs.Ytojbmihkdlkkcaa.Q
