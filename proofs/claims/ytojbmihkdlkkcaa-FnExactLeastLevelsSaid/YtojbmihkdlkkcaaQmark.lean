/- markIntS writes marks one by one, and heldIntS finds them again. No program, no memory. -/
import Derived.Test.YtojbmihkdlkkcaaB4
import Derived.Test.YtojbmihkdlkkcaaQ0
namespace Go.Proofs.Ytojbmihkdlkkcaa.Q
open Go.RowKit Go.Proofs.Ytojbmihkdlkkcaa.B Go.Proofs.YtojbmihkdlkkcaaW.PrintWords Go.Proofs.YtojbmihkdlkkcaaW.PrintLast Go.Proofs.YtojbmihkdlkkcaaW.PrintMore
set_option linter.unusedVariables false
set_option linter.unusedSimpArgs false
/-- the marks from m on, n of them -/
def marks (m : Int) : Nat → List Int
  | 0 => []
  | n + 1 => m :: marks (wrap64 (m + 1)) n
def markEnd (m : Int) : Nat → Int
  | 0 => m
  | n + 1 => markEnd (wrap64 (m + 1)) n
theorem marks_length (n : Nat) : ∀ m, (marks m n).length = n := by
  induction n with
  | zero => intro m; rfl
  | succ n ih => intro m; simp [marks, ih]
theorem markIntS_l0 (n : Nat) : ∀ (k j : Nat) (p q : List Int) (m : Int), p.length = j → q.length = n → j + n ≤ 9223372036854775807 → n < k →
    laws_markIntS.l0 k (p ++ q) m (j : Int) = some (markEnd m n, p ++ marks m n) := by
  induction n with
  | zero =>
    intro k j p q m hp hq hb hk
    obtain ⟨k, rfl⟩ : ∃ m, k = m + 1 := ⟨k - 1, by omega⟩
    have : q = [] := List.eq_nil_of_length_eq_zero hq
    subst this
    rw [laws_markIntS.l0, if_neg (by simp; omega)]; simp [marks, markEnd]
  | succ n ih =>
    intro k j p q m hp hq hb hk
    obtain ⟨k, rfl⟩ : ∃ m, k = m + 1 := ⟨k - 1, by omega⟩
    cases q with
    | nil => simp at hq
    | cons x q =>
      rw [laws_markIntS.l0, if_pos (by simp; omega), if_pos (by omega), wrap_succ (i := (j : Int)) (n := j + n + 1) (by omega) (by omega) (by omega)]
      have e : (j : Int).toNat = j := rfl
      have e2 : ((j : Int) + 1) = ((j + 1 : Nat) : Int) := rfl
      have e3 : (p ++ x :: q).set j m = (p ++ [m]) ++ q := by
        rw [List.set_append_right (h := by omega), hp, Nat.sub_self, List.set_cons_zero, List.append_assoc]; rfl
      rw [e, e2, e3, ih k (j + 1) (p ++ [m]) q (wrap64 (m + 1)) (by simp [hp]) (by simpa using hq) (by omega) (by omega)]
      simp [marks, markEnd]
theorem markIntS_ev (l : List Int) (m : Int) (hn : l.length ≤ 9223372036854775807) : Ev (fun k => laws_markIntS.f k l m) (markEnd m l.length, marks m l.length) := by
  refine ⟨l.length + 1, fun k hk => ?_⟩
  show laws_markIntS.f k l m = _
  unfold laws_markIntS.f
  have := markIntS_l0 l.length k 0 [] l m rfl rfl (by omega) (by omega)
  simpa using this
theorem heldIntS_l0 (n : Nat) : ∀ (k j : Nat) (p : List Int) (m : Int), p.length = j → j + n ≤ 9223372036854775807 → n < k →
    laws_heldIntS.l0 k (p ++ marks m n) m (j : Int) = some (markEnd m n) := by
  induction n with
  | zero =>
    intro k j p m hp hb hk
    obtain ⟨k, rfl⟩ : ∃ m, k = m + 1 := ⟨k - 1, by omega⟩
    rw [laws_heldIntS.l0, if_neg (by simp [marks]; omega)]; rfl
  | succ n ih =>
    intro k j p m hp hb hk
    obtain ⟨k, rfl⟩ : ∃ m, k = m + 1 := ⟨k - 1, by omega⟩
    have hl := marks_length n (wrap64 (m + 1))
    rw [laws_heldIntS.l0, marks]
    have hr : rd (p ++ m :: marks (wrap64 (m + 1)) n) (j : Int) = m := by
      rw [rd_nat _ _ (by simp; omega), List.getElem_append_right (by omega)]; simp [hp]
    rw [if_pos (by simp; omega), if_pos (by omega), if_pos hr, wrap_succ (i := (j : Int)) (n := j + n + 1) (by omega) (by omega) (by omega)]
    have e2 : ((j : Int) + 1) = ((j + 1 : Nat) : Int) := rfl
    have e3 : p ++ m :: marks (wrap64 (m + 1)) n = (p ++ [m]) ++ marks (wrap64 (m + 1)) n := by simp
    rw [e2, e3, ih k (j + 1) (p ++ [m]) (wrap64 (m + 1)) (by simp [hp]) (by omega) (by omega)]
    rfl
theorem heldIntS_ev (m : Int) (n : Nat) (hn : n ≤ 9223372036854775807) : Ev (fun k => laws_heldIntS.f k (marks m n) m) (markEnd m n) := by
  refine ⟨n + 1, fun k hk => ?_⟩
  show laws_heldIntS.f k (marks m n) m = _
  unfold laws_heldIntS.f
  have := heldIntS_l0 n k 0 [] m rfl (by omega) (by omega)
  simpa using this
theorem markEnd_eq (n : Nat) : ∀ m : Int, 0 ≤ m → m + n ≤ 9223372036854775807 → markEnd m n = m + n := by
  induction n with
  | zero => intro m h0 h1; simp [markEnd]
  | succ n ih =>
    intro m h0 h1
    simp only [markEnd]
    rw [wrap_in (by omega) (by omega), ih (m + 1) (by omega) (by omega)]
    omega
end Go.Proofs.Ytojbmihkdlkkcaa.Q
