/- markIntSS writes marks row by row, heldIntSS finds them again, eqIntSS finds rows equal to themselves. No program, no memory. -/
import Derived.Test.YtojbmihkdlkkcaaB7
import Derived.Test.YtojbmihkdlkkcaaQmark
import Derived.Test.YtojbmihkdlkkcaaQeqIntS
namespace Go.Proofs.Ytojbmihkdlkkcaa.Q
open Go.RowKit Go.Proofs.Ytojbmihkdlkkcaa.B Go.Proofs.YtojbmihkdlkkcaaW.PrintWords Go.Proofs.YtojbmihkdlkkcaaW.PrintLast Go.Proofs.YtojbmihkdlkkcaaW.PrintMore
set_option linter.unusedVariables false
set_option linter.unusedSimpArgs false
def smallSS (l : List (List Int)) : Prop := l.length ≤ 2000000 ∧ ∀ r ∈ l, r.length ≤ 2000000
def marksSS (m : Int) : List (List Int) → List (List Int)
  | [] => []
  | r :: l => marks m r.length :: marksSS (markEnd m r.length) l
def markEndSS (m : Int) : List (List Int) → Int
  | [] => m
  | r :: l => markEndSS (markEnd m r.length) l
theorem marksSS_length (l : List (List Int)) : ∀ m, (marksSS m l).length = l.length := by
  induction l with
  | nil => intro m; rfl
  | cons r l ih => intro m; simp [marksSS, ih]
theorem rdL_nat (l : List (List Int)) (i : Nat) (hi : i < l.length) : rd_L1 l (i : Int) = l[i] := by
  unfold rd_L1; simp [hi]
theorem markIntSS_rows (l : List (List Int)) : ∀ m, (∀ r ∈ l, r.length ≤ 2000000) → Ev (fun k => markRows k l m) (markEndSS m l, marksSS m l) := by
  induction l with
  | nil => intro m _; exact Ev.now _
  | cons r l ih =>
    intro m h
    refine Ev.bind (markIntS_ev r m (by have := h r (by simp); omega)) ?_
    exact Ev.bind (ih _ (fun q hq => h q (by simp [hq]))) (Ev.now _)
theorem markIntSS_ev (l : List (List Int)) (m : Int) (h : smallSS l) : Ev (fun k => laws_markIntSS.f k l m) (markEndSS m l, marksSS m l) := markIntSS_rows l m h.2
theorem markEndSS_pos (l : List (List Int)) : ∀ m : Int, 0 ≤ m → m + 2000000 * (l.length : Int) ≤ 9000000000000000000 → (∀ r ∈ l, r.length ≤ 2000000) → 0 ≤ markEndSS m l := by
  induction l with
  | nil => intro m h _ _; exact h
  | cons r l ih =>
    intro m h0 h1 h
    have hr := h r (by simp)
    rw [List.length_cons] at h1
    have e := markEnd_eq r.length m h0 (by omega)
    rw [markEndSS]
    exact ih _ (by omega) (by omega) (fun q hq => h q (by simp [hq]))
theorem heldIntSS_l0 (l : List (List Int)) : ∀ (p : List (List Int)) (m : Int), 0 ≤ m → m + 2000000 * (l.length : Int) ≤ 9000000000000000000 → (∀ r ∈ l, r.length ≤ 2000000) → p.length + l.length ≤ 2000000 →
    Ev (fun k => laws_heldIntSS.l0 k (p ++ marksSS m l) m (p.length : Int)) (markEndSS m l) := by
  induction l with
  | nil =>
    intro p m _ _ _ _
    refine Ev.succ (Ev.ret fun k => ?_)
    rw [laws_heldIntSS.l0, if_neg (by simp [marksSS])]; rfl
  | cons r l ih =>
    intro p m h0 h1 h hp
    have hr := h r (by simp)
    rw [List.length_cons] at h1 hp
    have e := markEnd_eq r.length m h0 (by omega)
    refine Ev.succ ?_
    have hl := marksSS_length l (markEnd m r.length)
    have hlen : p.length < (p ++ marksSS m (r :: l)).length := by rw [List.length_append, marksSS_length]; simp
    have g1 : (p.length : Int) < ((p ++ marksSS m (r :: l)).length : Int) := by omega
    have g2 : (0 : Int) ≤ (p.length : Int) := by omega
    have e2 : rd_L1 (p ++ marksSS m (r :: l)) (p.length : Int) = marks m r.length := by
      rw [rdL_nat _ _ hlen, List.getElem_append_right (by omega)]; simp [marksSS]
    have g3 : ¬ markEnd m r.length < 0 := by omega
    simp only [laws_heldIntSS.l0, g1, g2, if_true, e2, wrap_nat p.length (p.length + 1) (by omega) (by omega)]
    refine Ev.bind (heldIntS_ev m r.length (by omega)) ?_
    simp only [g3, if_false]
    have e3 : p ++ marksSS m (r :: l) = (p ++ [marks m r.length]) ++ marksSS (markEnd m r.length) l := by simp [marksSS]
    have e4 : (p ++ [marks m r.length]).length = p.length + 1 := by simp
    have := ih (p ++ [marks m r.length]) (markEnd m r.length) (by omega) (by omega) (fun q hq => h q (by simp [hq])) (by rw [e4]; omega)
    rw [e4] at this
    rw [e3]
    exact this
theorem heldIntSS_ev (l : List (List Int)) (m : Int) (h : smallSS l) (h0 : 0 ≤ m) (h1 : m ≤ 10) : Ev (fun k => laws_heldIntSS.f k (marksSS m l) m) (markEndSS m l) := by
  unfold laws_heldIntSS.f
  have := heldIntSS_l0 l [] m h0 (by have := h.1; omega) h.2 (by have := h.1; simpa using this)
  simpa using this
theorem markEndSS_neg (l : List (List Int)) (h : smallSS l) : ¬ markEndSS 1 l < 0 := by
  have := markEndSS_pos l 1 (by omega) (by have := h.1; omega) h.2
  omega
theorem eqIntSS_refl (l : List (List Int)) (h : smallSS l) : Ev (fun k => laws_eqIntSS.f k l l) true := by
  unfold laws_eqIntSS.f
  have key := Ev.upto (L := fun k j (_ : Unit) => laws_eqIntSS.l0 k l l (j : Int)) (R := fun _ _ => true) (n := l.length)
    (fun _ => by
      refine Ev.succ (Ev.ret fun k => ?_)
      rw [laws_eqIntSS.l0, if_neg (by omega)])
    (fun j _ hj ih => by
      refine Ev.succ ?_
      have h1 := h.1
      have g1 : (j : Int) < (l.length : Int) := by omega
      have g2 : (0 : Int) ≤ (j : Int) := by omega
      simp only [laws_eqIntSS.l0, g1, g2, if_true, rdL_nat l j hj, wrap_nat j l.length hj (by omega)]
      refine Ev.bind (eqIntS_refl l[j] (by have := h.2 l[j] (List.getElem_mem hj); omega)) ?_
      simp only [if_true]
      exact ih ())
  simp only [if_true]
  exact key 0 () (Nat.zero_le _)
end Go.Proofs.Ytojbmihkdlkkcaa.Q
