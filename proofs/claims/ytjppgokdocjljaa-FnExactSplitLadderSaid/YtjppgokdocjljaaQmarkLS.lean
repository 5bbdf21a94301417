/- markLadderS writes marks ladder by ladder, heldLadderS finds them again, eqLadderS finds ladders equal to themselves. No program, no memory. -/
import Derived.Test.YtjppgokdocjljaaB23
import Derived.Test.YtjppgokdocjljaaQmark
import Derived.Test.YtjppgokdocjljaaQeqLadder
namespace Go.Proofs.Ytjppgokdocjljaa.Q
open Go.RowKit Go.Proofs.Ytjppgokdocjljaa.B Go.Proofs.YtjppgokdocjljaaW.PrintWords Go.Proofs.YtjppgokdocjljaaW.PrintLast Go.Proofs.YtjppgokdocjljaaW.PrintMore
set_option linter.unusedVariables false
set_option linter.unusedSimpArgs false
def smallLS (l : List S28) : Prop := l.length ≤ 1000000 ∧ ∀ r ∈ l, r.f1.length ≤ 1000000
def marksLS (m : Int) : List S28 → List S28
  | [] => []
  | r :: l => ⟨m, marks (wrap64 (m + 1)) r.f1.length⟩ :: marksLS (markEnd (wrap64 (m + 1)) r.f1.length) l
def markEndLS (m : Int) : List S28 → Int
  | [] => m
  | r :: l => markEndLS (markEnd (wrap64 (m + 1)) r.f1.length) l
theorem marksLS_length (l : List S28) : ∀ m, (marksLS m l).length = l.length := by
  induction l with
  | nil => intro m; rfl
  | cons r l ih => intro m; simp [marksLS, ih]
theorem rdT_nat (l : List S28) (i : Nat) (hi : i < l.length) : rd_T28 l (i : Int) = l[i] := by
  unfold rd_T28; simp [hi]
theorem markLads_ev (l : List S28) : ∀ m, (∀ r ∈ l, r.f1.length ≤ 1000000) → Ev (fun k => markLads k l m) (markEndLS m l, marksLS m l) := by
  induction l with
  | nil => intro m _; exact Ev.now _
  | cons r l ih =>
    intro m h
    refine Ev.bind (markIntS_ev r.f1 (wrap64 (m + 1)) (by have := h r (by simp); omega)) ?_
    exact Ev.bind (ih _ (fun q hq => h q (by simp [hq]))) (Ev.now _)
theorem markLadderS_ev (l : List S28) (m : Int) (h : smallLS l) : Ev (fun k => laws_markLadderS.f k l m) (markEndLS m l, marksLS m l) := markLads_ev l m h.2
theorem markEndLS_pos (l : List S28) : ∀ m : Int, 0 ≤ m → m + 1000001 * (l.length : Int) ≤ 9000000000000000000 → (∀ r ∈ l, r.f1.length ≤ 1000000) → 0 ≤ markEndLS m l := by
  induction l with
  | nil => intro m h _ _; exact h
  | cons r l ih =>
    intro m h0 h1 h
    have hr := h r (by simp)
    rw [List.length_cons] at h1
    have e0 : wrap64 (m + 1) = m + 1 := wrap_in (by omega) (by omega)
    rw [markEndLS, e0]
    have e := markEnd_eq r.f1.length (m + 1) (by omega) (by omega)
    exact ih _ (by omega) (by omega) (fun q hq => h q (by simp [hq]))
theorem heldLadderS_l0 (l : List S28) : ∀ (p : List S28) (m : Int), 0 ≤ m → m + 1000001 * (l.length : Int) ≤ 9000000000000000000 → (∀ r ∈ l, r.f1.length ≤ 1000000) → p.length + l.length ≤ 1000000 →
    Ev (fun k => laws_heldLadderS.l0 k (p ++ marksLS m l) m (p.length : Int)) (markEndLS m l) := by
  induction l with
  | nil =>
    intro p m _ _ _ _
    refine Ev.succ (Ev.ret fun k => ?_)
    rw [laws_heldLadderS.l0, if_neg (by simp [marksLS])]; rfl
  | cons r l ih =>
    intro p m h0 h1 h hp
    have hr := h r (by simp)
    rw [List.length_cons] at h1 hp
    have e0 : wrap64 (m + 1) = m + 1 := wrap_in (by omega) (by omega)
    have e := markEnd_eq r.f1.length (m + 1) (by omega) (by omega)
    refine Ev.succ ?_
    have hl := marksLS_length l (markEnd (wrap64 (m + 1)) r.f1.length)
    have hlen : p.length < (p ++ marksLS m (r :: l)).length := by rw [List.length_append, marksLS_length]; simp
    have g1 : (p.length : Int) < ((p ++ marksLS m (r :: l)).length : Int) := by omega
    have g2 : (0 : Int) ≤ (p.length : Int) := by omega
    have e2 : rd_T28 (p ++ marksLS m (r :: l)) (p.length : Int) = ⟨m, marks (wrap64 (m + 1)) r.f1.length⟩ := by
      rw [rdT_nat _ _ hlen, List.getElem_append_right (by omega)]; simp [marksLS]
    have g3 : ¬ markEnd (wrap64 (m + 1)) r.f1.length < 0 := by rw [e0]; omega
    simp only [laws_heldLadderS.l0, g1, g2, if_true, e2, wrap_nat p.length (p.length + 1) (by omega) (by omega)]
    refine Ev.bind (heldIntS_ev (wrap64 (m + 1)) r.f1.length (by omega)) ?_
    simp only [g3, if_false]
    have e3 : p ++ marksLS m (r :: l) = (p ++ [⟨m, marks (wrap64 (m + 1)) r.f1.length⟩]) ++ marksLS (markEnd (wrap64 (m + 1)) r.f1.length) l := by simp [marksLS]
    have e4 : (p ++ [(⟨m, marks (wrap64 (m + 1)) r.f1.length⟩ : S28)]).length = p.length + 1 := by simp
    have := ih (p ++ [⟨m, marks (wrap64 (m + 1)) r.f1.length⟩]) (markEnd (wrap64 (m + 1)) r.f1.length) (by rw [e0]; omega) (by rw [e0]; omega) (fun q hq => h q (by simp [hq])) (by rw [e4]; omega)
    rw [e4] at this
    rw [e3]
    exact this
theorem heldLadderS_ev (l : List S28) (m : Int) (h : smallLS l) (h0 : 0 ≤ m) (h1 : m ≤ 10) : Ev (fun k => laws_heldLadderS.f k (marksLS m l) m) (markEndLS m l) := by
  unfold laws_heldLadderS.f
  have := heldLadderS_l0 l [] m h0 (by have := h.1; omega) h.2 (by have := h.1; simpa using this)
  simpa using this
theorem markEndLS_neg (l : List S28) (h : smallLS l) : ¬ markEndLS 1 l < 0 := by
  have := markEndLS_pos l 1 (by omega) (by have := h.1; omega) h.2
  omega
theorem eqLadderS_refl (l : List S28) (h : smallLS l) : Ev (fun k => laws_eqLadderS.f k l l) true := by
  unfold laws_eqLadderS.f
  have key := Ev.upto (L := fun k j (_ : Unit) => laws_eqLadderS.l0 k l l (j : Int)) (R := fun _ _ => true) (n := l.length)
    (fun _ => by
      refine Ev.succ (Ev.ret fun k => ?_)
      rw [laws_eqLadderS.l0, if_neg (by omega)])
    (fun j _ hj ih => by
      refine Ev.succ ?_
      have h1 := h.1
      have g1 : (j : Int) < (l.length : Int) := by omega
      have g2 : (0 : Int) ≤ (j : Int) := by omega
      simp only [laws_eqLadderS.l0, g1, g2, if_true, rdT_nat l j hj, wrap_nat j l.length hj (by omega)]
      refine Ev.bind (eqLadder_refl _ l[j].f1 (by have := h.2 l[j] (List.getElem_mem hj); omega)) ?_
      simp only [if_true]
      exact ih ())
  simp only [if_true]
  exact key 0 () (Nat.zero_le _)
end Go.Proofs.Ytjppgokdocjljaa.Q
