/- What the library's Contains tells of a list of numbers. No program, no memory. -/
import Derived.Test.YtojbmihkdlkkcaaB5
import Derived.Test.YtojbmihkdlkkcaaQ0
namespace Go.Proofs.Ytojbmihkdlkkcaa.Q
open Go.RowKit Go.Proofs.Ytojbmihkdlkkcaa.B Go.Proofs.YtojbmihkdlkkcaaW.PrintWords Go.Proofs.YtojbmihkdlkkcaaW.PrintLast Go.Proofs.YtojbmihkdlkkcaaW.PrintMore
set_option linter.unusedVariables false
set_option linter.unusedSimpArgs false
theorem Index_ev (l : List Int) (x : Int) (hn : l.length ≤ 9223372036854775807) : ∃ r, Ev (fun k => slices_Index_int_int.f k l x) r ∧ (decide (r ≥ 0)) = decide (x ∈ l) := by
  have key : ∀ d j, j ≤ l.length → l.length - j = d → ∃ r, Ev (fun k => slices_Index_int_int.l0 k l x (l.length : Int) (j : Int)) r ∧ (decide (r ≥ 0)) = decide (x ∈ l.drop j) := by
    intro d
    induction d with
    | zero =>
      intro j h1 hd
      refine ⟨-1, Ev.succ (Ev.ret fun k => ?_), ?_⟩
      · rw [slices_Index_int_int.l0, if_neg (by omega)]
      · rw [List.drop_eq_nil_of_le (by omega)]; simp
    | succ d ih =>
      intro j h1 hd
      have hj : j < l.length := by omega
      have h1 : (j : Int) < (l.length : Int) := by omega
      have h0 : (0 : Int) ≤ (j : Int) := by omega
      rw [List.drop_eq_getElem_cons hj]
      by_cases h : x = l[j]
      · refine ⟨j, Ev.succ (Ev.ret fun k => ?_), ?_⟩
        · rw [slices_Index_int_int.l0, if_pos h1, if_pos h0, if_pos h1, rd_nat l j hj, if_pos h]
        · rw [decide_eq_decide, List.mem_cons]; exact ⟨fun _ => .inl h, fun _ => by omega⟩
      · obtain ⟨r, hr, e⟩ := ih (j + 1) (by omega) (by omega)
        refine ⟨r, Ev.succ ?_, ?_⟩
        · simp only [slices_Index_int_int.l0, h1, h0, if_true, rd_nat l j hj, h, if_false, wrap_nat j _ hj hn]
          exact hr
        · rw [e, decide_eq_decide, List.mem_cons]; exact ⟨fun m => .inr m, fun m => m.resolve_left h⟩
  obtain ⟨r, hr, e⟩ := key l.length 0 (Nat.zero_le _) (by omega)
  rw [List.drop_zero] at e
  exact ⟨r, hr, e⟩
theorem Contains_ev (l : List Int) (x : Int) (hn : l.length ≤ 9223372036854775807) : Ev (fun k => slices_Contains_int_int.f k l x) (decide (x ∈ l)) := by
  obtain ⟨r, hr, e⟩ := Index_ev l x hn
  unfold slices_Contains_int_int.f
  exact Ev.bind hr (Ev.eq (Ev.now _) e)
end Go.Proofs.Ytojbmihkdlkkcaa.Q
