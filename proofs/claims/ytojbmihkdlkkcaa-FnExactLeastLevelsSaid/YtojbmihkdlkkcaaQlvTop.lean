/- The reference's exchanges. No program, no memory. -/
import Derived.Test.YtojbmihkdlkkcaaB1
import Derived.Test.YtojbmihkdlkkcaaQtop
namespace Go.Proofs.Ytojbmihkdlkkcaa.Q
open Go.RowKit Go.Proofs.Ytojbmihkdlkkcaa.B Go.Proofs.YtojbmihkdlkkcaaW.PrintWords Go.Proofs.YtojbmihkdlkkcaaW.PrintLast Go.Proofs.YtojbmihkdlkkcaaW.PrintMore
set_option linter.unusedVariables false
set_option linter.unusedSimpArgs false
theorem l1Own_f (p : List Int) (hn : p.length ≤ 1000000) : spec_l1Own.f p = some p := by
  have g1 : ([] : List Int).length + p.length < 17592186044416 := by simp; omega
  unfold spec_l1Own.f
  simp only [Option.bind_some, g1, if_true, List.nil_append]
theorem alSwap_f (p : List Int) (r : Int) (h0 : 0 ≤ r) (h1 : r + 1 < (p.length : Int)) (hn : p.length ≤ 1000000) : spec_alSwap.f p r = some (swp p r) := by
  have e : wrap64 (r + 1) = r + 1 := wrap_in (by omega) (by omega)
  have g2 : (0 : Int) ≤ r + 1 := by omega
  have g3 : r < (p.length : Int) := by omega
  unfold spec_alSwap.f swp
  simp only [l1Own_f p hn, if_true, Option.bind_some, e, g2, h1, h0, g3]
theorem lvTop_ev (p l : List Int) (hn : p.length ≤ 1000000) (hl : l.length ≤ 1000000) (h : okRungs p.length l) : Ev (fun k => spec_lvTop.f k p l) (topL p l) := by
  have key := Ev.inv (σ := List Int) (L := fun k j s => spec_lvTop.l0 k s l (l.length : Int) (j : Int)) (r := topL p l) (n := l.length)
    (Inv := fun j s => s = topL p (l.take j))
    (fun s hs => by
      subst hs
      refine Ev.succ (Ev.ret fun k => ?_)
      rw [spec_lvTop.l0, if_neg (by omega), List.take_length])
    (fun j s hj hs ih => by
      subst hs
      refine Ev.succ ?_
      have h1 : (j : Int) < (l.length : Int) := by omega
      have h0 : (0 : Int) ≤ (j : Int) := by omega
      have hr := h l[j] (List.getElem_mem hj)
      have e := alSwap_f (topL p (l.take j)) l[j] hr.1 (by rw [topL_length]; exact hr.2) (by rw [topL_length]; exact hn)
      simp only [spec_lvTop.l0, h1, h0, if_true, rd_nat l j hj, wrap_nat j _ hj (by omega), e, Option.bind_some]
      exact ih _ (topL_take p l j hj).symm)
  exact key 0 p (Nat.zero_le _) rfl
end Go.Proofs.Ytojbmihkdlkkcaa.Q
