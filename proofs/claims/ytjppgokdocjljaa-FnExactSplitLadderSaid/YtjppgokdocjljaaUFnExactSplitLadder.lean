/- The pure statement of FnExactSplitLadder: the program's SplitLadder and the reference's give the same. Conditions: none beyond the law's own. -/
import Derived.Test.YtjppgokdocjljaaB2
import Derived.Test.YtjppgokdocjljaaB23
import Derived.Test.YtjppgokdocjljaaB24
import Derived.Test.YtjppgokdocjljaaQsplit
import Derived.Test.YtjppgokdocjljaaQmarkLS
import Derived.Test.YtjppgokdocjljaaQhas
import Derived.Test.YtjppgokdocjljaaQContains
import Derived.Test.YtjppgokdocjljaaQbetween
import Derived.Test.YtjppgokdocjljaaQlaGood
import Derived.Test.YtjppgokdocjljaaQtoLadder
import Derived.Test.YtjppgokdocjljaaQeqLadder
import Derived.Test.YtjppgokdocjljaaQszLadder
import Derived.Test.YtjppgokdocjljaaQmarkLadder
import Derived.Test.YtjppgokdocjljaaQtoIntS
import Derived.Test.YtjppgokdocjljaaQeqIntS
import Derived.Test.YtjppgokdocjljaaQmark
namespace Go.Proofs.Ytjppgokdocjljaa.Q
open Go.RowKit Go.Proofs.Ytjppgokdocjljaa.B Go.Proofs.YtjppgokdocjljaaW.PrintWords Go.Proofs.YtjppgokdocjljaaW.PrintLast Go.Proofs.YtjppgokdocjljaaW.PrintMore
set_option linter.unusedVariables false
set_option linter.unusedSimpArgs false
theorem wq9 (q : Nat) (h : q ≤ 9) : wrap64 ((q : Int) + 1) = ((q + 1 : Nat) : Int) := wrap_nat q 10 (by omega) (by omega)
theorem wm9 (q f : Nat) (h : q ≤ 9) (hf : f ≤ q) : wrap64 ((q : Int) - (f : Int)) = ((q - f : Nat) : Int) := by rw [wrap_in (by omega) (by omega)]; omega
theorem wd9 (q : Nat) (h : q ≤ 9) : wrap64 ((q : Int) - 1) = (q : Int) - 1 := wrap_in (by omega) (by omega)
theorem wr9 (x : Int) (q : Nat) (h : q ≤ 9) (h0 : 0 ≤ x) (h1 : x ≤ 9) : wrap64 (x - (q : Int)) = x - (q : Int) := wrap_in (by omega) (by omega)
theorem split_spec1 (n : Nat) (hn : n ≤ 8) (l : List Int) (hl : l.length ≤ 60) (hr : ∀ r ∈ l, 0 ≤ r ∧ r ≤ (n : Int) - 2) (out : List S28) (hout : out.length ≤ 100) (fr at_ : Nat) (hf : fr ≤ at_) (ha : at_ ≤ n) (R : List S28 × Bool)
    (h : Ev (fun k => spec_SplitLadder.l0 k (if 1 < at_ - fr then out ++ [⟨((at_ - fr : Nat) : Int), part l fr at_⟩] else out) (at_ : Int) ((at_ + 1 : Nat) : Int) (n : Int) l) R) :
    Ev (fun k => spec_SplitLadder.l1 k out (fr : Int) (at_ : Int) l (l.length : Int) 0 (n : Int) l (wrap64 ((at_ : Int) - (fr : Int))) []) R := by
  have key := Ev.inv (σ := List Int) (L := fun k j s => spec_SplitLadder.l1 k out (fr : Int) (at_ : Int) l (l.length : Int) (j : Int) (n : Int) l (wrap64 ((at_ : Int) - (fr : Int))) s) (r := R) (n := l.length)
    (Inv := fun j s => s = part (l.take j) fr at_)
    (fun s hs => by
      subst hs
      refine Ev.succ ?_
      have g1 : ¬ (l.length : Int) < (l.length : Int) := by omega
      have g2 : out.length < 4398046511104 := by omega
      simp only [spec_SplitLadder.l1, g1, g2, if_false, if_true, wm9 at_ fr (by omega) hf, wq9 at_ (by omega)]
      rw [List.take_length]
      refine Ev.ite (fun c => ?_) (fun c => ?_)
      · rw [if_pos (by omega)] at h; exact h
      · rw [if_neg (by omega)] at h; exact h)
    (fun j s hj hs ih => by
      subst hs
      refine Ev.succ ?_
      have h1 : (j : Int) < (l.length : Int) := by omega
      have h0 : (0 : Int) ≤ (j : Int) := by omega
      have hx := hr l[j] (List.getElem_mem hj)
      have hp := part_length (l.take j) fr at_
      rw [List.length_take] at hp
      have g3 : (part (l.take j) fr at_).length < 17592186044416 := by omega
      have e := part_take l fr at_ j hj
      simp only [spec_SplitLadder.l1, h1, h0, g3, if_true, rd_nat l j hj, wrap_nat j _ hj (by omega), wd9 at_ (by omega), wr9 l[j] fr (by omega) hx.1 (by omega)]
      refine Ev.ite (fun c => ?_) (fun c => ?_)
      · refine Ev.ite (fun c2 => ?_) (fun c2 => ?_)
        · rw [if_pos ⟨c, c2⟩] at e; exact ih _ e.symm
        · rw [if_neg (fun h => c2 h.2)] at e; exact ih _ e.symm
      · rw [if_neg (fun h => c h.1)] at e; exact ih _ e.symm)
  exact key 0 [] (Nat.zero_le _) rfl
theorem split_impl1 (n : Nat) (hn : n ≤ 8) (l : List Int) (hl : l.length ≤ 60) (hr : ∀ r ∈ l, 0 ≤ r ∧ r ≤ (n : Int) - 2) (out : List S28) (hout : out.length ≤ 100) (fr at_ : Nat) (hf : fr ≤ at_) (ha : at_ ≤ n) (hno : ¬ (at_ : Int) - 1 ∈ l) (R : List S28 × Bool)
    (h : Ev (fun k => impl_SplitLadder.l0 k (if 1 < at_ - fr then out ++ [⟨((at_ - fr : Nat) : Int), part l fr at_⟩] else out) (at_ : Int) ((at_ + 1 : Nat) : Int) (n : Int) l) R) :
    Ev (fun k => impl_SplitLadder.l1 k out (fr : Int) (at_ : Int) l (l.length : Int) 0 (n : Int) l (wrap64 ((at_ : Int) - (fr : Int))) []) R := by
  have key := Ev.inv (σ := List Int) (L := fun k j s => impl_SplitLadder.l1 k out (fr : Int) (at_ : Int) l (l.length : Int) (j : Int) (n : Int) l (wrap64 ((at_ : Int) - (fr : Int))) s) (r := R) (n := l.length)
    (Inv := fun j s => s = part (l.take j) fr at_)
    (fun s hs => by
      subst hs
      refine Ev.succ ?_
      have g1 : ¬ (l.length : Int) < (l.length : Int) := by omega
      have g2 : out.length < 4398046511104 := by omega
      simp only [impl_SplitLadder.l1, g1, g2, if_false, if_true, wm9 at_ fr (by omega) hf, wq9 at_ (by omega)]
      rw [List.take_length]
      refine Ev.ite (fun c => ?_) (fun c => ?_)
      · rw [if_pos (by omega)] at h; exact h
      · rw [if_neg (by omega)] at h; exact h)
    (fun j s hj hs ih => by
      subst hs
      refine Ev.succ ?_
      have h1 : (j : Int) < (l.length : Int) := by omega
      have h0 : (0 : Int) ≤ (j : Int) := by omega
      have hx := hr l[j] (List.getElem_mem hj)
      have hp := part_length (l.take j) fr at_
      rw [List.length_take] at hp
      have g3 : (part (l.take j) fr at_).length < 17592186044416 := by omega
      have e := part_take l fr at_ j hj
      have hne : l[j] ≠ (at_ : Int) - 1 := fun he => hno (he ▸ List.getElem_mem hj)
      simp only [impl_SplitLadder.l1, h1, h0, g3, if_true, rd_nat l j hj, wrap_nat j _ hj (by omega), wd9 at_ (by omega), wr9 l[j] fr (by omega) hx.1 (by omega), btw_f, Option.bind_some]
      by_cases c : (fr : Int) ≤ l[j] ∧ l[j] < (at_ : Int) - 1
      · have ci : inB l[j] (fr : Int) ((at_ : Int) - 1) = true := by simp [inB]; omega
        rw [if_pos c] at e
        simp only [ci, if_true]
        exact ih _ e.symm
      · have ci : inB l[j] (fr : Int) ((at_ : Int) - 1) = false := by simp [inB]; omega
        rw [if_neg c] at e
        simp only [ci, Bool.false_eq_true, if_false]
        exact ih _ e.symm)
  exact key 0 [] (Nat.zero_le _) rfl
theorem split_spec (n : Nat) (hn : n ≤ 8) (l : List Int) (hl : l.length ≤ 60) (hr : ∀ r ∈ l, 0 ≤ r ∧ r ≤ (n : Int) - 2) : Ev (fun k => spec_SplitLadder.l0 k [] 0 1 (n : Int) l) ((splitTo n l n).1, true) := by
  have key := Ev.inv (σ := List S28 × Nat) (L := fun k j s => spec_SplitLadder.l0 k s.1 (s.2 : Int) ((j + 1 : Nat) : Int) (n : Int) l) (r := ((splitTo n l n).1, true)) (n := n)
    (Inv := fun j s => s = splitTo n l j)
    (fun s hs => by
      subst hs
      refine Ev.succ (Ev.ret fun k => ?_)
      rw [spec_SplitLadder.l0, if_neg (by omega)])
    (fun j s hj hs ih => by
      subst hs
      obtain ⟨s1, s2, s3⟩ := splitTo_small n l j
      have e : splitTo n l (j + 1) = stepS n l (splitTo n l j) (j + 1) := rfl
      rw [stepS] at e
      refine Ev.succ ?_
      have h1 : ((j + 1 : Nat) : Int) ≤ (n : Int) := by omega
      simp only [spec_SplitLadder.l0, h1, if_true]
      refine Ev.ite (fun c => ?_) (fun c => ?_)
      · rw [wd9 (j + 1) (by omega)]
        refine Ev.bind (l1Has_ev l _ (by omega)) ?_
        refine Ev.succ ?_
        simp only [spec_SplitLadder.j1, wq9 (j + 1) (by omega)]
        refine Ev.iteb (fun c2 => ?_) (fun c2 => ?_)
        · rw [if_pos ⟨by omega, of_decide_eq_true c2⟩] at e
          exact ih _ e.symm
        · rw [if_neg (fun h => of_decide_eq_false c2 h.2)] at e
          refine split_spec1 n hn l hl hr _ (by omega) _ (j + 1) (by omega) (by omega) _ ?_
          have := ih _ e.symm
          exact this
      · refine Ev.succ ?_
        simp only [spec_SplitLadder.j1, Bool.false_eq_true, if_false]
        rw [if_neg (fun h => c (by omega))] at e
        refine split_spec1 n hn l hl hr _ (by omega) _ (j + 1) (by omega) (by omega) _ ?_
        exact ih _ e.symm)
  exact key 0 ([], 0) (Nat.zero_le _) rfl
theorem split_impl (n : Nat) (hn : n ≤ 8) (l : List Int) (hl : l.length ≤ 60) (hr : ∀ r ∈ l, 0 ≤ r ∧ r ≤ (n : Int) - 2) : Ev (fun k => impl_SplitLadder.l0 k [] 0 1 (n : Int) l) ((splitTo n l n).1, true) := by
  have key := Ev.inv (σ := List S28 × Nat) (L := fun k j s => impl_SplitLadder.l0 k s.1 (s.2 : Int) ((j + 1 : Nat) : Int) (n : Int) l) (r := ((splitTo n l n).1, true)) (n := n)
    (Inv := fun j s => s = splitTo n l j)
    (fun s hs => by
      subst hs
      refine Ev.succ (Ev.ret fun k => ?_)
      rw [impl_SplitLadder.l0, if_neg (by omega)])
    (fun j s hj hs ih => by
      subst hs
      obtain ⟨s1, s2, s3⟩ := splitTo_small n l j
      have e : splitTo n l (j + 1) = stepS n l (splitTo n l j) (j + 1) := rfl
      rw [stepS] at e
      refine Ev.succ ?_
      have h1 : ((j + 1 : Nat) : Int) ≤ (n : Int) := by omega
      simp only [impl_SplitLadder.l0, h1, if_true, impl_isSplit.f]
      refine Ev.ite (fun c => ?_) (fun c => ?_)
      · rw [wd9 (j + 1) (by omega)]
        refine Ev.bind (a := !decide (((j + 1 : Nat) : Int) - 1 ∈ l)) (Ev.bind (Contains_ev l _ (by omega)) (Ev.now _)) ?_
        refine Ev.succ ?_
        simp only [impl_SplitLadder.j1, wq9 (j + 1) (by omega), Bool.not_not]
        refine Ev.iteb (fun c2 => ?_) (fun c2 => ?_)
        · rw [if_pos ⟨by omega, of_decide_eq_true c2⟩] at e
          exact ih _ e.symm
        · rw [if_neg (fun h => of_decide_eq_false c2 h.2)] at e
          refine split_impl1 n hn l hl hr _ (by omega) _ (j + 1) (by omega) (by omega) (of_decide_eq_false c2) _ ?_
          exact ih _ e.symm
      · refine Ev.succ ?_
        simp only [impl_SplitLadder.j1, Bool.false_eq_true, if_false]
        rw [if_neg (fun h => c (by omega))] at e
        refine split_impl1 n hn l hl hr _ (by omega) _ (j + 1) (by omega) (by omega) (fun hm => by have := hr _ hm; omega) _ ?_
        exact ih _ e.symm)
  exact key 0 ([], 0) (Nat.zero_le _) rfl
theorem SplitLadder_both (a : Int) (l : List Int) : ∃ r, Ev (fun k => spec_SplitLadder.f k a l) r ∧ Ev (fun k => impl_SplitLadder.f k a l) r ∧ smallLS r.1 := by
  by_cases h : isLadderB a l = true
  · have hl := (isLadderB_iff a l).1 h
    obtain ⟨n, rfl⟩ : ∃ n : Nat, a = n := ⟨a.toNat, by omega⟩
    have sm := splitTo_small n l n
    refine ⟨((splitTo n l n).1, true), ?_, ?_, by simp only; omega, fun r hr => by have := sm.2.2 r hr; omega⟩
    · unfold spec_SplitLadder.f
      refine Ev.bind (laGood_ev _ l) ?_
      simp only [h, if_true]
      exact split_spec n (by omega) l (by omega) hl.2.2.2
    · unfold impl_SplitLadder.f impl_isLadder.f
      simp only [Option.bind_some, h, if_true]
      exact split_impl n (by omega) l (by omega) hl.2.2.2
  · have h' : isLadderB a l = false := by simpa using h
    refine ⟨([], false), ?_, ?_, by simp [smallLS]⟩
    · unfold spec_SplitLadder.f
      refine Ev.bind (laGood_ev _ l) ?_
      simp only [h', Bool.false_eq_true, if_false]; exact Ev.now _
    · unfold impl_SplitLadder.f impl_isLadder.f
      simp only [Option.bind_some, h', Bool.false_eq_true, if_false]
      exact Ev.now _
theorem FnExactSplitLadder : ∀ (a0_0 : Int) (l0_1 : List Int), (Lit.int .i64 a0_0).wf = true → l0_1.length ≤ maxLen → (∀ x ∈ l0_1, (Lit.int .i64 x).wf = true) → ∃ k, laws_FnExactSplitLadder.f k a0_0 l0_1 = some true := by
  intro a l _ hm _
  unfold maxLen at hm
  refine Ev.rounds ?_
  unfold laws_FnExactSplitLadder.f
  simp only [szLadder_f a l hm, Option.bind_some]
  by_cases hl : l.length ≤ 1048576
  · have h2 : ¬ (1048576 - (l.length : Int)) < 0 := by omega
    obtain ⟨r, hs, hi, hsm⟩ := SplitLadder_both a l
    have hneg := markEndLS_neg r.1 hsm
    have hneg2 : ¬ markEnd 1 l.length < 0 := by have := markEnd_eq l.length 1 (by omega) (by omega); omega
    simp only [hl, if_true, h2, if_false]
    repeat' (first
      | exact Ev.now _
      | ((with_reducible refine Ev.bind hs ?_); try dsimp only)
      | ((with_reducible refine Ev.bind hi ?_); try dsimp only)
      | ((with_reducible refine Ev.bind (toLadder_ev _ _ (by omega)) ?_); try dsimp only)
      | ((with_reducible refine Ev.bind (toIntS_ev _ (by omega)) ?_); try dsimp only)
      | ((with_reducible refine Ev.bind (eqLadder_refl _ _ (by omega)) ?_); try dsimp only)
      | ((with_reducible refine Ev.bind (eqIntS_refl _ (by omega)) ?_); try dsimp only)
      | ((with_reducible refine Ev.bind (markLadder_ev _ _ _ (by omega)) ?_); try dsimp only)
      | ((with_reducible refine Ev.bind (markIntS_ev _ _ (by omega)) ?_); try dsimp only)
      | ((with_reducible refine Ev.bind (heldLadder_ev _ _ _ (by omega) (by omega)) ?_); try dsimp only)
      | ((with_reducible refine Ev.bind (heldIntS_ev _ _ (by omega)) ?_); try dsimp only)
      | ((with_reducible refine Ev.bind (eqIntSS_refl _ (by assumption)) ?_); try dsimp only)
      | ((with_reducible refine Ev.bind (markIntSS_ev _ _ (by assumption)) ?_); try dsimp only)
      | ((with_reducible refine Ev.bind (heldIntSS_ev _ _ (by assumption) (by omega) (by omega)) ?_); try dsimp only)
      | ((with_reducible refine Ev.bind (eqLadderS_refl _ (by assumption)) ?_); try dsimp only)
      | ((with_reducible refine Ev.bind (markLadderS_ev _ _ (by assumption)) ?_); try dsimp only)
      | ((with_reducible refine Ev.bind (heldLadderS_ev _ _ (by assumption) (by omega) (by omega)) ?_); try dsimp only)
      | simp only [if_true, if_false, bne_self_eq_false, Bool.false_eq_true, eq_self, Option.bind_some, hneg, hneg2]
      )
  · simp only [hl, if_false]
    simpa using Ev.now _
end Go.Proofs.Ytjppgokdocjljaa.Q
