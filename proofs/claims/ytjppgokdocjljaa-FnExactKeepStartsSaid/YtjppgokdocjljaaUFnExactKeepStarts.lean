/- The pure statement of FnExactKeepStarts: the program's KeepStarts and the reference's give the same. Conditions: none beyond the law's own. -/
import Derived.Test.YtjppgokdocjljaaB2
import Derived.Test.YtjppgokdocjljaaB11
import Derived.Test.YtjppgokdocjljaaB12
import Derived.Test.YtjppgokdocjljaaB14
import Derived.Test.YtjppgokdocjljaaQriseW
import Derived.Test.YtjppgokdocjljaaQmrRising
import Derived.Test.YtjppgokdocjljaaQisRising
import Derived.Test.YtjppgokdocjljaaQhas
import Derived.Test.YtjppgokdocjljaaQContains
import Derived.Test.YtjppgokdocjljaaQmrTake
import Derived.Test.YtjppgokdocjljaaQtakeStart
import Derived.Test.YtjppgokdocjljaaQlaGood
import Derived.Test.YtjppgokdocjljaaQtoLadder
import Derived.Test.YtjppgokdocjljaaQeqLadder
import Derived.Test.YtjppgokdocjljaaQszLadder
import Derived.Test.YtjppgokdocjljaaQmarkLadder
import Derived.Test.YtjppgokdocjljaaQtoIntS
import Derived.Test.YtjppgokdocjljaaQeqIntS
import Derived.Test.YtjppgokdocjljaaQmark
namespace Go.Proofs.Ytjppgokdocjljaa.Q
open Go.RowKit Go.Proofs.Ytjppgokdocjljaa.B Go.Proofs.YtjppgokdocjljaaW.PrintWords Go.Proofs.YtjppgokdocjljaaW.PrintLast Go.Proofs.YtjppgokdocjljaaW.PrintMore
set_option linter.unusedVariables false
set_option linter.unusedSimpArgs false
def keepL (s : List Int) : Nat → List Int → List Int
  | 0, l => l
  | w + 1, l => keepL s w (if (w : Int) ∈ s then l else tk (w : Int) l)
theorem keepL_length (s : List Int) (w : Nat) : ∀ l, (keepL s w l).length ≤ l.length := by
  induction w with
  | zero => intro l; simp [keepL]
  | succ w ih =>
    intro l
    have h2 := tk_length l (w : Int)
    rw [keepL]
    by_cases c : (w : Int) ∈ s
    · rw [if_pos c]; exact ih l
    · rw [if_neg c]; exact Nat.le_trans (ih _) h2
theorem keep_spec (s : List Int) (hs : s.length ≤ 1048576) (w : Nat) (hw : w ≤ 1000) : ∀ (l : List Int), l.length ≤ 1000000 → Ev (fun k => spec_KeepStarts.l0 k s l ((w : Int) - 1)) ((s.length : Int), keepL s w l, true) := by
  induction w with
  | zero =>
    intro l _
    refine Ev.succ ?_
    have g : ¬ ((0 : Nat) : Int) - 1 ≥ 0 := by omega
    simp only [spec_KeepStarts.l0, g, if_false]
    exact Ev.now _
  | succ w ih =>
    intro l hl
    refine Ev.succ ?_
    have e : ((w + 1 : Nat) : Int) - 1 = (w : Int) := by omega
    rw [e]
    have g : (w : Int) ≥ 0 := by omega
    have gw : wrap64 ((w : Int) - 1) = (w : Int) - 1 := wrap_in (by omega) (by omega)
    simp only [spec_KeepStarts.l0, g, if_true, gw]
    refine Ev.bind (l1Has_ev s (w : Int) (by omega)) ?_
    refine Ev.iteb (fun h => ?_) (fun h => ?_)
    · rw [keepL, if_pos (by simpa using h)]; exact ih (by omega) l hl
    · rw [keepL, if_neg (by simpa using h)]
      exact Ev.bind (mrTake_ev l (w : Int) hl) (ih (by omega) _ (by have := tk_length l (w : Int); omega))
theorem keep_impl (s : List Int) (hs : s.length ≤ 1048576) (n : Nat) (hn : 1 ≤ n) (hn8 : n ≤ 1000) (hr : risingB s (n : Int) = true) (w : Nat) (hw : w ≤ 1000) : ∀ (l : List Int) (m : Nat), l.length ≤ 1000000 → m ≤ s.length → (∀ i : Nat, i < m → rd s (i : Int) < (w : Int)) → (∀ i : Nat, m ≤ i → i < s.length → (w : Int) ≤ rd s (i : Int)) →
    Ev (fun k => impl_KeepStarts.l0 k s ((w : Int) - 1) ((w + (s.length - m) : Nat) : Int) l) ((s.length : Int), keepL s w l, true) := by
  induction w with
  | zero =>
    intro l m _ hm h1 h2
    refine Ev.succ ?_
    have g : ¬ ((0 : Nat) : Int) - 1 ≥ 0 := by omega
    have hm0 : m = 0 := by
      rcases Nat.eq_zero_or_pos m with h | h
      · exact h
      · have := h1 0 h; have := rising_in hr hn hn8 0 (by omega); omega
    subst hm0
    simp only [impl_KeepStarts.l0, g, if_false]
    refine Ev.eq (Ev.now _) ?_
    simp [keepL]
  | succ w ih =>
    intro l m hl hm h1 h2
    refine Ev.succ ?_
    have e : ((w + 1 : Nat) : Int) - 1 = (w : Int) := by omega
    rw [e]
    have g : (w : Int) ≥ 0 := by omega
    have gw : wrap64 ((w : Int) - 1) = (w : Int) - 1 := wrap_in (by omega) (by omega)
    simp only [impl_KeepStarts.l0, g, if_true, gw]
    refine Ev.bind (Contains_ev s (w : Int) (by omega)) ?_
    refine Ev.iteb (fun h => ?_) (fun h => ?_)
    · have h' : (w : Int) ∈ s := by simpa using h
      rw [keepL, if_pos h']
      obtain ⟨i, hi, e1⟩ := mem_rd h'
      have him : i < m := by
        rcases Nat.lt_or_ge i m with h3 | h3
        · exact h3
        · have := h2 i h3 hi; omega
      have hm1 : m = i + 1 := by
        rcases Nat.lt_or_ge (i + 1) m with h3 | h3
        · have := h1 (i + 1) h3; have := rising_lt hr i (by omega); omega
        · omega
      have e2 : w + 1 + (s.length - m) = w + (s.length - i) := by omega
      rw [e2]
      refine ih (by omega) l i hl (by omega) (fun j hj => ?_) (fun j hj hj2 => ?_)
      · have := rising_lt hr j (by omega)
        have := h1 (j + 1) (by omega)
        omega
      · rcases Nat.eq_or_lt_of_le hj with h3 | h3
        · subst h3; omega
        · have := h2 j (by omega) hj2; omega
    · have h' : (w : Int) ∉ s := by simpa using h
      rw [keepL, if_neg h']
      refine Ev.bind (takeStart_ev _ l (w : Int) hl) ?_
      have e2 : wrap64 (((w + 1 + (s.length - m) : Nat) : Int) - 1) = ((w + (s.length - m) : Nat) : Int) := by unfold wrap64; omega
      simp only [e2]
      refine ih (by omega) _ m (by have := tk_length l (w : Int); omega) hm (fun j hj => ?_) (fun j hj hj2 => ?_)
      · have h3 := h1 j hj
        have h4 : rd s (j : Int) ≠ (w : Int) := fun e3 => h' (e3 ▸ rd_mem j (by omega))
        omega
      · have := h2 j hj hj2; omega
theorem KeepStarts_both (a : Int) (l s : List Int) (hs : s.length ≤ 1048576) : ∃ r, Ev (fun k => spec_KeepStarts.f k a l s) r ∧ Ev (fun k => impl_KeepStarts.f k a l s) r ∧ r.2.1.length ≤ 60 := by
  have fs : Ev (fun k => spec_KeepStarts.j0 k s true a l) (0, [], false) := Ev.succ (Ev.ret fun k => by rw [spec_KeepStarts.j0]; rfl)
  have fi : Ev (fun k => impl_KeepStarts.j0 k s true a l) (0, [], false) := Ev.succ (Ev.ret fun k => by rw [impl_KeepStarts.j0]; rfl)
  by_cases h : isLadderB a l = true
  · have hl := (isLadderB_iff a l).1 h
    obtain ⟨n, rfl⟩ : ∃ n : Nat, a = n := ⟨a.toNat, by omega⟩
    by_cases h2 : (s.length : Int) < 2
    · refine ⟨(0, [], false), ?_, ?_, by simp⟩
      · unfold spec_KeepStarts.f
        refine Ev.bind (laGood_ev _ l) ?_
        simp only [h, h2, if_true]; exact fs
      · unfold impl_KeepStarts.f impl_isLadder.f
        simp only [Option.bind_some, h, h2, if_true]; exact fi
    · cases h3 : risingB s (n : Int) with
      | false =>
        refine ⟨(0, [], false), ?_, ?_, by simp⟩
        · unfold spec_KeepStarts.f
          refine Ev.bind (laGood_ev _ l) ?_
          simp only [h, h2, if_true, if_false]
          refine Ev.bind (mrRising_ev s _ hs) ?_
          rw [h3]; exact fs
        · unfold impl_KeepStarts.f impl_isLadder.f
          simp only [Option.bind_some, h, h2, if_true, if_false]
          refine Ev.bind (isRising_ev s _ hs) ?_
          rw [h3]; exact fi
      | true =>
        have gw : wrap64 ((n : Int) - 1) = (n : Int) - 1 := wrap_in (by omega) (by omega)
        refine ⟨((s.length : Int), keepL s n l, true), ?_, ?_, by have := keepL_length s n l; simp only; omega⟩
        · unfold spec_KeepStarts.f
          refine Ev.bind (laGood_ev _ l) ?_
          simp only [h, h2, if_true, if_false]
          refine Ev.bind (mrRising_ev s _ hs) ?_
          rw [h3]
          refine Ev.succ ?_
          have g : ([] : List Int).length + l.length < 17592186044416 := by simp; omega
          simp only [spec_KeepStarts.j0, Bool.not_true, Bool.false_eq_true, if_false, spec_l1Own.f, Option.bind_some, g, if_true, gw, List.nil_append]
          exact keep_spec s hs n (by omega) l (by omega)
        · unfold impl_KeepStarts.f impl_isLadder.f
          simp only [Option.bind_some, h, h2, if_true, if_false]
          refine Ev.bind (isRising_ev s _ hs) ?_
          rw [h3]
          refine Ev.succ ?_
          have g : l.length ≤ 17592186044416 := by omega
          simp only [impl_KeepStarts.j0, Bool.not_true, Bool.false_eq_true, if_false, slices_Clone_int_int.f, Option.bind_some, g, if_true, gw]
          have key := keep_impl s hs n (by omega) (by omega) h3 n (by omega) l s.length (by omega) (Nat.le_refl _) (fun i hi => (rising_in h3 (by omega) (by omega) i hi).2) (fun i h4 h5 => absurd h5 (by omega))
          rw [Nat.sub_self, Nat.add_zero] at key
          exact key
  · have h' : isLadderB a l = false := by simpa using h
    refine ⟨(0, [], false), ?_, ?_, by simp⟩
    · unfold spec_KeepStarts.f
      refine Ev.bind (laGood_ev _ l) ?_
      simp only [h', Bool.false_eq_true, if_false]; exact fs
    · unfold impl_KeepStarts.f impl_isLadder.f
      simp only [Option.bind_some, h', Bool.false_eq_true, if_false]; exact fi
theorem FnExactKeepStarts : ∀ (a0_0 : Int) (l0_1 : List Int) (l1 : List Int), (Lit.int .i64 a0_0).wf = true → l0_1.length ≤ maxLen → (∀ x ∈ l0_1, (Lit.int .i64 x).wf = true) → l1.length ≤ maxLen → (∀ x ∈ l1, (Lit.int .i64 x).wf = true) → ∃ k, laws_FnExactKeepStarts.f k a0_0 l0_1 l1 = some true := by
  intro a l s _ hm _ hms _
  unfold maxLen at hm hms
  refine Ev.rounds ?_
  unfold laws_FnExactKeepStarts.f
  simp only [szLadder_f a l hm, Option.bind_some]
  by_cases hs1 : (s.length : Int) > 1048576
  · simp only [hs1, if_true]; exact Ev.now _
  · by_cases hl : l.length ≤ 1048576
    · have h2 : ¬ (1048576 - (l.length : Int)) < 0 := by omega
      obtain ⟨r, hs, hi, hr⟩ := KeepStarts_both a l s (by omega)
      have hneg : ¬ markEnd 1 r.2.1.length < 0 := by have := markEnd_eq r.2.1.length 1 (by omega) (by omega); omega
      have hneg2 : ¬ markEnd (markEnd 1 l.length) s.length < 0 := by
        have := markEnd_eq l.length 1 (by omega) (by omega)
        have := markEnd_eq s.length (markEnd 1 l.length) (by omega) (by omega)
        omega
      simp only [hs1, hl, if_true, h2, if_false]
      repeat' (first
        | exact Ev.now _
        | ((with_reducible refine Ev.bind hs ?_); try dsimp only)
        | ((with_reducible refine Ev.bind hi ?_); try dsimp only)
        | ((with_reducible refine Ev.bind (toLadder_ev _ _ (by omega)) ?_); try dsimp only)
        | ((with_reducible refine Ev.bind (toIntS_ev _ (by omega)) ?_); try dsimp only)
        | ((with_reducible refine Ev.bind (eqLadder_refl _ _ (by omega)) ?_); try dsimp only)
        | ((with_reducible refine Ev.bind (eqIntS_refl _ (by omega)) ?_); try dsimp only)
        | ((with_reducible refine Ev.bind (markLadder_ev _ _ _ (by omega)) ?_); try dsimp only)
        | ((with_reducible refine Ev.bind (markIntS_ev _ _ (by omega)) ?_); try dsimp only)
        | ((with_reducible refine Ev.bind (heldLadder_ev _ _ _ (by omega) (by omega)) ?_); try dsimp only)
        | ((with_reducible refine Ev.bind (heldIntS_ev _ _ (by omega)) ?_); try dsimp only)
        | simp only [if_true, if_false, bne_self_eq_false, Bool.false_eq_true, eq_self, Option.bind_some, hneg, hneg2]
        )
    · simp only [hs1, hl, if_false]
      simpa using Ev.now _
end Go.Proofs.Ytjppgokdocjljaa.Q
