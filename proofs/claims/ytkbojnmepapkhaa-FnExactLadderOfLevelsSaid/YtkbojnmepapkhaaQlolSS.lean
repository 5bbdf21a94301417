/- Levels put together: the program's and the reference's give the same ladder; copies and sizes of rows of rows. No program, no memory. -/
import Derived.Test.YtkbojnmepapkhaaB1
import Derived.Test.YtkbojnmepapkhaaB5
import Derived.Test.YtkbojnmepapkhaaB6
import Derived.Test.YtkbojnmepapkhaaQmarkSS
import Derived.Test.YtkbojnmepapkhaaQtoIntS
import Derived.Test.YtkbojnmepapkhaaQisLevel
import Derived.Test.YtkbojnmepapkhaaQlaIf
namespace Go.Proofs.Ytkbojnmepapkhaa.Q
open Go.RowKit Go.Proofs.Ytkbojnmepapkhaa.B Go.Proofs.YtkbojnmepapkhaaW.PrintWords Go.Proofs.YtkbojnmepapkhaaW.PrintLast Go.Proofs.YtkbojnmepapkhaaW.PrintMore
set_option linter.unusedVariables false
set_option linter.unusedSimpArgs false
def lvB (a : Int) (x : List Int) : Bool := (impl_isLevel.f (x.length + 2) a x).getD false
theorem isLevel_ev (a : Int) (x : List Int) (h : x.length ≤ 1048576) : Ev (fun k => impl_isLevel.f k a x) (lvB a x) := by
  obtain ⟨r, hr⟩ := isLevel_l0 a x (by omega) x.length (x.length + 2) 0 (by omega) (by omega) (by omega) (by omega)
  have e : impl_isLevel.f (x.length + 2) a x = some r := hr
  have e2 : lvB a x = r := by unfold lvB; rw [e]; rfl
  rw [e2]
  exact Ev.of (fun k => impl_isLevel.mono _ _ k) e
theorem lvGood_ev (a : Int) (x : List Int) (h : x.length ≤ 1048576) : Ev (fun k => spec_lvGood.f k a x) (lvB a x) := by
  refine Ev.congr (fun k => ?_) (isLevel_ev a x h)
  exact good_eq k a x x _ 0
def lolZ : Int × List Int × Bool := (0, [], false)
theorem levAll_ev (a : Int) : ∀ (l : List (List Int)), (∀ x ∈ l, x.length ≤ 1048576) → Ev (fun k => levAll k a l) (l.any (fun x => !(lvB a x)))
  | [], _ => Ev.now _
  | x :: l, h => by
    refine Ev.bind (isLevel_ev a x (h x (by simp))) ?_
    refine Ev.bind (levAll_ev a l (fun y hy => h y (by simp [hy]))) ?_
    exact Ev.now _
theorem row_le_flat {l : List (List Int)} {x : List Int} (h : x ∈ l) : x.length ≤ l.flatten.length := by
  induction l with
  | nil => cases h
  | cons y l ih =>
    rw [List.flatten_cons, List.length_append]
    rcases List.mem_cons.mp h with rfl | h
    · omega
    · have := ih h; omega
theorem lol_go (a : Int) (l : List (List Int)) (hT : l.flatten.length ≤ 1048576) (hn : l.length ≤ 1048576) : ∀ (d j : Nat), j + d = l.length →
    Ev (fun k => spec_LadderOfLevels.l0 k a l (l.length : Int) (j : Int) a (l.take j).flatten) (if (l.drop j).any (fun x => !(lvB a x)) = true then lolZ else ifLadder a l.flatten)
  | 0, j, h => by
    obtain rfl : j = l.length := by omega
    refine Ev.succ ?_
    simp only [spec_LadderOfLevels.l0]
    rw [List.drop_length, List.take_length]
    simp only [List.any_nil, Bool.false_eq_true, if_false, Int.lt_irrefl]
    refine Ev.bind (laIf_ev a _) ?_
    exact Ev.now _
  | d + 1, j, h => by
    have hj : j < l.length := by omega
    have hx : l[j].length ≤ 1048576 := Nat.le_trans (row_le_flat (List.getElem_mem hj)) hT
    have hf := flat_le hj
    have ih := lol_go a l hT hn d (j + 1) (by omega)
    refine Ev.succ ?_
    simp only [spec_LadderOfLevels.l0]
    simp only [if_pos (show (j : Int) < (l.length : Int) by omega), if_pos (show 0 ≤ (j : Int) by omega), rdL_nat l j hj]
    refine Ev.bind (lvGood_ev a _ hx) ?_
    rw [List.drop_eq_getElem_cons hj, List.any_cons]
    cases hb : lvB a l[j] with
    | false =>
      simp only [Bool.not_false, Bool.true_or, if_true, Bool.false_eq_true, if_false]
      exact Ev.now _
    | true =>
      simp only [if_true, Bool.not_true, Bool.false_or, if_pos (show (l.take j).flatten.length + l[j].length < 17592186044416 by omega), wrap_nat j l.length hj (by omega), flat_next hj]
      exact ih
theorem lol_both (a : Int) (l : List (List Int)) (hT : l.flatten.length ≤ 1048576) (hn : l.length ≤ 1048576) : ∃ r, Ev (fun k => spec_LadderOfLevels.f k a l) r ∧ Ev (fun k => impl_LadderOfLevels.f k a l) r ∧ r.2.1.length ≤ 60 := by
  obtain ⟨b, hb⟩ := between_some a 2 8
  have hb' : spec_l1In.f a 2 8 = some b := hb
  unfold spec_LadderOfLevels.f impl_LadderOfLevels.f spec_lvWires.f impl_isWires.f
  simp only [hb, hb', Option.bind_some]
  cases b with
  | false =>
    simp only [Bool.false_eq_true, if_false]
    refine ⟨lolZ, Ev.succ ?_, Ev.now _, by simp [lolZ]⟩
    simp only [spec_LadderOfLevels.j0, if_true]
    exact Ev.now _
  | true =>
    simp only [if_true]
    by_cases h : 60 < l.length
    · have e : decide ((l.length : Int) > 60) = true := decide_eq_true (by omega)
      rw [e]
      refine ⟨lolZ, Ev.succ ?_, ?_, by simp [lolZ]⟩
      · simp only [spec_LadderOfLevels.j0, if_true]
        exact Ev.now _
      · simp only [h, if_true]; exact Ev.now _
    · have e : decide ((l.length : Int) > 60) = false := decide_eq_false (by omega)
      rw [e]
      have hg := lol_go a l hT hn l.length 0 (by omega)
      have ha := levAll_ev a l (fun x hx => Nat.le_trans (row_le_flat hx) hT)
      rw [List.drop_zero] at hg
      refine ⟨if (l.any (fun x => !(lvB a x))) = true then lolZ else ifLadder a l.flatten, Ev.succ ?_, ?_, ?_⟩
      · simp only [spec_LadderOfLevels.j0, Bool.false_eq_true, if_false]
        exact hg
      · simp only [h, if_false]
        refine Ev.bind ha ?_
        cases l.any (fun x => !(lvB a x)) with
        | true => simp only [if_true]; exact Ev.now _
        | false =>
          simp only [Bool.false_eq_true, if_false]
          simp only [if_pos (show l.flatten.length ≤ 10000000 by omega), checked_f]
          exact Ev.now _
      · cases l.any (fun x => !(lvB a x)) with
        | true => simp [lolZ]
        | false => simp only [Bool.false_eq_true, if_false]; exact ifLadder_length a _
theorem toIntSS_go (l : List (List Int)) (hn : l.length ≤ 1048576) (hT : l.flatten.length ≤ 1048576) : ∀ (d j : Nat), j + d = l.length →
    Ev (fun k => laws_toIntSS.l0 k l (l.take j ++ List.replicate (l.length - j) []) (j : Int)) l
  | 0, j, h => by
    obtain rfl : j = l.length := by omega
    refine Ev.succ ?_
    simp only [laws_toIntSS.l0, Int.lt_irrefl, if_false, List.take_length, Nat.sub_self, List.replicate_zero, List.append_nil]
    exact Ev.now _
  | d + 1, j, h => by
    have hj : j < l.length := by omega
    have hx : l[j].length ≤ 1048576 := Nat.le_trans (row_le_flat (List.getElem_mem hj)) hT
    have ih := toIntSS_go l hn hT d (j + 1) (by omega)
    refine Ev.succ ?_
    simp only [laws_toIntSS.l0]
    simp only [if_pos (show (j : Int) < (l.length : Int) by omega), if_pos (show 0 ≤ (j : Int) by omega), rdL_nat l j hj]
    refine Ev.bind (toIntS_ev _ (by omega)) ?_
    simp only [if_pos (show (j : Int) < ((l.take j ++ List.replicate (l.length - j) ([] : List Int)).length : Int) by simp; omega), wrap_nat j l.length hj (by omega)]
    have e : (l.take j ++ List.replicate (l.length - j) ([] : List Int)).set ((j : Int)).toNat l[j] = l.take (j + 1) ++ List.replicate (l.length - (j + 1)) [] := by
      rw [show ((j : Int)).toNat = j from rfl, List.set_append_right _ _ (by simp; omega)]
      have h1 : l.length - j = (l.length - (j + 1)) + 1 := by omega
      have h2 : j - (l.take j).length = 0 := by simp; omega
      rw [h1, List.replicate_succ, h2, List.set_cons_zero, List.take_succ_eq_append_getElem hj, List.append_assoc]
      rfl
    simp only [e]
    exact ih
theorem toIntSS_ev (l : List (List Int)) (hn : l.length ≤ 1048576) (hT : l.flatten.length ≤ 1048576) : Ev (fun k => laws_toIntSS.f k l) l := by
  unfold laws_toIntSS.f
  simp only [if_pos (show 0 ≤ (l.length : Int) by omega), if_pos (show ((l.length : Int)).toNat ≤ 11728124029610 by simp; omega)]
  have := toIntSS_go l hn hT l.length 0 (by omega)
  simpa using this
theorem szSS_go (l : List (List Int)) (hn : l.length ≤ 1048576) (hr : ∀ x ∈ l, x.length ≤ 9223372036854775807) : ∀ (d j : Nat) (left : Int), j + d = l.length → 0 ≤ left → left ≤ 1048576 →
    ∃ r, Ev (fun k => laws_szIntSS.l0 k l left (j : Int)) r ∧ (r < 0 ∨ ((l.drop j).flatten.length : Int) ≤ left ∧ ¬ r < 0)
  | 0, j, left, h, h0, h1 => by
    obtain rfl : j = l.length := by omega
    refine ⟨left, Ev.succ ?_, Or.inr ⟨by rw [List.drop_length]; simpa using h0, by omega⟩⟩
    simp only [laws_szIntSS.l0, Int.lt_irrefl, if_false]
    exact Ev.now _
  | d + 1, j, left, h, h0, h1 => by
    have hj : j < l.length := by omega
    have hx := hr l[j] (List.getElem_mem hj)
    have ew : wrap64 (left - (l[j].length : Int)) = left - (l[j].length : Int) := by unfold wrap64; omega
    by_cases hneg : left - (l[j].length : Int) < 0
    · refine ⟨-1, Ev.succ ?_, Or.inl (by omega)⟩
      simp only [laws_szIntSS.l0]
      simp only [if_pos (show (j : Int) < (l.length : Int) by omega), if_pos (show 0 ≤ (j : Int) by omega), rdL_nat l j hj]
      unfold laws_szIntS.f
      simp only [ew, if_pos hneg, Option.bind_some, if_pos (show (-1 : Int) < 0 by omega)]
      exact Ev.now _
    · obtain ⟨r, hr1, hr2⟩ := szSS_go l hn hr d (j + 1) (left - (l[j].length : Int)) (by omega) (by omega) (by omega)
      refine ⟨r, Ev.succ ?_, ?_⟩
      · simp only [laws_szIntSS.l0]
        simp only [if_pos (show (j : Int) < (l.length : Int) by omega), if_pos (show 0 ≤ (j : Int) by omega), rdL_nat l j hj]
        unfold laws_szIntS.f
        simp only [ew, if_neg hneg, Option.bind_some]
        simp only [wrap_nat j l.length hj (by omega)]
        exact hr1
      · rcases hr2 with hr2 | ⟨hr2, hr3⟩
        · exact Or.inl hr2
        · right
          rw [List.drop_eq_getElem_cons hj, List.flatten_cons, List.length_append]
          exact ⟨by omega, hr3⟩
theorem szIntSS_ev (l : List (List Int)) (hn : l.length ≤ 9223372036854775807) (hr : ∀ x ∈ l, x.length ≤ 9223372036854775807) : ∃ r, Ev (fun k => laws_szIntSS.f k l 1048576) r ∧ (r < 0 ∨ (l.length ≤ 1048576 ∧ l.flatten.length ≤ 1048576 ∧ ¬ r < 0)) := by
  unfold laws_szIntSS.f
  have ew : wrap64 (1048576 - (l.length : Int)) = 1048576 - (l.length : Int) := by unfold wrap64; omega
  rw [ew]
  clear ew
  by_cases h : 1048576 - (l.length : Int) < 0
  · simp only [h, if_true]
    exact ⟨-1, Ev.now _, Or.inl (by omega)⟩
  · simp only [h, if_false]
    obtain ⟨r, h1, h2⟩ := szSS_go l (by omega) hr l.length 0 (1048576 - (l.length : Int)) (by omega) (by omega) (by omega)
    refine ⟨r, h1, ?_⟩
    rcases h2 with h2 | ⟨h2, h3⟩
    · exact Or.inl h2
    · rw [List.drop_zero] at h2
      exact Or.inr ⟨by omega, by omega, h3⟩
end Go.Proofs.Ytkbojnmepapkhaa.Q
