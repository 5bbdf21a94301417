/- The reference works out who wins the placing game. No program, no memory. -/
import Derived.Test.YthpdhoplddlieaaB9
import Derived.Test.YthpdhoplddlieaaQwin
import Derived.Test.YthpdhoplddlieaaQlaOver
namespace Go.Proofs.Ythpdhoplddlieaa.Q
open Go.RowKit Go.Proofs.Ythpdhoplddlieaa.B Go.Proofs.YthpdhoplddlieaaW.PrintWords Go.Proofs.YthpdhoplddlieaaW.PrintLast Go.Proofs.YthpdhoplddlieaaW.PrintMore
set_option linter.unusedVariables false
set_option linter.unusedSimpArgs false
/-- The reference's table. -/
def wins (n : Nat) (goal : Int) (m : Nat) (f : Bool) : List Bool := (List.range n).map fun (w : Nat) => win n goal m f (w : Int)
theorem wins_rd {n : Nat} {goal : Int} {m : Nat} {f : Bool} {t : Int} (h0 : 0 ≤ t) (h1 : t < n) : rdOf false (wins n goal m f) t = win n goal m f t := by
  unfold rdOf wins
  have : t.toNat < n := by omega
  rw [List.getD_eq_getElem?_getD, List.getElem?_map, List.getElem?_range this]
  simp
  congr 1
  omega
theorem wins_length (n : Nat) (goal : Int) (m : Nat) (f : Bool) : (wins n goal m f).length = n := by simp [wins]
theorem any_snoc (p : Nat → Bool) (j : Nat) : (List.range' 0 (j + 1)).any p = ((List.range' 0 j).any p || p j) := by
  rw [List.range'_concat]; simp
theorem all_snoc (p : Nat → Bool) (j : Nat) : (List.range' 0 (j + 1)).all p = ((List.range' 0 j).all p && p j) := by
  rw [List.range'_concat]; simp
section
variable (n : Nat) (hn1 : 2 ≤ n) (hn : n ≤ 8) (goal : Int) (moves : Nat) (first : Bool)
include hn1 hn
theorem gaPlaces_l2 (left : Nat) (hl : left < moves) (mine : Bool) (w : Nat) (hw : w < n) (next : List Bool) (r : List Bool) (hnl : next.length = n)
    (cont : Ev (fun k => spec_gaPlaces.l1 k n moves first (wins n goal left (!mine)) ((left + 1 : Nat) : Int) mine (next.set w (win n goal (left + 1) mine w)) ((w + 1 : Nat) : Int)) r) :
    Ev (fun k => spec_gaPlaces.l2 k n moves first (wins n goal left (!mine)) ((left + 1 : Nat) : Int) mine next (w : Int) false true ((0 : Nat) : Int)) r := by
  have hw1 : wrap64 ((n : Int) - 1) = ((n - 1 : Nat) : Int) := by unfold wrap64; omega
  have key := Ev.inv (σ := Bool × Bool) (L := fun k j s => spec_gaPlaces.l2 k n moves first (wins n goal left (!mine)) ((left + 1 : Nat) : Int) mine next (w : Int) s.1 s.2 (j : Int)) (n := n - 1) (r := r)
    (Inv := fun j s => s.1 = (List.range' 0 j).any (fun r => win n goal left (!mine) (ovr w r)) ∧ s.2 = (List.range' 0 j).all (fun r => win n goal left (!mine) (ovr w r)))
    (fun s hs => by
      obtain ⟨s1, s2⟩ := s
      obtain ⟨rfl, rfl⟩ := hs
      refine Ev.succ ?_
      have h1 : ¬ ((n - 1 : Nat) : Int) < ((n - 1 : Nat) : Int) := by omega
      have h2 : (w : Int) < (next.length : Int) := by omega
      have h3 : (0 : Int) ≤ (w : Int) := by omega
      simp only [spec_gaPlaces.l2, hw1, h1, if_false, h2, h3, if_true, wrap_nat w n hw (by omega), nat_toNat]
      cases mine with
      | true =>
        simp only [if_true]
        simp only [win, if_true] at cont
        refine Ev.iteb (fun h => ?_) (fun h => ?_)
        · rw [h] at cont; exact cont
        · rw [h] at cont; exact cont
      | false =>
        simp only [Bool.false_eq_true, if_false]
        simp only [win, Bool.false_eq_true, if_false] at cont
        exact cont)
    (fun j s hj hs ih => by
      obtain ⟨s1, s2⟩ := s
      obtain ⟨rfl, rfl⟩ := hs
      have hin := ovr_in (w := (w : Int)) (n := n) (r := j) (by omega) (by omega) hj hn
      have h1 : (j : Int) < ((n - 1 : Nat) : Int) := by omega
      have h2 : (0 : Int) ≤ ovr w j := hin.1
      have h3 : ovr w j < ((wins n goal left (!mine)).length : Int) := by rw [wins_length]; exact hin.2
      refine Ev.succ ?_
      simp only [spec_gaPlaces.l2, hw1, h1, h2, h3, if_true, laOver_f, Option.bind_some, wins_rd hin.1 hin.2, wrap_nat j (n - 1) hj (by omega)]
      have := ih (((List.range' 0 j).any (fun r => win n goal left (!mine) (ovr w r)) || win n goal left (!mine) (ovr w j)), ((List.range' 0 j).all (fun r => win n goal left (!mine) (ovr w r)) && win n goal left (!mine) (ovr w j))) ⟨(any_snoc _ j).symm, (all_snoc _ j).symm⟩
      refine Ev.iteb (fun h => ?_) (fun h => ?_)
      · rw [h] at this
        refine Ev.iteb (fun h2 => ?_) (fun h2 => ?_)
        · rw [h2] at this; simpa using this
        · rw [h2] at this; simpa using this
      · rw [h] at this
        refine Ev.iteb (fun h2 => ?_) (fun h2 => ?_)
        · rw [h2] at this; simpa using this
        · rw [h2] at this; simpa using this)
  exact key 0 (false, true) (Nat.zero_le _) ⟨rfl, rfl⟩
theorem gaPlaces_l1 (hm : moves ≤ 8) (left : Nat) (hl : left < moves) (mine : Bool) (r : List Bool)
    (cont : Ev (fun k => spec_gaPlaces.l0 k n moves first (wins n goal (left + 1) mine) ((left + 2 : Nat) : Int)) r) :
    Ev (fun k => spec_gaPlaces.l1 k n moves first (wins n goal left (!mine)) ((left + 1 : Nat) : Int) mine (List.replicate n false) ((0 : Nat) : Int)) r := by
  have key := Ev.inv (σ := List Bool) (L := fun k j s => spec_gaPlaces.l1 k n moves first (wins n goal left (!mine)) ((left + 1 : Nat) : Int) mine s (j : Int)) (n := n) (r := r)
    (Inv := fun j s => s = (wins n goal (left + 1) mine).take j ++ List.replicate (n - j) false)
    (fun s hs => by
      subst hs
      refine Ev.succ ?_
      have h1 : ¬ (n : Int) < (n : Int) := by omega
      have e1 : (wins n goal (left + 1) mine).take n = wins n goal (left + 1) mine := List.take_of_length_le (by rw [wins_length]; omega)
      have e2 : wrap64 (((left + 1 : Nat) : Int) + 1) = ((left + 2 : Nat) : Int) := by unfold wrap64; omega
      simp only [spec_gaPlaces.l1, h1, if_false, e1, e2, Nat.sub_self, List.replicate_zero, List.append_nil]
      exact cont)
    (fun j s hj hs ih => by
      subst hs
      refine Ev.succ ?_
      have h1 : (j : Int) < (n : Int) := by omega
      simp only [spec_gaPlaces.l1, h1, if_true]
      refine gaPlaces_l2 n hn1 hn goal moves first left hl mine j hj _ r (by simp [wins_length]; omega) (ih _ ?_)
      have hlen : ((wins n goal (left + 1) mine).take j).length = j := by rw [List.length_take, wins_length]; omega
      have e1 : n - j = (n - (j + 1)) + 1 := by omega
      have hjw : j < (wins n goal (left + 1) mine).length := by rw [wins_length]; exact hj
      rw [List.set_append_right (h := by omega), hlen, Nat.sub_self, e1, List.replicate_succ, List.set_cons_zero, List.take_succ_eq_append_getElem hjw, List.append_assoc]
      simp [wins])
  exact key 0 _ (Nat.zero_le _) (by simp)
theorem gaPlaces_l0 (hm : moves ≤ 8) (left : Nat) (hl : left ≤ moves) : Ev (fun k => spec_gaPlaces.l0 k n moves first (wins n goal left (first == decide ((moves - left) % 2 = 0))) ((left + 1 : Nat) : Int)) (wins n goal moves first) := by
  obtain ⟨d, hd⟩ : ∃ d, d = moves - left := ⟨_, rfl⟩
  induction d generalizing left with
  | zero =>
    obtain rfl : left = moves := by omega
    refine Ev.succ (Ev.ret fun k => ?_)
    rw [spec_gaPlaces.l0, if_neg (by omega), Nat.sub_self]
    simp
  | succ d ih =>
    refine Ev.succ ?_
    have h1 : ((left + 1 : Nat) : Int) ≤ (moves : Int) := by omega
    have h2 : (0 : Int) ≤ (n : Int) := by omega
    have h3 : ((n : Int)).toNat ≤ 281474976710656 := by omega
    have e1 : wrap64 ((moves : Int) - ((left + 1 : Nat) : Int)) = ((moves - (left + 1) : Nat) : Int) := by unfold wrap64; omega
    have e2 : Int.tmod ((moves - (left + 1) : Nat) : Int) 2 = (((moves - (left + 1)) % 2 : Nat) : Int) := by
      rw [Int.tmod_eq_emod_of_nonneg (by omega)]; omega
    have e3 : (first == ((((moves - (left + 1)) % 2 : Nat) : Int) == 0)) = (first == decide ((moves - (left + 1)) % 2 = 0)) := by
      congr 1
      rw [Bool.eq_iff_iff]; simp; omega
    have e4 : (first == decide ((moves - left) % 2 = 0)) = !(first == decide ((moves - (left + 1)) % 2 = 0)) := by
      have : (decide ((moves - left) % 2 = 0)) = !(decide ((moves - (left + 1)) % 2 = 0)) := by
        rw [Bool.eq_iff_iff]; simp; omega
      rw [this]
      cases first <;> cases decide ((moves - (left + 1)) % 2 = 0) <;> rfl
    simp only [spec_gaPlaces.l0, h1, h2, h3, if_true, e1, e2, e3]
    rw [e4]
    exact gaPlaces_l1 n hn1 hn goal moves first hm left (by omega) _ _ (ih (left + 1) (by omega) (by omega))
theorem gaPlaces_ev (hm : moves ≤ 8) (h0 : 0 ≤ goal) (h1 : goal < n) : Ev (fun k => spec_gaPlaces.f k n goal moves first) (wins n goal moves first) := by
  unfold spec_gaPlaces.f
  have g2 : (0 : Int) ≤ (n : Int) := by omega
  have g3 : n ≤ 281474976710656 := by omega
  have g4 : goal < ((List.replicate n false).length : Int) := by simp; omega
  simp only [g2, g3, if_true, Option.bind_some, nat_toNat, h0, g4]
  have e : (List.replicate n false).set goal.toNat true = wins n goal 0 (first == decide ((moves - 0) % 2 = 0)) := by
    apply List.ext_getElem
    · simp [wins]
    · intro i h1 h2
      simp only [List.length_set, List.length_replicate] at h1
      rw [List.getElem_set]
      simp only [wins, List.getElem_map, List.getElem_range, win, List.getElem_replicate]
      by_cases h : goal.toNat = i
      · rw [if_pos h]; simp; omega
      · rw [if_neg h]; symm; simp; omega
  rw [e]
  exact gaPlaces_l0 n hn1 hn goal moves first hm 0 (Nat.zero_le _)
end
end Go.Proofs.Ythpdhoplddlieaa.Q
