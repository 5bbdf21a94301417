/- The pure statement of FnPlacesAndLasts: good rungs of placing games keep the win, games with more moves follow from those with less, and lasting games end as they are counted. Conditions: none beyond the law's own. -/
import Derived.Test.YtkejpggjmjlfpaaE
import Derived.Test.YtkejpggjmjlfpaaB1
import Derived.Test.YtkejpggjmjlfpaaB5
import Derived.Test.YtkejpggjmjlfpaaB2
import Derived.Test.YtkejpggjmjlfpaaB3
import Derived.Test.YtkejpggjmjlfpaaB4
namespace Go.Proofs.Ytkejpggjmjlfpaa.Q
open Go.RowKit Go.Proofs.Ytkejpggjmjlfpaa.B Go.Proofs.YtkejpggjmjlfpaaW.PrintWords Go.Proofs.YtkejpggjmjlfpaaW.PrintLast Go.Proofs.YtkejpggjmjlfpaaW.PrintMore
set_option linter.unusedVariables false
set_option linter.unusedSimpArgs false
theorem wrap_in {i : Int} (h0 : -9223372036854775808 ≤ i) (h : i ≤ 9223372036854775807) : wrap64 i = i := by
 unfold wrap64; omega
theorem rd_nat (l : List Int) (j : Nat) (hj : j < l.length) : rd l (j : Int) = l[j] := by
 unfold rd; simp [hj]
theorem Ev.succ {α : Type} {g : Nat → Option α} {r : α} (h : Ev (fun k => g (k + 1)) r) : Ev g r := Ev.step (f := fun k => g (k + 1)) (fun _ => rfl) h
theorem Ev.ret {α : Type} {g : Nat → Option α} {r : α} (h : ∀ k, g k = some r) : Ev g r := ⟨0, fun k _ => h k⟩
theorem Ev.eq {α : Type} {g : Nat → Option α} {r r' : α} (h : Ev g r) (e : r = r') : Ev g r' := e ▸ h
theorem Ev.iteb {α : Type} {b : Bool} {f g : Nat → Option α} {r : α} (h1 : b = true → Ev f r) (h2 : b = false → Ev g r) : Ev (fun k => if b = true then f k else g k) r := by
 cases b with
 | true => simpa using h1 rfl
 | false => simpa using h2 rfl
theorem Ev.ite {α : Type} {p : Prop} [Decidable p] {f g : Nat → Option α} {r : α} (h1 : p → Ev f r) (h2 : ¬ p → Ev g r) : Ev (fun k => if p then f k else g k) r := by
 by_cases h : p
 ·simpa [h] using h1 h
 ·simpa [h] using h2 h
/-- A loop over the places j, j+1, .., n: its state s, what it answers from a place and a state on. -/
theorem Ev.upto {σ ρ : Type} {L : Nat → Nat → σ → Option ρ} {R : Nat → σ → ρ} {n : Nat} (hend : ∀ s, Ev (fun k => L k n s) (R n s)) (hstep : ∀ j s, j < n → (∀ s', Ev (fun k => L k (j + 1) s') (R (j + 1) s')) → Ev (fun k => L k j s) (R j s)) :
  ∀ j s, j ≤ n → Ev (fun k => L k j s) (R j s) := by
 intro j s hj
 obtain ⟨d, hd⟩ : ∃ d, d = n - j := ⟨_, rfl⟩
 induction d generalizing j s with
 | zero =>
  obtain rfl : j = n := by omega
  exact hend s
 | succ d ih => exact hstep j s (by omega) (fun s' => ih (j + 1) s' (by omega) (by omega))
theorem wrap_nat (j n : Nat) (h : j < n) (hn : n ≤ 9223372036854775807) : wrap64 ((j : Int) + 1) = ((j + 1 : Nat) : Int) := by
 unfold wrap64; omega
theorem nat_toNat (j : Nat) : ((j : Int)).toNat = j := rfl
theorem take_snoc {α : Type} (l : List α) (j : Nat) (h : j < l.length) : l.take (j + 1) = l.take j ++ [l[j]] := List.take_succ_eq_append_getElem h
theorem Ev.inv {σ ρ : Type} {L : Nat → Nat → σ → Option ρ} {Inv : Nat → σ → Prop} {r : ρ} {n : Nat} (hend : ∀ s, Inv n s → Ev (fun k => L k n s) r) (hstep : ∀ j s, j < n → Inv j s → (∀ s', Inv (j + 1) s' → Ev (fun k => L k (j + 1) s') r) → Ev (fun k => L k j s) r) :
  ∀ j s, j ≤ n → Inv j s → Ev (fun k => L k j s) r := by
 intro j s hj hi
 obtain ⟨d, hd⟩ : ∃ d, d = n - j := ⟨_, rfl⟩
 induction d generalizing j s with
 | zero =>
  obtain rfl : j = n := by omega
  exact hend s hi
 | succ d ih => exact hstep j s (by omega) hi (fun s' hs' => ih (j + 1) s' (by omega) hs' (by omega))
theorem l1In_f (a b c : Int) : spec_l1In.f a b c = some (inB a b c) := by
 unfold spec_l1In.f inB
 split
 ·rename_i h; simp [h]
 ·rename_i h; simp; omega
theorem inB_iff (a b c : Int) : inB a b c = true ↔ b ≤ a ∧ a ≤ c := by unfold inB; simp
def ovr (w r : Int) : Int := if w = r then wrap64 (r + 1) else if w = wrap64 (r + 1) then r else w
theorem ovr_in {w : Int} {n r : Nat} (h0 : 0 ≤ w) (h1 : w < n) (hr : r < n - 1) (hn : n ≤ 8) : 0 ≤ ovr w r ∧ ovr w r < n := by
 have e : wrap64 ((r : Int) + 1) = (r : Int) + 1 := wrap_in (by omega) (by omega)
 unfold ovr
 rw [e]
 split
 ·omega
 ·split <;> omega
/-- Who wins with so many moves left, where the next one is the first one's or not. -/
def win (n : Nat) (goal : Int) : Nat → Bool → Int → Bool
 | 0, _, w => w == goal
 | m + 1, f, w => if f = true then (List.range' 0 (n - 1)).any (fun r => win n goal m (!f) (ovr w r)) else (List.range' 0 (n - 1)).all (fun r => win n goal m (!f) (ovr w r))
theorem over_f (w r : Int) : impl_over.f w r = some (ovr w r) := by
 unfold impl_over.f ovr; split
 ·rfl
 ·split <;> rfl
theorem placeWins_ev (n : Nat) (hn1 : 2 ≤ n) (hn : n ≤ 8) (goal : Int) (m : Nat) : ∀ (w : Int) (f : Bool), m ≤ 8 → Ev (fun k => impl_placeWins.f k n w goal m f) (win n goal m f w) := by
 induction m with
 | zero =>
  intro w f _
  refine Ev.succ (Ev.ret fun k => ?_)
  rw [impl_placeWins.f, if_pos (by omega)]; rfl
 | succ m ih =>
  intro w f hm
  have hw : wrap64 ((n : Int) - 1) = ((n - 1 : Nat) : Int) := by unfold wrap64; omega
  have hw2 : wrap64 (((m + 1 : Nat) : Int) - 1) = (m : Int) := by unfold wrap64; omega
  have hne : ¬ ((m + 1 : Nat) : Int) = 0 := by omega
  refine Ev.succ ?_
  simp only [impl_placeWins.f, hne, if_false, hw]
  have key := Ev.upto (L := fun k j (_ : Unit) => impl_placeWins.l0 k n w goal ((m + 1 : Nat) : Int) f ((n - 1 : Nat) : Int) (j : Int)) (n := n - 1)
   (R := fun j _ => if f = true then (List.range' j (n - 1 - j)).any (fun r => win n goal m (!f) (ovr w r)) else (List.range' j (n - 1 - j)).all (fun r => win n goal m (!f) (ovr w r)))
   (fun _ => by
    refine Ev.succ (Ev.ret fun k => ?_)
    rw [impl_placeWins.l0, if_neg (by omega), Nat.sub_self]
    cases f <;> rfl)
   (fun j _ hj ihj => by
    refine Ev.succ ?_
    have h1 : (j : Int) < ((n - 1 : Nat) : Int) := by omega
    have e : n - 1 - j = (n - 1 - (j + 1)) + 1 := by omega
    simp only [impl_placeWins.l0, h1, if_true, over_f, Option.bind_some, hw2, wrap_nat j (n - 1) hj (by omega)]
    refine Ev.bind (ih (ovr w j) (!f) (by omega)) ?_
    rw [e, List.range'_succ]
    have := ihj ()
    cases f with
    | true =>
     cases h : win n goal m (!true) (ovr w j) with
     | true => exact Ev.eq (Ev.now _) (by have h' : win n goal m false (ovr w j) = true := h; simp only [if_true, Bool.not_true, List.any_cons, h', Bool.true_or])
     | false => exact Ev.eq this (by have h' : win n goal m false (ovr w j) = false := h; simp only [if_true, Bool.not_true, List.any_cons, h', Bool.false_or])
    | false =>
     cases h : win n goal m (!false) (ovr w j) with
     | true => exact Ev.eq this (by have h' : win n goal m true (ovr w j) = true := h; simp only [Bool.false_eq_true, if_false, Bool.not_false, List.all_cons, h', Bool.true_and])
     | false => exact Ev.eq (Ev.now _) (by have h' : win n goal m true (ovr w j) = false := h; simp only [Bool.false_eq_true, if_false, Bool.not_false, List.all_cons, h', Bool.false_and]))
  exact key 0 () (Nat.zero_le _)
theorem laOver_f (w r : Int) : spec_laOver.f w r = some (ovr w r) := by
 unfold spec_laOver.f ovr; split
 ·rfl
 ·split <;> rfl
/-- The reference's table. -/
def wins (n : Nat) (goal : Int) (m : Nat) (f : Bool) : List Bool := (List.range n).map fun (w : Nat) => win n goal m f (w : Int)
theorem wins_rd {n : Nat} {goal : Int} {m : Nat} {f : Bool} {t : Int} (h0 : 0 ≤ t) (h1 : t < n) : rdOf false (wins n goal m f) t = win n goal m f t := by
 unfold rdOf wins
 have : t.toNat < n := by omega
 rw [List.getD_eq_getElem?_getD, List.getElem?_map, List.getElem?_range this]
 simp
 congr 1
 omega
theorem wins_length (n : Nat) (goal : Int) (m : Nat) (f : Bool) : (wins n goal m f).length = n := by simp [wins]
theorem any_snoc (p : Nat → Bool) (j : Nat) : (List.range' 0 (j + 1)).any p = ((List.range' 0 j).any p || p j) := by
 rw [List.range'_concat]; simp
theorem all_snoc (p : Nat → Bool) (j : Nat) : (List.range' 0 (j + 1)).all p = ((List.range' 0 j).all p && p j) := by
 rw [List.range'_concat]; simp
section
variable (n : Nat) (hn1 : 2 ≤ n) (hn : n ≤ 8) (goal : Int) (moves : Nat) (first : Bool)
include hn1 hn
theorem gaPlaces_l2 (left : Nat) (hl : left < moves) (mine : Bool) (w : Nat) (hw : w < n) (next : List Bool) (r : List Bool) (hnl : next.length = n)
  (cont : Ev (fun k => spec_gaPlaces.l1 k n moves first (wins n goal left (!mine)) ((left + 1 : Nat) : Int) mine (next.set w (win n goal (left + 1) mine w)) ((w + 1 : Nat) : Int)) r) :
  Ev (fun k => spec_gaPlaces.l2 k n moves first (wins n goal left (!mine)) ((left + 1 : Nat) : Int) mine next (w : Int) false true ((0 : Nat) : Int)) r := by
 have hw1 : wrap64 ((n : Int) - 1) = ((n - 1 : Nat) : Int) := by unfold wrap64; omega
 have key := Ev.inv (σ := Bool × Bool) (L := fun k j s => spec_gaPlaces.l2 k n moves first (wins n goal left (!mine)) ((left + 1 : Nat) : Int) mine next (w : Int) s.1 s.2 (j : Int)) (n := n - 1) (r := r)
  (Inv := fun j s => s.1 = (List.range' 0 j).any (fun r => win n goal left (!mine) (ovr w r)) ∧ s.2 = (List.range' 0 j).all (fun r => win n goal left (!mine) (ovr w r)))
  (fun s hs => by
   obtain ⟨s1, s2⟩ := s
   obtain ⟨rfl, rfl⟩ := hs
   refine Ev.succ ?_
   have h1 : ¬ ((n - 1 : Nat) : Int) < ((n - 1 : Nat) : Int) := by omega
   have h2 : (w : Int) < (next.length : Int) := by omega
   have h3 : (0 : Int) ≤ (w : Int) := by omega
   simp only [spec_gaPlaces.l2, hw1, h1, if_false, h2, h3, if_true, wrap_nat w n hw (by omega), nat_toNat]
   cases mine with
   | true =>
    simp only [if_true]
    simp only [win, if_true] at cont
    refine Ev.iteb (fun h => ?_) (fun h => ?_)
    ·rw [h] at cont; exact cont
    ·rw [h] at cont; exact cont
   | false =>
    simp only [Bool.false_eq_true, if_false]
    simp only [win, Bool.false_eq_true, if_false] at cont
    exact cont)
  (fun j s hj hs ih => by
   obtain ⟨s1, s2⟩ := s
   obtain ⟨rfl, rfl⟩ := hs
   have hin := ovr_in (w := (w : Int)) (n := n) (r := j) (by omega) (by omega) hj hn
   have h1 : (j : Int) < ((n - 1 : Nat) : Int) := by omega
   have h2 : (0 : Int) ≤ ovr w j := hin.1
   have h3 : ovr w j < ((wins n goal left (!mine)).length : Int) := by rw [wins_length]; exact hin.2
   refine Ev.succ ?_
   simp only [spec_gaPlaces.l2, hw1, h1, h2, h3, if_true, laOver_f, Option.bind_some, wins_rd hin.1 hin.2, wrap_nat j (n - 1) hj (by omega)]
   have := ih (((List.range' 0 j).any (fun r => win n goal left (!mine) (ovr w r)) || win n goal left (!mine) (ovr w j)), ((List.range' 0 j).all (fun r => win n goal left (!mine) (ovr w r)) && win n goal left (!mine) (ovr w j))) ⟨(any_snoc _ j).symm, (all_snoc _ j).symm⟩
   refine Ev.iteb (fun h => ?_) (fun h => ?_)
   ·rw [h] at this
    refine Ev.iteb (fun h2 => ?_) (fun h2 => ?_)
    ·rw [h2] at this; simpa using this
    ·rw [h2] at this; simpa using this
   ·rw [h] at this
    refine Ev.iteb (fun h2 => ?_) (fun h2 => ?_)
    ·rw [h2] at this; simpa using this
    ·rw [h2] at this; simpa using this)
 exact key 0 (false, true) (Nat.zero_le _) ⟨rfl, rfl⟩
theorem gaPlaces_l1 (hm : moves ≤ 8) (left : Nat) (hl : left < moves) (mine : Bool) (r : List Bool)
  (cont : Ev (fun k => spec_gaPlaces.l0 k n moves first (wins n goal (left + 1) mine) ((left + 2 : Nat) : Int)) r) :
  Ev (fun k => spec_gaPlaces.l1 k n moves first (wins n goal left (!mine)) ((left + 1 : Nat) : Int) mine (List.replicate n false) ((0 : Nat) : Int)) r := by
 have key := Ev.inv (σ := List Bool) (L := fun k j s => spec_gaPlaces.l1 k n moves first (wins n goal left (!mine)) ((left + 1 : Nat) : Int) mine s (j : Int)) (n := n) (r := r)
  (Inv := fun j s => s = (wins n goal (left + 1) mine).take j ++ List.replicate (n - j) false)
  (fun s hs => by
   subst hs
   refine Ev.succ ?_
   have h1 : ¬ (n : Int) < (n : Int) := by omega
   have e1 : (wins n goal (left + 1) mine).take n = wins n goal (left + 1) mine := List.take_of_length_le (by rw [wins_length]; omega)
   have e2 : wrap64 (((left + 1 : Nat) : Int) + 1) = ((left + 2 : Nat) : Int) := by unfold wrap64; omega
   simp only [spec_gaPlaces.l1, h1, if_false, e1, e2, Nat.sub_self, List.replicate_zero, List.append_nil]
   exact cont)
  (fun j s hj hs ih => by
   subst hs
   refine Ev.succ ?_
   have h1 : (j : Int) < (n : Int) := by omega
   simp only [spec_gaPlaces.l1, h1, if_true]
   refine gaPlaces_l2 n hn1 hn goal moves first left hl mine j hj _ r (by simp [wins_length]; omega) (ih _ ?_)
   have hlen : ((wins n goal (left + 1) mine).take j).length = j := by rw [List.length_take, wins_length]; omega
   have e1 : n - j = (n - (j + 1)) + 1 := by omega
   have hjw : j < (wins n goal (left + 1) mine).length := by rw [wins_length]; exact hj
   rw [List.set_append_right (h := by omega), hlen, Nat.sub_self, e1, List.replicate_succ, List.set_cons_zero, List.take_succ_eq_append_getElem hjw, List.append_assoc]
   simp [wins])
 exact key 0 _ (Nat.zero_le _) (by simp)
theorem gaPlaces_l0 (hm : moves ≤ 8) (left : Nat) (hl : left ≤ moves) : Ev (fun k => spec_gaPlaces.l0 k n moves first (wins n goal left (first == decide ((moves - left) % 2 = 0))) ((left + 1 : Nat) : Int)) (wins n goal moves first) := by
 obtain ⟨d, hd⟩ : ∃ d, d = moves - left := ⟨_, rfl⟩
 induction d generalizing left with
 | zero =>
  obtain rfl : left = moves := by omega
  refine Ev.succ (Ev.ret fun k => ?_)
  rw [spec_gaPlaces.l0, if_neg (by omega), Nat.sub_self]
  simp
 | succ d ih =>
  refine Ev.succ ?_
  have h1 : ((left + 1 : Nat) : Int) ≤ (moves : Int) := by omega
  have h2 : (0 : Int) ≤ (n : Int) := by omega
  have h3 : ((n : Int)).toNat ≤ 281474976710656 := by omega
  have e1 : wrap64 ((moves : Int) - ((left + 1 : Nat) : Int)) = ((moves - (left + 1) : Nat) : Int) := by unfold wrap64; omega
  have e2 : Int.tmod ((moves - (left + 1) : Nat) : Int) 2 = (((moves - (left + 1)) % 2 : Nat) : Int) := by
   rw [Int.tmod_eq_emod_of_nonneg (by omega)]; omega
  have e3 : (first == ((((moves - (left + 1)) % 2 : Nat) : Int) == 0)) = (first == decide ((moves - (left + 1)) % 2 = 0)) := by
   congr 1
   rw [Bool.eq_iff_iff]; simp; omega
  have e4 : (first == decide ((moves - left) % 2 = 0)) = !(first == decide ((moves - (left + 1)) % 2 = 0)) := by
   have : (decide ((moves - left) % 2 = 0)) = !(decide ((moves - (left + 1)) % 2 = 0)) := by
    rw [Bool.eq_iff_iff]; simp; omega
   rw [this]
   cases first <;> cases decide ((moves - (left + 1)) % 2 = 0) <;> rfl
  simp only [spec_gaPlaces.l0, h1, h2, h3, if_true, e1, e2, e3]
  rw [e4]
  exact gaPlaces_l1 n hn1 hn goal moves first hm left (by omega) _ _ (ih (left + 1) (by omega) (by omega))
theorem gaPlaces_ev (hm : moves ≤ 8) (h0 : 0 ≤ goal) (h1 : goal < n) : Ev (fun k => spec_gaPlaces.f k n goal moves first) (wins n goal moves first) := by
 unfold spec_gaPlaces.f
 have g2 : (0 : Int) ≤ (n : Int) := by omega
 have g3 : n ≤ 281474976710656 := by omega
 have g4 : goal < ((List.replicate n false).length : Int) := by simp; omega
 simp only [g2, g3, if_true, Option.bind_some, nat_toNat, h0, g4]
 have e : (List.replicate n false).set goal.toNat true = wins n goal 0 (first == decide ((moves - 0) % 2 = 0)) := by
  apply List.ext_getElem
  ·simp [wins]
  ·intro i h1 h2
   simp only [List.length_set, List.length_replicate] at h1
   rw [List.getElem_set]
   simp only [wins, List.getElem_map, List.getElem_range, win, List.getElem_replicate]
   by_cases h : goal.toNat = i
   ·rw [if_pos h]; simp; omega
   ·rw [if_neg h]; symm; simp; omega
 rw [e]
 exact gaPlaces_l0 n hn1 hn goal moves first hm 0 (Nat.zero_le _)
end
theorem gaPlacing_f (a g m : Int) : spec_gaPlacing.f a g m = some (inB a 2 8 && (inB g 0 (wrap64 (a - 1)) && inB m 0 8)) := by
 unfold spec_gaPlacing.f
 simp only [l1In_f, Option.bind_some]
 cases inB a 2 8 <;> cases inB g 0 (wrap64 (a - 1)) <;> simp
theorem btw_f (a b c : Int) : impl_between.f a b c = some (inB a b c) := by
 unfold impl_between.f inB
 split
 ·rename_i h; simp [h]
 ·rename_i h; simp; omega
theorem isPlacing_f (a w g m : Int) : impl_isPlacing.f a w g m = some (inB a 2 8 && (inB w 0 (wrap64 (a - 1)) && (inB g 0 (wrap64 (a - 1)) && inB m 0 8))) := by
 unfold impl_isPlacing.f impl_isWires.f
 simp only [btw_f, Option.bind_some]
 cases inB a 2 8 <;> cases inB w 0 (wrap64 (a - 1)) <;> cases inB g 0 (wrap64 (a - 1)) <;> simp
theorem PlaceWinner_both (a w g m : Int) : ∃ r, Ev (fun k => spec_PlaceWinner.f k a w g m) r ∧ Ev (fun k => impl_PlaceWinner.f k a w g m) r := by
 unfold spec_PlaceWinner.f impl_PlaceWinner.f
 simp only [gaPlacing_f, isPlacing_f, l1In_f, Option.bind_some]
 cases h1 : inB a 2 8 with
 | false => exact ⟨_, Ev.now _, by simpa using Ev.now _⟩
 | true =>
  cases h2 : inB g 0 (wrap64 (a - 1)) with
  | false => exact ⟨_, by simpa using Ev.now _, by simpa using Ev.now _⟩
  | true =>
   cases h3 : inB m 0 8 with
   | false => exact ⟨_, by simpa using Ev.now _, by simpa using Ev.now _⟩
   | true =>
    cases h4 : inB w 0 (wrap64 (a - 1)) with
    | false => exact ⟨_, by simpa using Ev.now _, by simpa using Ev.now _⟩
    | true =>
     have ha := (inB_iff _ _ _).1 h1
     have e : wrap64 (a - 1) = a - 1 := wrap_in (by omega) (by omega)
     rw [e] at h2 h4
     have hg := (inB_iff _ _ _).1 h2
     have hm := (inB_iff _ _ _).1 h3
     have hw := (inB_iff _ _ _).1 h4
     obtain ⟨n, rfl⟩ : ∃ n : Nat, a = n := ⟨a.toNat, by omega⟩
     obtain ⟨mm, rfl⟩ : ∃ n : Nat, m = n := ⟨m.toNat, by omega⟩
     refine ⟨(win n g mm true w, true), ?_, ?_⟩
     ·simp only [Bool.and_true, if_true]
      refine Ev.bind (gaPlaces_ev n (by omega) (by omega) g mm true (by omega) (by omega) (by omega)) ?_
      have g1 : w < ((wins n g mm true).length : Int) := by rw [wins_length]; omega
      simp only [hw.1, g1, if_true]
      rw [wins_rd hw.1 (by omega)]
      exact Ev.now _
     ·simp only [Bool.and_true, if_true]
      exact Ev.bind (placeWins_ev n (by omega) (by omega) g mm w true (by omega)) (Ev.now _)
def sel (p : Nat → Bool) (j : Nat) : List Int := ((List.range j).filter p).map (fun (i : Nat) => (i : Int))
theorem sel_yes {p : Nat → Bool} {j : Nat} (h : p j = true) : sel p (j + 1) = sel p j ++ [(j : Int)] := by
 unfold sel; rw [List.range_succ, List.filter_append, List.filter_cons]; simp [h]
theorem sel_no {p : Nat → Bool} {j : Nat} (h : p j = false) : sel p (j + 1) = sel p j := by
 unfold sel; rw [List.range_succ, List.filter_append, List.filter_cons]; simp [h]
theorem sel_length (p : Nat → Bool) (j : Nat) : (sel p j).length ≤ j := by
 unfold sel; rw [List.length_map]; exact Nat.le_trans (List.length_filter_le _ _) (by simp)
theorem GoodPlaces_both (a w g m : Int) : ∃ r, Ev (fun k => spec_GoodPlaces.f k a w g m) r ∧ Ev (fun k => impl_GoodPlaces.f k a w g m) r ∧ r.1.length ≤ 8 := by
 unfold spec_GoodPlaces.f impl_GoodPlaces.f
 simp only [gaPlacing_f, isPlacing_f, l1In_f, Option.bind_some]
 have fail : Ev (fun k => spec_GoodPlaces.j0 k a w g m true) ([], false) := Ev.succ (Ev.ret fun k => by rw [spec_GoodPlaces.j0]; rfl)
 cases h1 : inB a 2 8 with
 | false => exact ⟨_, by simpa using fail, by simpa using Ev.now _, by simp⟩
 | true =>
  cases h2 : inB g 0 (wrap64 (a - 1)) with
  | false => exact ⟨_, by simpa using fail, by simpa using Ev.now _, by simp⟩
  | true =>
   cases h3 : inB m 0 8 with
   | false => exact ⟨_, by simpa using fail, by simpa using Ev.now _, by simp⟩
   | true =>
    cases h4 : inB w 0 (wrap64 (a - 1)) with
    | false => exact ⟨_, by simpa using fail, by simpa using Ev.now _, by simp⟩
    | true =>
    have ha := (inB_iff _ _ _).1 h1
    have e : wrap64 (a - 1) = a - 1 := wrap_in (by omega) (by omega)
    rw [e] at h2 h4
    have hg := (inB_iff _ _ _).1 h2
    have hm := (inB_iff _ _ _).1 h3
    have hw := (inB_iff _ _ _).1 h4
    obtain ⟨n, rfl⟩ : ∃ n : Nat, a = n := ⟨a.toNat, by omega⟩
    obtain ⟨mm, rfl⟩ : ∃ n : Nat, m = n := ⟨m.toNat, by omega⟩
    have e1 : wrap64 ((n : Int) - 1) = ((n - 1 : Nat) : Int) := by rw [e]; omega
    refine ⟨(sel (fun r => decide (0 < mm) && win n g (mm - 1) false (ovr w (r : Int))) (n - 1), true), ?_, ?_, ?_⟩
    ·simp only [Bool.and_true, if_true, Bool.not_true]
     refine Ev.succ ?_
     simp only [spec_GoodPlaces.j0, Bool.false_eq_true, if_false]
     refine Ev.ite (fun hp => ?_) (fun hp => ?_)
     ·have e2 : wrap64 ((mm : Int) - 1) = ((mm - 1 : Nat) : Int) := by unfold wrap64; omega
      have hp' : 0 < mm := by omega
      simp only [e2]
      refine Ev.bind (gaPlaces_ev n (by omega) (by omega) g (mm - 1) false (by omega) (by omega) (by omega)) ?_
      have key := Ev.inv (σ := List Int) (L := fun k j s => spec_GoodPlaces.l0 k (n : Int) w s (wins n g (mm - 1) false) (j : Int)) (r := (sel (fun r => decide (0 < mm) && win n g (mm - 1) false (ovr w (r : Int))) (n - 1), true)) (n := n - 1)
       (Inv := fun j s => s = sel (fun r => decide (0 < mm) && win n g (mm - 1) false (ovr w (r : Int))) j)
       (fun s hs => by
        subst hs
        refine Ev.succ (Ev.ret fun k => ?_)
        rw [spec_GoodPlaces.l0, e1, if_neg (by omega)])
       (fun j s hj hs ih => by
        subst hs
        refine Ev.succ ?_
        have hin := ovr_in (w := w) (n := n) (r := j) (by omega) (by omega) hj (by omega)
        have g1 : (j : Int) < ((n - 1 : Nat) : Int) := by omega
        have g0 : (0 : Int) ≤ ovr w j := hin.1
        have g3 : ovr w j < ((wins n g (mm - 1) false).length : Int) := by rw [wins_length]; omega
        have g2 : (sel (fun r => decide (0 < mm) && win n g (mm - 1) false (ovr w (r : Int))) j).length < 17592186044416 := by have := sel_length (fun r => decide (0 < mm) && win n g (mm - 1) false (ovr w (r : Int))) j; omega
        simp only [spec_GoodPlaces.l0, e1, g1, g0, g2, g3, if_true, laOver_f, Option.bind_some, wins_rd hin.1 hin.2, wrap_nat j (n - 1) hj (by omega)]
        refine Ev.iteb (fun h => ih _ ?_) (fun h => ih _ ?_)
        ·exact (sel_yes (p := fun r => decide (0 < mm) && win n g (mm - 1) false (ovr w (r : Int))) (by simp [h, hp'])).symm
        ·exact (sel_no (p := fun r => decide (0 < mm) && win n g (mm - 1) false (ovr w (r : Int))) (by simp [h])).symm)
      exact key 0 [] (Nat.zero_le _) rfl
     ·have hp' : ¬ 0 < mm := by omega
      refine Ev.eq (Ev.now _) ?_
      have : ∀ j, sel (fun r => decide (0 < mm) && win n g (mm - 1) false (ovr w (r : Int))) j = [] := by
       intro j; induction j with
       | zero => rfl
       | succ j ih => rw [sel_no (by simp [hp']), ih]
      rw [this]
    ·simp only [Bool.and_true, if_true, e1]
     have key := Ev.inv (σ := List Int) (L := fun k j s => impl_GoodPlaces.l0 k (n : Int) w g (mm : Int) s ((n - 1 : Nat) : Int) (j : Int)) (r := (sel (fun r => decide (0 < mm) && win n g (mm - 1) false (ovr w (r : Int))) (n - 1), true)) (n := n - 1)
      (Inv := fun j s => s = sel (fun r => decide (0 < mm) && win n g (mm - 1) false (ovr w (r : Int))) j)
      (fun s hs => by
       subst hs
       refine Ev.succ (Ev.ret fun k => ?_)
       rw [impl_GoodPlaces.l0, if_neg (by omega)])
      (fun j s hj hs ih => by
       subst hs
       refine Ev.succ ?_
       have g1 : (j : Int) < ((n - 1 : Nat) : Int) := by omega
       have g2 : (sel (fun r => decide (0 < mm) && win n g (mm - 1) false (ovr w (r : Int))) j).length < 17592186044416 := by have := sel_length (fun r => decide (0 < mm) && win n g (mm - 1) false (ovr w (r : Int))) j; omega
       simp only [impl_GoodPlaces.l0, g1, if_true, over_f, Option.bind_some, wrap_nat j (n - 1) hj (by omega)]
       refine Ev.ite (fun hp => ?_) (fun hp => ?_)
       ·have e2 : wrap64 ((mm : Int) - 1) = ((mm - 1 : Nat) : Int) := by unfold wrap64; omega
        have hp' : 0 < mm := by omega
        simp only [e2, g2, if_true]
        refine Ev.bind (placeWins_ev n (by omega) (by omega) g (mm - 1) (ovr w j) false (by omega)) ?_
        refine Ev.iteb (fun h => ih _ ?_) (fun h => ih _ ?_)
        ·exact (sel_yes (p := fun r => decide (0 < mm) && win n g (mm - 1) false (ovr w (r : Int))) (by simp [h, hp'])).symm
        ·exact (sel_no (p := fun r => decide (0 < mm) && win n g (mm - 1) false (ovr w (r : Int))) (by simp [h])).symm
       ·have hp' : ¬ 0 < mm := by omega
        exact ih _ (sel_no (p := fun r => decide (0 < mm) && win n g (mm - 1) false (ovr w (r : Int))) (by simp [hp'])).symm)
     exact key 0 [] (Nat.zero_le _) rfl
    ·have := sel_length (fun r => decide (0 < mm) && win n g (mm - 1) false (ovr w (r : Int))) (n - 1); simp only; omega
theorem PlacesWon_both (a g m : Int) : ∃ r, Ev (fun k => spec_PlacesWon.f k a g m) r ∧ Ev (fun k => impl_PlacesWon.f k a g m) r ∧ r.1.length ≤ 8 := by
 unfold spec_PlacesWon.f impl_PlacesWon.f
 simp only [gaPlacing_f, isPlacing_f, Option.bind_some]
 cases h1 : inB a 2 8 with
 | false => exact ⟨_, by simpa using Ev.now _, by simpa using Ev.now _, by simp⟩
 | true =>
  cases h2 : inB g 0 (wrap64 (a - 1)) with
  | false => exact ⟨_, by simpa using Ev.now _, by simpa using Ev.now _, by simp⟩
  | true =>
   cases h3 : inB m 0 8 with
   | false => exact ⟨_, by simpa using Ev.now _, by simpa using Ev.now _, by simp⟩
   | true =>
    have ha := (inB_iff _ _ _).1 h1
    have e : wrap64 (a - 1) = a - 1 := wrap_in (by omega) (by omega)
    rw [e] at h2
    have hg := (inB_iff _ _ _).1 h2
    have hm := (inB_iff _ _ _).1 h3
    have h4 : inB 0 0 (wrap64 (a - 1)) = true := by rw [e]; exact (inB_iff _ _ _).2 ⟨by omega, by omega⟩
    obtain ⟨n, rfl⟩ : ∃ n : Nat, a = n := ⟨a.toNat, by omega⟩
    obtain ⟨mm, rfl⟩ : ∃ n : Nat, m = n := ⟨m.toNat, by omega⟩
    refine ⟨(sel (fun w => win n g mm true (w : Int)) n, true), ?_, ?_, ?_⟩
    ·simp only [Bool.and_true, if_true]
     refine Ev.bind (gaPlaces_ev n (by omega) (by omega) g mm true (by omega) (by omega) (by omega)) ?_
     have key := Ev.inv (σ := List Int) (L := fun k j s => spec_PlacesWon.l0 k s (wins n g mm true) ((wins n g mm true).length : Int) (j : Int)) (r := (sel (fun w => win n g mm true (w : Int)) n, true)) (n := n)
      (Inv := fun j s => s = sel (fun w => win n g mm true (w : Int)) j)
      (fun s hs => by
       subst hs
       refine Ev.succ (Ev.ret fun k => ?_)
       rw [spec_PlacesWon.l0, if_neg (by rw [wins_length]; omega)])
      (fun j s hj hs ih => by
       subst hs
       refine Ev.succ ?_
       have g1 : (j : Int) < ((wins n g mm true).length : Int) := by rw [wins_length]; omega
       have g0 : (0 : Int) ≤ (j : Int) := by omega
       have g2 : (sel (fun w => win n g mm true (w : Int)) j).length < 17592186044416 := by have := sel_length (fun w => win n g mm true (w : Int)) j; omega
       simp only [spec_PlacesWon.l0, g1, g0, g2, if_true, wins_rd g0 (by omega : (j : Int) < n), wrap_nat j n hj (by omega)]
       refine Ev.iteb (fun h => ih _ ?_) (fun h => ih _ ?_)
       ·exact (sel_yes (p := fun w => win n g mm true (w : Int)) h).symm
       ·exact (sel_no (p := fun w => win n g mm true (w : Int)) h).symm)
     exact key 0 [] (Nat.zero_le _) rfl
    ·simp only [h4, Bool.and_true, if_true]
     have key := Ev.inv (σ := List Int) (L := fun k j s => impl_PlacesWon.l0 k (n : Int) g (mm : Int) s (n : Int) (j : Int)) (r := (sel (fun w => win n g mm true (w : Int)) n, true)) (n := n)
      (Inv := fun j s => s = sel (fun w => win n g mm true (w : Int)) j)
      (fun s hs => by
       subst hs
       refine Ev.succ (Ev.ret fun k => ?_)
       rw [impl_PlacesWon.l0, if_neg (by omega)])
      (fun j s hj hs ih => by
       subst hs
       refine Ev.succ ?_
       have g1 : (j : Int) < (n : Int) := by omega
       have g2 : (sel (fun w => win n g mm true (w : Int)) j).length < 17592186044416 := by have := sel_length (fun w => win n g mm true (w : Int)) j; omega
       simp only [impl_PlacesWon.l0, g1, g2, if_true, wrap_nat j n hj (by omega)]
       refine Ev.bind (placeWins_ev n (by omega) (by omega) g mm (j : Int) true (by omega)) ?_
       refine Ev.iteb (fun h => ih _ ?_) (fun h => ih _ ?_)
       ·exact (sel_yes (p := fun w => win n g mm true (w : Int)) h).symm
       ·exact (sel_no (p := fun w => win n g mm true (w : Int)) h).symm)
     exact key 0 [] (Nat.zero_le _) rfl
    ·have := sel_length (fun w => win n g mm true (w : Int)) n; simp; omega
/-- what comes to an end comes to one end -/
theorem Ev.uniq {α : Type} {g : Nat → Option α} {a b : α} (h1 : Ev g a) (h2 : Ev g b) : a = b := by
 obtain ⟨K, h1⟩ := h1
 obtain ⟨J, h2⟩ := h2
 have e1 := h1 (max K J) (Nat.le_max_left _ _)
 rw [h2 (max K J) (Nat.le_max_right _ _)] at e1
 injection e1 with e1
 exact e1.symm
theorem big_ev (a b : List Int) (ha : a.length ≤ maxLen) (hb : b.length ≤ maxLen) : ∃ t, laws_big.f a b = some t ∧ (t = false → a.length ≤ 1048576 ∧ b.length ≤ 1048576) := by
 unfold maxLen at ha hb
 unfold laws_big.f
 by_cases h : (a.length : Int) > 1048576
 ·rw [if_pos h]; exact ⟨true, rfl, fun e => by cases e⟩
 ·rw [if_neg h]
  refine ⟨_, rfl, fun e => ?_⟩
  have := of_decide_eq_false e
  rw [wrap_in (by omega) (by omega)] at this
  omega
theorem bytes_of {c : List Int} (h : ∀ x ∈ c, (Lit.int .u8 x).wf = true) : ∀ x ∈ c, 0 ≤ x ∧ x ≤ 255 := by
 intro x hx
 have := h x hx
 simp [Lit.wf, IntKind.min, IntKind.max, IntKind.signed, IntKind.bits] at this
 omega
theorem nSame_refl (l : List Int) (hn : l.length ≤ 9223372036854775807) : Ev (fun k => laws_nSame.f k l l) true := by
 unfold laws_nSame.f
 simp only [if_true]
 have key := Ev.upto (L := fun k j (_ : Unit) => laws_nSame.l0 k l l (l.length : Int) (j : Int)) (R := fun _ _ => true) (n := l.length)
  (fun _ => by
   refine Ev.succ (Ev.ret fun k => ?_)
   rw [laws_nSame.l0, if_neg (by omega)])
  (fun j _ hj ih => by
   refine Ev.succ ?_
   have h1 : (j : Int) < (l.length : Int) := by omega
   have h0 : (0 : Int) ≤ (j : Int) := by omega
   simp only [laws_nSame.l0, h1, h0, if_true, wrap_nat j _ hj hn]
   exact ih ())
 exact key 0 () (Nat.zero_le _)
theorem nHas_ev (l : List Int) (x : Int) (hn : l.length ≤ 9223372036854775807) : Ev (fun k => laws_nHas.f k l x) (decide (x ∈ l)) := by
 have key := Ev.upto (L := fun k j (_ : Unit) => laws_nHas.l0 k x l (l.length : Int) (j : Int)) (R := fun j _ => decide (x ∈ l.drop j)) (n := l.length)
  (fun _ => by
   refine Ev.succ (Ev.ret fun k => ?_)
   rw [laws_nHas.l0, if_neg (by omega)]; simp)
  (fun j _ hj ih => by
   refine Ev.succ ?_
   have h1 : (j : Int) < (l.length : Int) := by omega
   have h0 : (0 : Int) ≤ (j : Int) := by omega
   simp only [laws_nHas.l0, h1, h0, if_true, rd_nat l j hj, wrap_nat j _ hj hn]
   rw [List.drop_eq_getElem_cons hj]
   refine Ev.ite (fun h => ?_) (fun h => ?_)
   ·refine Ev.eq (Ev.now _) ?_; simp [h]
   ·refine Ev.eq (ih ()) ?_
    have h' : ¬ x = l[j] := fun e => h e.symm
    rw [decide_eq_decide, List.mem_cons]
    exact ⟨fun m => .inr m, fun m => m.resolve_left h'⟩)
 have := key 0 () (Nat.zero_le _)
 rw [List.drop_zero] at this
 exact this
def placing (a w g m : Int) : Bool := inB a 2 8 && (inB w 0 (wrap64 (a - 1)) && (inB g 0 (wrap64 (a - 1)) && inB m 0 8))
theorem placing_iff (a w g m : Int) : placing a w g m = true ↔ (2 ≤ a ∧ a ≤ 8) ∧ (0 ≤ w ∧ w < a) ∧ (0 ≤ g ∧ g < a) ∧ (0 ≤ m ∧ m ≤ 8) := by
 unfold placing
 simp only [Bool.and_eq_true, inB_iff]
 constructor
 ·rintro ⟨h1, h2, h3, h4⟩
  rw [wrap_in (by omega) (by omega)] at h2 h3
  omega
 ·rintro ⟨h1, h2, h3, h4⟩
  rw [wrap_in (by omega) (by omega)]
  omega
theorem PlaceWinner_no {a w g m : Int} (h : placing a w g m = false) : Ev (fun k => impl_PlaceWinner.f k a w g m) (false, false) := by
 unfold impl_PlaceWinner.f
 rw [isPlacing_f]
 unfold placing at h
 rw [h]
 simpa using Ev.now _
theorem GoodPlaces_no {a w g m : Int} (h : placing a w g m = false) : Ev (fun k => impl_GoodPlaces.f k a w g m) ([], false) := by
 unfold impl_GoodPlaces.f
 rw [isPlacing_f]
 unfold placing at h
 rw [h]
 simpa using Ev.now _
theorem placing_wrap {n : Nat} (hn1 : 2 ≤ n) (hn : n ≤ 8) : wrap64 ((n : Int) - 1) = ((n - 1 : Nat) : Int) := by unfold wrap64; omega
theorem PlaceWinner_yes {n m : Nat} {w g : Int} (h : placing n w g m = true) : Ev (fun k => impl_PlaceWinner.f k n w g m) (win n g m true w, true) := by
 have h' := (placing_iff _ _ _ _).1 h
 unfold impl_PlaceWinner.f
 rw [isPlacing_f]
 unfold placing at h
 rw [h]
 simp only [Option.bind_some, if_true]
 exact Ev.bind (placeWins_ev n (by omega) (by omega) g m w true (by omega)) (Ev.now _)
def goodOf (n : Nat) (g : Int) (m : Nat) (w : Int) (r : Nat) : Bool := decide (0 < m) && win n g (m - 1) false (ovr w (r : Int))
theorem GoodPlaces_yes {n m : Nat} {w g : Int} (h : placing n w g m = true) : Ev (fun k => impl_GoodPlaces.f k n w g m) (sel (goodOf n g m w) (n - 1), true) := by
 have h' := (placing_iff _ _ _ _).1 h
 unfold impl_GoodPlaces.f
 rw [isPlacing_f]
 unfold placing at h
 rw [h]
 have e1 := placing_wrap (n := n) (by omega) (by omega)
 simp only [Option.bind_some, if_true, e1]
 have key := Ev.inv (σ := List Int) (L := fun k j s => impl_GoodPlaces.l0 k (n : Int) w g (m : Int) s ((n - 1 : Nat) : Int) (j : Int)) (r := (sel (goodOf n g m w) (n - 1), true)) (n := n - 1)
  (Inv := fun j s => s = sel (goodOf n g m w) j)
  (fun s hs => by
   subst hs
   refine Ev.succ (Ev.ret fun k => ?_)
   rw [impl_GoodPlaces.l0, if_neg (by omega)])
  (fun j s hj hs ih => by
   subst hs
   refine Ev.succ ?_
   have g1 : (j : Int) < ((n - 1 : Nat) : Int) := by omega
   have g2 : (sel (goodOf n g m w) j).length < 17592186044416 := by have := sel_length (goodOf n g m w) j; omega
   simp only [impl_GoodPlaces.l0, g1, if_true, over_f, Option.bind_some, wrap_nat j (n - 1) hj (by omega)]
   refine Ev.ite (fun hp => ?_) (fun hp => ?_)
   ·have e2 : wrap64 ((m : Int) - 1) = ((m - 1 : Nat) : Int) := by unfold wrap64; omega
    have hp' : 0 < m := by omega
    simp only [e2, g2, if_true]
    refine Ev.bind (placeWins_ev n (by omega) (by omega) g (m - 1) (ovr w j) false (by omega)) ?_
    refine Ev.iteb (fun h => ih _ ?_) (fun h => ih _ ?_)
    ·exact (sel_yes (by simp [goodOf, h, hp'])).symm
    ·exact (sel_no (by simp [goodOf, h])).symm
   ·have hp' : ¬ 0 < m := by omega
    exact ih _ (sel_no (by simp [goodOf, hp'])).symm)
 exact key 0 [] (Nat.zero_le _) rfl
theorem PlacesWon_yes {n m : Nat} {w g : Int} (h : placing n w g m = true) : Ev (fun k => impl_PlacesWon.f k n g m) (sel (fun w => win n g m true (w : Int)) n, true) := by
 have h' := (placing_iff _ _ _ _).1 h
 have h0 : placing n 0 g m = true := (placing_iff _ _ _ _).2 (by omega)
 unfold impl_PlacesWon.f
 rw [isPlacing_f]
 unfold placing at h0
 rw [h0]
 simp only [Option.bind_some, if_true]
 have key := Ev.inv (σ := List Int) (L := fun k j s => impl_PlacesWon.l0 k (n : Int) g (m : Int) s (n : Int) (j : Int)) (r := (sel (fun w => win n g m true (w : Int)) n, true)) (n := n)
  (Inv := fun j s => s = sel (fun w => win n g m true (w : Int)) j)
  (fun s hs => by
   subst hs
   refine Ev.succ (Ev.ret fun k => ?_)
   rw [impl_PlacesWon.l0, if_neg (by omega)])
  (fun j s hj hs ih => by
   subst hs
   refine Ev.succ ?_
   have g1 : (j : Int) < (n : Int) := by omega
   have g2 : (sel (fun w => win n g m true (w : Int)) j).length < 17592186044416 := by have := sel_length (fun w => win n g m true (w : Int)) j; omega
   simp only [impl_PlacesWon.l0, g1, g2, if_true, wrap_nat j n hj (by omega)]
   refine Ev.bind (placeWins_ev n (by omega) (by omega) g m (j : Int) true (by omega)) ?_
   refine Ev.iteb (fun h => ih _ ?_) (fun h => ih _ ?_)
   ·exact (sel_yes (p := fun w => win n g m true (w : Int)) h).symm
   ·exact (sel_no (p := fun w => win n g m true (w : Int)) h).symm)
 exact key 0 [] (Nat.zero_le _) rfl
theorem sel_mem {p : Nat → Bool} {j : Nat} {x : Int} : x ∈ sel p j ↔ ∃ i : Nat, i < j ∧ x = (i : Int) ∧ p i = true := by
 unfold sel
 simp only [List.mem_map, List.mem_filter, List.mem_range]
 constructor
 ·rintro ⟨i, ⟨h1, h2⟩, h3⟩; exact ⟨i, h1, h3.symm, h2⟩
 ·rintro ⟨i, h1, h3, h2⟩; exact ⟨i, ⟨h1, h2⟩, h3.symm⟩
/-- whether it wins is whether it stands among those who win -/
theorem won_has {n m : Nat} {w g : Int} (h : placing n w g m = true) : decide (w ∈ sel (fun w => win n g m true (w : Int)) n) = win n g m true w := by
 have h' := (placing_iff _ _ _ _).1 h
 rw [Bool.eq_iff_iff, decide_eq_true_iff, sel_mem]
 constructor
 ·rintro ⟨i, _, rfl, hi⟩; exact hi
 ·intro hi
  refine ⟨w.toNat, by omega, by omega, ?_⟩
  have e : ((w.toNat : Nat) : Int) = w := by omega
  simp only [e]; exact hi
/-- whoever is to move wins if there is a good rung -/
theorem win_good {n m : Nat} {w g : Int} (hm : 0 < m) : win n g m true w = decide (((sel (goodOf n g m w) (n - 1)).length : Int) > 0) := by
 obtain ⟨m, rfl⟩ : ∃ q, m = q + 1 := ⟨m - 1, by omega⟩
 rw [Bool.eq_iff_iff, decide_eq_true_iff, win]
 simp only [if_true, List.any_eq_true, Bool.not_true]
 constructor
 ·rintro ⟨r, hr, h⟩
  have hr' : r < n - 1 := by have := List.mem_range'_1.1 hr; omega
  have : (r : Int) ∈ sel (goodOf n g (m + 1) w) (n - 1) := sel_mem.2 ⟨r, hr', rfl, by simp [goodOf, h]⟩
  have := List.length_pos_of_mem this
  omega
 ·intro h
  obtain ⟨x, hx⟩ := List.exists_mem_of_length_pos (l := sel (goodOf n g (m + 1) w) (n - 1)) (by omega)
  obtain ⟨i, hi, _, hp⟩ := sel_mem.1 hx
  refine ⟨i, List.mem_range'_1.2 (by omega), ?_⟩
  simp [goodOf] at hp
  exact hp
section
variable {n : Nat} {g : Int} {x1 good : List Int} {w : Int} {N : Int}
theorem pl_l1 (hn1 : 2 ≤ n) (hn : n ≤ 8) (hg : 0 ≤ g ∧ g < n) (m : Nat) (hm : m + 2 ≤ 8) (wire : Int) (hwire : 0 ≤ wire ∧ wire < n) (hall : win n g (m + 1) false wire = true) (idx : Int)
  (R : Ev (fun k => laws_FnPlacesAndLasts.l0 k x1 n w g ((m + 2 : Nat) : Int) good N (wrap64 (idx + 1))) true) :
  Ev (fun k => laws_FnPlacesAndLasts.l1 k x1 n w g ((m + 2 : Nat) : Int) wire 0 good N idx) true := by
 have hw := placing_wrap hn1 hn
 have hm2 : wrap64 (((m + 2 : Nat) : Int) - 2) = (m : Int) := by unfold wrap64; omega
 have key := Ev.upto (L := fun k j (_ : Unit) => laws_FnPlacesAndLasts.l1 k x1 n w g ((m + 2 : Nat) : Int) wire (j : Int) good N idx) (R := fun _ _ => true) (n := n - 1)
  (fun _ => by
   refine Ev.succ ?_
   have g1 : ¬ ((n - 1 : Nat) : Int) < ((n - 1 : Nat) : Int) := by omega
   simp only [laws_FnPlacesAndLasts.l1, hw, g1, if_false]
   exact R)
  (fun j _ hj ih => by
   refine Ev.succ ?_
   have g1 : (j : Int) < ((n - 1 : Nat) : Int) := by omega
   have e1 := wrap_nat j (n - 1) hj (by omega)
   have hin := ovr_in (w := wire) (n := n) (r := j) hwire.1 hwire.2 hj hn
   have hwin : win n g m true (ovr wire (j : Int)) = true := by
    rw [win] at hall
    simp only [Bool.false_eq_true, if_false, List.all_eq_true, Bool.not_false] at hall
    exact hall j (List.mem_range'_1.2 (by omega))
   have pw := PlaceWinner_yes (n := n) (m := m) (w := ovr wire (j : Int)) (g := g) ((placing_iff _ _ _ _).2 (by omega))
   rw [hwin] at pw
   simp only [laws_FnPlacesAndLasts.l1, hw, g1, if_true, e1, hm2]
   unfold ovr at pw
   rw [e1] at pw
   refine Ev.ite (fun c => ?_) (fun c => Ev.ite (fun d => ?_) (fun d => ?_))
   ·rw [if_pos c] at pw
    refine Ev.bind pw ?_
    simp only [if_true]
    exact ih ()
   ·rw [if_neg c, if_pos d] at pw
    refine Ev.bind pw ?_
    simp only [if_true]
    exact ih ()
   ·rw [if_neg c, if_neg d] at pw
    refine Ev.bind pw ?_
    simp only [if_true]
    exact ih ())
 exact key 0 () (Nat.zero_le _)
theorem pl_l0 (hn1 : 2 ≤ n) (hn : n ≤ 8) (hg : 0 ≤ g ∧ g < n) (hw : 0 ≤ w ∧ w < n) (m : Nat) (hm : m + 2 ≤ 8) (hj4 : Ev (fun k => laws_FnPlacesAndLasts.j4 k x1) true) :
  Ev (fun k => laws_FnPlacesAndLasts.l0 k x1 n w g ((m + 2 : Nat) : Int) (sel (goodOf n g (m + 2) w) (n - 1)) ((sel (goodOf n g (m + 2) w) (n - 1)).length : Int) 0) true := by
 have hlen := sel_length (goodOf n g (m + 2) w) (n - 1)
 have hmem : ∀ x ∈ sel (goodOf n g (m + 2) w) (n - 1), ∃ i : Nat, i < n - 1 ∧ x = (i : Int) ∧ goodOf n g (m + 2) w i = true := fun x hx => sel_mem.1 hx
 revert hlen hmem
 generalize sel (goodOf n g (m + 2) w) (n - 1) = gd
 intro hlen hmem
 have key := Ev.upto (L := fun k j (_ : Unit) => laws_FnPlacesAndLasts.l0 k x1 n w g ((m + 2 : Nat) : Int) gd (gd.length : Int) (j : Int)) (R := fun _ _ => true) (n := gd.length)
  (fun _ => by
   refine Ev.succ ?_
   have g1 : ¬ (gd.length : Int) < (gd.length : Int) := by omega
   simp only [laws_FnPlacesAndLasts.l0, g1, if_false]
   exact hj4)
  (fun j _ hj ih => by
   refine Ev.succ ?_
   have g1 : (j : Int) < (gd.length : Int) := by omega
   have g0 : (0 : Int) ≤ (j : Int) := by omega
   obtain ⟨i, hi, hr, hgood⟩ := hmem (rd gd (j : Int)) (by rw [rd_nat gd j hj]; exact List.getElem_mem hj)
   have hin := ovr_in (w := w) (n := n) (r := i) hw.1 hw.2 hi hn
   have e1 := wrap_nat i (n - 1) hi (by omega)
   have hall : win n g (m + 1) false (ovr w (i : Int)) = true := by simp [goodOf] at hgood; exact hgood
   have l1 := pl_l1 (x1 := x1) (good := gd) (w := w) (N := (gd.length : Int)) hn1 hn hg m hm (ovr w (i : Int)) hin hall (j : Int) (by rw [wrap_nat j gd.length hj (by omega)]; exact ih ())
   have j2 : Ev (fun k => laws_FnPlacesAndLasts.j2 k x1 n w g ((m + 2 : Nat) : Int) (ovr w (i : Int)) gd (gd.length : Int) (j : Int)) true := by
    refine Ev.succ ?_
    simp only [laws_FnPlacesAndLasts.j2]
    exact l1
   simp only [laws_FnPlacesAndLasts.l0, g1, g0, if_true, hr, e1]
   unfold ovr at j2
   rw [e1] at j2
   refine Ev.ite (fun c => ?_) (fun c => Ev.ite (fun d => ?_) (fun d => ?_))
   ·rw [if_pos c] at j2
    exact j2
   ·rw [if_neg c, if_pos d] at j2
    exact j2
   ·rw [if_neg c, if_neg d] at j2
    exact j2)
 exact key 0 () (Nat.zero_le _)
theorem pl_j0 {m : Nat} (h : placing n w g m = true) (hj4 : Ev (fun k => laws_FnPlacesAndLasts.j4 k x1) true) :
  Ev (fun k => laws_FnPlacesAndLasts.j0 k x1 n w g (m : Int) (win n g m true w) true (sel (goodOf n g m w) (n - 1)) false) true := by
 have h' := (placing_iff _ _ _ _).1 h
 refine Ev.succ ?_
 simp only [laws_FnPlacesAndLasts.j0, Bool.false_eq_true, if_false, if_true]
 by_cases h0 : m = 0
 ·subst h0
  have e1 : (win n g 0 true w != (w == g)) = false := by rw [win]; simp
  have e2 : sel (goodOf n g 0 w) (n - 1) = [] := by
   have : ∀ j, sel (goodOf n g 0 w) j = [] := by
    intro j; induction j with
    | zero => rfl
    | succ j ih => rw [sel_no (by simp [goodOf]), ih]
   exact this _
  simp only [e1, e2, Bool.false_eq_true, if_false]
  simpa using hj4
 ·have e0 : ¬ (m : Int) = 0 := by omega
  have e1 : (m : Int) > 0 := by omega
  have e2 := win_good (n := n) (m := m) (w := w) (g := g) (by omega)
  simp only [e0, e1, e2, bne_self_eq_false, Bool.false_eq_true, if_false, if_true]
  refine Ev.ite (fun c => ?_) (fun c => hj4)
  obtain ⟨q, rfl⟩ : ∃ q, m = q + 2 := ⟨m - 2, by omega⟩
  exact pl_l0 (by omega) (by omega) (by omega) (by omega) q (by omega) hj4
theorem pl_no {a m : Int} (b : Bool) (gd : List Int) (hj4 : Ev (fun k => laws_FnPlacesAndLasts.j4 k x1) true) :
  Ev (fun k => laws_FnPlacesAndLasts.j0 k x1 a w g m b false gd false) true := by
 refine Ev.succ ?_
 simp only [laws_FnPlacesAndLasts.j0, Bool.false_eq_true, if_false]
 exact hj4
end
/-- all of it, once the rest is shown -/
theorem pl_law {a w g m : Int} {x1 : List Int} (hj4 : Ev (fun k => laws_FnPlacesAndLasts.j4 k x1) true) (l0 : List Int) (l1 : List Int) (hx : laws_big.f l0 x1 = some false) (hd : spec_DrawPlaceWinner.f l0 = some (a, w, g, m)) :
  Ev (fun k => laws_FnPlacesAndLasts.f k l0 x1) true := by
 unfold laws_FnPlacesAndLasts.f
 rw [hx]
 simp only [Option.bind_some, Bool.false_eq_true, if_false, hd]
 obtain ⟨r, hs, hi⟩ := PlaceWinner_both a w g m
 obtain ⟨s, hs2, hi2, hl2⟩ := GoodPlaces_both a w g m
 obtain ⟨t, hs3, hi3, hl3⟩ := PlacesWon_both a g m
 refine Ev.bind hi (Ev.bind hs (Ev.bind hi2 (Ev.bind hs2 (Ev.bind hi3 (Ev.bind hs3 ?_)))))
 simp only [bne_self_eq_false, Bool.false_eq_true, if_false]
 refine Ev.bind (nSame_refl s.1 (by omega)) ?_
 simp only [if_true]
 refine Ev.bind (nSame_refl t.1 (by omega)) ?_
 simp only [if_true]
 by_cases h : placing a w g m = true
 ·have h' := (placing_iff _ _ _ _).1 h
  obtain ⟨n, rfl⟩ : ∃ n : Nat, a = n := ⟨a.toNat, by omega⟩
  obtain ⟨q, rfl⟩ : ∃ n : Nat, m = n := ⟨m.toNat, by omega⟩
  obtain rfl := Ev.uniq hi (PlaceWinner_yes h)
  obtain rfl := Ev.uniq hi2 (GoodPlaces_yes h)
  obtain rfl := Ev.uniq hi3 (PlacesWon_yes h)
  simp only [bne_self_eq_false, Bool.false_eq_true, if_false, if_true]
  refine Ev.bind (nHas_ev _ w (by simp only at hl3; omega)) ?_
  rw [won_has h]
  simp only [bne_self_eq_false]
  exact pl_j0 h hj4
 ·have h2 : placing a w g m = false := by simpa using h
  obtain rfl := Ev.uniq hi (PlaceWinner_no h2)
  obtain rfl := Ev.uniq hi2 (GoodPlaces_no h2)
  simp only [bne_self_eq_false, Bool.false_eq_true, if_false]
  exact pl_no _ _ hj4
/-- the call comes to an end with something that meets P -/
def Got {α : Type} (g : Nat → Option α) (P : α → Prop) : Prop := ∃ r, Ev g r ∧ P r
theorem Got.now {α : Type} {P : α → Prop} (r : α) (h : P r) : Got (fun _ => some r) P := ⟨r, Ev.now r, h⟩
theorem Got.bind {α β : Type} {g : Nat → Option α} {f : Nat → α → Option β} {P : α → Prop} {Q : β → Prop} (h : Got g P) (k : ∀ a, P a → Got (fun n => f n a) Q) : Got (fun n => (g n).bind (f n)) Q := by
 obtain ⟨a, h, ha⟩ := h
 obtain ⟨r, k, hr⟩ := k a ha
 exact ⟨r, Ev.bind h k, hr⟩
theorem Got.mono {α : Type} {g : Nat → Option α} {P Q : α → Prop} (h : Got g P) (k : ∀ a, P a → Q a) : Got g Q := by
 obtain ⟨a, h, ha⟩ := h
 exact ⟨a, h, k a ha⟩
theorem Got.succ {α : Type} {g : Nat → Option α} {P : α → Prop} (h : Got (fun k => g (k + 1)) P) : Got g P := by
 obtain ⟨a, h, ha⟩ := h
 exact ⟨a, Ev.succ h, ha⟩
theorem Got.ite {α : Type} {p : Prop} [Decidable p] {f g : Nat → Option α} {P : α → Prop} (h1 : p → Got f P) (h2 : ¬ p → Got g P) : Got (fun k => if p then f k else g k) P := by
 by_cases h : p
 ·simpa [h] using h1 h
 ·simpa [h] using h2 h
theorem Got.iteb {α : Type} {b : Bool} {f g : Nat → Option α} {P : α → Prop} (h1 : b = true → Got f P) (h2 : b = false → Got g P) : Got (fun k => if b = true then f k else g k) P := by
 cases b with
 | true => simpa using h1 rfl
 | false => simpa using h2 rfl
theorem Got.ifp {α : Type} {p : Prop} [Decidable p] {f g : Nat → Option α} {P : α → Prop} (h : p) (h1 : Got f P) : Got (fun k => if p then f k else g k) P := by simpa [h] using h1
theorem Got.ifn {α : Type} {p : Prop} [Decidable p] {f g : Nat → Option α} {P : α → Prop} (h : ¬ p) (h1 : Got g P) : Got (fun k => if p then f k else g k) P := by simpa [h] using h1
theorem Got.one {α : Type} {o : Option α} {P : α → Prop} (h : ∃ r, o = some r ∧ P r) : Got (fun _ => o) P := by
 obtain ⟨r, h, hr⟩ := h
 exact ⟨r, ⟨0, fun _ _ => h⟩, hr⟩
theorem Got.ev {α : Type} {g : Nat → Option α} {r : α} {P : α → Prop} (h : Ev g r) (hr : P r) : Got g P := ⟨r, h, hr⟩
/-- a text of bytes -/
def Bytes (c : List Int) : Prop := c.length ≤ 1048576 ∧ ∀ x ∈ c, 0 ≤ x ∧ x ≤ 255
/-- how far a reader has come: at most so far -/
def Far (a : Int) (n : Nat) : Prop := 0 ≤ a ∧ a ≤ (n : Int)
theorem Far.zero : Far 0 0 := ⟨Int.le_refl _, Int.le_refl _⟩
theorem Far.le {a : Int} {n m : Nat} (h : Far a n) (hm : n ≤ m) : Far a m := ⟨h.1, by have := h.2; omega⟩
theorem and255 (x : Int) (h0 : 0 ≤ x) (h1 : x < 2 ^ 24) : Go.bits .and .u64 x 255 = x % 256 :=
 bits_mask .u64 24 (by decide) (fun n h0 h1 => by simp [IntKind.wrap, IntKind.bits, IntKind.signed]; omega) 8 (by decide) x h0 h1
theorem next_val (y : Int) : 0 ≤ wrap64 (Go.bits .and .u64 ((IntKind.u64.wrap y) / 1099511627776) 255) ∧ wrap64 (Go.bits .and .u64 ((IntKind.u64.wrap y) / 1099511627776) 255) ≤ 255 := by
 have e : IntKind.u64.wrap y = y % 18446744073709551616 := by simp [IntKind.wrap, IntKind.bits, IntKind.signed]
 rw [e, and255 _ (by omega) (by omega), wrap_in (by omega) (by omega)]
 omega
theorem next_got {c : List Int} {a s : Int} {n : Nat} (hc : Bytes c) (ha : Far a n) (hn : n ≤ 1000000000) : ∃ r, spec_l1Cur_next.f c a s = some r ∧ 0 ≤ r.1 ∧ r.1 ≤ 255 ∧ Far r.2.1 (n + 1) := by
 have hw : wrap64 (a + 1) = a + 1 := wrap_in (by have := ha.1; omega) (by have := ha.2; omega)
 have hf : Far (a + 1) (n + 1) := ⟨by have := ha.1; omega, by have := ha.2; omega⟩
 unfold spec_l1Cur_next.f
 rw [hw]
 by_cases h1 : a < (c.length : Int)
 ·rw [if_pos h1, if_pos ha.1]
  obtain ⟨j, rfl⟩ : ∃ j : Nat, a = j := ⟨a.toNat, by have := ha.1; omega⟩
  have hj : j < c.length := by omega
  have hb := hc.2 c[j] (List.getElem_mem hj)
  have hr : rd c (j : Int) = c[j] := rd_nat c j hj
  rw [hr, if_pos (by omega)]
  exact ⟨_, rfl, by rw [wrap_in (by omega) (by omega)]; exact hb.1, by rw [wrap_in (by omega) (by omega)]; exact hb.2, hf⟩
 ·rw [if_neg h1, if_neg (by omega)]
  exact ⟨_, rfl, (next_val _).1, (next_val _).2, hf⟩
theorem pick_got {c : List Int} {a s : Int} {n : Nat} (hc : Bytes c) (ha : Far a n) (hn : n ≤ 1000000000) (m : Int) (hm : m ≤ 200) : ∃ r, spec_l1Cur_pick.f c a s m = some r ∧ 0 ≤ r.1 ∧ (m ≤ 1 → r.1 = 0) ∧ (1 ≤ m → r.1 < m) ∧ Far r.2.1 (n + 1) := by
 unfold spec_l1Cur_pick.f
 by_cases h : m ≤ 1
 ·rw [if_pos h]; exact ⟨_, rfl, Int.le_refl _, fun _ => rfl, fun h => by simp only; omega, ha.le (by omega)⟩
 ·rw [if_neg h]
  obtain ⟨r, e, h0, h1, hf⟩ := next_got (s := s) hc ha hn
  rw [e, Option.bind_some, if_neg (by omega), if_neg (by omega)]
  exact ⟨_, rfl, Int.tmod_nonneg _ h0, fun h' => absurd h' h, fun _ => Int.tmod_lt_of_pos _ (by omega), hf⟩
theorem one_got {c : List Int} {a s : Int} {n : Nat} (hc : Bytes c) (ha : Far a n) (hn : n ≤ 1000000000) (m : Int) (hm : m ≤ 200) : ∃ r, spec_l1Cur_one.f c a s m = some r ∧ Far r.2.1 (n + 1) := by
 obtain ⟨r, e, _, _, _, hf⟩ := pick_got (s := s) hc ha hn m hm
 unfold spec_l1Cur_one.f
 rw [e]
 exact ⟨_, rfl, hf⟩
theorem among_got {c : List Int} {a s : Int} {n : Nat} (hc : Bytes c) (ha : Far a n) (hn : n ≤ 1000000000) (l : List Int) (hl : 1 ≤ l.length ∧ l.length ≤ 200) : ∃ r, spec_l1Cur_among.f c a s l = some r ∧ r.1 ∈ l ∧ Far r.2.1 (n + 1) := by
 obtain ⟨r, e, h0, _, h2, hf⟩ := pick_got (s := s) hc ha hn (l.length : Int) (by omega)
 have h3 := h2 (by omega)
 unfold spec_l1Cur_among.f
 rw [e, Option.bind_some, if_pos h0, if_pos h3]
 obtain ⟨j, hj⟩ : ∃ j : Nat, r.1 = j := ⟨r.1.toNat, by omega⟩
 have hj' : j < l.length := by omega
 refine ⟨_, rfl, ?_, hf⟩
 show rd l r.1 ∈ l
 rw [hj, rd_nat l j hj']
 exact List.getElem_mem hj'
theorem sure_l0 {c : List Int} (hc : Bytes c) (w : Int) (hw : 0 ≤ w ∧ w ≤ 200) (d : Nat) : ∀ (x a s : Int) (n : Nat) (l : List Int), x ≤ (d : Int) → Far a n → n + d ≤ 1000000 → l.length + d ≤ 1000000 →
  Got (fun k => spec_l1Cur_sureLadder.l0 k x c a s w l) (fun r => r.1 = w ∧ r.2.1.length ≤ l.length + d ∧ Far r.2.2.1 (n + d)) := by
 induction d with
 | zero =>
  intro x a s n l hx ha _ _
  refine Got.succ ?_
  simp only [spec_l1Cur_sureLadder.l0]
  refine Got.ifn (by omega) ?_
  exact Got.now _ ⟨rfl, Nat.le_refl _, ha⟩
 | succ d ih =>
  intro x a s n l hx ha hn hl
  refine Got.succ ?_
  simp only [spec_l1Cur_sureLadder.l0]
  by_cases h : x > 0
  ·simp only [h, if_true]
   refine Got.bind (Got.one (pick_got hc ha (by omega) (wrap64 (w - 1)) ?_)) (fun r hr => ?_)
   ·rw [wrap_in (by omega) (by omega)]; omega
   ·have hx1 : wrap64 (x - 1) = x - 1 := wrap_in (by omega) (by omega)
    rw [hx1]
    refine Got.ifp (by omega) ?_
    refine (ih (x - 1) _ _ (n + 1) _ (by omega) hr.2.2.2 (by omega) (by simp; omega)).mono (fun q hq => ?_)
    refine ⟨hq.1, ?_, hq.2.2.le (by omega)⟩
    have := hq.2.1
    simp at this
    omega
  ·simp only [h, if_false]
   exact Got.now _ ⟨rfl, by simp, ha.le (by omega)⟩
theorem sure_got {c : List Int} {a s : Int} {n : Nat} (hc : Bytes c) (ha : Far a n) (hn : n ≤ 500000) (w : Int) (m : Nat) (hw : 2 ≤ w ∧ w ≤ 100) (hm : m ≤ 100) : Got (fun k => spec_l1Cur_sureLadder.f k c a s w (m : Int)) (fun r => 2 ≤ r.1 ∧ r.1 ≤ w ∧ r.2.1.length ≤ m ∧ Far r.2.2.1 (n + 2 + m)) := by
 unfold spec_l1Cur_sureLadder.f
 have e1 : wrap64 (w - 1) = w - 1 := wrap_in (by omega) (by omega)
 have e2 : wrap64 ((m : Int) + 1) = (m : Int) + 1 := wrap_in (by omega) (by omega)
 rw [e1, e2]
 refine Got.bind (Got.one (pick_got hc ha (by omega) (w - 1) (by omega))) (fun r hr => ?_)
 obtain ⟨r0, r1, r2, rf⟩ := hr
 have r3 := r2 (by omega)
 refine Got.bind (Got.one (pick_got hc rf (by omega) ((m : Int) + 1) (by omega))) (fun q hq => ?_)
 obtain ⟨q0, q1, q2, qf⟩ := hq
 have q3 := q2 (by omega)
 have e3 : wrap64 (2 + r.1) = 2 + r.1 := wrap_in (by omega) (by omega)
 rw [e3]
 refine (sure_l0 hc (2 + r.1) (by omega) m q.1 q.2.1 q.2.2 (n + 1 + 1) [] (by omega) qf (by omega) (by simp; omega)).mono (fun z hz => ?_)
 obtain ⟨z1, z2, z3⟩ := hz
 simp at z2
 exact ⟨by omega, by omega, z2, z3.le (by omega)⟩
theorem ladder_got {c : List Int} {a s : Int} {n : Nat} (hc : Bytes c) (ha : Far a n) (hn : n ≤ 400000) : Got (fun k => spec_l1Cur_ladder.f k c a s) (fun r => r.2.1.length ≤ 62 ∧ Far r.2.2.1 (n + 20)) := by
 unfold spec_l1Cur_ladder.f
 refine Got.bind (sure_got hc ha (by omega) 6 12 (by omega) (by omega)) (fun r hr => ?_)
 obtain ⟨r1, r2, r3, rf⟩ := hr
 refine Got.bind (Got.one (pick_got hc rf (by omega) 16 (by omega))) (fun q hq => ?_)
 obtain ⟨q0, q1, q2, qf⟩ := hq
 refine Got.ite (fun _ => ?_) (fun _ => Got.ite (fun _ => ?_) (fun _ => Got.ite (fun _ => ?_) (fun _ => ?_)))
 ·refine Got.bind (Got.one (among_got hc qf (by omega) _ (by simp))) (fun z hz => ?_)
  refine Got.ifp (by omega) ?_
  exact Got.now _ ⟨by simp; omega, hz.2.le (by omega)⟩
 ·refine Got.bind (Got.one (among_got hc qf (by omega) _ (by simp))) (fun z hz => ?_)
  exact Got.now _ ⟨by simp only; omega, hz.2.le (by omega)⟩
 ·refine Got.bind (Got.one (pick_got hc qf (by omega) 2 (by omega))) (fun z hz => ?_)
  obtain ⟨z0, z1, z2, zf⟩ := hz
  have z3 := z2 (by omega)
  have e : wrap64 (60 + z.1) = 60 + z.1 := wrap_in (by omega) (by omega)
  rw [e]
  refine Got.ifp (by omega) (Got.ifp (by omega) ?_)
  exact Got.now _ ⟨by rw [List.length_replicate]; omega, zf.le (by omega)⟩
 ·exact Got.now _ ⟨by simp only; omega, qf.le (by omega)⟩
def irow (p : List Int) (i : Nat) : Nat → Nat → List (List Int)
 | _, 0 => []
 | j, d + 1 => (if rd p (i : Int) > rd p (j : Int) then [[(i : Int), (j : Int)]] else []) ++ irow p i (j + 1) d
def ips (p : List Int) : Nat → Nat → List (List Int)
 | _, 0 => []
 | i, d + 1 => irow p i (i + 1) d ++ ips p (i + 1) d
theorem irow_length (p : List Int) (i : Nat) (d : Nat) : ∀ j, (irow p i j d).length ≤ d := by
 induction d with
 | zero => intro j; simp [irow]
 | succ d ih => intro j; have := ih (j + 1); simp only [irow, List.length_append]; split <;> simp <;> omega
theorem ips_length (p : List Int) (d : Nat) : ∀ i, (ips p i d).length ≤ d * d := by
 induction d with
 | zero => intro j; simp [ips]
 | succ d ih =>
  intro i
  have h1 := ih (i + 1)
  have h2 := irow_length p i d (i + 1)
  have h3 : (d + 1) * (d + 1) = d * d + d + d + 1 := by rw [Nat.add_mul, Nat.mul_add]; omega
  simp only [ips, List.length_append]
  omega
def fewN (x : Int) (l : List Int) : Nat := l.countP (fun y => decide (x > y))
def invs : List Int → Nat
 | [] => 0
 | x :: l => fewN x l + invs l
theorem irow_count (p : List Int) (i : Nat) (d : Nat) : ∀ j, j + d = p.length → (irow p i j d).length = fewN (rd p (i : Int)) (p.drop j) := by
 induction d with
 | zero => intro j hj; rw [List.drop_of_length_le (by omega)]; rfl
 | succ d ih =>
  intro j hj
  have e : p.drop j = p[j] :: p.drop (j + 1) := List.drop_eq_getElem_cons (by omega)
  have h2 := ih (j + 1) (by omega)
  rw [irow, List.length_append, h2, e, rd_nat p j (by omega)]
  unfold fewN
  rw [List.countP_cons]
  by_cases c : rd p (i : Int) > p[j]
  ·rw [if_pos c, if_pos (by simpa using c)]; simp; omega
  ·rw [if_neg c, if_neg (by simpa using c)]; simp
theorem ips_count (p : List Int) (d : Nat) : ∀ i, i + d = p.length → (ips p i d).length = invs (p.drop i) := by
 induction d with
 | zero => intro j hj; rw [List.drop_of_length_le (by omega)]; rfl
 | succ d ih =>
  intro i hi
  have e : p.drop i = p[i] :: p.drop (i + 1) := List.drop_eq_getElem_cons (by omega)
  rw [ips, List.length_append, ih (i + 1) (by omega), irow_count p i d (i + 1) (by omega), e, invs, rd_nat p i (by omega)]
theorem ips_invs (p : List Int) : (ips p 0 p.length).length = invs p := by
 have := ips_count p p.length 0 (by omega)
 simpa using this
theorem less_swap (z : Int) : ∀ (p : List Int) (r : Nat), r + 1 < p.length → fewN z ((p.set r (p.getD (r + 1) 0)).set (r + 1) (p.getD r 0)) = fewN z p := by
 intro p
 induction p with
 | nil => intro r h; simp at h
 | cons x l ih =>
  intro r h
  cases r with
  | zero =>
   cases l with
   | nil => simp at h
   | cons y l => simp [fewN, List.countP_cons]; omega
  | succ r =>
   have := ih r (by simp at h; omega)
   simp only [List.set_cons_succ, List.getD_cons_succ]
   unfold fewN at this ⊢
   rw [List.countP_cons, List.countP_cons, this]
/-- two neighbours that fall are turned: one pair less -/
theorem invs_swap : ∀ (p : List Int) (r : Nat), r + 1 < p.length → p.getD r 0 > p.getD (r + 1) 0 → invs ((p.set r (p.getD (r + 1) 0)).set (r + 1) (p.getD r 0)) + 1 = invs p := by
 intro p
 induction p with
 | nil => intro r h; simp at h
 | cons x l ih =>
  intro r h hg
  cases r with
  | zero =>
   cases l with
   | nil => simp at h
   | cons y l =>
    simp only [List.getD_cons_zero, List.getD_cons_succ] at hg
    simp only [List.getD_cons_zero, List.getD_cons_succ, List.set_cons_zero, List.set_cons_succ, invs]
    unfold fewN
    rw [List.countP_cons, List.countP_cons, if_neg (by simp; omega), if_pos (by simpa using hg)]
    omega
  | succ r =>
   have h2 : r + 1 < l.length := by simp at h; omega
   simp only [List.getD_cons_succ] at hg
   have := ih r h2 hg
   have h3 := less_swap x l r h2
   simp only [List.set_cons_succ, List.getD_cons_succ, invs]
   omega
theorem invs_rising : ∀ (p : List Int), (∀ i : Nat, i + 1 < p.length → ¬ p.getD i 0 > p.getD (i + 1) 0) → invs p = 0 ∧ ∀ y ∈ p, p.getD 0 0 ≤ y := by
 intro p
 induction p with
 | nil => intro _; exact ⟨rfl, fun y hy => by simp at hy⟩
 | cons x l ih =>
  intro h
  have ih' := ih (fun i hi => by have := h (i + 1) (by simp; omega); simpa using this)
  have hx : ∀ y ∈ l, x ≤ y := by
   intro y hy
   cases l with
   | nil => simp at hy
   | cons z l =>
    have h0 := h 0 (by simp)
    have h1 := ih'.2 y hy
    simp at h0 h1
    omega
  refine ⟨?_, fun y hy => ?_⟩
  ·rw [invs, ih'.1]
   unfold fewN
   rw [Nat.add_zero, List.countP_eq_zero]
   intro y hy
   have := hx y hy
   simp; omega
  ·rcases List.mem_cons.1 hy with rfl | hy
   ·simp
   ·simpa using hx y hy
/-- where pairs stand the wrong way round, two neighbours fall -/
theorem invs_falls (p : List Int) (h : 0 < invs p) : ∃ i : Nat, i + 1 < p.length ∧ p.getD i 0 > p.getD (i + 1) 0 := by
 by_cases c : ∃ i : Nat, i + 1 < p.length ∧ p.getD i 0 > p.getD (i + 1) 0
 ·exact c
 ·have := (invs_rising p (fun i hi hg => c ⟨i, hi, hg⟩)).1
  omega
theorem less_le (x : Int) (l : List Int) : fewN x l ≤ l.length := List.countP_le_length
theorem invs_le (l : List Int) : 2 * invs l + l.length ≤ l.length * l.length := by
 induction l with
 | nil => simp [invs]
 | cons x l ih =>
  have := less_le x l
  rw [invs, List.length_cons, Nat.add_mul, Nat.mul_add l.length]
  omega
theorem invs_full : ∀ (l : List Int), (∀ i j : Nat, i < j → j < l.length → l.getD i 0 > l.getD j 0) → 2 * invs l + l.length = l.length * l.length := by
 intro l
 induction l with
 | nil => intro _; simp [invs]
 | cons x l ih =>
  intro h
  have ih' := ih (fun i j hij hj => by have := h (i + 1) (j + 1) (by omega) (by simp; omega); simpa using this)
  have : fewN x l = l.length := by
   unfold fewN
   rw [List.countP_eq_length]
   intro y hy
   obtain ⟨j, hj, rfl⟩ := List.mem_iff_getElem.1 hy
   have := h 0 (j + 1) (by omega) (by simp; omega)
   simp [List.getD_eq_getElem?_getD, List.getElem?_eq_getElem hj] at this
   simpa using this
  rw [invs, List.length_cons, Nat.add_mul, Nat.mul_add l.length, this]
  omega
theorem lsInv_l1 (p : List Int) (n : Nat) (hn : p.length = n) (hn8 : n ≤ 1000) (i : Nat) (hi : i < n) (R : List (List Int)) (d : Nat) : ∀ (j : Nat) (acc : List (List Int)), j + d = n → acc.length + d ≤ 10000000 →
  Ev (fun k => spec_lsInversions.l0 k p (acc ++ irow p i j d) (n : Int) ((i + 1 : Nat) : Int)) R → Ev (fun k => spec_lsInversions.l1 k p acc (i : Int) (j : Int) (n : Int) (i : Int)) R := by
 subst hn
 induction d with
 | zero =>
  intro j acc hj _ h
  refine Ev.succ ?_
  have g1 : ¬ (j : Int) < (p.length : Int) := by omega
  simp only [spec_lsInversions.l1, g1, if_false, wrap_nat i p.length hi (by omega)]
  simpa [irow] using h
 | succ d ih =>
  intro j acc hj hl h
  refine Ev.succ ?_
  have g1 : (j : Int) < (p.length : Int) := by omega
  have g2 : (0 : Int) ≤ (i : Int) := by omega
  have g3 : (i : Int) < (p.length : Int) := by omega
  have g4 : (0 : Int) ≤ (j : Int) := by omega
  have g5 : acc.length < 5864062014805 := by omega
  simp only [spec_lsInversions.l1, g1, g2, g3, g4, g5, if_true, wrap_nat j p.length (by omega) (by omega)]
  refine Ev.ite (fun c => ?_) (fun c => ?_)
  ·refine ih (j + 1) _ (by omega) (by simp; omega) ?_
   rw [irow, if_pos c] at h
   simpa using h
  ·refine ih (j + 1) _ (by omega) (by omega) ?_
   rw [irow, if_neg c] at h
   simpa using h
theorem lsInv_l0 (p : List Int) (n : Nat) (hn : p.length = n) (hn8 : n ≤ 1000) (d : Nat) : ∀ (i : Nat) (acc : List (List Int)), i + d = n → acc.length + d * 1000 ≤ 1000000 →
  Ev (fun k => spec_lsInversions.l0 k p acc (n : Int) (i : Int)) (acc ++ ips p i d) := by
 induction d with
 | zero =>
  intro i acc hi _
  refine Ev.succ ?_
  have g1 : ¬ (i : Int) < (n : Int) := by omega
  simp only [spec_lsInversions.l0, g1, if_false]
  simpa [ips] using Ev.now _
 | succ d ih =>
  intro i acc hi hl
  refine Ev.succ ?_
  have g1 : (i : Int) < (n : Int) := by omega
  simp only [spec_lsInversions.l0, g1, if_true, wrap_nat i n (by omega) (by omega)]
  refine lsInv_l1 p n hn hn8 i (by omega) _ d (i + 1) acc (by omega) (by omega) ?_
  have hr := irow_length p i d (i + 1)
  refine Ev.eq (ih (i + 1) _ (by omega) (by rw [List.length_append]; omega)) ?_
  rw [ips, List.append_assoc]
theorem lsInversions_ev (p : List Int) (hn : p.length ≤ 1000) : Ev (fun k => spec_lsInversions.f k p) (ips p 0 p.length) := by
 unfold spec_lsInversions.f
 exact Ev.eq (lsInv_l0 p p.length rfl hn p.length 0 [] (by omega) (by simp; omega)) (by simp)
theorem l1Own_f (l : List Int) (h : l.length ≤ 1000000) : spec_l1Own.f l = some l := by
 unfold spec_l1Own.f
 simp only [Option.bind_some, List.length_nil, List.nil_append]
 rw [if_pos (by omega)]
theorem alSwap_f (p : List Int) (r : Nat) (hr : r + 1 < p.length) (h : p.length ≤ 1000000) : spec_alSwap.f p (r : Int) = some ((p.set r (p.getD (r + 1) 0)).set (r + 1) (p.getD r 0)) := by
 unfold spec_alSwap.f
 have e1 := wrap_nat r p.length (by omega) (by omega)
 have g1 : (0 : Int) ≤ ((r + 1 : Nat) : Int) := by omega
 have g2 : ((r + 1 : Nat) : Int) < (p.length : Int) := by omega
 have g3 : (0 : Int) ≤ (r : Int) := by omega
 have g4 : (r : Int) < (p.length : Int) := by omega
 simp only [l1Own_f p h, Option.bind_some, e1, g1, g2, g3, g4, if_true, rd_nat p r (by omega), rd_nat p (r + 1) hr, Int.toNat_natCast]
 simp [List.getD_eq_getElem?_getD, List.getElem?_eq_getElem hr, List.getElem?_eq_getElem (show r < p.length by omega)]
theorem sureOrder_l0 {c : List Int} (hc : Bytes c) (m : Nat) (hm : m ≤ 100) (d : Nat) : ∀ (j : Nat) (x : List Int) (a s : Int) (n : Nat), j + d = m → x.length = j → Far a n → n + d ≤ 1000000 →
  Got (fun k => spec_l1Cur_sureOrder.l0 k (m : Int) x (j : Int) c a s) (fun r => r.1.length = m ∧ Far r.2.1 (n + d)) := by
 induction d with
 | zero =>
  intro j x a s n hj hx ha _
  refine Got.succ ?_
  simp only [spec_l1Cur_sureOrder.l0]
  refine Got.ifn (by omega) ?_
  exact Got.now _ ⟨by simp only; omega, ha⟩
 | succ d ih =>
  intro j x a s n hj hx ha hn
  refine Got.succ ?_
  simp only [spec_l1Cur_sureOrder.l0]
  refine Got.ifp (by omega) ?_
  have e1 : wrap64 ((x.length : Int) + 1) = (x.length : Int) + 1 := wrap_in (by omega) (by omega)
  rw [e1]
  refine Got.bind (Got.one (pick_got hc ha (by omega) _ (by omega))) (fun r hr => ?_)
  obtain ⟨r0, _, r2, rf⟩ := hr
  have r3 := r2 (by omega)
  refine Got.ifp r0 (Got.ifp (by omega) ?_)
  have hlt : (x.take r.1.toNat).length = r.1.toNat := by rw [List.length_take]; omega
  simp only [l1Own_f (x.take r.1.toNat) (by omega), Option.bind_some]
  refine Got.ifp (by omega) (Got.ifp ?_ ?_)
  ·rw [List.length_append, List.length_drop, hlt]; simp; omega
  ·rw [wrap_nat j m (by omega) (by omega)]
   refine (ih (j + 1) _ _ _ (n + 1) (by omega) ?_ rf (by omega)).mono (fun q hq => ⟨hq.1, hq.2.le (by omega)⟩)
   rw [List.length_append, List.length_append, List.length_drop, hlt]; simp; omega
theorem sureOrder_got {c : List Int} {a s : Int} {n : Nat} (hc : Bytes c) (ha : Far a n) (hn : n ≤ 500000) (m : Nat) (hm : m ≤ 100) : Got (fun k => spec_l1Cur_sureOrder.f k c a s (m : Int)) (fun r => r.1.length = m ∧ Far r.2.1 (n + m)) := by
 unfold spec_l1Cur_sureOrder.f
 exact sureOrder_l0 hc m hm m 0 [] a s n (by omega) rfl ha (by omega)
section
variable {c : List Int} (hc : Bytes c) (w : Int)
include hc
theorem leastOf_l1 (p : List Int) (hp : p.length ≤ 100) (left : Nat) (h0 : 0 < left) (hleft : invs p = left) (n : Nat) (hn : n ≤ 900000) (rs : List Int) (hrs : rs.length ≤ 1000000) (P : Int × List Int × Int × Int → Prop)
  (cont : ∀ (r : Nat) (a' s' : Int), r + 1 < p.length → p.getD r 0 > p.getD (r + 1) 0 → Far a' (n + 1) → Got (fun k => spec_l1Cur_leastOf.l0 k ((p.set r (p.getD (r + 1) 0)).set (r + 1) (p.getD r 0)) (wrap64 ((left : Int) - 1)) c a' s' w (rs ++ [(r : Int)])) P) (d : Nat) :
  ∀ (j : Nat) (acc : List Int) (a s : Int), j + 1 + d = p.length → Far a n → acc.length ≤ j → (∀ x ∈ acc, ∃ r : Nat, x = (r : Int) ∧ r + 1 < p.length ∧ p.getD r 0 > p.getD (r + 1) 0) → (acc = [] → ∀ i : Nat, i < j → ¬ p.getD i 0 > p.getD (i + 1) 0) →
  Got (fun k => spec_l1Cur_leastOf.l1 k p (left : Int) acc (j : Int) c a s w rs) P := by
 induction d with
 | zero =>
  intro j acc a s hj ha hacc hmem hnone
  refine Got.succ ?_
  simp only [spec_l1Cur_leastOf.l1, wrap_nat j 1000 (by omega) (by omega)]
  refine Got.ifn (by omega) ?_
  have hne : acc ≠ [] := by
   intro he
   obtain ⟨i, hi, hg⟩ := invs_falls p (by omega)
   exact hnone he i (by omega) hg
  have hpos : 0 < acc.length := List.length_pos_iff.2 hne
  refine Got.bind (Got.one (pick_got hc ha (by omega) _ (by omega))) (fun q hq => ?_)
  obtain ⟨q0, _, q2, qf⟩ := hq
  have q3 := q2 (by omega)
  refine Got.ifp q0 (Got.ifp q3 (Got.ifp (by omega) ?_))
  obtain ⟨i, hi⟩ : ∃ i : Nat, q.1 = i := ⟨q.1.toNat, by omega⟩
  have hi' : i < acc.length := by omega
  obtain ⟨r, hr, hr2, hr3⟩ := hmem (rd acc q.1) (by rw [hi, rd_nat acc i hi']; exact List.getElem_mem hi')
  rw [hr, alSwap_f p r hr2 (by omega)]
  simp only [Option.bind_some]
  exact cont r _ _ hr2 hr3 qf
 | succ d ih =>
  intro j acc a s hj ha hacc hmem hnone
  refine Got.succ ?_
  have e1 := wrap_nat j 1000 (by omega) (by omega)
  have g1 : ((j + 1 : Nat) : Int) < (p.length : Int) := by omega
  have g2 : (0 : Int) ≤ (j : Int) := by omega
  have g3 : (j : Int) < (p.length : Int) := by omega
  have g4 : (0 : Int) ≤ ((j + 1 : Nat) : Int) := by omega
  have g5 : acc.length < 17592186044416 := by omega
  simp only [spec_l1Cur_leastOf.l1, e1, g1, g2, g3, g4, g5, if_true, rd_nat p j (by omega), rd_nat p (j + 1) (by omega)]
  have d1 : p.getD j 0 = p[j]'(by omega) := by simp [List.getD_eq_getElem?_getD, List.getElem?_eq_getElem (show j < p.length by omega)]
  have d2 : p.getD (j + 1) 0 = p[j + 1]'(by omega) := by simp [List.getD_eq_getElem?_getD, List.getElem?_eq_getElem (show j + 1 < p.length by omega)]
  refine Got.ite (fun h => ?_) (fun h => ?_)
  ·refine ih (j + 1) _ a s (by omega) ha (by simp; omega) (fun x hx => ?_) (fun he => by simp at he)
   rcases List.mem_append.1 hx with hx | hx
   ·exact hmem x hx
   ·exact ⟨j, by simpa using hx, by omega, by rw [d1, d2]; exact h⟩
  ·refine ih (j + 1) _ a s (by omega) ha (by omega) hmem (fun he i hi => ?_)
   by_cases hij : i = j
   ·subst hij; rw [d1, d2]; exact h
   ·exact hnone he i (by omega)
theorem leastOf_l0 (left : Nat) : ∀ (p : List Int) (rs : List Int) (a s : Int) (n : Nat), p.length ≤ 100 → invs p = left → Far a n → n + left ≤ 900000 → rs.length + left ≤ 100000 →
  Got (fun k => spec_l1Cur_leastOf.l0 k p (left : Int) c a s w rs) (fun r => r.2.1.length = rs.length + left ∧ Far r.2.2.1 (n + left)) := by
 induction left with
 | zero =>
  intro p rs a s n _ _ ha _ _
  refine Got.succ ?_
  simp only [spec_l1Cur_leastOf.l0]
  refine Got.ifn (by omega) ?_
  exact Got.now _ ⟨rfl, ha⟩
 | succ left ih =>
  intro p rs a s n hp hleft ha hn hrs
  refine Got.succ ?_
  simp only [spec_l1Cur_leastOf.l0]
  refine Got.ifp (by omega) ?_
  have hpos : 0 < p.length := by
   cases p with
   | nil => simp [invs] at hleft
   | cons x l => simp
  refine leastOf_l1 hc w p hp (left + 1) (by omega) hleft n (by omega) rs (by omega) _ (fun r a' s' hr hg hf => ?_) (p.length - 1) 0 [] a s (by omega) ha (by simp) (fun x hx => by simp at hx) (fun _ i hi => by omega)
  have e : wrap64 (((left + 1 : Nat) : Int) - 1) = (left : Int) := by unfold wrap64; omega
  rw [e]
  refine (ih _ _ _ _ (n + 1) (by simpa using hp) ?_ hf (by omega) (by simp; omega)).mono (fun q hq => ⟨by rw [hq.1]; simp; omega, hq.2.le (by omega)⟩)
  have := invs_swap p r hr hg
  omega
theorem leastOf_got {a s : Int} {n : Nat} (ha : Far a n) (hn : n ≤ 400000) (p : List Int) (hp : p.length ≤ 100) : Got (fun k => spec_l1Cur_leastOf.f k c a s p) (fun r => r.2.1.length ≤ 10000 ∧ Far r.2.2.1 (n + 10000)) := by
 unfold spec_l1Cur_leastOf.f
 refine Got.bind (Got.ev (P := fun r => r = ips p 0 p.length) (lsInversions_ev p (by omega)) rfl) (fun r hr => ?_)
 subst hr
 have h1 := invs_le p
 have h2 : p.length * p.length ≤ 100 * 100 := Nat.mul_le_mul hp hp
 rw [ips_invs]
 refine (leastOf_l0 hc _ (invs p) p [] a s n hp rfl ha (by omega) (by simp; omega)).mono (fun q hq => ⟨by rw [hq.1]; simp; omega, hq.2.le (by omega)⟩)
end
theorem least_got {c : List Int} {a s : Int} {n : Nat} (hc : Bytes c) (ha : Far a n) (hn : n ≤ 300000) (m : Int) (hm : 2 ≤ m ∧ m ≤ 90) : Got (fun k => spec_l1Cur_least.f k c a s m) (fun r => r.2.1.length ≤ 10000) := by
 unfold spec_l1Cur_least.f
 refine Got.bind (Got.one (one_got hc ha (by omega) 10 (by omega))) (fun r rf => ?_)
 refine Got.iteb (fun _ => ?_) (fun _ => ?_)
 ·refine Got.bind (ladder_got hc rf (by omega)) (fun q hq => ?_)
  exact Got.now _ (by simp only; omega)
 ·have e1 : wrap64 (m - 1) = m - 1 := wrap_in (by omega) (by omega)
  rw [e1]
  refine Got.bind (Got.one (pick_got hc rf (by omega) (m - 1) (by omega))) (fun q hq => ?_)
  obtain ⟨q0, _, q2, qf⟩ := hq
  have q3 := q2 (by omega)
  have e2 : wrap64 (2 + q.1) = ((2 + q.1.toNat : Nat) : Int) := by unfold wrap64; omega
  rw [e2]
  refine Got.bind (sureOrder_got hc qf (by omega) (2 + q.1.toNat) (by omega)) (fun z hz => ?_)
  refine Got.bind (leastOf_got hc hz.2 (by omega) z.1 (by omega)) (fun y hy => ?_)
  exact Got.now _ hy.1
theorem drawLast_got {c : List Int} (hc : Bytes c) : Got (fun k => spec_DrawLastMoves.f k c) (fun r => r.2.length ≤ 10000) := by
 unfold spec_DrawLastMoves.f spec_DrawLastWins.f
 exact Got.bind (Got.bind (least_got hc Far.zero (by omega) 6 (by omega)) (fun r hr => Got.now (P := fun q : Int × List Int => q.2.length ≤ 10000) _ hr)) (fun r hr => Got.now _ hr)
theorem inverted_l1 (p : List Int) (n : Nat) (hn : p.length = n) (hn8 : n ≤ 1000) (i : Nat) (hi : i < n) (R : List (List Int)) (d : Nat) : ∀ (j : Nat) (acc : List (List Int)), j + d = n → acc.length + d ≤ 10000000 →
  Ev (fun k => impl_inverted.l0 k p (acc ++ irow p i j d) (n : Int) ((i + 1 : Nat) : Int)) R → Ev (fun k => impl_inverted.l1 k p acc (i : Int) (j : Int) (n : Int) (i : Int)) R := by
 subst hn
 induction d with
 | zero =>
  intro j acc hj _ h
  refine Ev.succ ?_
  have g1 : ¬ (j : Int) < (p.length : Int) := by omega
  simp only [impl_inverted.l1, g1, if_false, wrap_nat i p.length hi (by omega)]
  simpa [irow] using h
 | succ d ih =>
  intro j acc hj hl h
  refine Ev.succ ?_
  have g1 : (j : Int) < (p.length : Int) := by omega
  have g2 : (0 : Int) ≤ (i : Int) := by omega
  have g3 : (i : Int) < (p.length : Int) := by omega
  have g4 : (0 : Int) ≤ (j : Int) := by omega
  have g5 : acc.length < 5864062014805 := by omega
  simp only [impl_inverted.l1, g1, g2, g3, g4, g5, if_true, wrap_nat j p.length (by omega) (by omega)]
  refine Ev.ite (fun c => ?_) (fun c => ?_)
  ·refine ih (j + 1) _ (by omega) (by simp; omega) ?_
   rw [irow, if_pos c] at h
   simpa using h
  ·refine ih (j + 1) _ (by omega) (by omega) ?_
   rw [irow, if_neg c] at h
   simpa using h
theorem inverted_l0 (p : List Int) (n : Nat) (hn : p.length = n) (hn8 : n ≤ 1000) (d : Nat) : ∀ (i : Nat) (acc : List (List Int)), i + d = n → acc.length + d * 1000 ≤ 1000000 →
  Ev (fun k => impl_inverted.l0 k p acc (n : Int) (i : Int)) (acc ++ ips p i d) := by
 induction d with
 | zero =>
  intro i acc hi _
  refine Ev.succ ?_
  have g1 : ¬ (i : Int) < (n : Int) := by omega
  simp only [impl_inverted.l0, g1, if_false]
  simpa [ips] using Ev.now _
 | succ d ih =>
  intro i acc hi hl
  refine Ev.succ ?_
  have g1 : (i : Int) < (n : Int) := by omega
  simp only [impl_inverted.l0, g1, if_true, wrap_nat i n (by omega) (by omega)]
  refine inverted_l1 p n hn hn8 i (by omega) _ d (i + 1) acc (by omega) (by omega) ?_
  have hr := irow_length p i d (i + 1)
  refine Ev.eq (ih (i + 1) _ (by omega) (by rw [List.length_append]; omega)) ?_
  rw [ips, List.append_assoc]
theorem inverted_ev (p : List Int) (hn : p.length ≤ 1000) : Ev (fun k => impl_inverted.f k p) (ips p 0 p.length) := by
 unfold impl_inverted.f
 exact Ev.eq (inverted_l0 p p.length rfl hn p.length 0 [] (by omega) (by simp; omega)) (by simp)
/-- Where one comes out. -/
def endOf (w : Int) (rungs : List Int) : Int := rungs.foldl ovr w
def downs (w : Int) : List Int → List Int
 | [] => [w]
 | r :: l => w :: downs (ovr w r) l
theorem downs_length (l : List Int) : ∀ w, (downs w l).length = l.length + 1 := by
 induction l with
 | nil => intro w; rfl
 | cons r l ih => intro w; simp [downs, ih]
theorem downs_last (l : List Int) : ∀ w, (downs w l)[l.length]? = some (endOf w l) := by
 induction l with
 | nil => intro w; rfl
 | cons r l ih => intro w; simp [downs, endOf]; exact ih _
theorem downs_snoc (l : List Int) (r : Int) : ∀ w, downs w (l ++ [r]) = downs w l ++ [ovr (endOf w l) r] := by
 induction l with
 | nil => intro w; rfl
 | cons q l ih => intro w; simp [downs, ih, endOf]
theorem endOf_snoc (l : List Int) (r w : Int) : endOf w (l ++ [r]) = ovr (endOf w l) r := by simp [endOf]
/-- The result. -/
def res (n : Nat) (l : List Int) : List Int := (List.range n).map fun (i : Nat) => endOf (i : Int) l
theorem res_length (n : Nat) (l : List Int) : (res n l).length = n := by simp [res]
theorem res_take (n j : Nat) (l : List Int) (h : j < n) : (res n l).take (j + 1) = (res n l).take j ++ [endOf (j : Int) l] := by
 have hj : j < (res n l).length := by rw [res_length]; exact h
 rw [take_snoc _ j hj]; simp [res]
theorem laDown_ev (l : List Int) (w : Int) (hn : l.length ≤ 1000000) : Ev (fun k => spec_laDown.f k l w) (downs w l) := by
 have key := Ev.inv (σ := Int × List Int) (L := fun k j s => spec_laDown.l0 k s.1 s.2 l (l.length : Int) (j : Int)) (r := downs w l) (n := l.length)
  (Inv := fun j s => s.1 = endOf w (l.take j) ∧ s.2 = downs w (l.take j))
  (fun s hs => by
   obtain ⟨s1, s2⟩ := s; obtain ⟨rfl, rfl⟩ := hs
   refine Ev.succ (Ev.ret fun k => ?_)
   rw [spec_laDown.l0, if_neg (by omega), List.take_length])
  (fun j s hj hs ih => by
   obtain ⟨s1, s2⟩ := s; obtain ⟨rfl, rfl⟩ := hs
   refine Ev.succ ?_
   have h1 : (j : Int) < (l.length : Int) := by omega
   have h0 : (0 : Int) ≤ (j : Int) := by omega
   have h2 : (downs w (l.take j)).length < 17592186044416 := by rw [downs_length, List.length_take]; omega
   simp only [spec_laDown.l0, h1, h0, h2, if_true, rd_nat l j hj, wrap_nat j _ hj (by omega), laOver_f, Option.bind_some]
   have e1 : ovr (endOf w (l.take j)) l[j] = endOf w (l.take (j + 1)) := by rw [take_snoc l j hj, endOf_snoc]
   have e2 : downs w (l.take j) ++ [ovr (endOf w (l.take j)) l[j]] = downs w (l.take (j + 1)) := by rw [take_snoc l j hj, downs_snoc]
   exact ih (_, _) ⟨e1, e2⟩)
 exact key 0 (w, [w]) (Nat.zero_le _) ⟨rfl, rfl⟩
theorem laResult_ev (n : Nat) (l : List Int) (hn : n ≤ 8) (hl : l.length ≤ 1000000) : Ev (fun k => spec_laResult.f k (n : Int) l) (res n l) := by
 have key := Ev.inv (σ := List Int) (L := fun k j s => spec_laResult.l0 k (n : Int) l s (j : Int)) (r := res n l) (n := n)
  (Inv := fun j s => s = (res n l).take j)
  (fun s hs => by
   subst hs
   refine Ev.succ (Ev.ret fun k => ?_)
   rw [spec_laResult.l0, if_neg (by omega), List.take_of_length_le (by rw [res_length]; omega)])
  (fun j s hj hs ih => by
   subst hs
   refine Ev.succ ?_
   have h1 : (j : Int) < (n : Int) := by omega
   have h0 : (0 : Int) ≤ (l.length : Int) := by omega
   have h2 : (l.length : Int) < ((downs (j : Int) l).length : Int) := by rw [downs_length]; omega
   have h3 : ((res n l).take j).length < 17592186044416 := by rw [List.length_take, res_length]; omega
   simp only [spec_laResult.l0, h1, if_true, wrap_nat j n hj (by omega)]
   refine Ev.bind (laDown_ev l (j : Int) hl) ?_
   have e : rd (downs (j : Int) l) (l.length : Int) = endOf (j : Int) l := by
    unfold rd; rw [nat_toNat, List.getD_eq_getElem?_getD, downs_last]; rfl
   simp only [h0, h2, h3, if_true, e]
   exact ih _ (res_take n j l hj).symm)
 exact key 0 [] (Nat.zero_le _) rfl
theorem way_ev (a : Int) (l : List Int) (w : Int) (hn : l.length ≤ 1000000) : Ev (fun k => impl_way.f k a l w) (downs w l) := by
 have key := Ev.inv (σ := Int × List Int) (L := fun k j s => impl_way.l0 k s.1 s.2 l (l.length : Int) (j : Int)) (r := downs w l) (n := l.length)
  (Inv := fun j s => s.1 = endOf w (l.take j) ∧ s.2 = downs w (l.take j))
  (fun s hs => by
   obtain ⟨s1, s2⟩ := s; obtain ⟨rfl, rfl⟩ := hs
   refine Ev.succ (Ev.ret fun k => ?_)
   rw [impl_way.l0, if_neg (by omega), List.take_length])
  (fun j s hj hs ih => by
   obtain ⟨s1, s2⟩ := s; obtain ⟨rfl, rfl⟩ := hs
   refine Ev.succ ?_
   have h1 : (j : Int) < (l.length : Int) := by omega
   have h0 : (0 : Int) ≤ (j : Int) := by omega
   have h2 : (downs w (l.take j)).length < 17592186044416 := by rw [downs_length, List.length_take]; omega
   simp only [impl_way.l0, h1, h0, h2, if_true, rd_nat l j hj, wrap_nat j _ hj (by omega), over_f, Option.bind_some]
   have e1 : ovr (endOf w (l.take j)) l[j] = endOf w (l.take (j + 1)) := by rw [take_snoc l j hj, endOf_snoc]
   have e2 : downs w (l.take j) ++ [ovr (endOf w (l.take j)) l[j]] = downs w (l.take (j + 1)) := by rw [take_snoc l j hj, downs_snoc]
   exact ih (_, _) ⟨e1, e2⟩)
 exact key 0 (w, [w]) (Nat.zero_le _) ⟨rfl, rfl⟩
theorem result_ev (n : Nat) (l : List Int) (hn : n ≤ 8) (hl : l.length ≤ 1000000) : Ev (fun k => impl_result.f k (n : Int) l) (res n l) := by
 have key := Ev.inv (σ := List Int) (L := fun k j s => impl_result.l0 k (n : Int) l s (n : Int) (j : Int)) (r := res n l) (n := n)
  (Inv := fun j s => s = (res n l).take j)
  (fun s hs => by
   subst hs
   refine Ev.succ (Ev.ret fun k => ?_)
   rw [impl_result.l0, if_neg (by omega), List.take_of_length_le (by rw [res_length]; omega)])
  (fun j s hj hs ih => by
   subst hs
   refine Ev.succ ?_
   have h1 : (j : Int) < (n : Int) := by omega
   have h3 : ((res n l).take j).length < 17592186044416 := by rw [List.length_take, res_length]; omega
   simp only [impl_result.l0, h1, if_true, wrap_nat j n hj (by omega)]
   refine Ev.bind (way_ev (n : Int) l (j : Int) hl) ?_
   have e0 : wrap64 (((downs (j : Int) l).length : Int) - 1) = (l.length : Int) := by rw [downs_length]; unfold wrap64; omega
   have h0 : (0 : Int) ≤ (l.length : Int) := by omega
   have h2 : (l.length : Int) < ((downs (j : Int) l).length : Int) := by rw [downs_length]; omega
   have e : rd (downs (j : Int) l) (l.length : Int) = endOf (j : Int) l := by
    unfold rd; rw [nat_toNat, List.getD_eq_getElem?_getD, downs_last]; rfl
   simp only [e0, h0, h2, h3, if_true, e]
   exact ih _ (res_take n j l hj).symm)
 exact key 0 [] (Nat.zero_le _) rfl
theorem l1All_ev (l : List Int) (lo hi : Int) (hn : l.length ≤ 9223372036854775807) : Ev (fun k => spec_l1All.f k l lo hi) (l.all fun x => inB x lo hi) := by
 have key := Ev.upto (L := fun k j (_ : Unit) => spec_l1All.l0 k lo hi l (l.length : Int) (j : Int)) (R := fun j _ => (l.drop j).all fun x => inB x lo hi) (n := l.length)
  (fun _ => by
   refine Ev.succ (Ev.ret fun k => ?_)
   rw [spec_l1All.l0, if_neg (by omega)]; simp)
  (fun j _ hj ih => by
   refine Ev.succ ?_
   have h1 : (j : Int) < (l.length : Int) := by omega
   have h0 : (0 : Int) ≤ (j : Int) := by omega
   simp only [spec_l1All.l0, h1, h0, if_true, l1In_f, rd_nat l j hj, Option.bind_some, wrap_nat j _ hj hn]
   rw [List.drop_eq_getElem_cons hj, List.all_cons]
   refine Ev.iteb (fun h => ?_) (fun h => ?_)
   ·rw [h, Bool.true_and]; exact ih ()
   ·rw [h, Bool.false_and]; exact Ev.now _)
 have := key 0 () (Nat.zero_le _)
 rw [List.drop_zero] at this
 exact this
theorem laGood_ev (a : Int) (l : List Int) : Ev (fun k => spec_laGood.f k a l) (isLadderB a l) := by
 unfold spec_laGood.f isLadderB
 simp only [l1In_f, Option.bind_some]
 refine Ev.iteb (fun h => ?_) (fun h => ?_)
 ·rw [h, Bool.true_and]
  refine Ev.ite (fun h2 => ?_) (fun h2 => ?_)
  ·have h3 : decide (l.length ≤ 60) = true := by simp; omega
   rw [h3, Bool.true_and]
   refine Ev.bind (l1All_ev l 0 _ (by omega)) ?_
   refine Ev.eq (Ev.now _) ?_
   rw [List.all_eq_not_any_not]
  ·have h3 : decide (l.length ≤ 60) = false := by simp; omega
   rw [h3, Bool.false_and]; exact Ev.now _
 ·rw [h, Bool.false_and]; exact Ev.now _
theorem isLadderB_iff (a : Int) (l : List Int) : isLadderB a l = true ↔ 2 ≤ a ∧ a ≤ 8 ∧ l.length ≤ 60 ∧ ∀ r ∈ l, 0 ≤ r ∧ r ≤ a - 2 := by
 unfold isLadderB
 by_cases h : 2 ≤ a ∧ a ≤ 8
 ·have e : wrap64 (a - 2) = a - 2 := wrap_in (by omega) (by omega)
  rw [e]
  simp [inB, h.1, h.2]
 ·constructor
  ·intro h2; simp [inB] at h2; exact absurd h2.1 h
  ·intro h2; exact absurd ⟨h2.1, h2.2.1⟩ h
def lastingB (n : Nat) (l : List Int) : Bool := decide (l.length = (ips (res n l) 0 n).length)
theorem gaLasting_ev (n : Nat) (l : List Int) : Ev (fun k => spec_gaLasting.f k (n : Int) l) (isLadderB n l && lastingB n l) := by
 unfold spec_gaLasting.f
 refine Ev.bind (laGood_ev _ l) ?_
 refine Ev.iteb (fun h => ?_) (fun h => ?_)
 ·have hl := (isLadderB_iff _ l).1 h
  refine Ev.bind (laResult_ev n l (by omega) (by omega)) ?_
  refine Ev.bind (lsInversions_ev _ (by rw [res_length]; omega)) ?_
  refine Ev.eq (Ev.now _) ?_
  rw [h, res_length, lastingB, Bool.true_and, Bool.eq_iff_iff]; simp
  omega
 ·rw [h, Bool.false_and]; exact Ev.now _
theorem needless_ev (n : Nat) (l : List Int) (hn : n ≤ 8) (hl : l.length ≤ 1000000) : Ev (fun k => impl_needless.f k (n : Int) l) ((l.length : Int) - ((ips (res n l) 0 n).length : Int)) := by
 unfold impl_needless.f impl_inversions.f
 refine Ev.bind (result_ev n l hn hl) ?_
 refine Ev.bind (Ev.bind (inverted_ev _ (by rw [res_length]; omega)) (Ev.now _)) ?_
 refine Ev.eq (Ev.now _) ?_
 have h := ips_length (res n l) n 0
 have h2 : n * n ≤ 8 * 8 := Nat.mul_le_mul hn hn
 rw [res_length]
 exact wrap_in (by omega) (by omega)
theorem ovr_plain {w r : Int} (h0 : 0 ≤ r) (h1 : r ≤ 1000) : ovr w r = if w = r then r + 1 else if w = r + 1 then r else w := by
 unfold ovr; rw [wrap_in (by omega) (by omega)]
theorem ovr_ovr {w r : Int} (h0 : 0 ≤ r) (h1 : r ≤ 1000) : ovr (ovr w r) r = w := by
 rw [ovr_plain h0 h1, ovr_plain h0 h1]
 split <;> split <;> (try split) <;> omega
/-- Who comes out at w. -/
def startOf (w : Int) (l : List Int) : Int := l.reverse.foldl ovr w
theorem startOf_cons (w r : Int) (l : List Int) : startOf w (r :: l) = ovr (startOf w l) r := by simp [startOf]
theorem endOf_cons (w r : Int) (l : List Int) : endOf w (r :: l) = endOf (ovr w r) l := rfl
theorem end_start (l : List Int) : ∀ (w : Int), (∀ r ∈ l, 0 ≤ r ∧ r ≤ 1000) → endOf (startOf w l) l = w := by
 induction l with
 | nil => intro w _; rfl
 | cons r l ih =>
  intro w h
  have hr := h r (by simp)
  rw [startOf_cons, endOf_cons, ovr_ovr hr.1 hr.2]
  exact ih w (fun q hq => h q (by simp [hq]))
theorem start_end (l : List Int) : ∀ (w : Int), (∀ r ∈ l, 0 ≤ r ∧ r ≤ 1000) → startOf (endOf w l) l = w := by
 induction l with
 | nil => intro w _; rfl
 | cons r l ih =>
  intro w h
  have hr := h r (by simp)
  rw [startOf_cons, endOf_cons, ih _ (fun q hq => h q (by simp [hq])), ovr_ovr hr.1 hr.2]
theorem ovr_lt {w r : Int} {n : Nat} (h0 : 0 ≤ w) (h1 : w < n) (hr0 : 0 ≤ r) (hr : r ≤ (n : Int) - 2) (hn : n ≤ 1000) : 0 ≤ ovr w r ∧ ovr w r < n := by
 rw [ovr_plain hr0 (by omega)]; split <;> (try split) <;> omega
theorem endOf_lt (l : List Int) {n : Nat} (hn : n ≤ 1000) : ∀ (w : Int), 0 ≤ w → w < n → (∀ r ∈ l, 0 ≤ r ∧ r ≤ (n : Int) - 2) → 0 ≤ endOf w l ∧ endOf w l < n := by
 induction l with
 | nil => intro w h0 h1 _; exact ⟨h0, h1⟩
 | cons r l ih =>
  intro w h0 h1 h
  have hr := h r (by simp)
  have := ovr_lt h0 h1 hr.1 hr.2 hn
  rw [endOf_cons]
  exact ih _ this.1 this.2 (fun q hq => h q (by simp [hq]))
theorem startOf_lt (l : List Int) {n : Nat} (hn : n ≤ 1000) (w : Int) (h0 : 0 ≤ w) (h1 : w < n) (h : ∀ r ∈ l, 0 ≤ r ∧ r ≤ (n : Int) - 2) : 0 ≤ startOf w l ∧ startOf w l < n := by
 induction l with
 | nil => exact ⟨h0, h1⟩
 | cons r l ih =>
  have hr := h r (by simp)
  have := ih (fun q hq => h q (by simp [hq]))
  rw [startOf_cons]
  exact ovr_lt this.1 this.2 hr.1 hr.2 hn
theorem rd_res (n : Nat) (l : List Int) (i : Nat) (hi : i < n) : rd (res n l) (i : Int) = endOf (i : Int) l := by
 rw [rd_nat _ i (by rw [res_length]; exact hi)]; simp [res]
def backL (n : Nat) (l : List Int) : List Int := (List.range n).map fun (i : Nat) => startOf (i : Int) l
theorem backL_length (n : Nat) (l : List Int) : (backL n l).length = n := by simp [backL]
theorem rd_back (n : Nat) (l : List Int) (i : Nat) (hi : i < n) : rd (backL n l) (i : Int) = startOf (i : Int) l := by
 rw [rd_nat _ i (by rw [backL_length]; exact hi)]; simp [backL]
theorem rd_set (s : List Int) (a v : Nat) (x : Int) (hv : v < s.length) : rd (s.set a x) (v : Int) = if v = a then x else rd s (v : Int) := by
 rw [rd_nat _ v (by simpa using hv), rd_nat _ v hv, List.getElem_set]
 by_cases h : a = v
 ·rw [if_pos h, if_pos h.symm]
 ·rw [if_neg h, if_neg (fun e => h e.symm)]
theorem laBack_ev (n : Nat) (hn : n ≤ 1000) (l : List Int) (hl : ∀ r ∈ l, 0 ≤ r ∧ r ≤ (n : Int) - 2) : Ev (fun k => spec_laBack.f k (res n l)) (backL n l) := by
 have hl2 : ∀ q ∈ l, 0 ≤ q ∧ q ≤ 1000 := fun q hq => by have := hl q hq; omega
 have key := Ev.inv (σ := List Int) (L := fun k j s => spec_laBack.l0 k s (res n l) (n : Int) (j : Int)) (r := backL n l) (n := n)
  (Inv := fun j s => s.length = n ∧ ∀ v : Nat, v < n → startOf (v : Int) l < (j : Int) → rd s (v : Int) = startOf (v : Int) l)
  (fun s hs => by
   obtain ⟨h1, h2⟩ := hs
   refine Ev.succ (Ev.ret fun k => ?_)
   rw [spec_laBack.l0, if_neg (by omega)]
   congr 1
   refine List.ext_getElem (by rw [h1, backL_length]) (fun i h3 h4 => ?_)
   have h5 := h2 i (by omega) (startOf_lt l hn (i : Int) (by omega) (by omega) hl).2
   rw [rd_nat s i h3] at h5
   rw [h5]; simp [backL])
  (fun j s hj hs ih => by
   obtain ⟨h1, h2⟩ := hs
   refine Ev.succ ?_
   have g1 : (j : Int) < (n : Int) := by omega
   have g2 : (0 : Int) ≤ (j : Int) := by omega
   have g3 : (j : Int) < ((res n l).length : Int) := by rw [res_length]; omega
   have e := endOf_lt l hn (j : Int) (by omega) (by omega) hl
   have g4 : 0 ≤ endOf (j : Int) l := e.1
   have g5 : endOf (j : Int) l < (s.length : Int) := by rw [h1]; exact e.2
   simp only [spec_laBack.l0, g1, g2, g3, if_true, rd_res n l j hj, g4, g5, wrap_nat j n hj (by omega)]
   refine ih _ ⟨by simpa using h1, fun v hv hlt => ?_⟩
   rw [rd_set _ _ _ _ (by omega)]
   by_cases c : v = (endOf (j : Int) l).toNat
   ·rw [if_pos c]
    have : (v : Int) = endOf (j : Int) l := by omega
    rw [this, start_end l _ hl2]
   ·rw [if_neg c]
    refine h2 v hv ?_
    have : startOf (v : Int) l ≠ (j : Int) := by
     intro e2
     have e3 := end_start l (v : Int) hl2
     rw [e2] at e3
     omega
    omega)
 unfold spec_laBack.f
 have g0 : (0 : Int) ≤ ((res n l).length : Int) := by omega
 have g1 : (((res n l).length : Int)).toNat ≤ 35184372088832 := by rw [res_length]; omega
 simp only [g0, g1, if_true]
 have e : (((res n l).length : Int)).toNat = n := by rw [res_length]; omega
 rw [e, res_length]
 exact key 0 _ (Nat.zero_le _) ⟨by simp, fun v hv h => absurd (startOf_lt l hn (v : Int) (by omega) (by omega) hl).1 (by omega)⟩
def cntv (p : List Int) (v : Int) : Nat → Nat → Nat
 | _, 0 => 0
 | j, d + 1 => (if rd p (j : Int) = v then 1 else 0) + cntv p v (j + 1) d
def cnt2 (p : List Int) (u v : Int) : Nat → Nat → Nat
 | _, 0 => 0
 | i, d + 1 => (if rd p (i : Int) = u then cntv p v (i + 1) d else 0) + cnt2 p u v (i + 1) d
theorem irow_len (p : List Int) (i j d : Nat) : (irow p i j (d + 1)).length = (if rd p (i : Int) > rd p (j : Int) then 1 else 0) + (irow p i (j + 1) d).length := by
 rw [irow, List.length_append]; split <;> simp
theorem swap_gt (x y r : Int) (h0 : 0 ≤ r) (h1 : r ≤ 1000) : (if ovr x r > ovr y r then 1 else 0) + (if x = r + 1 then (if y = r then 1 else 0) else 0) = (if x > y then 1 else 0) + (if x = r then (if y = r + 1 then 1 else 0) else (0 : Nat)) := by
 rw [ovr_plain h0 h1, ovr_plain h0 h1]
 (repeat' split) <;> omega
theorem irow_swap (p q : List Int) (r : Int) (h0 : 0 ≤ r) (h1 : r ≤ 1000) (n : Nat) (h : ∀ i : Nat, i < n → rd q (i : Int) = ovr (rd p (i : Int)) r) (i : Nat) (hi : i < n) (d : Nat) : ∀ j, j + d ≤ n →
  (irow q i j d).length + (if rd p (i : Int) = r + 1 then cntv p r j d else 0) = (irow p i j d).length + (if rd p (i : Int) = r then cntv p (r + 1) j d else 0) := by
 induction d with
 | zero => intro j _; simp [irow, cntv]
 | succ d ih =>
  intro j hj
  have h2 := ih (j + 1) (by omega)
  have h3 := swap_gt (rd p (i : Int)) (rd p (j : Int)) r h0 h1
  rw [irow_len, irow_len, h i hi, h j (by omega), cntv, cntv]
  by_cases c1 : rd p (i : Int) = r
  ·have c2 : ¬ rd p (i : Int) = r + 1 := by omega
   simp only [c1, c2, if_true, if_false] at h2 h3 ⊢
   have c3 : ¬ r = r + 1 := by omega
   simp only [c3, if_false] at h2 h3 ⊢
   omega
  ·by_cases c2 : rd p (i : Int) = r + 1
   ·simp only [c1, c2, if_true, if_false] at h2 h3 ⊢
    have c3 : ¬ r + 1 = r := by omega
    simp only [c3, if_false] at h2 h3 ⊢
    omega
   ·simp only [c1, c2, if_false] at h2 h3 ⊢
    omega
theorem ips_swap (p q : List Int) (r : Int) (h0 : 0 ≤ r) (h1 : r ≤ 1000) (n : Nat) (h : ∀ i : Nat, i < n → rd q (i : Int) = ovr (rd p (i : Int)) r) (d : Nat) : ∀ i, i + d ≤ n →
  (ips q i d).length + cnt2 p (r + 1) r i d = (ips p i d).length + cnt2 p r (r + 1) i d := by
 induction d with
 | zero => intro j _; simp [ips, cnt2]
 | succ d ih =>
  intro i hi
  have h2 := ih (i + 1) (by omega)
  have h3 := irow_swap p q r h0 h1 n h i (by omega) d (i + 1) (by omega)
  rw [ips, ips, cnt2, cnt2, List.length_append, List.length_append]
  omega
theorem cntv_eq (p : List Int) (v : Int) (n b : Nat) (hb : ∀ i : Nat, i < n → (rd p (i : Int) = v ↔ i = b)) (d : Nat) : ∀ j, j + d ≤ n → cntv p v j d = if j ≤ b ∧ b < j + d then 1 else 0 := by
 induction d with
 | zero => intro j _; rw [cntv, if_neg (by omega)]
 | succ d ih =>
  intro j hj
  rw [cntv, ih (j + 1) (by omega)]
  have h1 := hb j (by omega)
  by_cases c : j = b
  ·rw [if_pos (h1.2 c), if_neg (by omega), if_pos (by omega)]
  ·rw [if_neg (fun e => c (h1.1 e))]
   by_cases c2 : j + 1 ≤ b ∧ b < j + 1 + d
   ·rw [if_pos c2, if_pos (by omega)]
   ·rw [if_neg c2, if_neg (by omega)]
theorem cnt2_eq (p : List Int) (u v : Int) (n a b : Nat) (ha : ∀ i : Nat, i < n → (rd p (i : Int) = u ↔ i = a)) (hb : ∀ i : Nat, i < n → (rd p (i : Int) = v ↔ i = b)) (d : Nat) : ∀ i, i + d ≤ n → cnt2 p u v i d = if i ≤ a ∧ a < b ∧ b < i + d then 1 else 0 := by
 induction d with
 | zero => intro i _; rw [cnt2, if_neg (by omega)]
 | succ d ih =>
  intro i hi
  rw [cnt2, ih (i + 1) (by omega), cntv_eq p v n b hb d (i + 1) (by omega)]
  have h1 := ha i (by omega)
  by_cases c : i = a
  ·rw [if_pos (h1.2 c)]
   rw [if_neg (c := i + 1 ≤ a ∧ a < b ∧ b < i + 1 + d) (by omega)]
   by_cases c2 : i + 1 ≤ b ∧ b < i + 1 + d
   ·rw [if_pos c2, if_pos (by omega)]
   ·rw [if_neg c2, if_neg (by omega)]
  ·rw [if_neg (fun e => c (h1.1 e))]
   by_cases c2 : i + 1 ≤ a ∧ a < b ∧ b < i + 1 + d
   ·rw [if_pos c2, if_pos (by omega)]
   ·rw [if_neg c2, if_neg (by omega)]
/-- One rung more, and one pair more the wrong way round, or one less. -/
theorem ips_res (n : Nat) (hn : n ≤ 1000) (l : List Int) (hl : ∀ r ∈ l, 0 ≤ r ∧ r ≤ (n : Int) - 2) (r : Nat) (hr : r + 1 < n) :
  (startOf (r : Int) l < startOf ((r + 1 : Nat) : Int) l → (ips (res n (l ++ [(r : Int)])) 0 n).length = (ips (res n l) 0 n).length + 1) ∧ (¬ startOf (r : Int) l < startOf ((r + 1 : Nat) : Int) l → (ips (res n (l ++ [(r : Int)])) 0 n).length + 1 = (ips (res n l) 0 n).length) := by
 have hl2 : ∀ q ∈ l, 0 ≤ q ∧ q ≤ 1000 := fun q hq => by have := hl q hq; omega
 have pos : ∀ v : Nat, v < n → ∃ a : Nat, startOf (v : Int) l = (a : Int) ∧ a < n ∧ ∀ i : Nat, i < n → (rd (res n l) (i : Int) = (v : Int) ↔ i = a) := by
  intro v hv
  have h1 := startOf_lt l hn (v : Int) (by omega) (by omega) hl
  refine ⟨(startOf (v : Int) l).toNat, by omega, by omega, fun i hi => ?_⟩
  rw [rd_res n l i hi]
  constructor
  ·intro e; have := start_end l (i : Int) hl2; rw [e] at this; omega
  ·intro e
   have e2 : (i : Int) = startOf (v : Int) l := by omega
   rw [e2]; exact end_start l _ hl2
 obtain ⟨a, ea, ha, hpa⟩ := pos r (by omega)
 obtain ⟨b, eb, hb, hpb⟩ := pos (r + 1) hr
 have hab : a ≠ b := by
  intro e
  have h1 := (hpa a ha).2 rfl
  have h2 := (hpb a ha).2 e
  omega
 have key := ips_swap (res n l) (res n (l ++ [(r : Int)])) (r : Int) (by omega) (by omega) n (fun i hi => by rw [rd_res n _ i hi, rd_res n _ i hi, endOf_snoc]) n 0 (by omega)
 have e1 := cnt2_eq (res n l) (((r + 1 : Nat)) : Int) (r : Int) n b a hpb hpa n 0 (by omega)
 have e2 := cnt2_eq (res n l) (r : Int) (((r + 1 : Nat)) : Int) n a b hpa hpb n 0 (by omega)
 have e3 : ((r : Int) + 1) = ((r + 1 : Nat) : Int) := rfl
 rw [e3, e1, e2] at key
 rw [ea, eb]
 constructor
 ·intro h
  rw [if_neg (by omega), if_pos (by omega)] at key; omega
 ·intro h
  rw [if_pos (by omega), if_neg (by omega)] at key; omega
def movesTo (l : List Int) : Nat → List Int
 | 0 => []
 | j + 1 => movesTo l j ++ (if startOf (j : Int) l < startOf ((j + 1 : Nat) : Int) l then [(j : Int)] else [])
theorem movesTo_length (l : List Int) (j : Nat) : (movesTo l j).length ≤ j := by
 induction j with
 | zero => simp [movesTo]
 | succ j ih => rw [movesTo, List.length_append]; split <;> simp <;> omega
def lastMv (a : Int) (l : List Int) : List Int × Bool := if isLadderB a l = true ∧ lastingB a.toNat l = true then (movesTo l (a.toNat - 1), true) else ([], false)
theorem LastMoves_vals (a : Int) (l : List Int) : Ev (fun k => spec_LastMoves.f k a l) (lastMv a l) ∧ Ev (fun k => impl_LastMoves.f k a l) (lastMv a l) := by
 have fi : Ev (fun k => impl_LastMoves.j0 k true a l) ([], false) := Ev.succ (Ev.ret fun k => by rw [impl_LastMoves.j0]; rfl)
 by_cases h : isLadderB a l = true
 ·have hl := (isLadderB_iff a l).1 h
  obtain ⟨n, rfl⟩ : ∃ n : Nat, a = n := ⟨a.toNat, by omega⟩
  have hb := ips_length (res n l) n 0
  have hn2 : n * n ≤ 8 * 8 := Nat.mul_le_mul (by omega) (by omega)
  have gn : wrap64 ((n : Int) - 1) = ((n - 1 : Nat) : Int) := by unfold wrap64; omega
  by_cases c : lastingB n l = true
  ·have c0 : l.length = (ips (res n l) 0 n).length := by simpa [lastingB] using c
   have c' : (l.length : Int) - ((ips (res n l) 0 n).length : Int) = 0 := by omega
   have ev : lastMv (n : Int) l = (movesTo l (n - 1), true) := by unfold lastMv; rw [if_pos ⟨h, by simpa using c⟩]; rfl
   rw [ev]
   refine ⟨?_, ?_⟩
   ·unfold spec_LastMoves.f
    refine Ev.bind (gaLasting_ev n l) ?_
    simp only [h, c, Bool.and_self, if_true]
    refine Ev.bind (laResult_ev n l (by omega) (by omega)) ?_
    refine Ev.bind (laBack_ev n (by omega) l hl.2.2.2) ?_
    have key := Ev.inv (σ := List Int) (L := fun k j s => spec_LastMoves.l0 k (backL n l) s (j : Int) (n : Int) l) (r := (movesTo l (n - 1), true)) (n := n - 1)
     (Inv := fun j s => s = movesTo l j)
     (fun s hs => by
      subst hs
      refine Ev.succ (Ev.ret fun k => ?_)
      rw [spec_LastMoves.l0, gn, if_neg (by omega)])
     (fun j s hj hs ih => by
      subst hs
      refine Ev.succ ?_
      have hm := movesTo_length l j
      have g1 : (j : Int) < ((n - 1 : Nat) : Int) := by omega
      have g2 : (0 : Int) ≤ (j : Int) := by omega
      have g3 : (j : Int) < ((backL n l).length : Int) := by rw [backL_length]; omega
      have g4 : (0 : Int) ≤ ((j + 1 : Nat) : Int) := by omega
      have g5 : ((j + 1 : Nat) : Int) < ((backL n l).length : Int) := by rw [backL_length]; omega
      have g6 : (movesTo l j).length < 17592186044416 := by omega
      simp only [spec_LastMoves.l0, gn, wrap_nat j n (by omega) (by omega), g1, g2, g3, g4, g5, g6, if_true, rd_back n l j (by omega), rd_back n l (j + 1) (by omega)]
      refine Ev.ite (fun e => ?_) (fun e => ?_)
      ·exact ih _ (by rw [movesTo, if_pos e])
      ·exact ih _ (by rw [movesTo, if_neg e, List.append_nil]))
    exact key 0 [] (Nat.zero_le _) rfl
   ·unfold impl_LastMoves.f impl_isLadder.f
    simp only [Option.bind_some, h, if_true]
    refine Ev.bind (needless_ev n l (by omega) (by omega)) ?_
    rw [c']
    refine Ev.succ ?_
    have key := Ev.inv (σ := List Int) (L := fun k j s => impl_LastMoves.l0 k s ((n - 1 : Nat) : Int) (j : Int) (n : Int) l) (r := (movesTo l (n - 1), true)) (n := n - 1)
     (Inv := fun j s => s = movesTo l j)
     (fun s hs => by
      subst hs
      refine Ev.succ (Ev.ret fun k => ?_)
      rw [impl_LastMoves.l0, if_neg (by omega)])
     (fun j s hj hs ih => by
      subst hs
      refine Ev.succ ?_
      have hm := movesTo_length l j
      have g1 : (j : Int) < ((n - 1 : Nat) : Int) := by omega
      have g2 : l.length ≤ 17592186044416 := by omega
      have g3 : l.length + [(j : Int)].length < 17592186044416 := by simp; omega
      have g4 : (movesTo l j).length + [(j : Int)].length < 17592186044416 := by simp; omega
      simp only [impl_LastMoves.l0, g1, if_true, slices_Clone_int_int.f, g2, Option.bind_some, wrap_nat j n (by omega) (by omega)]
      simp only [g3, g4, if_true]
      refine Ev.bind (needless_ev n (l ++ [(j : Int)]) (by omega) (by simp; omega)) ?_
      have ip := ips_res n (by omega) l hl.2.2.2 j (by omega)
      rw [List.length_append, List.length_singleton]
      refine Ev.ite (fun e => ?_) (fun e => ?_)
      ·refine ih _ ?_
       by_cases e2 : startOf (j : Int) l < startOf ((j + 1 : Nat) : Int) l
       ·rw [movesTo, if_pos e2]
       ·have := ip.2 e2; omega
      ·refine ih _ ?_
       by_cases e2 : startOf (j : Int) l < startOf ((j + 1 : Nat) : Int) l
       ·have := ip.1 e2; omega
       ·rw [movesTo, if_neg e2, List.append_nil])
    simp only [impl_LastMoves.j0, bne_self_eq_false, Bool.false_eq_true, if_false, gn]
    exact key 0 [] (Nat.zero_le _) rfl
  ·have c0 : ¬ l.length = (ips (res n l) 0 n).length := by simpa [lastingB] using c
   have c' : ((l.length : Int) - ((ips (res n l) 0 n).length : Int) != 0) = true := by simp; omega
   have c2 : lastingB n l = false := by simpa using c
   have ev : lastMv (n : Int) l = ([], false) := by unfold lastMv; rw [if_neg]; intro hh; have h2 : lastingB n l = true := hh.2; rw [c2] at h2; cases h2
   rw [ev]
   refine ⟨?_, ?_⟩
   ·unfold spec_LastMoves.f
    refine Ev.bind (gaLasting_ev n l) ?_
    simp only [c2, Bool.and_false, Bool.false_eq_true, if_false]
    exact Ev.now _
   ·unfold impl_LastMoves.f impl_isLadder.f
    simp only [Option.bind_some, h, if_true]
    refine Ev.bind (needless_ev n l (by omega) (by omega)) ?_
    rw [c']
    exact fi
 ·have h' : isLadderB a l = false := by simpa using h
  have ev : lastMv a l = ([], false) := by unfold lastMv; rw [if_neg]; intro hh; rw [h'] at hh; cases hh.1
  rw [ev]
  refine ⟨?_, ?_⟩
  ·unfold spec_LastMoves.f spec_gaLasting.f
   refine Ev.bind (a := false) (Ev.bind (laGood_ev _ l) ?_) ?_
   ·simp only [h', Bool.false_eq_true, if_false]; exact Ev.now _
   ·simp only [Bool.false_eq_true, if_false]; exact Ev.now _
  ·unfold impl_LastMoves.f impl_isLadder.f
   simp only [Option.bind_some, h', Bool.false_eq_true, if_false]
   exact fi
theorem LastMoves_both (a : Int) (l : List Int) : ∃ r, Ev (fun k => spec_LastMoves.f k a l) r ∧ Ev (fun k => impl_LastMoves.f k a l) r ∧ r.1.length ≤ 60 := by
 refine ⟨lastMv a l, (LastMoves_vals a l).1, (LastMoves_vals a l).2, ?_⟩
 unfold lastMv
 by_cases h : isLadderB a l = true ∧ lastingB a.toNat l = true
 ·rw [if_pos h]
  have := (isLadderB_iff a l).1 h.1
  have := movesTo_length l (a.toNat - 1)
  simp only; omega
 ·rw [if_neg h]; exact Nat.zero_le _
def lastWn (a : Int) (l : List Int) : Bool × Bool := if isLadderB a l = true ∧ lastingB a.toNat l = true then ((Int.tmod (wrap64 ((wrap64 (Int.tdiv (wrap64 (a * (wrap64 (a - 1)))) 2)) - (l.length : Int))) 2) == 1, true) else (false, false)
theorem LastWins_vals (a : Int) (l : List Int) : Ev (fun k => spec_LastWins.f k a l) (lastWn a l) ∧ Ev (fun k => impl_LastWins.f k a l) (lastWn a l) := by
 by_cases h : isLadderB a l = true
 ·have hl := (isLadderB_iff a l).1 h
  obtain ⟨n, rfl⟩ : ∃ n : Nat, a = n := ⟨a.toNat, by omega⟩
  by_cases c : lastingB n l = true
  ·have c' : (l.length : Int) - ((ips (res n l) 0 n).length : Int) = 0 := by simp [lastingB] at c; omega
   have ev : lastWn (n : Int) l = ((Int.tmod (wrap64 ((wrap64 (Int.tdiv (wrap64 ((n : Int) * (wrap64 ((n : Int) - 1)))) 2)) - (l.length : Int))) 2) == 1, true) := by unfold lastWn; rw [if_pos ⟨h, by simpa using c⟩]
   rw [ev]
   refine ⟨?_, ?_⟩
   rotate_left
   ·unfold impl_LastWins.f impl_isLadder.f
    simp only [Option.bind_some, h, if_true]
    refine Ev.bind (needless_ev n l (by omega) (by omega)) ?_
    simp only [c', if_true]
    exact Ev.now _
   ·unfold spec_LastWins.f
    refine Ev.bind (gaLasting_ev n l) ?_
    simp only [h, c, Bool.and_self, if_true]
    exact Ev.now _
  ·have c' : ¬ (l.length : Int) - ((ips (res n l) 0 n).length : Int) = 0 := by simp [lastingB] at c; omega
   have c2 : lastingB n l = false := by simpa using c
   have ev : lastWn (n : Int) l = (false, false) := by unfold lastWn; rw [if_neg]; intro hh; have h2 : lastingB n l = true := hh.2; rw [c2] at h2; cases h2
   rw [ev]
   refine ⟨?_, ?_⟩
   ·unfold spec_LastWins.f
    refine Ev.bind (gaLasting_ev n l) ?_
    simp only [c2, Bool.and_false, Bool.false_eq_true, if_false]
    exact Ev.now _
   ·unfold impl_LastWins.f impl_isLadder.f
    simp only [Option.bind_some, h, if_true]
    refine Ev.bind (needless_ev n l (by omega) (by omega)) ?_
    simp only [c', if_false]
    exact Ev.now _
 ·have h' : isLadderB a l = false := by simpa using h
  have ev : lastWn a l = (false, false) := by unfold lastWn; rw [if_neg]; intro hh; rw [h'] at hh; cases hh.1
  rw [ev]
  refine ⟨?_, ?_⟩
  ·unfold spec_LastWins.f spec_gaLasting.f
   refine Ev.bind (a := false) (Ev.bind (laGood_ev _ l) ?_) ?_
   ·simp only [h', Bool.false_eq_true, if_false]; exact Ev.now _
   ·simp only [Bool.false_eq_true, if_false]; exact Ev.now _
  ·unfold impl_LastWins.f impl_isLadder.f
   simp only [Option.bind_some, h', Bool.false_eq_true, if_false]
   exact Ev.now _
def ifLadder (a : Int) (l : List Int) : Int × List Int × Bool := if isLadderB a l = true then (a, l, true) else (0, [], false)
theorem checked_f (a : Int) (l : List Int) : impl_checked.f a l = some (ifLadder a l) := by
 unfold impl_checked.f impl_isLadder.f ifLadder
 simp only [Option.bind_some]
 cases isLadderB a l <;> rfl
theorem drawPlace_one {c : List Int} (hc : Bytes c) : ∃ r, spec_DrawPlaceWinner.f c = some r := by
 unfold spec_DrawPlaceWinner.f
 obtain ⟨r1, e1, _, f1⟩ := among_got (s := 0) hc Far.zero (by omega) [2, 3, 4, 5, 8, 3, 4, 5, 1, 9] (by simp)
 rw [e1, Option.bind_some]
 obtain ⟨r2, e2, _, _, _, f2⟩ := pick_got (s := r1.2.2) hc f1 (by omega) 6 (by omega)
 rw [e2, Option.bind_some]
 obtain ⟨r3, e3, _, _, _, f3⟩ := pick_got (s := r2.2.2) hc f2 (by omega) 2 (by omega)
 rw [e3, Option.bind_some]
 obtain ⟨r4, e4, _, _, _, f4⟩ := pick_got (s := r3.2.2) hc f3 (by omega) 6 (by omega)
 rw [e4, Option.bind_some]
 obtain ⟨r5, e5, _, _, _, f5⟩ := pick_got (s := r4.2.2) hc f4 (by omega) 2 (by omega)
 rw [e5, Option.bind_some]
 obtain ⟨r6, e6, _, f6⟩ := among_got (s := r5.2.2) hc f5 (by omega) [0, 1, 2, 3, 4, 5, 6, 7, 8, 9, (-1)] (by simp)
 rw [e6, Option.bind_some]
 exact ⟨_, rfl⟩
theorem movesTo_mem (l : List Int) (m : Nat) (x : Int) : x ∈ movesTo l m ↔ ∃ j : Nat, j < m ∧ x = (j : Int) ∧ startOf (j : Int) l < startOf ((j + 1 : Nat) : Int) l := by
 induction m with
 | zero => simp [movesTo]
 | succ m ih =>
  rw [movesTo, List.mem_append, ih]
  constructor
  ·rintro (⟨j, h1, h2, h3⟩ | h)
   ·exact ⟨j, by omega, h2, h3⟩
   ·by_cases c : startOf (m : Int) l < startOf ((m + 1 : Nat) : Int) l
    ·rw [if_pos c] at h; exact ⟨m, by omega, by simpa using h, c⟩
    ·rw [if_neg c] at h; simp at h
  ·rintro ⟨j, h1, h2, h3⟩
   by_cases c : j = m
   ·subst c; right; rw [if_pos h3]; simp [h2]
   ·left; exact ⟨j, by omega, h2, h3⟩
theorem res_invs (n : Nat) (l : List Int) : (ips (res n l) 0 n).length = invs (res n l) := by
 have := ips_invs (res n l); rw [res_length] at this; exact this
theorem lasting_iff (n : Nat) (l : List Int) : lastingB n l = true ↔ l.length = invs (res n l) := by
 unfold lastingB; rw [res_invs]; simp
/-- no rung more: all stand the other way round -/
theorem no_moves (n : Nat) (hn : n ≤ 1000) (l : List Int) (hl : ∀ r ∈ l, 0 ≤ r ∧ r ≤ (n : Int) - 2) (h : movesTo l (n - 1) = []) : 2 * invs (res n l) + n = n * n := by
 have hl2 : ∀ q ∈ l, 0 ≤ q ∧ q ≤ 1000 := fun q hq => by have := hl q hq; omega
 have hfall : ∀ j : Nat, j + 1 < n → startOf ((j + 1 : Nat) : Int) l < startOf (j : Int) l := by
  intro j hj
  have h1 : ¬ startOf (j : Int) l < startOf ((j + 1 : Nat) : Int) l := by
   intro c
   have : (j : Int) ∈ movesTo l (n - 1) := (movesTo_mem l _ _).2 ⟨j, by omega, rfl, c⟩
   rw [h] at this; simp at this
  have h2 : startOf (j : Int) l ≠ startOf ((j + 1 : Nat) : Int) l := by
   intro e
   have e1 := end_start l (j : Int) hl2
   have e2 := end_start l ((j + 1 : Nat) : Int) hl2
   rw [e] at e1; omega
  omega
 have hall : ∀ d i : Nat, i + 1 + d < n → startOf ((i + 1 + d : Nat) : Int) l < startOf (i : Int) l := by
  intro d
  induction d with
  | zero => intro i hi; exact hfall i hi
  | succ d ih =>
   intro i hi
   have h1 := ih i (by omega)
   have h2 := hfall (i + 1 + d) (by omega)
   have e : i + 1 + (d + 1) = i + 1 + d + 1 := by omega
   rw [e]; omega
 have key := invs_full (res n l) (fun i j hij hj => by
  rw [res_length] at hj
  have gi : (res n l).getD i 0 = endOf (i : Int) l := by have := rd_res n l i (by omega); rw [rd_nat _ i (by rw [res_length]; omega)] at this; simp [List.getD_eq_getElem?_getD, List.getElem?_eq_getElem (show i < (res n l).length by rw [res_length]; omega), this]
  have gj : (res n l).getD j 0 = endOf (j : Int) l := by have := rd_res n l j (by omega); rw [rd_nat _ j (by rw [res_length]; omega)] at this; simp [List.getD_eq_getElem?_getD, List.getElem?_eq_getElem (show j < (res n l).length by rw [res_length]; omega), this]
  rw [gi, gj]
  have b1 := endOf_lt l hn (i : Int) (by omega) (by omega) hl
  have b2 := endOf_lt l hn (j : Int) (by omega) (by omega) hl
  have s1 := start_end l (i : Int) hl2
  have s2 := start_end l (j : Int) hl2
  by_cases c : endOf (i : Int) l > endOf (j : Int) l
  ·exact c
  ·exfalso
   by_cases e : endOf (i : Int) l = endOf (j : Int) l
   ·rw [e, s2] at s1; omega
   ·have := hall ((endOf (j : Int) l).toNat - (endOf (i : Int) l).toNat - 1) (endOf (i : Int) l).toNat (by omega)
    have e1 : (((endOf (i : Int) l).toNat + 1 + ((endOf (j : Int) l).toNat - (endOf (i : Int) l).toNat - 1) : Nat) : Int) = endOf (j : Int) l := by omega
    have e2 : (((endOf (i : Int) l).toNat : Nat) : Int) = endOf (i : Int) l := by omega
    rw [e1, e2, s1, s2] at this
    omega)
 rw [res_length] at key
 exact key
def halfOf (n : Nat) : Int := wrap64 (Int.tdiv (wrap64 ((n : Int) * (wrap64 ((n : Int) - 1)))) 2)
theorem halfOf_eq (n : Nat) (h1 : 2 ≤ n) (h2 : n ≤ 8) : 2 * halfOf n + n = (n : Int) * n ∧ 0 ≤ halfOf n ∧ halfOf n ≤ 100 := by
 have : n = 2 ∨ n = 3 ∨ n = 4 ∨ n = 5 ∨ n = 6 ∨ n = 7 ∨ n = 8 := by omega
 rcases this with rfl | rfl | rfl | rfl | rfl | rfl | rfl <;> decide +kernel
theorem lastWn_yes {n : Nat} {l : List Int} (h : isLadderB n l = true) (c : lastingB n l = true) : lastWn n l = ((Int.tmod (wrap64 (halfOf n - (l.length : Int))) 2) == 1, true) := by
 unfold lastWn
 rw [if_pos ⟨h, by simpa using c⟩]; rfl
theorem invs_half (n : Nat) (l : List Int) (h1 : 2 ≤ n) (h2 : n ≤ 8) : (invs (res n l) : Int) ≤ halfOf n := by
 have h3 := invs_le (res n l)
 rw [res_length] at h3
 have h4 := halfOf_eq n h1 h2
 have h5 : ((n * n : Nat) : Int) = (n : Int) * n := by push_cast; rfl
 omega
theorem IsLeast_ev (n : Nat) (l : List Int) (h : isLadderB n l = true) : Ev (fun k => impl_IsLeast.f k (n : Int) l) (lastingB n l, true) := by
 have hl := (isLadderB_iff _ l).1 h
 unfold impl_IsLeast.f impl_isLadder.f
 simp only [Option.bind_some, h, if_true]
 refine Ev.bind (needless_ev n l (by omega) (by omega)) ?_
 refine Ev.eq (Ev.now _) ?_
 rw [Prod.mk.injEq]
 refine ⟨?_, rfl⟩
 unfold lastingB
 rw [Bool.eq_iff_iff]
 simp
 omega
theorem AddRung_ev (n : Nat) (l : List Int) (h : isLadderB n l = true) (hlen : l.length < 60) (r : Nat) (hr : r + 1 < n) : Ev (fun k => impl_AddRung.f k (n : Int) l (l.length : Int) (r : Int)) (n, l ++ [(r : Int)], true) ∧ isLadderB n (l ++ [(r : Int)]) = true := by
 have hl := (isLadderB_iff _ l).1 h
 have h2 : isLadderB n (l ++ [(r : Int)]) = true := (isLadderB_iff _ _).2 ⟨by omega, by omega, by simp; omega, fun x hx => by
  rcases List.mem_append.1 hx with hx | hx
  ·exact hl.2.2.2 x hx
  ·simp at hx; omega⟩
 refine ⟨?_, h2⟩
 unfold impl_AddRung.f impl_isLadder.f
 simp only [Option.bind_some, h, if_true, btw_f]
 have hb : inB (l.length : Int) 0 (l.length : Int) = true := (inB_iff _ _ _).2 ⟨by omega, by omega⟩
 rw [hb]
 refine Ev.succ ?_
 have g1 : l.length ≤ 17592186044416 := by omega
 have g2 : (0 : Int) ≤ (l.length : Int) := by omega
 have g3 : (l.length : Int) ≤ (l.length : Int) := by omega
 have g5 : l.length + [(r : Int)].length < 17592186044416 := by simp; omega
 have g4 : ¬ ((([(r : Int)] : List Int).length : Int) = 0) := by simp
 simp only [impl_AddRung.j0, Bool.not_true, Bool.false_eq_true, if_false, slices_Clone_int_int.f, g1, if_true, Option.bind_some, slices_Insert_int_int.f, g2, g3, g4, g5, checked_f, ifLadder, h2]
 exact Ev.now _
theorem la_l2 (n : Nat) (l : List Int) (h : isLadderB n l = true) (c : lastingB n l = true) (b : Bool) (hb : b = (lastWn n l).1) :
  Ev (fun k => laws_FnPlacesAndLasts.l2 k (movesTo l (n - 1)) b 0 (n : Int) l) true := by
 have hl := (isLadderB_iff _ l).1 h
 have hw := placing_wrap (n := n) (by omega) (by omega)
 have hlen := (lasting_iff n l).1 c
 have hN := halfOf_eq n (by omega) (by omega)
 have hle := invs_half n l (by omega) (by omega)
 have hle2 : n * n ≤ 8 * 8 := Nat.mul_le_mul (by omega) (by omega)
 have hle3 := invs_le (res n l)
 rw [res_length] at hle3
 have hm := movesTo_length l (n - 1)
 rw [lastWn_yes h c] at hb
 have key := Ev.upto (L := fun k j (_ : Unit) => laws_FnPlacesAndLasts.l2 k (movesTo l (n - 1)) b (j : Int) (n : Int) l) (R := fun _ _ => true) (n := n - 1)
  (fun _ => by
   refine Ev.succ (Ev.ret fun k => ?_)
   rw [laws_FnPlacesAndLasts.l2, hw, if_neg (by omega)])
  (fun j _ hj ih => by
   refine Ev.succ ?_
   have g1 : (j : Int) < ((n - 1 : Nat) : Int) := by omega
   simp only [laws_FnPlacesAndLasts.l2, hw, g1, if_true]
   obtain ⟨ha, hlad⟩ := AddRung_ev n l h (by omega) j (by omega)
   refine Ev.bind ha ?_
   refine Ev.bind (IsLeast_ev n _ hlad) ?_
   simp only [if_true]
   refine Ev.bind (nHas_ev _ (j : Int) (by omega)) ?_
   have hstill : lastingB n (l ++ [(j : Int)]) = decide ((j : Int) ∈ movesTo l (n - 1)) := by
    have ip := ips_res n (by omega) l hl.2.2.2 j (by omega)
    rw [res_invs, res_invs] at ip
    rw [Bool.eq_iff_iff, decide_eq_true_iff, lasting_iff, movesTo_mem]
    simp only [List.length_append, List.length_singleton]
    constructor
    ·intro e
     refine ⟨j, by omega, rfl, ?_⟩
     by_cases cc : startOf (j : Int) l < startOf ((j + 1 : Nat) : Int) l
     ·exact cc
     ·have := ip.2 cc; omega
    ·rintro ⟨i, _, hi, hs⟩
     obtain rfl : j = i := by omega
     have := ip.1 hs; omega
   rw [← hstill]
   simp only [bne_self_eq_false, Bool.false_eq_true, if_false, wrap_nat j (n - 1) hj (by omega)]
   refine Ev.iteb (fun hs => ?_) (fun hs => ih ())
   refine Ev.bind (LastWins_vals n _).2 ?_
   have hlen2 := (lasting_iff n _).1 hs
   have hle4 := invs_half n (l ++ [(j : Int)]) (by omega) (by omega)
   rw [List.length_append, List.length_singleton] at hlen2
   have hne : ((lastWn n (l ++ [(j : Int)])).1 == b) = false := by
    rw [hb, lastWn_yes hlad hs, List.length_append, List.length_singleton]
    simp only
    rw [wrap_in (by omega) (by omega), wrap_in (by omega) (by omega), Int.tmod_eq_emod_of_nonneg (by omega), Int.tmod_eq_emod_of_nonneg (by omega)]
    rw [Bool.eq_false_iff]
    intro e
    simp only [beq_iff_eq] at e
    rw [Bool.eq_iff_iff] at e
    simp only [beq_iff_eq] at e
    omega
   rw [hne]
   rw [lastWn_yes hlad hs]
   simp only [if_true, Bool.false_eq_true, if_false]
   exact ih ())
 exact key 0 () (Nat.zero_le _)
theorem la_j4 {c : List Int} (hc : Bytes c) : Ev (fun k => laws_FnPlacesAndLasts.j4 k c) true := by
 refine Ev.succ ?_
 simp only [laws_FnPlacesAndLasts.j4]
 obtain ⟨⟨a, l⟩, hd, _⟩ := drawLast_got hc
 refine Ev.bind hd ?_
 refine Ev.bind (LastMoves_vals a l).2 (Ev.bind (LastMoves_vals a l).1 (Ev.bind (LastWins_vals a l).2 (Ev.bind (LastWins_vals a l).1 ?_)))
 simp only [bne_self_eq_false, Bool.false_eq_true, if_false]
 obtain ⟨r, _, hr, hr2⟩ := LastMoves_both a l
 obtain rfl := Ev.uniq hr (LastMoves_vals a l).2
 refine Ev.bind (nSame_refl _ (by omega)) ?_
 simp only [if_true]
 by_cases h : isLadderB a l = true ∧ lastingB a.toNat l = true
 ·have hl := (isLadderB_iff a l).1 h.1
  obtain ⟨n, rfl⟩ : ∃ n : Nat, a = n := ⟨a.toNat, by omega⟩
  have h2 : lastingB n l = true := h.2
  have e1 : lastMv (n : Int) l = (movesTo l (n - 1), true) := by unfold lastMv; rw [if_pos h]; rfl
  have e2 := lastWn_yes h.1 h2
  have e3 : (lastWn (n : Int) l).2 = true := by rw [e2]
  rw [e1, e3]
  simp only [bne_self_eq_false, Bool.false_eq_true, if_false, if_true]
  refine Ev.bind (IsLeast_ev n l h.1) ?_
  simp only [h2, if_true]
  refine Ev.ite (fun hz => ?_) (fun _ => la_l2 n l h.1 h2 _ rfl)
  have hz' : movesTo l (n - 1) = [] := List.eq_nil_of_length_eq_zero (by omega)
  have hi := no_moves n (by omega) l hl.2.2.2 hz'
  have hlen := (lasting_iff n l).1 h2
  have hN := halfOf_eq n (by omega) (by omega)
  have h5 : ((n * n : Nat) : Int) = (n : Int) * n := by push_cast; rfl
  have hf : (lastWn (n : Int) l).1 = false := by
   rw [e2]
   have : halfOf n - (l.length : Int) = 0 := by omega
   simp only [this]
   decide +kernel
  refine Ev.iteb (fun ht => ?_) (fun _ => la_l2 n l h.1 h2 _ rfl)
  rw [hf] at ht; cases ht
 ·have e1 : lastMv a l = ([], false) := by unfold lastMv; rw [if_neg h]
  have e2 : lastWn a l = (false, false) := by unfold lastWn; rw [if_neg h]
  rw [e1, e2]
  simp only [bne_self_eq_false, Bool.false_eq_true, if_false]
  exact Ev.now _
theorem FnPlacesAndLasts : ∀ (l0 : List Int) (l1 : List Int), l0.length ≤ maxLen → (∀ x ∈ l0, (Lit.int .u8 x).wf = true) → l1.length ≤ maxLen → (∀ x ∈ l1, (Lit.int .u8 x).wf = true) → ∃ k, laws_FnPlacesAndLasts.f k l0 l1 = some true := by
 intro code more h0 b0 h1 b1
 refine Ev.rounds ?_
 obtain ⟨t, ht, hsm⟩ := big_ev code more h0 h1
 cases t with
 | true =>
  unfold laws_FnPlacesAndLasts.f
  rw [ht]
  simp only [Option.bind_some, if_true]
  exact Ev.now _
 | false =>
  obtain ⟨s0, s1⟩ := hsm rfl
  obtain ⟨⟨a, w, g, m⟩, hd⟩ := drawPlace_one ⟨s0, bytes_of b0⟩
  exact pl_law (la_j4 ⟨s1, bytes_of b1⟩) code more ht hd
end Go.Proofs.Ytkejpggjmjlfpaa.Q
