/- The pure statement of FnBricksAndLevels: levels are counted as sums of the two counts before, brick ladders have bricks as levels, and depths of all orders are counted. Conditions: none beyond the law's own. -/
import Derived.Test.YtpgbfkgmmkchnaaGreatE
import Derived.Test.YtpgbfkgmmkchnaaGreatB1
import Derived.Test.YtpgbfkgmmkchnaaGreatB3
import Derived.Test.YtpgbfkgmmkchnaaGreatB4
import Derived.Test.YtpgbfkgmmkchnaaGreatB2
namespace Go.Proofs.YtpgbfkgmmkchnaaGreat.Q
open Go.RowKit Go.Proofs.YtpgbfkgmmkchnaaGreat.B Go.Proofs.YtpgbfkgmmkchnaaGreatW.PrintWords Go.Proofs.YtpgbfkgmmkchnaaGreatW.PrintLast Go.Proofs.YtpgbfkgmmkchnaaGreatW.PrintMore
set_option linter.unusedVariables false
set_option linter.unusedSimpArgs false
theorem wrap_succ {i : Int} {n : Nat} (h0 : 0 ≤ i) (h : i < (n : Int)) (hn : n ≤ 9223372036854775807) : wrap64 (i + 1) = i + 1 := by
 unfold wrap64; omega
theorem wrap_in {i : Int} (h0 : -9223372036854775808 ≤ i) (h : i ≤ 9223372036854775807) : wrap64 i = i := by
 unfold wrap64; omega
theorem rd_nat (l : List Int) (j : Nat) (hj : j < l.length) : rd l (j : Int) = l[j] := by
 unfold rd; simp [hj]
theorem Ev.succ {α : Type} {g : Nat → Option α} {r : α} (h : Ev (fun k => g (k + 1)) r) : Ev g r := Ev.step (f := fun k => g (k + 1)) (fun _ => rfl) h
theorem Ev.ret {α : Type} {g : Nat → Option α} {r : α} (h : ∀ k, g k = some r) : Ev g r := ⟨0, fun k _ => h k⟩
theorem Ev.eq {α : Type} {g : Nat → Option α} {r r' : α} (h : Ev g r) (e : r = r') : Ev g r' := e ▸ h
theorem Ev.iteb {α : Type} {b : Bool} {f g : Nat → Option α} {r : α} (h1 : b = true → Ev f r) (h2 : b = false → Ev g r) : Ev (fun k => if b = true then f k else g k) r := by
 cases b with
 | true => simpa using h1 rfl
 | false => simpa using h2 rfl
theorem Ev.ite {α : Type} {p : Prop} [Decidable p] {f g : Nat → Option α} {r : α} (h1 : p → Ev f r) (h2 : ¬ p → Ev g r) : Ev (fun k => if p then f k else g k) r := by
 by_cases h : p
 ·simpa [h] using h1 h
 ·simpa [h] using h2 h
/-- A loop over the places j, j+1, .., n: its state s, what it answers from a place and a state on. -/
theorem Ev.upto {σ ρ : Type} {L : Nat → Nat → σ → Option ρ} {R : Nat → σ → ρ} {n : Nat} (hend : ∀ s, Ev (fun k => L k n s) (R n s)) (hstep : ∀ j s, j < n → (∀ s', Ev (fun k => L k (j + 1) s') (R (j + 1) s')) → Ev (fun k => L k j s) (R j s)) :
  ∀ j s, j ≤ n → Ev (fun k => L k j s) (R j s) := by
 intro j s hj
 obtain ⟨d, hd⟩ : ∃ d, d = n - j := ⟨_, rfl⟩
 induction d generalizing j s with
 | zero =>
  obtain rfl : j = n := by omega
  exact hend s
 | succ d ih => exact hstep j s (by omega) (fun s' => ih (j + 1) s' (by omega) (by omega))
theorem wrap_nat (j n : Nat) (h : j < n) (hn : n ≤ 9223372036854775807) : wrap64 ((j : Int) + 1) = ((j + 1 : Nat) : Int) := by
 unfold wrap64; omega
theorem nat_toNat (j : Nat) : ((j : Int)).toNat = j := rfl
theorem take_snoc {α : Type} (l : List α) (j : Nat) (h : j < l.length) : l.take (j + 1) = l.take j ++ [l[j]] := List.take_succ_eq_append_getElem h
theorem Ev.inv {σ ρ : Type} {L : Nat → Nat → σ → Option ρ} {Inv : Nat → σ → Prop} {r : ρ} {n : Nat} (hend : ∀ s, Inv n s → Ev (fun k => L k n s) r) (hstep : ∀ j s, j < n → Inv j s → (∀ s', Inv (j + 1) s' → Ev (fun k => L k (j + 1) s') r) → Ev (fun k => L k j s) r) :
  ∀ j s, j ≤ n → Inv j s → Ev (fun k => L k j s) r := by
 intro j s hj hi
 obtain ⟨d, hd⟩ : ∃ d, d = n - j := ⟨_, rfl⟩
 induction d generalizing j s with
 | zero =>
  obtain rfl : j = n := by omega
  exact hend s hi
 | succ d ih => exact hstep j s (by omega) hi (fun s' hs' => ih (j + 1) s' (by omega) hs' (by omega))
/-- what comes to an end comes to one end -/
theorem Ev.uniq {α : Type} {g : Nat → Option α} {a b : α} (h1 : Ev g a) (h2 : Ev g b) : a = b := by
 obtain ⟨K, h1⟩ := h1
 obtain ⟨J, h2⟩ := h2
 have e1 := h1 (max K J) (Nat.le_max_left _ _)
 rw [h2 (max K J) (Nat.le_max_right _ _)] at e1
 injection e1 with e1
 exact e1.symm
theorem big_ev (a b : List Int) (ha : a.length ≤ maxLen) (hb : b.length ≤ maxLen) : ∃ t, laws_big.f a b = some t ∧ (t = false → a.length ≤ 1048576 ∧ b.length ≤ 1048576) := by
 unfold maxLen at ha hb
 unfold laws_big.f
 by_cases h : (a.length : Int) > 1048576
 ·rw [if_pos h]; exact ⟨true, rfl, fun e => by cases e⟩
 ·rw [if_neg h]
  refine ⟨_, rfl, fun e => ?_⟩
  have := of_decide_eq_false e
  rw [wrap_in (by omega) (by omega)] at this
  omega
theorem bytes_of {c : List Int} (h : ∀ x ∈ c, (Lit.int .u8 x).wf = true) : ∀ x ∈ c, 0 ≤ x ∧ x ≤ 255 := by
 intro x hx
 have := h x hx
 simp [Lit.wf, IntKind.min, IntKind.max, IntKind.signed, IntKind.bits] at this
 omega
theorem nSame_refl (l : List Int) (hn : l.length ≤ 9223372036854775807) : Ev (fun k => laws_nSame.f k l l) true := by
 unfold laws_nSame.f
 simp only [if_true]
 have key := Ev.upto (L := fun k j (_ : Unit) => laws_nSame.l0 k l l (l.length : Int) (j : Int)) (R := fun _ _ => true) (n := l.length)
  (fun _ => by
   refine Ev.succ (Ev.ret fun k => ?_)
   rw [laws_nSame.l0, if_neg (by omega)])
  (fun j _ hj ih => by
   refine Ev.succ ?_
   have h1 : (j : Int) < (l.length : Int) := by omega
   have h0 : (0 : Int) ≤ (j : Int) := by omega
   simp only [laws_nSame.l0, h1, h0, if_true, wrap_nat j _ hj hn]
   exact ih ())
 exact key 0 () (Nat.zero_le _)
def lva (n1 : Nat) : Nat → Nat → List (List Int)
 | 0, _ => [[]]
 | f + 1, fr => [] :: (List.range' fr (n1 - fr)).flatMap fun q => (lva n1 f (q + 2)).map ((q : Int) :: ·)
theorem lva_small : ∀ n1, n1 ≤ 7 → ∀ f, f ≤ 4 → ∀ fr, fr ≤ 9 → (lva n1 f fr).length ≤ 100 ∧ (lva n1 f fr).all (fun x => x.length ≤ 8) = true := by decide +kernel
theorem rd_rows (l : List (List Int)) (i : Nat) (hi : i < l.length) : rd_L2 l (i : Int) = l[i] := by
 unfold rd_L2; simp [hi]
theorem lvAll_l1 (n : Int) (q : Nat) (xs : List (List Int)) (hx : xs.length ≤ 100) (hs : ∀ x ∈ xs, x.length ≤ 8) (R : List (List Int)) (d : Nat) : ∀ (j : Nat) (acc : List (List Int)), j + d = xs.length → acc.length + d ≤ 100000 →
  Ev (fun k => spec_lvAll.l0 k n (acc ++ (xs.drop j).map ((q : Int) :: ·)) (wrap64 ((q : Int) + 1))) R → Ev (fun k => spec_lvAll.l1 k n acc (q : Int) xs (xs.length : Int) (j : Int)) R := by
 induction d with
 | zero =>
  intro j acc hj _ h
  refine Ev.succ ?_
  have g1 : ¬ (j : Int) < (xs.length : Int) := by omega
  simp only [spec_lvAll.l1, g1, if_false]
  rw [List.drop_eq_nil_of_le (by omega)] at h
  simpa using h
 | succ d ih =>
  intro j acc hj hl h
  refine Ev.succ ?_
  have hj2 : j < xs.length := by omega
  have g1 : (j : Int) < (xs.length : Int) := by omega
  have g2 : (0 : Int) ≤ (j : Int) := by omega
  have g3 : [(q : Int)].length + xs[j].length < 17592186044416 := by have := hs xs[j] (List.getElem_mem hj2); simp; omega
  have g4 : acc.length < 5864062014805 := by omega
  simp only [spec_lvAll.l1, g1, g2, if_true, Option.bind_some, rd_rows xs j hj2, wrap_nat j xs.length hj2 (by omega)]
  simp only [g3, g4, if_true]
  refine ih (j + 1) _ (by omega) (by simp; omega) ?_
  rw [List.drop_eq_getElem_cons hj2, List.map_cons] at h
  rw [List.append_assoc]
  exact h
theorem lvAll_ev (n : Nat) (hn1 : 2 ≤ n) (hn : n ≤ 8) (f : Nat) : ∀ (fr : Nat), f ≤ 4 → fr ≤ 9 → n - 1 ≤ fr + 2 * f → Ev (fun k => spec_lvAll.f k (n : Int) (fr : Int)) (lva (n - 1) f fr) := by
 have gn : wrap64 ((n : Int) - 1) = ((n - 1 : Nat) : Int) := by unfold wrap64; omega
 induction f with
 | zero =>
  intro fr _ _ h
  refine Ev.succ ?_
  simp only [spec_lvAll.f]
  refine Ev.succ (Ev.ret fun k => ?_)
  rw [spec_lvAll.l0, gn, if_neg (by omega)]
  rfl
 | succ f ih =>
  intro fr hf hfr h
  refine Ev.succ ?_
  simp only [spec_lvAll.f]
  have key : ∀ (d r : Nat) (acc : List (List Int)), r + d = n - 1 → fr ≤ r → acc.length + 100 * d ≤ 10000 →
    Ev (fun k => spec_lvAll.l0 k (n : Int) acc (r : Int)) (acc ++ (List.range' r d).flatMap fun q => (lva (n - 1) f (q + 2)).map ((q : Int) :: ·)) := by
   intro d
   induction d with
   | zero =>
    intro r acc hr _ _
    refine Ev.succ (Ev.ret fun k => ?_)
    rw [spec_lvAll.l0, gn, if_neg (by omega)]; simp
   | succ d ihd =>
    intro r acc hr hle hl
    refine Ev.succ ?_
    have g1 : (r : Int) < ((n - 1 : Nat) : Int) := by omega
    have g2 : wrap64 ((r : Int) + 2) = ((r + 2 : Nat) : Int) := by unfold wrap64; omega
    simp only [spec_lvAll.l0, gn, g1, if_true, g2]
    refine Ev.bind (ih (r + 2) (by omega) (by omega) (by omega)) ?_
    have sm := lva_small (n - 1) (by omega) f (by omega) (r + 2) (by omega)
    refine lvAll_l1 (n : Int) r _ sm.1 (fun x hx => by simpa using List.all_eq_true.1 sm.2 x hx) _ (lva (n - 1) f (r + 2)).length 0 acc (by omega) (by omega) ?_
    rw [wrap_nat r n (by omega) (by omega), List.drop_zero]
    refine Ev.eq (ihd (r + 1) (acc ++ (lva (n - 1) f (r + 2)).map ((r : Int) :: ·)) (by omega) (by omega) (by rw [List.length_append, List.length_map]; omega)) ?_
    simp [List.range'_succ]
  by_cases c : fr ≤ n - 1
  ·refine Ev.eq (key (n - 1 - fr) fr [[]] (by omega) (by omega) (by simp; omega)) ?_
   simp [lva]
  ·refine Ev.succ (Ev.ret fun k => ?_)
   rw [spec_lvAll.l0, gn, if_neg (by omega)]
   have e : n - 1 - fr = 0 := by omega
   simp [lva, e]
theorem lvl_lva (n1 : Nat) (f : Nat) : ∀ (fr : Nat) (done : List Int), lvl n1 f fr done = (lva n1 f fr).map (done ++ ·) := by
 induction f with
 | zero => intro fr done; simp [lvl, lva]
 | succ f ih =>
  intro fr done
  simp only [lvl, lva, List.map_cons, List.append_nil, List.map_flatMap, ih, List.map_map]
  congr 1
  refine congrArg (fun g => List.flatMap g _) ?_
  funext q
  refine List.map_congr_left fun x _ => ?_
  simp
theorem lva_same : ∀ n1, n1 ≤ 7 → lva n1 8 0 = lva n1 4 0 := by decide +kernel
theorem AllLevels_list (n : Nat) (hn : n ≤ 8) : lvl (n - 1) 8 0 [] = lva (n - 1) 4 0 := by
 rw [lvl_lva, ← lva_same (n - 1) (by omega)]; simp
theorem wrap_pred {i : Int} {n : Nat} (h0 : 0 < i) (h : i < (n : Int)) (hn : n ≤ 140737488351232) : wrap64 (i - 1) = i - 1 := by
 unfold wrap64; omega
theorem in_between (a b c : Int) : spec_l1In.f a b c = impl_between.f a b c := rfl

theorem good_eq : ∀ (k : Nat) (n : Int) (l r : List Int) (m i : Int), spec_lvGood.l0 k n l r m i = impl_isLevel.l0 k n l r m i
 | 0, _, _, _, _, _ => rfl
 | k + 1, n, l, r, m, i => by
  simp only [spec_lvGood.l0, impl_isLevel.l0, in_between, good_eq k]

theorem between_some (a b c : Int) : ∃ r, impl_between.f a b c = some r := by
 unfold impl_between.f; split <;> exact ⟨_, rfl⟩

theorem isLevel_l0 (n : Int) (l : List Int) (hn : l.length ≤ 140737488351232) (d : Nat) : ∀ (k : Nat) (i : Int), 0 ≤ i → i ≤ l.length → (l.length : Int) - i = d → d < k →
  ∃ r, impl_isLevel.l0 k n l l (l.length : Int) i = some r := by
 induction d with
 | zero =>
  intro k i h0 h1 hd hk
  obtain ⟨k, rfl⟩ : ∃ m, k = m + 1 := ⟨k - 1, by omega⟩
  simp only [impl_isLevel.l0]; rw [if_neg (by omega)]; exact ⟨_, rfl⟩
 | succ d ih =>
  intro k i h0 h1 hd hk
  obtain ⟨k, rfl⟩ : ∃ m, k = m + 1 := ⟨k - 1, by omega⟩
  obtain ⟨b, hb⟩ := between_some (rd l i) 0 (wrap64 (n - 2))
  obtain ⟨r, hr⟩ := ih k (i + 1) (by omega) (by omega) (by omega) (by omega)
  have hw := wrap_succ (n := l.length) h0 (show i < (l.length : Int) by omega) (by omega)
  simp only [impl_isLevel.l0]
  rw [if_pos (by omega), if_pos (by omega), if_pos (by omega), hb, hw, hr]
  simp only [Option.bind_some]
  cases b with
  | false => exact ⟨_, rfl⟩
  | true =>
   simp only [if_true]
   by_cases h : 0 < i
   ·rw [if_pos h, wrap_pred (n := l.length) h (by omega) hn, if_pos (by omega), if_pos (by omega)]
    split <;> exact ⟨_, rfl⟩
   ·rw [if_neg h]; exact ⟨_, rfl⟩
theorem l1In_f (a b c : Int) : spec_l1In.f a b c = some (inB a b c) := by
 unfold spec_l1In.f inB
 split
 ·rename_i h; simp [h]
 ·rename_i h; simp; omega
theorem inB_iff (a b c : Int) : inB a b c = true ↔ b ≤ a ∧ a ≤ c := by unfold inB; simp
theorem l1All_ev (l : List Int) (lo hi : Int) (hn : l.length ≤ 9223372036854775807) : Ev (fun k => spec_l1All.f k l lo hi) (l.all fun x => inB x lo hi) := by
 have key := Ev.upto (L := fun k j (_ : Unit) => spec_l1All.l0 k lo hi l (l.length : Int) (j : Int)) (R := fun j _ => (l.drop j).all fun x => inB x lo hi) (n := l.length)
  (fun _ => by
   refine Ev.succ (Ev.ret fun k => ?_)
   rw [spec_l1All.l0, if_neg (by omega)]; simp)
  (fun j _ hj ih => by
   refine Ev.succ ?_
   have h1 : (j : Int) < (l.length : Int) := by omega
   have h0 : (0 : Int) ≤ (j : Int) := by omega
   simp only [spec_l1All.l0, h1, h0, if_true, l1In_f, rd_nat l j hj, Option.bind_some, wrap_nat j _ hj hn]
   rw [List.drop_eq_getElem_cons hj, List.all_cons]
   refine Ev.iteb (fun h => ?_) (fun h => ?_)
   ·rw [h, Bool.true_and]; exact ih ()
   ·rw [h, Bool.false_and]; exact Ev.now _)
 have := key 0 () (Nat.zero_le _)
 rw [List.drop_zero] at this
 exact this
theorem laGood_ev (a : Int) (l : List Int) : Ev (fun k => spec_laGood.f k a l) (isLadderB a l) := by
 unfold spec_laGood.f isLadderB
 simp only [l1In_f, Option.bind_some]
 refine Ev.iteb (fun h => ?_) (fun h => ?_)
 ·rw [h, Bool.true_and]
  refine Ev.ite (fun h2 => ?_) (fun h2 => ?_)
  ·have h3 : decide (l.length ≤ 60) = true := by simp; omega
   rw [h3, Bool.true_and]
   refine Ev.bind (l1All_ev l 0 _ (by omega)) ?_
   refine Ev.eq (Ev.now _) ?_
   rw [List.all_eq_not_any_not]
  ·have h3 : decide (l.length ≤ 60) = false := by simp; omega
   rw [h3, Bool.false_and]; exact Ev.now _
 ·rw [h, Bool.false_and]; exact Ev.now _
theorem isLadderB_iff (a : Int) (l : List Int) : isLadderB a l = true ↔ 2 ≤ a ∧ a ≤ 8 ∧ l.length ≤ 60 ∧ ∀ r ∈ l, 0 ≤ r ∧ r ≤ a - 2 := by
 unfold isLadderB
 by_cases h : 2 ≤ a ∧ a ≤ 8
 ·have e : wrap64 (a - 2) = a - 2 := wrap_in (by omega) (by omega)
  rw [e]
  simp [inB, h.1, h.2]
 ·constructor
  ·intro h2; simp [inB] at h2; exact absurd h2.1 h
  ·intro h2; exact absurd ⟨h2.1, h2.2.1⟩ h
def ifLadder (a : Int) (l : List Int) : Int × List Int × Bool := if isLadderB a l = true then (a, l, true) else (0, [], false)
theorem checked_f (a : Int) (l : List Int) : impl_checked.f a l = some (ifLadder a l) := by
 unfold impl_checked.f impl_isLadder.f ifLadder
 simp only [Option.bind_some]
 cases isLadderB a l <;> rfl
theorem ifLadder_length (a : Int) (l : List Int) : (ifLadder a l).2.1.length ≤ 60 := by
 unfold ifLadder
 by_cases h : isLadderB a l = true
 ·rw [if_pos h]; exact ((isLadderB_iff a l).1 h).2.2.1
 ·rw [if_neg h]; exact Nat.zero_le _
theorem laIf_ev (a : Int) (l : List Int) : Ev (fun k => spec_laIf.f k a l) (ifLadder a l) := by
 unfold spec_laIf.f ifLadder
 refine Ev.bind (laGood_ev a l) ?_
 refine Ev.iteb (fun h => ?_) (fun h => ?_)
 ·rw [h]; exact Ev.now _
 ·rw [h]; exact Ev.now _
def lvB (a : Int) (x : List Int) : Bool := (impl_isLevel.f (x.length + 2) a x).getD false
theorem isLevel_ev (a : Int) (x : List Int) (h : x.length ≤ 1048576) : Ev (fun k => impl_isLevel.f k a x) (lvB a x) := by
 obtain ⟨r, hr⟩ := isLevel_l0 a x (by omega) x.length (x.length + 2) 0 (by omega) (by omega) (by omega) (by omega)
 have e : impl_isLevel.f (x.length + 2) a x = some r := hr
 have e2 : lvB a x = r := by unfold lvB; rw [e]; rfl
 rw [e2]
 exact Ev.of (fun k => impl_isLevel.mono _ _ k) e
theorem lvGood_ev (a : Int) (x : List Int) (h : x.length ≤ 1048576) : Ev (fun k => spec_lvGood.f k a x) (lvB a x) := by
 refine Ev.congr (fun k => ?_) (isLevel_ev a x h)
 exact good_eq k a x x _ 0
def lolZ : Int × List Int × Bool := (0, [], false)
theorem levAll_ev (a : Int) : ∀ (l : List (List Int)), (∀ x ∈ l, x.length ≤ 1048576) → Ev (fun k => levAll k a l) (l.any (fun x => !(lvB a x)))
 | [], _ => Ev.now _
 | x :: l, h => by
  refine Ev.bind (isLevel_ev a x (h x (by simp))) ?_
  refine Ev.bind (levAll_ev a l (fun y hy => h y (by simp [hy]))) ?_
  exact Ev.now _
theorem row_le_flat {l : List (List Int)} {x : List Int} (h : x ∈ l) : x.length ≤ l.flatten.length := by
 induction l with
 | nil => cases h
 | cons y l ih =>
  rw [List.flatten_cons, List.length_append]
  rcases List.mem_cons.mp h with rfl | h
  ·omega
  ·have := ih h; omega
theorem lol_go (a : Int) (l : List (List Int)) (hT : l.flatten.length ≤ 1048576) (hn : l.length ≤ 1048576) : ∀ (d j : Nat), j + d = l.length →
  Ev (fun k => spec_LadderOfLevels.l0 k a l (l.length : Int) (j : Int) a (l.take j).flatten) (if (l.drop j).any (fun x => !(lvB a x)) = true then lolZ else ifLadder a l.flatten)
 | 0, j, h => by
  obtain rfl : j = l.length := by omega
  refine Ev.succ ?_
  simp only [spec_LadderOfLevels.l0]
  rw [List.drop_length, List.take_length]
  simp only [List.any_nil, Bool.false_eq_true, if_false, Int.lt_irrefl]
  refine Ev.bind (laIf_ev a _) ?_
  exact Ev.now _
 | d + 1, j, h => by
  have hj : j < l.length := by omega
  have hx : l[j].length ≤ 1048576 := Nat.le_trans (row_le_flat (List.getElem_mem hj)) hT
  have hf := flat_le hj
  have ih := lol_go a l hT hn d (j + 1) (by omega)
  refine Ev.succ ?_
  simp only [spec_LadderOfLevels.l0]
  simp only [if_pos (show (j : Int) < (l.length : Int) by omega), if_pos (show 0 ≤ (j : Int) by omega), rd_rows l j hj]
  refine Ev.bind (lvGood_ev a _ hx) ?_
  rw [List.drop_eq_getElem_cons hj, List.any_cons]
  cases hb : lvB a l[j] with
  | false =>
   simp only [Bool.not_false, Bool.true_or, if_true, Bool.false_eq_true, if_false]
   exact Ev.now _
  | true =>
   simp only [if_true, Bool.not_true, Bool.false_or, if_pos (show (l.take j).flatten.length + l[j].length < 17592186044416 by omega), wrap_nat j l.length hj (by omega), flat_next hj]
   exact ih
theorem lol_both (a : Int) (l : List (List Int)) (hT : l.flatten.length ≤ 1048576) (hn : l.length ≤ 1048576) : ∃ r, Ev (fun k => spec_LadderOfLevels.f k a l) r ∧ Ev (fun k => impl_LadderOfLevels.f k a l) r ∧ r.2.1.length ≤ 60 ∧ (r.2.2 = true → r = (a, l.flatten, true) ∧ isLadderB a l.flatten = true ∧ ∀ x, x ∈ l → lvB a x = true) := by
 obtain ⟨b, hb⟩ := between_some a 2 8
 have hb' : spec_l1In.f a 2 8 = some b := hb
 unfold spec_LadderOfLevels.f impl_LadderOfLevels.f spec_lvWires.f impl_isWires.f
 simp only [hb, hb', Option.bind_some]
 cases b with
 | false =>
  simp only [Bool.false_eq_true, if_false]
  refine ⟨lolZ, Ev.succ ?_, Ev.now _, by simp [lolZ], by simp [lolZ]⟩
  simp only [spec_LadderOfLevels.j0, if_true]
  exact Ev.now _
 | true =>
  simp only [if_true]
  by_cases h : 60 < l.length
  ·have e : decide ((l.length : Int) > 60) = true := decide_eq_true (by omega)
   rw [e]
   refine ⟨lolZ, Ev.succ ?_, ?_, by simp [lolZ], by simp [lolZ]⟩
   ·simp only [spec_LadderOfLevels.j0, if_true]
    exact Ev.now _
   ·simp only [h, if_true]; exact Ev.now _
  ·have e : decide ((l.length : Int) > 60) = false := decide_eq_false (by omega)
   rw [e]
   have hg := lol_go a l hT hn l.length 0 (by omega)
   have ha := levAll_ev a l (fun x hx => Nat.le_trans (row_le_flat hx) hT)
   rw [List.drop_zero] at hg
   refine ⟨if (l.any (fun x => !(lvB a x))) = true then lolZ else ifLadder a l.flatten, Ev.succ ?_, ?_, ?_, ?_⟩
   ·simp only [spec_LadderOfLevels.j0, Bool.false_eq_true, if_false]
    exact hg
   ·simp only [h, if_false]
    refine Ev.bind ha ?_
    cases l.any (fun x => !(lvB a x)) with
    | true => simp only [if_true]; exact Ev.now _
    | false =>
     simp only [Bool.false_eq_true, if_false]
     simp only [if_pos (show l.flatten.length ≤ 10000000 by omega), checked_f]
     exact Ev.now _
   ·cases l.any (fun x => !(lvB a x)) with
    | true => simp [lolZ]
    | false => simp only [Bool.false_eq_true, if_false]; exact ifLadder_length a _
   ·cases hany : l.any (fun x => !(lvB a x)) with
    | true => simp [lolZ]
    | false =>
     simp only [Bool.false_eq_true, if_false]
     intro h2
     have h3 : isLadderB a l.flatten = true := by
      unfold ifLadder at h2
      by_cases h4 : isLadderB a l.flatten = true
      ·exact h4
      ·rw [if_neg h4] at h2; cases h2
     refine ⟨by unfold ifLadder; rw [if_pos h3], h3, fun x hx => ?_⟩
     rw [List.any_eq_false] at hany
     have := hany x hx
     simpa using this
def putL : List Int → Int → List Int
 | [], y => [y]
 | x :: l, y => if x < y then x :: putL l y else y :: x :: l
def isoL (l : List Int) : List Int := l.foldl putL []
def Inc (l : List Int) : Prop := l.Pairwise (· < ·)
theorem putL_of {P Q : List Int} {y : Int} (hP : ∀ x ∈ P, x < y) (hQ : ∀ x ∈ Q, y < x) : putL (P ++ Q) y = P ++ y :: Q := by
 induction P with
 | nil =>
  cases Q with
  | nil => rfl
  | cons q Q => have := hQ q (by simp); rw [List.nil_append, putL, if_neg (by omega)]; rfl
 | cons p P ih =>
  rw [List.cons_append, putL, if_pos (hP p (by simp)), ih (fun x hx => hP x (by simp [hx]))]; rfl
theorem split_at {l : List Int} {y : Int} (h : Inc l) (hy : y ∉ l) : ∃ P Q, l = P ++ Q ∧ (∀ x ∈ P, x < y) ∧ ∀ x ∈ Q, y < x := by
 induction l with
 | nil => exact ⟨[], [], rfl, by simp, by simp⟩
 | cons a l ih =>
  unfold Inc at h
  rw [List.pairwise_cons] at h
  by_cases hay : a < y
  ·obtain ⟨P, Q, e, hP, hQ⟩ := ih h.2 (fun hm => hy (by simp [hm]))
   refine ⟨a :: P, Q, by rw [e]; rfl, fun x hx => ?_, hQ⟩
   rcases List.mem_cons.1 hx with rfl | hx
   ·exact hay
   ·exact hP x hx
  ·have hne : y ≠ a := fun e => hy (by simp [e])
   refine ⟨[], a :: l, rfl, by simp, fun x hx => ?_⟩
   rcases List.mem_cons.1 hx with rfl | hx
   ·omega
   ·have := h.1 x hx; omega
theorem inc_mid {P Q : List Int} {y : Int} (h : Inc (P ++ Q)) (hP : ∀ x ∈ P, x < y) (hQ : ∀ x ∈ Q, y < x) : Inc (P ++ y :: Q) := by
 unfold Inc at h ⊢
 rw [List.pairwise_append] at h ⊢
 refine ⟨h.1, List.pairwise_cons.2 ⟨hQ, h.2.1⟩, fun a ha b hb => ?_⟩
 rcases List.mem_cons.1 hb with rfl | hb
 ·exact hP a ha
 ·exact h.2.2 a ha b hb
theorem putL_inc {l : List Int} {y : Int} (h : Inc l) (hy : y ∉ l) : Inc (putL l y) := by
 obtain ⟨P, Q, rfl, hP, hQ⟩ := split_at h hy
 rw [putL_of hP hQ]
 exact inc_mid h hP hQ
theorem mem_putL (l : List Int) (y x : Int) : x ∈ putL l y ↔ x = y ∨ x ∈ l := by
 induction l with
 | nil => simp [putL]
 | cons a l ih =>
  rw [putL]
  split
  ·rw [List.mem_cons, ih, List.mem_cons]
   constructor
   ·rintro (h | h | h)
    ·exact .inr (.inl h)
    ·exact .inl h
    ·exact .inr (.inr h)
   ·rintro (h | h | h)
    ·exact .inr (.inl h)
    ·exact .inl h
    ·exact .inr (.inr h)
  ·rw [List.mem_cons]
theorem putL_length (l : List Int) (y : Int) : (putL l y).length = l.length + 1 := by
 induction l with
 | nil => rfl
 | cons a l ih => rw [putL]; split <;> simp [ih]
theorem isoL_snoc (l : List Int) (y : Int) : isoL (l ++ [y]) = putL (isoL l) y := by simp [isoL]
theorem isoL_spec : ∀ (n : Nat) (l : List Int), l.length = n → (∀ x, x ∈ isoL l ↔ x ∈ l) ∧ (isoL l).length = l.length ∧ (l.Nodup → Inc (isoL l)) := by
 intro n
 induction n with
 | zero =>
  intro l hl
  obtain rfl : l = [] := List.length_eq_zero_iff.1 hl
  exact ⟨fun x => by simp [isoL], rfl, fun _ => List.Pairwise.nil⟩
 | succ n ih =>
  intro l hl
  obtain ⟨l', y, rfl⟩ : ∃ l' y, l = l' ++ [y] := ⟨l.dropLast, l.getLast (by intro e; rw [e] at hl; cases hl), (List.dropLast_concat_getLast _).symm⟩
  have hl' : l'.length = n := by simpa using hl
  obtain ⟨i1, i2, i3⟩ := ih l' hl'
  rw [isoL_snoc]
  refine ⟨fun x => ?_, ?_, fun hnd => ?_⟩
  ·rw [mem_putL, i1, List.mem_append, List.mem_singleton]
   exact or_comm
  ·rw [putL_length, i2]; simp
  ·rw [List.nodup_append] at hnd
   refine putL_inc (i3 hnd.1) (fun hm => ?_)
   rw [i1] at hm
   exact hnd.2.2 y hm y (by simp) rfl
theorem inc_len : ∀ (l : List Int) (a : Int) (m : Nat), Inc l → (∀ x ∈ l, a ≤ x ∧ x < a + m) → l.length ≤ m := by
 intro l
 induction l with
 | nil => intro a m _ _; exact Nat.zero_le _
 | cons x l ih =>
  intro a m h hb
  unfold Inc at h
  rw [List.pairwise_cons] at h
  have hx := hb x (by simp)
  obtain ⟨m', rfl⟩ : ∃ m', m = m' + 1 := ⟨m - 1, by omega⟩
  have := ih (a + 1) m' h.2 (fun z hz => by
   have h1 := h.1 z hz
   have h2 := hb z (by simp [hz])
   omega)
  rw [List.length_cons]; omega
theorem rdn (l : List Int) (j : Nat) (hj : j < l.length) : rd l (j : Int) = l[j] := rd_nat l j hj
theorem less_f (a b : Int) : cmp_Less_int.f a b = some (decide (a < b)) := by
 unfold cmp_Less_int.f cmp_isNaN_int.f
 simp
theorem swap_two (P T : List Int) (z y : Int) : ((P ++ z :: y :: T).set (P.length + 1) z).set P.length y = P ++ y :: z :: T := by
 rw [List.set_append_right _ _ (by omega), show P.length + 1 - P.length = 1 by omega]
 rw [List.set_append_right _ _ (by omega), Nat.sub_self]
 rfl
theorem ins_inner {L : List Int} {i : Nat} (hL : L.length ≤ 12) (hi : i < L.length) (hinc : Inc (isoL (L.take i))) (hy : L[i] ∉ isoL (L.take i)) (hnext : Ev (fun k => slices_insertionSortOrdered_int.l0 k (isoL (L.take (i + 1)) ++ L.drop (i + 1)) 0 (L.length : Int) ((i + 1 : Nat) : Int)) (isoL L)) :
  ∀ (d : Nat) (P Q : List Int), P.length = d → isoL (L.take i) = P ++ Q → (∀ x ∈ Q, L[i] < x) → Ev (fun k => slices_insertionSortOrdered_int.l1 k (P ++ L[i] :: (Q ++ L.drop (i + 1))) 0 (L.length : Int) (i : Int) (d : Int)) (isoL L) := by
 have hil : (isoL (L.take i)).length = i := by rw [(isoL_spec _ _ rfl).2.1, List.length_take]; omega
 have htk : isoL (L.take (i + 1)) = putL (isoL (L.take i)) L[i] := by rw [← isoL_snoc, List.take_succ_eq_append_getElem hi]
 have done : ∀ (P Q : List Int), isoL (L.take i) = P ++ Q → (∀ x ∈ P, x < L[i]) → (∀ x ∈ Q, L[i] < x) → Ev (fun k => slices_insertionSortOrdered_int.l0 k (P ++ L[i] :: (Q ++ L.drop (i + 1))) 0 (L.length : Int) (wrap64 ((i : Int) + 1))) (isoL L) := by
  intro P Q e hP hQ
  rw [wrap_nat i 100 (by omega) (by omega)]
  have e2 : P ++ L[i] :: (Q ++ L.drop (i + 1)) = isoL (L.take (i + 1)) ++ L.drop (i + 1) := by rw [htk, e, putL_of hP hQ]; simp
  rw [e2]
  exact hnext
 intro d
 induction d with
 | zero =>
  intro P Q hP e hQ
  obtain rfl : P = [] := List.length_eq_zero_iff.1 hP
  refine Ev.succ ?_
  have g0 : ¬ (((0 : Nat) : Int) > 0) := by omega
  simp only [slices_insertionSortOrdered_int.l1, g0, if_false]
  exact done [] Q e (by simp) hQ
 | succ d ih =>
  intro P Q hP e hQ
  obtain ⟨P', z, rfl⟩ : ∃ P' z, P = P' ++ [z] := ⟨P.dropLast, P.getLast (by intro e; rw [e] at hP; cases hP), (List.dropLast_concat_getLast _).symm⟩
  have hP' : P'.length = d := by simpa using hP
  refine Ev.succ ?_
  have hdl : d ≤ 12 := by rw [e] at hil; simp at hil; omega
  generalize hTT : Q ++ L.drop (i + 1) = T
  have hlen : (P' ++ [z] ++ L[i] :: T).length = d + 1 + 1 + T.length := by simp; omega
  have g0 : (((d + 1 : Nat) : Int) > 0) := by omega
  have g1 : (0 : Int) ≤ ((d + 1 : Nat) : Int) := by omega
  have g2 : ((d + 1 : Nat) : Int) < ((P' ++ [z] ++ L[i] :: T).length : Int) := by rw [hlen]; omega
  have g3 : wrap64 (((d + 1 : Nat) : Int) - 1) = (d : Int) := by rw [wrap_in (by omega) (by omega)]; omega
  have g4 : (0 : Int) ≤ (d : Int) := by omega
  have g5 : (d : Int) < ((P' ++ [z] ++ L[i] :: T).length : Int) := by rw [hlen]; omega
  have r1 : rd (P' ++ [z] ++ L[i] :: T) ((d + 1 : Nat) : Int) = L[i] := by
   rw [rdn _ _ (by rw [hlen]; omega), List.getElem_append_right (by simp; omega)]; simp [hP']
  have r2 : rd (P' ++ [z] ++ L[i] :: T) (d : Int) = z := by
   rw [rdn _ _ (by rw [hlen]; omega), List.getElem_append_left (by simp; omega), List.getElem_append_right (by omega)]; simp
  simp only [slices_insertionSortOrdered_int.l1, g0, g1, g2, g3, g4, g5, if_true, r1, r2, less_f, Option.bind_some, decide_eq_true_eq, Int.toNat_natCast]
  refine Ev.ite (fun hlt => ?_) (fun hlt => ?_)
  ·have e3 : ((P' ++ [z] ++ L[i] :: T).set (d + 1) z).set d L[i] = P' ++ L[i] :: ((z :: Q) ++ L.drop (i + 1)) := by
    rw [List.append_assoc, List.cons_append, List.nil_append, ← hP', swap_two, ← hTT]; rfl
   rw [e3]
   refine ih P' (z :: Q) hP' (by rw [e]; simp) (fun x hx => ?_)
   rcases List.mem_cons.1 hx with rfl | hx
   ·exact hlt
   ·exact hQ x hx
  ·have hz : z ≠ L[i] := fun e2 => hy (by rw [e, ← e2]; simp)
   rw [← hTT]
   refine done (P' ++ [z]) Q e (fun x hx => ?_) hQ
   rw [e] at hinc
   unfold Inc at hinc
   rw [List.pairwise_append] at hinc
   have hp := hinc.1
   rw [List.pairwise_append] at hp
   rcases List.mem_append.1 hx with hx | hx
   ·have := hp.2.2 x hx z (by simp); omega
   ·rw [List.mem_singleton.1 hx]; omega
theorem nodup_take {L : List Int} (h : L.Nodup) (i : Nat) (hi : i < L.length) : L[i] ∉ isoL (L.take i) := by
 rw [(isoL_spec _ _ rfl).1]
 intro hm
 obtain ⟨j, hj, e⟩ := List.getElem_of_mem hm
 rw [List.length_take] at hj
 rw [List.getElem_take] at e
 exact (List.pairwise_iff_getElem.1 h) j i (by omega) hi (by omega) e
theorem sort_ev {L : List Int} (hL : L.length ≤ 12) (hnd : L.Nodup) : Ev (fun k => slices_Sort_int_int.f k L) (isoL L) := by
 unfold slices_Sort_int_int.f slices_insertionSortOrdered_int.f
 simp only [hL, if_true]
 have key : ∀ (d i : Nat), i + d = L.length → Ev (fun k => slices_insertionSortOrdered_int.l0 k (isoL (L.take i) ++ L.drop i) 0 (L.length : Int) (i : Int)) (isoL L) := by
  intro d
  induction d with
  | zero =>
   intro i hi
   refine Ev.succ (Ev.ret fun k => ?_)
   rw [slices_insertionSortOrdered_int.l0, if_neg (by omega), List.take_of_length_le (by omega), List.drop_eq_nil_of_le (by omega), List.append_nil]
  | succ d ih =>
   intro i hi
   have hlt : i < L.length := by omega
   refine Ev.succ ?_
   have g1 : (i : Int) < (L.length : Int) := by omega
   simp only [slices_insertionSortOrdered_int.l0, g1, if_true]
   have hil : (isoL (L.take i)).length = i := by rw [(isoL_spec _ _ rfl).2.1, List.length_take]; omega
   have h2 := ins_inner hL hlt ((isoL_spec _ _ rfl).2.2 (hnd.sublist (List.take_sublist _ _))) (nodup_take hnd i hlt) (ih (i + 1) (by omega)) i (isoL (L.take i)) [] hil (by simp) (by simp)
   rw [List.drop_eq_getElem_cons hlt]
   exact h2
 have e1 : wrap64 (0 + 1) = ((1 : Nat) : Int) := wrap_nat 0 10 (by omega) (by omega)
 rw [e1]
 cases L with
 | nil =>
  refine Ev.succ (Ev.ret fun k => ?_)
  rw [slices_insertionSortOrdered_int.l0, if_neg (by simp)]; rfl
 | cons a L =>
  have := key L.length 1 (by simp; omega)
  simpa [isoL, putL] using this
def top (p : List Int → Bool) (out : List (List Int)) : Nat → Nat
 | 0 => 0
 | t + 1 => if p (out.getD t []) = true then t + 1 else top p out t
def IsTop (p : List Int → Bool) (out : List (List Int)) (T t : Nat) : Prop := t ≤ T ∧ (t = 0 ∨ p (out.getD (t - 1) []) = true) ∧ ∀ j, t ≤ j → j < T → p (out.getD j []) = false
theorem top_is (p : List Int → Bool) (out : List (List Int)) : ∀ T, IsTop p out T (top p out T)
 | 0 => ⟨Nat.le_refl _, .inl rfl, fun j _ h => by omega⟩
 | T + 1 => by
  rw [top]
  cases h : p (out.getD T []) with
  | true => rw [if_pos rfl]; exact ⟨Nat.le_refl _, .inr (by simpa using h), fun j h1 h2 => by omega⟩
  | false =>
   rw [if_neg (by simp)]
   obtain ⟨h1, h2, h3⟩ := top_is p out T
   refine ⟨by omega, h2, fun j hj1 hj2 => ?_⟩
   by_cases e : j = T
   ·rw [e]; exact h
   ·exact h3 j hj1 (by omega)
theorem IsTop.uniq {p : List Int → Bool} {out : List (List Int)} {T s t : Nat} (h1 : IsTop p out T s) (h2 : IsTop p out T t) : s = t := by
 obtain ⟨a1, a2, a3⟩ := h1
 obtain ⟨b1, b2, b3⟩ := h2
 rcases Nat.lt_trichotomy s t with h | h | h
 ·rcases b2 with b2 | b2
  ·omega
  ·rw [a3 (t - 1) (by omega) (by omega)] at b2; cases b2
 ·exact h
 ·rcases a2 with a2 | a2
  ·omega
  ·rw [b3 (s - 1) (by omega) (by omega)] at a2; cases a2
theorem lvAt_top (out : List (List Int)) (y : Int) : ∀ T, lvAt out y T = top (fun l => l.any (fun o => !(apartV o y))) out T
 | 0 => rfl
 | T + 1 => by rw [lvAt, top, lvAt_top out y T]
def touch (c o : Int) : Bool := decide (o = c) || decide (o + 1 = c)
theorem apart_touch {o y : Int} (h1 : 0 ≤ o ∧ o ≤ 100) (h2 : 0 ≤ y ∧ y ≤ 100) : (!(apartV o y)) = (touch y o || touch (y + 1) o) := by
 unfold apartV touch
 rw [wrap_in (by omega) (by omega), wrap_in (by omega) (by omega)]
 by_cases h : 2 ≤ o - y ∨ 2 ≤ y - o
 ·have e1 : ¬ o = y := by omega
  have e2 : ¬ o + 1 = y := by omega
  have e3 : ¬ o = y + 1 := by omega
  have e4 : ¬ o + 1 = y + 1 := by omega
  simp only [e1, e2, e3, e4, decide_false, Bool.or_self, Bool.not_eq_false', Bool.or_eq_true, decide_eq_true_eq]
  exact h
 ·have e1 : ¬ 2 ≤ o - y := by omega
  have e2 : ¬ 2 ≤ y - o := by omega
  simp only [e1, e2, decide_false, Bool.or_self, Bool.not_false]
  symm
  simp only [Bool.or_eq_true, decide_eq_true_eq]
  omega
/-- what is kept of the levels: their rungs are in range and apart -/
def LevOk (n : Nat) (out : List (List Int)) : Prop := ∀ l ∈ out, (∀ o ∈ l, 0 ≤ o ∧ o ≤ (n : Int) - 2) ∧ l.Nodup
theorem LevOk.at {n : Nat} {out : List (List Int)} (h : LevOk n out) (t : Nat) : (∀ o ∈ out.getD t [], 0 ≤ o ∧ o ≤ (n : Int) - 2) ∧ (out.getD t []).Nodup := by
 rw [List.getD_eq_getElem?_getD]
 cases hx : out[t]? with
 | none => exact ⟨by simp, List.Pairwise.nil⟩
 | some x => exact h x (List.mem_of_getElem? hx)
theorem LevOk.len {n : Nat} {l : List Int} (hn : n ≤ 8) (h : (∀ o ∈ l, 0 ≤ o ∧ o ≤ (n : Int) - 2) ∧ l.Nodup) : l.length ≤ 8 := by
 have hs := isoL_spec _ l rfl
 rw [← hs.2.1]
 exact inc_len _ 0 8 (hs.2.2 h.2) (fun x hx => by have := h.1 x ((hs.1 x).1 hx); omega)
theorem top_touch {n : Nat} {out : List (List Int)} (hn : n ≤ 8) (h : LevOk n out) {y : Int} (hy : 0 ≤ y ∧ y ≤ (n : Int) - 2) : ∀ T, lvAt out y T = top (fun l => l.any (touch y) || l.any (touch (y + 1))) out T := by
 intro T
 rw [lvAt_top]
 induction T with
 | zero => rfl
 | succ T ih =>
  rw [top, top, ih]
  have hat := (h.at T).1
  have e : (out.getD T []).any (fun o => !(apartV o y)) = ((out.getD T []).any (touch y) || (out.getD T []).any (touch (y + 1))) := by
   generalize out.getD T [] = l at hat
   induction l with
   | nil => rfl
   | cons o l ih2 =>
    rw [List.any_cons, List.any_cons, List.any_cons, ih2 (fun x hx => hat x (by simp [hx])), apart_touch (by have := hat o (by simp); omega) (by omega)]
    cases touch y o <;> cases touch (y + 1) o <;> cases l.any (touch y) <;> cases l.any (touch (y + 1)) <;> rfl
  rw [e]
theorem lvPut_getD {out : List (List Int)} {y : Int} (j : Nat) : (lvPut out y).getD j [] = if j = lvAt out y out.length then out.getD j [] ++ [y] else out.getD j [] := by
 have hle := lvAt_le out y out.length
 unfold lvPut
 generalize lvAt out y out.length = t at hle
 by_cases ht : t = out.length
 ·rw [if_pos ht]
  by_cases hj : j = t
  ·rw [if_pos hj, hj, ht]
   simp [List.getD_eq_getElem?_getD]
  ·rw [if_neg hj, List.getD_eq_getElem?_getD, List.getD_eq_getElem?_getD]
   by_cases hl : j < out.length
   ·rw [List.getElem?_append_left hl]
   ·rw [List.getElem?_eq_none (by simp; omega), List.getElem?_eq_none (by omega)]
 ·rw [if_neg ht]
  by_cases hj : j = t
  ·rw [if_pos hj, hj, List.getD_eq_getElem?_getD, List.getElem?_set_self (by omega)]; rfl
  ·rw [if_neg hj, List.getD_eq_getElem?_getD, List.getElem?_set_ne (by omega), List.getD_eq_getElem?_getD]
theorem lvPut_length (out : List (List Int)) (y : Int) : (lvPut out y).length = if lvAt out y out.length = out.length then out.length + 1 else out.length := by
 unfold lvPut
 split <;> simp
theorem lvPut_free {n : Nat} {out : List (List Int)} (hn : n ≤ 8) (h : LevOk n out) {y : Int} (hy : 0 ≤ y ∧ y ≤ (n : Int) - 2) : LevOk n (lvPut out y) := by
 have ht := (top_is (fun l => l.any (touch y) || l.any (touch (y + 1))) out out.length)
 rw [← top_touch hn h hy] at ht
 have hle := lvAt_le out y out.length
 have hX := h.at (lvAt out y out.length)
 have hnot : y ∉ out.getD (lvAt out y out.length) [] := by
  intro hm
  by_cases hl : lvAt out y out.length < out.length
  ·have h3 := ht.2.2 _ (Nat.le_refl _) hl
   rw [Bool.or_eq_false_iff] at h3
   have h4 := List.any_eq_false.1 h3.1 y hm
   simp [touch] at h4
  ·rw [List.getD_eq_getElem?_getD, List.getElem?_eq_none (by omega)] at hm
   simp at hm
 intro l hl
 obtain ⟨j, hj, rfl⟩ := List.getElem_of_mem hl
 have e := lvPut_getD (out := out) (y := y) j
 rw [List.getD_eq_getElem?_getD, List.getElem?_eq_getElem hj, Option.getD_some] at e
 rw [e]
 split
 ·rename_i hjt
  rw [hjt]
  refine ⟨fun o ho => ?_, ?_⟩
  ·rcases List.mem_append.1 ho with ho | ho
   ·exact hX.1 o ho
   ·rw [List.mem_singleton.1 ho]; exact hy
  ·rw [List.nodup_append]
   refine ⟨hX.2, by simp, fun a ha b hb => ?_⟩
   rw [List.mem_singleton.1 hb]
   exact fun e2 => hnot (e2 ▸ ha)
 ·exact h.at j
/-- the wires' free levels -/
def FreeOk (n : Nat) (out : List (List Int)) (free : List Int) : Prop := free.length = n ∧ ∀ c : Nat, c < n → free.getD c 0 = ((top (fun l => l.any (touch (c : Int))) out out.length : Nat) : Int)
theorem getD_setL (l : List Int) (i j : Nat) (x : Int) (h : i < l.length) : (l.set i x).getD j 0 = if j = i then x else l.getD j 0 := by
 rw [List.getD_eq_getElem?_getD, List.getD_eq_getElem?_getD]
 by_cases e : j = i
 ·rw [if_pos e, e, List.getElem?_set_self h]; rfl
 ·rw [if_neg e, List.getElem?_set_ne (by omega)]
theorem FreeOk.put {n : Nat} {out : List (List Int)} {free : List Int} (hn : n ≤ 8) (hlev : LevOk n out) (h : FreeOk n out free) {y : Nat} (hy : (0 : Int) ≤ (y : Int) ∧ (y : Int) ≤ (n : Int) - 2) :
  FreeOk n (lvPut out (y : Int)) ((free.set y (((lvAt out (y : Int) out.length : Nat) : Int) + 1)).set (y + 1) (((lvAt out (y : Int) out.length : Nat) : Int) + 1)) := by
 obtain ⟨h1, h2⟩ := h
 refine ⟨by simp [h1], fun c hc => ?_⟩
 rw [getD_setL _ _ _ _ (by simp [h1]; omega), getD_setL _ _ _ _ (by omega)]
 have ht := (top_is (fun l => l.any (touch (y : Int)) || l.any (touch ((y : Int) + 1))) out out.length)
 rw [← top_touch hn hlev hy] at ht
 have hle := lvAt_le out (y : Int) out.length
 have hlen := lvPut_length out (y : Int)
 have hget := fun j => lvPut_getD (out := out) (y := (y : Int)) j
 have hc0 := h2 c hc
 generalize lvPut out (y : Int) = out2 at hlen hget ⊢
 generalize lvAt out (y : Int) out.length = t at ht hle hlen hget ⊢
 have hlt2 : t < out2.length := by rw [hlen]; split <;> omega
 have hge : out.length ≤ out2.length := by rw [hlen]; split <;> omega
 have hle2 : out2.length ≤ out.length + 1 := by rw [hlen]; split <;> omega
 by_cases hcy : c = y ∨ c = y + 1
 ·have e : top (fun l => l.any (touch (c : Int))) out2 out2.length = t + 1 := by
   refine (top_is _ _ _).uniq ⟨by omega, .inr ?_, fun j h3 h4 => ?_⟩
   ·show (out2.getD (t + 1 - 1) []).any (touch (c : Int)) = true
    rw [Nat.add_sub_cancel, hget t, if_pos rfl, List.any_append]
    have : touch (c : Int) (y : Int) = true := by unfold touch; rcases hcy with rfl | rfl <;> simp
    simp [this]
   ·show (out2.getD j []).any (touch (c : Int)) = false
    rw [hget j, if_neg (by omega)]
    by_cases hl : j < out.length
    ·have h5 := ht.2.2 j (by omega) hl
     rw [Bool.or_eq_false_iff] at h5
     rcases hcy with rfl | rfl
     ·exact h5.1
     ·exact h5.2
    ·rw [List.getD_eq_getElem?_getD, List.getElem?_eq_none (by omega)]; rfl
  rw [e]
  rcases hcy with rfl | rfl
  ·rw [if_neg (by omega), if_pos rfl]; rfl
  ·rw [if_pos rfl]; rfl
 ·rw [if_neg (by omega), if_neg (by omega), hc0]
  congr 1
  have ho := top_is (fun l => l.any (touch (c : Int))) out out.length
  symm
  refine (top_is _ _ _).uniq ?_
  have hny : touch (c : Int) (y : Int) = false := by unfold touch; simp; omega
  have hsame : ∀ j, (out2.getD j []).any (touch (c : Int)) = (out.getD j []).any (touch (c : Int)) := by
   intro j
   rw [hget j]
   split
   ·rw [List.any_append]; simp [hny]
   ·rfl
  refine ⟨by have := ho.1; omega, ?_, fun j h3 h4 => ?_⟩
  ·rcases ho.2.1 with h5 | h5
   ·exact .inl h5
   ·exact .inr ((hsame _).trans h5)
  ·show (out2.getD j []).any (touch (c : Int)) = false
   rw [hsame]
   by_cases hl : j < out.length
   ·exact ho.2.2 j h3 hl
   ·rw [List.getD_eq_getElem?_getD, List.getElem?_eq_none (by omega)]; rfl
theorem lvPuts_ok {n : Nat} (hn : n ≤ 8) : ∀ (xs : List Int) (out : List (List Int)), (∀ x ∈ xs, 0 ≤ x ∧ x ≤ (n : Int) - 2) → LevOk n out → LevOk n (lvPuts out xs) ∧ (lvPuts out xs).length ≤ out.length + xs.length := by
 intro xs
 induction xs with
 | nil => intro out _ h; exact ⟨h, Nat.le_refl _⟩
 | cons x xs ih =>
  intro out hx h
  obtain ⟨h1, h2⟩ := ih (lvPut out x) (fun z hz => hx z (by simp [hz])) (lvPut_free hn h (hx x (by simp)))
  refine ⟨h1, ?_⟩
  have h3 := lvPut_length out x
  have h4 : (lvPut out x).length ≤ out.length + 1 := by rw [h3]; split <;> omega
  rw [show lvPuts out (x :: xs) = lvPuts (lvPut out x) xs from rfl, List.length_cons]
  omega
theorem sortAll_ev {n : Nat} (hn : n ≤ 8) : ∀ (out : List (List Int)), LevOk n out → Ev (fun k => sortAll k out) (out.map isoL) := by
 intro out
 induction out with
 | nil => intro _; exact Ev.now _
 | cons x out ih =>
  intro h
  have hx := h x (by simp)
  have hl := LevOk.len hn hx
  refine Ev.bind (sort_ev (by omega) hx.2) ?_
  exact Ev.bind (ih (fun z hz => h z (by simp [hz]))) (Ev.now _)
/-- the numbers at a place and the next one exchanged -/
def swp (p : List Int) (r : Int) : List Int := (p.set r.toNat (rd p (r + 1))).set (r + 1).toNat (rd p r)
def topL (p : List Int) (l : List Int) : List Int := l.foldl swp p
theorem swp_length (p : List Int) (r : Int) : (swp p r).length = p.length := by simp [swp]
theorem topL_length (l : List Int) : ∀ p, (topL p l).length = p.length := by
 induction l with
 | nil => intro p; rfl
 | cons r l ih => intro p; show (topL (swp p r) l).length = _; rw [ih, swp_length]
def okRungs (n : Nat) (l : List Int) : Prop := ∀ r ∈ l, 0 ≤ r ∧ r + 1 < (n : Int)
theorem topL_take (p l : List Int) (j : Nat) (h : j < l.length) : topL p (l.take (j + 1)) = swp (topL p (l.take j)) l[j] := by
 rw [take_snoc l j h]; unfold topL; rw [List.foldl_append]; rfl
def isOrd (n : Nat) (p : List Int) : Prop := p.length = n ∧ p.Nodup ∧ ∀ x, x ∈ p → 0 ≤ x ∧ x < (n : Int)
def idL (n : Nat) : List Int := (List.range n).map Int.ofNat
theorem swp_perm (p : List Int) (r : Nat) (h : r + 1 < p.length) : (swp p (r : Int)).Perm p := by
 have e1 : rd p ((r : Int) + 1) = p[r + 1] := rd_nat p (r + 1) h
 have e2 : rd p (r : Int) = p[r] := rd_nat p r (by omega)
 unfold swp
 rw [e1, e2]
 show ((p.set r p[r + 1]).set (r + 1) p[r]).Perm p
 exact List.set_set_perm (by omega) h
theorem swp_isOrd {n : Nat} {p : List Int} (hp : isOrd n p) (r : Int) (h0 : 0 ≤ r) (h1 : r + 1 < (n : Int)) : isOrd n (swp p r) := by
 obtain ⟨a, b, c⟩ := hp
 obtain ⟨m, rfl⟩ : ∃ m : Nat, r = m := ⟨r.toNat, by omega⟩
 have hm := swp_perm p m (by omega)
 exact ⟨by rw [swp_length, a], hm.nodup_iff.2 b, fun x hx => c x (hm.mem_iff.1 hx)⟩
theorem topL_isOrd {n : Nat} : ∀ (l : List Int) {p : List Int}, isOrd n p → okRungs n l → isOrd n (topL p l)
 | [], _, h, _ => h
 | r :: l, p, h, hl => by
  have := hl r (by simp)
  exact topL_isOrd l (swp_isOrd h r this.1 this.2) (fun x hx => hl x (by simp [hx]))
theorem idL_isOrd (n : Nat) : isOrd n (idL n) := by
 refine ⟨by simp [idL], ?_, fun x hx => ?_⟩
 ·unfold idL
  refine List.Pairwise.map _ (R := (· ≠ ·)) (fun a b h e => h (by injection e)) List.nodup_range
 ·unfold idL at hx
  simp at hx
  obtain ⟨a, h, rfl⟩ := hx
  omega
theorem idL_mem {n : Nat} {x : Int} (h0 : 0 ≤ x) (h1 : x < (n : Int)) : x ∈ idL n := by
 unfold idL
 rw [List.mem_map]
 exact ⟨x.toNat, List.mem_range.2 (by omega), by show ((x.toNat : Nat) : Int) = x; omega⟩
/-- what is in no list twice, and all in another, is the other one's part -/
theorem sub_part {α : Type} [DecidableEq α] : ∀ {a b : List α}, a.Nodup → (∀ x, x ∈ a → x ∈ b) → ∃ l, (a ++ l).Perm b
 | [], b, _, _ => ⟨b, List.Perm.refl _⟩
 | x :: a, b, hn, hs => by
  rw [List.nodup_cons] at hn
  obtain ⟨l, hl⟩ := sub_part (b := b.erase x) hn.2 (fun y hy => (List.mem_erase_of_ne (fun e => hn.1 (by rw [← e]; exact hy))).2 (hs y (by simp [hy])))
  exact ⟨l, (List.Perm.cons x hl).trans (List.perm_cons_erase (hs x (by simp))).symm⟩
theorem sub_le {α : Type} [DecidableEq α] {a b : List α} (hn : a.Nodup) (hs : ∀ x, x ∈ a → x ∈ b) : a.length ≤ b.length := by
 obtain ⟨l, hl⟩ := sub_part hn hs
 have := hl.length_eq
 rw [List.length_append] at this
 omega
theorem sub_perm {α : Type} [DecidableEq α] {a b : List α} (hn : a.Nodup) (hs : ∀ x, x ∈ a → x ∈ b) (hl : b.length ≤ a.length) : a.Perm b := by
 obtain ⟨l, h⟩ := sub_part hn hs
 have h1 := h.length_eq
 rw [List.length_append] at h1
 have h2 : l = [] := List.eq_nil_of_length_eq_zero (by omega)
 rw [h2, List.append_nil] at h
 exact h
theorem isOrd_perm {n : Nat} {p : List Int} (h : isOrd n p) : p.Perm (idL n) := sub_perm h.2.1 (fun x hx => idL_mem (h.2.2 x hx).1 (h.2.2 x hx).2) (by rw [h.1]; simp [idL])
theorem swp_at (pre : List Int) (x y : Int) (l : List Int) : swp (pre ++ x :: y :: l) (pre.length : Int) = pre ++ y :: x :: l := by
 have e1 : rd (pre ++ x :: y :: l) ((pre.length : Int) + 1) = y := by
  rw [show ((pre.length : Int) + 1) = ((pre.length + 1 : Nat) : Int) from rfl, rd_nat _ _ (by simp)]
  simp
 have e2 : rd (pre ++ x :: y :: l) (pre.length : Int) = x := by
  rw [rd_nat _ _ (by simp)]
  simp
 unfold swp
 rw [e1, e2]
 show ((pre ++ x :: y :: l).set pre.length y).set (pre.length + 1) x = _
 rw [List.set_append_right _ _ (Nat.le_refl _), List.set_append_right _ _ (by omega)]
 simp
/-- what holds of one order and with each order of its neighbours' exchanges holds of all -/
theorem swp_closed {n : Nat} {S : List Int → Prop} (hS : ∀ p, S p → ∀ r : Nat, r + 1 < n → S (swp p (r : Int))) {a b : List Int} (h : a.Perm b) : ∀ pre : List Int, pre.length + a.length = n → S (pre ++ a) → S (pre ++ b) := by
 induction h with
 | nil => intro pre _ h; exact h
 | cons x _ ih =>
  intro pre hl h
  have := ih (pre ++ [x]) (by simp at hl ⊢; omega) (by simpa using h)
  simpa using this
 | swap x y l =>
  intro pre hl h
  have := hS _ h pre.length (by simp at hl; omega)
  rw [swp_at] at this
  exact this
 | trans h1 _ ih1 ih2 =>
  intro pre hl h
  exact ih2 pre (by rw [← h1.length_eq]; exact hl) (ih1 pre hl h)
theorem ord_closed {n : Nat} {S : List Int → Prop} (h0 : S (idL n)) (hS : ∀ p, S p → ∀ r : Nat, r + 1 < n → S (swp p (r : Int))) {p : List Int} (hp : isOrd n p) : S p :=
 swp_closed hS (isOrd_perm hp).symm [] (by simp [idL]) h0
theorem l1Has_ev (l : List Int) (x : Int) (hn : l.length ≤ 9223372036854775807) : Ev (fun k => spec_l1Has.f k l x) (decide (x ∈ l)) := by
 have key := Ev.upto (L := fun k j (_ : Unit) => spec_l1Has.l0 k x l (l.length : Int) (j : Int)) (R := fun j _ => decide (x ∈ l.drop j)) (n := l.length)
  (fun _ => by
   refine Ev.succ (Ev.ret fun k => ?_)
   rw [spec_l1Has.l0, if_neg (by omega)]; simp)
  (fun j _ hj ih => by
   refine Ev.succ ?_
   have h1 : (j : Int) < (l.length : Int) := by omega
   have h0 : (0 : Int) ≤ (j : Int) := by omega
   simp only [spec_l1Has.l0, h1, h0, if_true, rd_nat l j hj, wrap_nat j _ hj hn]
   rw [List.drop_eq_getElem_cons hj]
   refine Ev.ite (fun h => ?_) (fun h => ?_)
   ·refine Ev.eq (Ev.now _) ?_; simp [h]
   ·refine Ev.eq (ih ()) ?_
    have h' : ¬ x = l[j] := fun e => h e.symm
    rw [decide_eq_decide, List.mem_cons]
    exact ⟨fun m => .inr m, fun m => m.resolve_left h'⟩)
 have := key 0 () (Nat.zero_le _)
 rw [List.drop_zero] at this
 exact this
theorem l1Own_f (p : List Int) (hn : p.length ≤ 1000000) : spec_l1Own.f p = some p := by
 have g1 : ([] : List Int).length + p.length < 17592186044416 := by simp; omega
 unfold spec_l1Own.f
 simp only [Option.bind_some, g1, if_true, List.nil_append]
theorem alSwap_f (p : List Int) (r : Int) (h0 : 0 ≤ r) (h1 : r + 1 < (p.length : Int)) (hn : p.length ≤ 1000000) : spec_alSwap.f p r = some (swp p r) := by
 have e : wrap64 (r + 1) = r + 1 := wrap_in (by omega) (by omega)
 have g2 : (0 : Int) ≤ r + 1 := by omega
 have g3 : r < (p.length : Int) := by omega
 unfold spec_alSwap.f swp
 simp only [l1Own_f p hn, if_true, Option.bind_some, e, g2, h1, h0, g3]
theorem lvTop_ev (p l : List Int) (hn : p.length ≤ 1000000) (hl : l.length ≤ 1000000) (h : okRungs p.length l) : Ev (fun k => spec_lvTop.f k p l) (topL p l) := by
 have key := Ev.inv (σ := List Int) (L := fun k j s => spec_lvTop.l0 k s l (l.length : Int) (j : Int)) (r := topL p l) (n := l.length)
  (Inv := fun j s => s = topL p (l.take j))
  (fun s hs => by
   subst hs
   refine Ev.succ (Ev.ret fun k => ?_)
   rw [spec_lvTop.l0, if_neg (by omega), List.take_length])
  (fun j s hj hs ih => by
   subst hs
   refine Ev.succ ?_
   have h1 : (j : Int) < (l.length : Int) := by omega
   have h0 : (0 : Int) ≤ (j : Int) := by omega
   have hr := h l[j] (List.getElem_mem hj)
   have e := alSwap_f (topL p (l.take j)) l[j] hr.1 (by rw [topL_length]; exact hr.2) (by rw [topL_length]; exact hn)
   simp only [spec_lvTop.l0, h1, h0, if_true, rd_nat l j hj, wrap_nat j _ hj (by omega), e, Option.bind_some]
   exact ih _ (topL_take p l j hj).symm)
 exact key 0 p (Nat.zero_le _) rfl
def lessN (x : Int) (l : List Int) : Nat := (l.filter fun y => decide (y < x)).length
def rankG : List Int → Nat → Nat
 | [], r => r
 | x :: l, r => rankG l (r * (l.length + 1) + lessN x l)
def rankL (p : List Int) : Nat := rankG p 0
def extL (n : Nat) (ps : List (List Int)) : List (List Int) := ps.flatMap fun p => ((List.range n).filter fun x => !decide (((x : Nat) : Int) ∈ p)).map fun x => p ++ [((x : Nat) : Int)]
def ordL (n : Nat) : Nat → List (List Int)
 | 0 => [[]]
 | j + 1 => extL n (ordL n j)
/-- all orders of so many numbers -/
def allO (n : Nat) : List (List Int) := ordL n n
theorem ordL_small : (List.range 7).all (fun n => (List.range (n + 1)).all fun j => decide ((ordL n j).length ≤ 1000) && (match ordL n j with | [] => false | p :: _ => p.length == j)) = true := by decide +kernel
theorem allO_ranks : (List.range 7).all (fun n => (allO n).map rankL == List.range (allO n).length) = true := by decide +kernel
theorem ordL_head (n j : Nat) (hn : n ≤ 6) (hj : j ≤ n) : (ordL n j).length ≤ 1000 ∧ ∃ p ps, ordL n j = p :: ps ∧ p.length = j := by
 have h := List.all_eq_true.1 (List.all_eq_true.1 ordL_small n (by simp; omega)) j (by simp; omega)
 rw [Bool.and_eq_true] at h
 refine ⟨of_decide_eq_true h.1, ?_⟩
 cases e : ordL n j with
 | nil => rw [e] at h; cases h.2
 | cons p ps => rw [e] at h; exact ⟨p, ps, rfl, by simpa using h.2⟩
theorem ordL_mem (n : Nat) : ∀ (j : Nat) (p : List Int), p ∈ ordL n j ↔ (p.length = j ∧ p.Nodup ∧ ∀ x, x ∈ p → 0 ≤ x ∧ x < (n : Int))
 | 0, p => by
  simp only [ordL, List.mem_singleton]
  constructor
  ·rintro rfl; simp
  ·rintro ⟨h, _⟩; exact List.eq_nil_of_length_eq_zero h
 | j + 1, p => by
  simp only [ordL, extL, List.mem_flatMap, List.mem_map, List.mem_filter, List.mem_range]
  constructor
  ·rintro ⟨q, hq, x, ⟨hx, hn⟩, rfl⟩
   obtain ⟨a, b, c⟩ := (ordL_mem n j q).1 hq
   have hn2 : ¬ ((x : Nat) : Int) ∈ q := by simpa using hn
   refine ⟨by simp [a], ?_, fun y hy => ?_⟩
   ·rw [List.nodup_append]
    refine ⟨b, by simp, fun y hy z hz e => ?_⟩
    rw [List.mem_singleton] at hz
    exact hn2 (by rw [← hz, ← e]; exact hy)
   ·rw [List.mem_append] at hy
    rcases hy with hy | hy
    ·exact c y hy
    ·rw [List.mem_singleton] at hy
     omega
  ·rintro ⟨a, b, c⟩
   obtain ⟨q, y, rfl⟩ : ∃ q y, p = q ++ [y] := ⟨p.dropLast, p.getLast (by intro e; rw [e] at a; cases a), (List.dropLast_concat_getLast _).symm⟩
   rw [List.nodup_append] at b
   have hy := c y (by simp)
   refine ⟨q, (ordL_mem n j q).2 ⟨by simpa using a, b.1, fun x hx => c x (by simp [hx])⟩, y.toNat, ⟨by omega, ?_⟩, ?_⟩
   ·have : ¬ y ∈ q := fun h => b.2.2 y h y (by simp) rfl
    rw [show ((y.toNat : Nat) : Int) = y by omega]
    simp [this]
   ·rw [show ((y.toNat : Nat) : Int) = y by omega]
theorem allO_mem (n : Nat) (p : List Int) : p ∈ allO n ↔ isOrd n p := ordL_mem n n p
theorem allO_rank {n : Nat} (hn : n ≤ 6) {i : Nat} (hi : i < (allO n).length) : rankL (allO n)[i] = i := by
 have h := List.all_eq_true.1 allO_ranks n (by simp; omega)
 have h2 := eq_of_beq h
 have h3 : ((allO n).map rankL)[i]? = (List.range (allO n).length)[i]? := by rw [h2]
 rw [List.getElem?_map, List.getElem?_eq_getElem hi, List.getElem?_range hi] at h3
 simpa using h3
theorem allO_at {n : Nat} (hn : n ≤ 6) {p : List Int} (hp : isOrd n p) : (allO n)[rankL p]? = some p := by
 obtain ⟨i, hi, rfl⟩ := List.getElem_of_mem ((allO_mem n p).2 hp)
 rw [allO_rank hn hi, List.getElem?_eq_getElem hi]
theorem allO_nodup {n : Nat} (hn : n ≤ 6) : (allO n).Nodup := by
 rw [List.nodup_iff_pairwise_ne, List.pairwise_iff_getElem]
 intro i j hi hj hij e
 have h1 := allO_rank hn hi
 rw [e, allO_rank hn hj] at h1
 omega
theorem rank_lt {n : Nat} (hn : n ≤ 6) {p : List Int} (hp : isOrd n p) : rankL p < (allO n).length := (List.getElem?_eq_some_iff.1 (allO_at hn hp)).1
theorem lessN_le (x : Int) (l : List Int) : lessN x l ≤ l.length := List.length_filter_le _ _
theorem lessN_cons (x y : Int) (l : List Int) : lessN x (y :: l) = (if y < x then 1 else 0) + lessN x l := by
 unfold lessN
 rw [List.filter_cons]
 by_cases h : y < x
 ·simp [h]; omega
 ·simp [h]
theorem wrap_small (m : Nat) (h : m ≤ 1000000000) : wrap64 (m : Int) = (m : Int) := by unfold wrap64; omega
theorem alRank_l1 (p : List Int) (r i : Int) (x : Int) (l : List Int) (j : Int) (n : Int) (tl : List Int) (hl : tl.length ≤ 1000) (v : Int) (d : Nat) : ∀ (q : Nat) (c : Nat), q + d = tl.length → c ≤ q → 
  Ev (fun k => spec_alRank.l0 k p (wrap64 ((wrap64 (r * (wrap64 ((p.length : Int) - i)))) + ((c + lessN x (tl.drop q) : Nat) : Int))) l n (wrap64 (j + 1))) v → Ev (fun k => spec_alRank.l1 k p r i x (c : Int) l n j tl (tl.length : Int) (q : Int)) v := by
 induction d with
 | zero =>
  intro q c hq _ h
  refine Ev.succ ?_
  have g1 : ¬ (q : Int) < (tl.length : Int) := by omega
  simp only [spec_alRank.l1, g1, if_false]
  rw [List.drop_eq_nil_of_le (by omega)] at h
  simpa [lessN] using h
 | succ d ih =>
  intro q c hq hc h
  have hql : q < tl.length := by omega
  refine Ev.succ ?_
  have g1 : (q : Int) < (tl.length : Int) := by omega
  have g2 : (0 : Int) ≤ (q : Int) := by omega
  simp only [spec_alRank.l1, g1, g2, if_true, rd_nat tl q hql, wrap_nat q tl.length hql (by omega)]
  rw [List.drop_eq_getElem_cons hql] at h
  refine Ev.ite (fun hlt => ?_) (fun hlt => ?_)
  ·rw [wrap_nat c 2000 (by omega) (by omega)]
   refine ih (q + 1) (c + 1) (by omega) (by omega) ?_
   rw [lessN_cons, if_pos hlt, ← Nat.add_assoc] at h
   exact h
  ·refine ih (q + 1) c (by omega) (by omega) ?_
   rw [lessN_cons, if_neg hlt, Nat.zero_add] at h
   exact h
theorem alRank_l0 (p : List Int) (hp : p.length ≤ 8) (d : Nat) : ∀ (i : Nat) (r : Nat), i + d = p.length → r < 9 ^ i → Ev (fun k => spec_alRank.l0 k p (r : Int) p (p.length : Int) (i : Int)) ((rankG (p.drop i) r : Nat) : Int) := by
 induction d with
 | zero =>
  intro i r hi _
  refine Ev.succ (Ev.ret fun k => ?_)
  rw [spec_alRank.l0, if_neg (by omega), List.drop_eq_nil_of_le (by omega)]
  rfl
 | succ d ih =>
  intro i r hi hr
  have hil : i < p.length := by omega
  refine Ev.succ ?_
  have g1 : (i : Int) < (p.length : Int) := by omega
  have g2 : (0 : Int) ≤ (i : Int) := by omega
  have g3 : (0 : Int) ≤ ((i + 1 : Nat) : Int) := by omega
  have g4 : ((i + 1 : Nat) : Int) ≤ (p.length : Int) := by omega
  simp only [spec_alRank.l0, g1, g2, if_true, wrap_nat i p.length hil (by omega), g3, g4, rd_nat p i hil]
  rw [show (((i + 1 : Nat) : Int)).toNat = i + 1 from rfl]
  have h9 : (9 : Nat) ^ i ≤ 9 ^ 8 := Nat.pow_le_pow_right (by decide) (by omega)
  rw [show (9 : Nat) ^ 8 = 43046721 by decide] at h9
  have hP : (9 : Nat) ^ (i + 1) = 9 ^ i * 9 := Nat.pow_succ ..
  obtain ⟨P, eP⟩ : ∃ P, (9 : Nat) ^ i = P := ⟨_, rfl⟩
  rw [eP] at hr h9 hP
  have hls := lessN_le p[i] (p.drop (i + 1))
  have hdl : (p.drop (i + 1)).length = p.length - (i + 1) := List.length_drop ..
  refine alRank_l1 p (r : Int) (i : Int) p[i] p (i : Int) (p.length : Int) (p.drop (i + 1)) (by omega) _ (p.drop (i + 1)).length 0 0 (by omega) (by omega) ?_
  have hmul : r * (p.length - i) ≤ r * 8 := Nat.mul_le_mul_left _ (by omega)
  have e1 : wrap64 ((p.length : Int) - (i : Int)) = ((p.length - i : Nat) : Int) := by
   rw [← wrap_small (p.length - i) (by omega)]
   congr 1
   omega
  rw [e1, List.drop_zero, Nat.zero_add, ← Int.natCast_mul, wrap_small (r * (p.length - i)) (by omega), ← Int.natCast_add, wrap_small (r * (p.length - i) + lessN p[i] (p.drop (i + 1))) (by omega), wrap_nat i p.length hil (by omega)]
  refine Ev.eq (ih (i + 1) _ (by omega) (by rw [hP]; omega)) ?_
  rw [List.drop_eq_getElem_cons hil, rankG, hdl, show p.length - (i + 1) + 1 = p.length - i by omega]
theorem alRank_ev (p : List Int) (hp : p.length ≤ 8) : Ev (fun k => spec_alRank.f k p) ((rankL p : Nat) : Int) := by
 unfold spec_alRank.f
 have := alRank_l0 p hp p.length 0 0 (by omega) (by simp)
 rw [List.drop_zero] at this
 exact this
theorem alOrders_l2 (n : Nat) (hn : n ≤ 6) (ps : List (List Int)) (i : Nat) (p : List Int) (hp : p.length ≤ 100) (v : List (List Int)) (d : Nat) : ∀ (x : Nat) (acc : List (List Int)), x + d = n → acc.length + d ≤ 100000 →
  Ev (fun k => spec_alOrders.l1 k (n : Int) (acc ++ ((List.range' x d).filter fun x => !decide (((x : Nat) : Int) ∈ p)).map fun x => p ++ [((x : Nat) : Int)]) ps (ps.length : Int) (wrap64 ((i : Int) + 1))) v → Ev (fun k => spec_alOrders.l2 k (n : Int) acc p (x : Int) ps (ps.length : Int) (i : Int)) v := by
 induction d with
 | zero =>
  intro x acc hx _ h
  refine Ev.succ ?_
  have g1 : ¬ (x : Int) < (n : Int) := by omega
  simp only [spec_alOrders.l2, g1, if_false]
  simpa using h
 | succ d ih =>
  intro x acc hx hl h
  refine Ev.succ ?_
  have g1 : (x : Int) < (n : Int) := by omega
  simp only [spec_alOrders.l2, g1, if_true, wrap_nat x n (by omega) (by omega)]
  refine Ev.bind (l1Has_ev p (x : Int) (by omega)) ?_
  rw [List.range'_succ] at h
  by_cases hm : (x : Int) ∈ p
  ·simp only [hm, decide_true, if_true]
   refine ih (x + 1) acc (by omega) (by omega) ?_
   rw [List.filter_cons_of_neg (by simp [hm])] at h
   exact h
  ·have g2 : p.length < 17592186044416 := by omega
   have g3 : acc.length < 5864062014805 := by omega
   simp only [hm, decide_false, Bool.false_eq_true, if_false, l1Own_f p (by omega), Option.bind_some, g2, g3, if_true]
   refine ih (x + 1) _ (by omega) (by simp; omega) ?_
   rw [List.filter_cons_of_pos (by simp [hm]), List.map_cons] at h
   rw [List.append_assoc]
   exact h
theorem alOrders_l1 (n : Nat) (hn : n ≤ 6) (ps : List (List Int)) (hps : ps.length ≤ 1000) (hs : ∀ p, p ∈ ps → p.length ≤ 100) (v : List (List Int)) (d : Nat) : ∀ (i : Nat) (acc : List (List Int)), i + d = ps.length → acc.length + 10 * d ≤ 90000 →
  Ev (fun k => spec_alOrders.l0 k (n : Int) (acc ++ extL n (ps.drop i))) v → Ev (fun k => spec_alOrders.l1 k (n : Int) acc ps (ps.length : Int) (i : Int)) v := by
 induction d with
 | zero =>
  intro i acc hi _ h
  refine Ev.succ ?_
  have g1 : ¬ (i : Int) < (ps.length : Int) := by omega
  simp only [spec_alOrders.l1, g1, if_false]
  rw [List.drop_eq_nil_of_le (by omega)] at h
  simpa [extL] using h
 | succ d ih =>
  intro i acc hi hl h
  have hil : i < ps.length := by omega
  refine Ev.succ ?_
  have g1 : (i : Int) < (ps.length : Int) := by omega
  have g2 : (0 : Int) ≤ (i : Int) := by omega
  simp only [spec_alOrders.l1, g1, g2, if_true, rd_rows ps i hil]
  refine alOrders_l2 n hn ps i ps[i] (hs _ (List.getElem_mem hil)) v n 0 acc (by omega) (by omega) ?_
  rw [wrap_nat i ps.length hil (by omega)]
  have hfl := List.length_filter_le (fun x : Nat => !decide (((x : Nat) : Int) ∈ ps[i])) (List.range' 0 n)
  rw [List.length_range'] at hfl
  refine ih (i + 1) _ (by omega) (by rw [List.length_append, List.length_map]; omega) ?_
  rw [List.drop_eq_getElem_cons hil] at h
  rw [List.append_assoc, ← List.range_eq_range']
  exact h
theorem alOrders_ev (n : Nat) (hn : n ≤ 6) : Ev (fun k => spec_alOrders.f k (n : Int)) (allO n) := by
 unfold spec_alOrders.f
 have key : ∀ (d j : Nat), j + d = n → Ev (fun k => spec_alOrders.l0 k (n : Int) (ordL n j)) (allO n) := by
  intro d
  induction d with
  | zero =>
   intro j hj
   obtain ⟨hl, p, ps, e, hp⟩ := ordL_head n j hn (by omega)
   refine Ev.succ (Ev.ret fun k => ?_)
   have g1 : 0 < ((ordL n j).length : Int) := by rw [e, List.length_cons]; omega
   have g2 : ¬ ((rd_L2 (ordL n j) 0).length : Int) < (n : Int) := by
    rw [e]
    show ¬ ((p.length : Nat) : Int) < _
    omega
   rw [spec_alOrders.l0, if_pos g1, if_neg g2]
   rw [show j = n by omega]
   rfl
  | succ d ih =>
   intro j hj
   obtain ⟨hl, p, ps, e, hp⟩ := ordL_head n j hn (by omega)
   refine Ev.succ ?_
   have g1 : 0 < ((ordL n j).length : Int) := by rw [e, List.length_cons]; omega
   have g2 : ((rd_L2 (ordL n j) 0).length : Int) < (n : Int) := by
    rw [e]
    show ((p.length : Nat) : Int) < _
    omega
   simp only [spec_alOrders.l0, g1, g2, if_true]
   refine alOrders_l1 n hn (ordL n j) hl (fun q hq => by have := ((ordL_mem n j q).1 hq).1; omega) _ (ordL n j).length 0 [] (by omega) (by simp; omega) ?_
   rw [List.drop_zero, List.nil_append]
   exact ih (j + 1) (by omega)
 exact key n 0 (by omega)
theorem exchanged_f (p : List Int) (r : Int) (h0 : 0 ≤ r) (h1 : r + 1 < (p.length : Int)) (hn : p.length ≤ 1000000) : impl_exchanged.f p r = some (swp p r) := by
 have e : wrap64 (r + 1) = r + 1 := wrap_in (by omega) (by omega)
 have g1 : p.length ≤ 17592186044416 := by omega
 have g2 : (0 : Int) ≤ r + 1 := by omega
 have g3 : r < (p.length : Int) := by omega
 unfold impl_exchanged.f slices_Clone_int_int.f swp
 simp only [g1, if_true, Option.bind_some, e, g2, h1, h0, g3]
theorem laid_ev (p l : List Int) (hn : p.length ≤ 1000000) (hl : l.length ≤ 1000000) (h : okRungs p.length l) : Ev (fun k => impl_laid.f k p l) (topL p l) := by
 have key := Ev.inv (σ := List Int) (L := fun k j s => impl_laid.l0 k s l (l.length : Int) (j : Int)) (r := topL p l) (n := l.length)
  (Inv := fun j s => s = topL p (l.take j))
  (fun s hs => by
   subst hs
   refine Ev.succ (Ev.ret fun k => ?_)
   rw [impl_laid.l0, if_neg (by omega), List.take_length])
  (fun j s hj hs ih => by
   subst hs
   refine Ev.succ ?_
   have h1 : (j : Int) < (l.length : Int) := by omega
   have h0 : (0 : Int) ≤ (j : Int) := by omega
   have hr := h l[j] (List.getElem_mem hj)
   have e := exchanged_f (topL p (l.take j)) l[j] hr.1 (by rw [topL_length]; exact hr.2) (by rw [topL_length]; exact hn)
   simp only [impl_laid.l0, h1, h0, if_true, rd_nat l j hj, wrap_nat j _ hj (by omega), e, Option.bind_some]
   exact ih _ (topL_take p l j hj).symm)
 exact key 0 p (Nat.zero_le _) rfl
def rowsL (n : Nat) : List (List Int) := lvl (n - 1) 8 0 []
def sIn (p : List Int) (v : Int) (ls : List (List Int)) (q : List (List Int × Int)) : List (List Int × Int) := ls.foldl (fun q l => putD (topL p l) v q) q
def sF (ls : List (List Int)) : Nat → Nat → List (List Int × Int) → List (List Int × Int)
 | 0, _, q => q
 | f + 1, i, q => match q[i]? with
  | none => q
  | some e => sF ls f (i + 1) (sIn e.1 (e.2 + 1) ls q)
/-- all orders of so many numbers in the order in which they are met, each with its depth -/
def depQ (n : Nat) : List (List Int × Int) := sF (rowsL n) 1001 0 [(idL n, 0)]
theorem rowsL_ok : (List.range 7).all (fun n => (rowsL n).all (fun l => decide (l.length ≤ 8) && l.all fun r => decide (0 ≤ r ∧ r + 1 < (n : Int))) && (List.range (n - 1)).all fun r => (rowsL n).contains [((r : Nat) : Int)]) = true := by decide +kernel
theorem allO_few : (List.range 7).all (fun n => decide ((allO n).length ≤ 1000)) = true := by decide +kernel
theorem rowsL_small : (List.range 7).all (fun n => decide ((rowsL n).length ≤ 1000)) = true := by decide +kernel
theorem rows_ok {n : Nat} (hn : n ≤ 6) {l : List Int} (hl : l ∈ rowsL n) : l.length ≤ 8 ∧ okRungs n l := by
 have h := List.all_eq_true.1 rowsL_ok n (by simp; omega)
 rw [Bool.and_eq_true] at h
 have h1 := List.all_eq_true.1 h.1 l hl
 rw [Bool.and_eq_true, List.all_eq_true] at h1
 exact ⟨of_decide_eq_true h1.1, fun r hr => of_decide_eq_true (h1.2 r hr)⟩
theorem rows_one {n : Nat} (hn : n ≤ 6) {r : Nat} (hr : r + 1 < n) : [((r : Nat) : Int)] ∈ rowsL n := by
 have h := List.all_eq_true.1 rowsL_ok n (by simp; omega)
 rw [Bool.and_eq_true] at h
 have := List.all_eq_true.1 h.2 r (by simp; omega)
 simpa using this
theorem allO_le {n : Nat} (hn : n ≤ 6) : (allO n).length ≤ 1000 := of_decide_eq_true (List.all_eq_true.1 allO_few n (by simp; omega))
structure GoodQ (n : Nat) (q : List (List Int × Int)) : Prop where
 ord : ∀ e, e ∈ q → isOrd n e.1
 nd : (q.map (·.1)).Nodup
 dep : ∀ (j : Nat) e, q[j]? = some e → 0 ≤ e.2 ∧ e.2 ≤ (j : Int)
theorem GoodQ.le {n : Nat} {q : List (List Int × Int)} (h : GoodQ n q) (hn : n ≤ 6) : q.length ≤ 1000 := by
 have := sub_le h.nd (b := allO n) (fun x hx => by
  rw [List.mem_map] at hx
  obtain ⟨e, he, rfl⟩ := hx
  exact (allO_mem n _).2 (h.ord e he))
 rw [List.length_map] at this
 exact Nat.le_trans this (allO_le hn)
theorem GoodQ.put {n : Nat} {q : List (List Int × Int)} (h : GoodQ n q) {x : List Int} {v : Int} (hx : isOrd n x) (h0 : 0 ≤ v) (h1 : v ≤ (q.length : Int)) : GoodQ n (putD x v q) := by
 unfold putD
 by_cases hm : q.any (fun e => decide (e.1 = x)) = true
 ·rw [if_pos hm]; exact h
 ·rw [if_neg hm]
  have hm2 : ∀ e, e ∈ q → e.1 ≠ x := fun e he e1 => hm (List.any_eq_true.2 ⟨e, he, decide_eq_true e1⟩)
  refine ⟨fun e he => ?_, ?_, fun j e he => ?_⟩
  ·rcases List.mem_append.1 he with he | he
   ·exact h.ord e he
   ·rw [List.mem_singleton] at he; rw [he]; exact hx
  ·rw [List.map_append, List.nodup_append]
   refine ⟨h.nd, by simp, fun a ha b hb e => ?_⟩
   rw [List.mem_map] at ha
   obtain ⟨c, hc, rfl⟩ := ha
   simp at hb
   exact hm2 c hc (by rw [e, hb])
  ·by_cases hj : j < q.length
   ·rw [List.getElem?_append_left hj] at he
    exact h.dep j e he
   ·rw [List.getElem?_append_right (by omega)] at he
    have : j - q.length = 0 := by
     have := (List.getElem?_eq_some_iff.1 he).1
     simp at this
     omega
    rw [this] at he
    simp at he
    subst he
    exact ⟨h0, by show v ≤ _; omega⟩
theorem putD_len (x : List Int) (v : Int) (q : List (List Int × Int)) : q.length ≤ (putD x v q).length := by
 unfold putD
 split
 ·exact Nat.le_refl _
 ·simp
theorem putD_keep {x : List Int} {v : Int} {q : List (List Int × Int)} {i : Nat} {e : List Int × Int} (h : q[i]? = some e) : (putD x v q)[i]? = some e := by
 unfold putD
 split
 ·exact h
 ·rw [List.getElem?_append_left (List.getElem?_eq_some_iff.1 h).1]; exact h
theorem putD_mem (x : List Int) (v : Int) (q : List (List Int × Int)) : x ∈ (putD x v q).map (·.1) := by
 unfold putD
 split
 ·rename_i h
  obtain ⟨e, he, e1⟩ := List.any_eq_true.1 h
  exact List.mem_map.2 ⟨e, he, of_decide_eq_true e1⟩
 ·simp
theorem sIn_step (n : Nat) (p : List Int) (v : Int) (hp : isOrd n p) (h0 : 0 ≤ v) : ∀ (ls : List (List Int)) (q : List (List Int × Int)), (∀ l, l ∈ ls → okRungs n l) → GoodQ n q → v ≤ (q.length : Int) →
  GoodQ n (sIn p v ls q) ∧ q.length ≤ (sIn p v ls q).length ∧ (∀ (i : Nat) (e : List Int × Int), q[i]? = some e → (sIn p v ls q)[i]? = some e) ∧ ∀ l, l ∈ ls → topL p l ∈ (sIn p v ls q).map (·.1)
 | [], q, _, hg, _ => ⟨hg, Nat.le_refl _, fun _ _ h => h, fun l hl => by cases hl⟩
 | l :: ls, q, hls, hg, hv => by
  have hl := putD_len (topL p l) v q
  obtain ⟨a, b, c, d⟩ := sIn_step n p v hp h0 ls (putD (topL p l) v q) (fun l hl => hls l (by simp [hl])) (hg.put (topL_isOrd l hp (hls l (by simp))) h0 hv) (by omega)
  refine ⟨a, Nat.le_trans hl b, fun i e h => c i e (putD_keep h), fun l' hl' => ?_⟩
  rcases List.mem_cons.1 hl' with rfl | h
  ·have := putD_mem (topL p l') v q
   rw [List.mem_map] at this
   obtain ⟨e, he, e1⟩ := this
   obtain ⟨i, hi⟩ := List.getElem?_of_mem he
   exact List.mem_map.2 ⟨e, List.mem_of_getElem? (c i e hi), e1⟩
  ·exact d l' h
theorem sF_none {ls : List (List Int)} {f i : Nat} {q : List (List Int × Int)} (h : q[i]? = none) : sF ls (f + 1) i q = q := by
 unfold sF
 rw [h]
theorem sF_some {ls : List (List Int)} {f i : Nat} {q : List (List Int × Int)} {e : List Int × Int} (h : q[i]? = some e) : sF ls (f + 1) i q = sF ls f (i + 1) (sIn e.1 (e.2 + 1) ls q) := by
 rw [sF, h]
theorem sIn_of (n : Nat) (hn : n ≤ 6) {i : Nat} {q : List (List Int × Int)} {a : List Int × Int} (h : GoodQ n q) (e : q[i]? = some a) :
  GoodQ n (sIn a.1 (a.2 + 1) (rowsL n) q) ∧ q.length ≤ (sIn a.1 (a.2 + 1) (rowsL n) q).length ∧ (∀ (i : Nat) (e : List Int × Int), q[i]? = some e → (sIn a.1 (a.2 + 1) (rowsL n) q)[i]? = some e) ∧ ∀ l, l ∈ rowsL n → topL a.1 l ∈ (sIn a.1 (a.2 + 1) (rowsL n) q).map (·.1) := by
 have hi := (List.getElem?_eq_some_iff.1 e).1
 have hd := h.dep i a e
 exact sIn_step n a.1 (a.2 + 1) (h.ord a (List.mem_of_getElem? e)) (by omega) _ q (fun l hl => (rows_ok hn hl).2) h (by omega)
theorem sF_good (n : Nat) (hn : n ≤ 6) : ∀ (f i : Nat) (q : List (List Int × Int)), GoodQ n q → GoodQ n (sF (rowsL n) f i q)
 | 0, _, _, h => h
 | f + 1, i, q, h => by
  cases e : q[i]? with
  | none => rw [sF_none e]; exact h
  | some a => rw [sF_some e]; exact sF_good n hn f (i + 1) _ (sIn_of n hn h e).1
theorem sF_keep (n : Nat) (hn : n ≤ 6) : ∀ (f i : Nat) (q : List (List Int × Int)), GoodQ n q → ∀ (j : Nat) (e : List Int × Int), q[j]? = some e → (sF (rowsL n) f i q)[j]? = some e
 | 0, _, _, _, _, _, h => h
 | f + 1, i, q, hg, j, b, h => by
  cases e : q[i]? with
  | none => rw [sF_none e]; exact h
  | some a => rw [sF_some e]; exact sF_keep n hn f (i + 1) _ (sIn_of n hn hg e).1 j b ((sIn_of n hn hg e).2.2.1 j b h)
theorem sF_closed (n : Nat) (hn : n ≤ 6) : ∀ (f i : Nat) (q : List (List Int × Int)), i + f = 1001 → GoodQ n q → (∀ (j : Nat) (e : List Int × Int), j < i → q[j]? = some e → ∀ l, l ∈ rowsL n → topL e.1 l ∈ q.map (·.1)) →
  ∀ e, e ∈ sF (rowsL n) f i q → ∀ l, l ∈ rowsL n → topL e.1 l ∈ (sF (rowsL n) f i q).map (·.1)
 | 0, i, q, hf, hg, hc => fun e he l hl2 => by
  have hl := hg.le hn
  have he' : e ∈ q := he
  obtain ⟨j, hj⟩ := List.getElem?_of_mem he'
  have := (List.getElem?_eq_some_iff.1 hj).1
  exact hc j e (by omega) hj l hl2
 | f + 1, i, q, hf, hg, hc => by
  cases e : q[i]? with
  | none =>
   rw [sF_none e]
   intro e' he l hl2
   obtain ⟨j, hj⟩ := List.getElem?_of_mem he
   have h1 := (List.getElem?_eq_some_iff.1 hj).1
   have h4 := List.getElem?_eq_none_iff.1 e
   exact hc j e' (by omega) hj l hl2
  | some a =>
   rw [sF_some e]
   obtain ⟨g1, g2, g3, g4⟩ := sIn_of n hn hg e
   refine sF_closed n hn f (i + 1) _ (by omega) g1 (fun j b hj hb l hl => ?_)
   have hil := (List.getElem?_eq_some_iff.1 e).1
   have hb2 : q[j]? = some b := by
    have h5 := g3 j q[j] (List.getElem?_eq_getElem (by omega))
    rw [hb] at h5
    rw [List.getElem?_eq_getElem (by omega)]
    exact h5.symm
   by_cases hji : j < i
   ·have := hc j b hji hb2 l hl
    rw [List.mem_map] at this
    obtain ⟨c, hc1, hc2⟩ := this
    obtain ⟨m, hm⟩ := List.getElem?_of_mem hc1
    exact List.mem_map.2 ⟨c, List.mem_of_getElem? (g3 m c hm), hc2⟩
   ·have : j = i := by omega
    subst this
    rw [e] at hb2
    injection hb2 with hb2
    subst hb2
    exact g4 l hl
theorem start_good (n : Nat) : GoodQ n [(idL n, 0)] := by
 refine ⟨fun e he => ?_, by simp, fun j e he => ?_⟩
 ·rw [List.mem_singleton] at he
  rw [he]
  exact idL_isOrd n
 ·have h1 := (List.getElem?_eq_some_iff.1 he).1
  have h2 : j = 0 := by simp at h1; omega
  subst h2
  simp at he
  subst he
  simp
theorem depQ_good (n : Nat) (hn : n ≤ 6) : GoodQ n (depQ n) := sF_good n hn _ _ _ (start_good n)
/-- every order is met -/
theorem depQ_all (n : Nat) (hn : n ≤ 6) {p : List Int} (hp : isOrd n p) : p ∈ (depQ n).map (·.1) := by
 refine ord_closed (S := fun p => p ∈ (depQ n).map (·.1)) ?_ ?_ hp
 ·exact List.mem_map.2 ⟨_, List.mem_of_getElem? (sF_keep n hn 1001 0 _ (start_good n) 0 _ rfl), rfl⟩
 ·intro q hq r hr
  rw [List.mem_map] at hq
  obtain ⟨e, he, rfl⟩ := hq
  exact sF_closed n hn 1001 0 _ (by omega) (start_good n) (fun j e hj => by omega) e he _ (rows_one hn hr)
theorem orderKey_ev (p : List Int) (hp : p.length ≤ 1000) : Ev (fun k => impl_orderKey.f k p) (keyB p) := by
 unfold impl_orderKey.f keyB
 have key := Ev.inv (σ := List Int) (L := fun k j s => impl_orderKey.l0 k s p (p.length : Int) (j : Int)) (r := strOfNums (p.map fun x => (wrap64 (48 + x)) % 256)) (n := p.length)
  (Inv := fun j s => s = (p.take j).map fun x => (wrap64 (48 + x)) % 256)
  (fun s hs => by
   subst hs
   refine Ev.succ (Ev.ret fun k => ?_)
   rw [impl_orderKey.l0, if_neg (by omega), List.take_length])
  (fun j s hj hs ih => by
   subst hs
   refine Ev.succ ?_
   have h1 : (j : Int) < (p.length : Int) := by omega
   have h0 : (0 : Int) ≤ (j : Int) := by omega
   have h3 : ((p.take j).map fun x => (wrap64 (48 + x)) % 256).length < 140737488355328 := by rw [List.length_map, List.length_take]; omega
   simp only [impl_orderKey.l0, h1, h0, h3, if_true, rd_nat p j hj, wrap_nat j _ hj (by omega)]
   refine ih _ ?_
   rw [take_snoc p j hj, List.map_append]
   rfl)
 exact key 0 [] (Nat.zero_le _) rfl
theorem isOrd_ok {n : Nat} (hn : n ≤ 6) {p : List Int} (hp : isOrd n p) : ordOk p = true := by
 unfold ordOk
 rw [Bool.and_eq_true]
 refine ⟨decide_eq_true (by have := hp.1; omega), List.all_eq_true.2 fun x hx => decide_eq_true ?_⟩
 have := hp.2.2 x hx
 omega
theorem keyOk_ev {n : Nat} (hn : n ≤ 6) {p : List Int} (hp : isOrd n p) : ∃ K, ∀ k, K ≤ k → keyOk k p = true := by
 obtain ⟨K, hK⟩ := orderKey_ev p (by have := hp.1; omega)
 refine ⟨K, fun k hk => ?_⟩
 unfold keyOk
 rw [isOrd_ok hn hp, Bool.true_and]
 exact decide_eq_true (hK k hk)
theorem all_ev {α : Type} {P : Nat → α → Prop} : ∀ (l : List α), (∀ x, x ∈ l → ∃ K, ∀ k, K ≤ k → P k x) → ∃ K, ∀ k, K ≤ k → ∀ x, x ∈ l → P k x
 | [], _ => ⟨0, fun _ _ x hx => by cases hx⟩
 | a :: l, h => by
  obtain ⟨K1, h1⟩ := h a (by simp)
  obtain ⟨K2, h2⟩ := all_ev l (fun x hx => h x (by simp [hx]))
  refine ⟨max K1 K2, fun k hk x hx => ?_⟩
  rcases List.mem_cons.1 hx with rfl | hx
  ·exact h1 k (by omega)
  ·exact h2 k (by omega) x hx
/-- rounds enough for each order and each level -/
def Ready (n k : Nat) : Prop := ∀ p, p ∈ allO n → keyOk k p = true ∧ ∀ l, l ∈ rowsL n → impl_laid.f k p l = some (topL p l)
theorem ready_ev (n : Nat) (hn : n ≤ 6) : ∃ K, ∀ k, K ≤ k → Ready n k := by
 refine all_ev (P := fun k p => keyOk k p = true ∧ ∀ l, l ∈ rowsL n → impl_laid.f k p l = some (topL p l)) (allO n) (fun p hp => ?_)
 have ho := (allO_mem n p).1 hp
 obtain ⟨K1, h1⟩ := keyOk_ev hn ho
 obtain ⟨K2, h2⟩ := all_ev (P := fun k l => impl_laid.f k p l = some (topL p l)) (rowsL n) (fun l hl => by
  have hr := rows_ok hn hl
  exact laid_ev p l (by have := ho.1; omega) (by omega) (by rw [ho.1]; exact hr.2))
 exact ⟨max K1 K2, fun k hk => ⟨h1 k (by omega), h2 k (by omega)⟩⟩
theorem depIn_f (n : Nat) (hn : n ≤ 6) (k : Nat) (hr : Ready n k) (p : List Int) (v : Int) (hp : isOrd n p) (h0 : 0 ≤ v) : ∀ (ls : List (List Int)) (q : List (List Int × Int)), (∀ l, l ∈ ls → l ∈ rowsL n) → GoodQ n q → v ≤ (q.length : Int) → depIn k p v ls q = some (sIn p v ls q)
 | [], q, _, _, _ => rfl
 | l :: ls, q, hls, hg, hv => by
  have hl := hls l (by simp)
  have hx := topL_isOrd l hp (rows_ok hn hl).2
  have e1 := (hr p ((allO_mem n p).2 hp)).2 l hl
  have e2 := (hr _ ((allO_mem n _).2 hx)).1
  have e3 := hg.le hn
  unfold depIn
  rw [e1, Option.bind_some, if_pos ⟨e2, by omega⟩]
  exact depIn_f n hn k hr p v hp h0 ls _ (fun l hl => hls l (by simp [hl])) (hg.put hx h0 hv) (by have := putD_len (topL p l) v q; omega)
theorem depL_f (n : Nat) (hn : n ≤ 6) (k : Nat) (hr : Ready n k) : ∀ (f i : Nat) (q : List (List Int × Int)) (g : Nat), i + f = 1001 → f < g → GoodQ n q → depL k (rowsL n) g i q = some (sF (rowsL n) f i q)
 | 0, i, q, g + 1, hf, _, hg => by
  have hl := hg.le hn
  unfold depL
  rw [List.getElem?_eq_none (by omega)]
  rfl
 | f + 1, i, q, g + 1, hf, hfg, hg => by
  unfold depL
  cases e : q[i]? with
  | none => rw [sF_none e]
  | some a =>
   have hl := hg.le hn
   have hi := (List.getElem?_eq_some_iff.1 e).1
   have hd := hg.dep i a e
   have ho := hg.ord a (List.mem_of_getElem? e)
   have e1 : wrap64 (a.2 + 1) = a.2 + 1 := wrap_in (by omega) (by omega)
   simp only
   rw [if_pos ⟨(hr _ ((allO_mem n _).2 ho)).1, by omega⟩, e1, depIn_f n hn k hr a.1 (a.2 + 1) ho (by omega) _ q (fun _ h => h) hg (by omega), Option.bind_some, sF_some e]
   exact depL_f n hn k hr f (i + 1) _ g (by omega) (by omega) (sIn_of n hn hg e).1
theorem identity_ev (n : Nat) (hn : n ≤ 1000) : Ev (fun k => impl_identity.f k (n : Int)) (idL n) := by
 unfold impl_identity.f
 have key := Ev.inv (σ := List Int) (L := fun k j s => impl_identity.l0 k s (n : Int) (j : Int)) (r := idL n) (n := n)
  (Inv := fun j s => s = idL j)
  (fun s hs => by
   subst hs
   refine Ev.succ (Ev.ret fun k => ?_)
   rw [impl_identity.l0, if_neg (by omega)])
  (fun j s hj hs ih => by
   subst hs
   refine Ev.succ ?_
   have h1 : (j : Int) < (n : Int) := by omega
   have h3 : (idL j).length < 17592186044416 := by simp [idL]; omega
   simp only [impl_identity.l0, h1, h3, if_true, wrap_nat j n hj (by omega)]
   refine ih _ ?_
   unfold idL
   rw [List.range_succ, List.map_append]
   rfl)
 exact key 0 [] (Nat.zero_le _) rfl
theorem depths_ev (n : Nat) (hn1 : 2 ≤ n) (hn : n ≤ 6) : Ev (fun k => impl_depths.f k (n : Int)) (depQ n) := by
 obtain ⟨K1, h1⟩ := identity_ev n (by omega)
 obtain ⟨K2, h2⟩ := ready_ev n hn
 refine ⟨max (max K1 K2) 1002, fun k hk => ?_⟩
 have e1 : impl_identity.f k (n : Int) = some (idL n) := h1 k (by omega)
 show impl_depths.f k (n : Int) = _
 unfold impl_depths.f
 rw [if_pos (by omega), e1, Option.bind_some, if_pos (h2 k (by omega) _ ((allO_mem n _).2 (idL_isOrd n))).1]
 exact depL_f n hn k (h2 k (by omega)) 1001 0 _ k (by omega) (by omega) (start_good n)
def lookF (q : List (List Int × Int)) (p : List Int) : Int := match q.find? (fun e => decide (e.1 = p)) with | some e => e.2 | none => -1
def farQ (n : Nat) (q : List (List Int × Int)) : List Int := (allO n).map (lookF q)
def rkQ (q : List (List Int × Int)) : List Int := q.map fun e => ((rankL e.1 : Nat) : Int)
theorem find_mem {n : Nat} {q : List (List Int × Int)} (hg : GoodQ n q) {e : List Int × Int} (he : e ∈ q) : q.find? (fun a => decide (a.1 = e.1)) = some e := by
 have nd := hg.nd
 clear hg
 induction q with
 | nil => cases he
 | cons a q ih =>
  rw [List.map_cons, List.nodup_cons] at nd
  rcases List.mem_cons.1 he with rfl | h
  ·rw [List.find?_cons_of_pos (by simp)]
  ·rw [List.find?_cons_of_neg, ih h nd.2]
   intro e1
   have e2 : a.1 = e.1 := of_decide_eq_true e1
   exact nd.1 (List.mem_map.2 ⟨e, h, e2.symm⟩)
theorem lookF_mem {n : Nat} {q : List (List Int × Int)} (hg : GoodQ n q) {e : List Int × Int} (he : e ∈ q) : lookF q e.1 = e.2 := by
 unfold lookF
 rw [find_mem hg he]
theorem lookF_none {q : List (List Int × Int)} {p : List Int} (h : q.any (fun e => decide (e.1 = p)) = false) : lookF q p = -1 := by
 unfold lookF
 have : q.find? (fun e => decide (e.1 = p)) = none := by
  rw [List.find?_eq_none]
  rw [List.any_eq_false] at h
  exact h
 rw [this]
theorem lookF_neg {n : Nat} {q : List (List Int × Int)} (hg : GoodQ n q) (p : List Int) : lookF q p < 0 ↔ q.any (fun e => decide (e.1 = p)) = false := by
 constructor
 ·intro h
  rw [← Bool.not_eq_true, List.any_eq_true]
  rintro ⟨e, he, e1⟩
  have e2 : e.1 = p := of_decide_eq_true e1
  rw [← e2, lookF_mem hg he] at h
  obtain ⟨j, hj⟩ := List.getElem?_of_mem he
  have := (hg.dep j e hj).1
  omega
 ·intro h
  rw [lookF_none h]
  decide
theorem far_at {n : Nat} (hn : n ≤ 6) (q : List (List Int × Int)) {p : List Int} (hp : isOrd n p) : rd (farQ n q) ((rankL p : Nat) : Int) = lookF q p := by
 unfold rd farQ
 rw [List.getD_eq_getElem?_getD, List.getElem?_map]
 show (Option.map (lookF q) (allO n)[rankL p]?).getD 0 = _
 rw [allO_at hn hp]
 rfl
theorem far_put {n : Nat} (hn : n ≤ 6) (q : List (List Int × Int)) {x : List Int} (hx : isOrd n x) (v : Int) (hm : q.any (fun e => decide (e.1 = x)) = false) : farQ n (q ++ [(x, v)]) = (farQ n q).set (rankL x) v := by
 unfold farQ
 apply List.ext_getElem (by simp)
 intro j h1 h2
 rw [List.getElem_set, List.getElem_map, List.getElem_map]
 have hj : j < (allO n).length := by simpa using h1
 by_cases e : rankL x = j
 ·rw [if_pos e]
  have h3 := allO_at hn hx
  rw [e, List.getElem?_eq_getElem hj] at h3
  injection h3 with h3
  rw [h3]
  unfold lookF
  have h4 : q.find? (fun e => decide (e.1 = x)) = none := by
   rw [List.find?_eq_none]
   rw [List.any_eq_false] at hm
   exact hm
  rw [List.find?_append, h4]
  simp
 ·rw [if_neg e]
  have h3 : (allO n)[j] ≠ x := by
   intro h3
   have := allO_rank hn hj
   rw [h3] at this
   exact e this
  unfold lookF
  rw [List.find?_append]
  cases q.find? (fun e => decide (e.1 = (allO n)[j])) with
  | some a => rfl
  | none => simp [show ¬ x = (allO n)[j] from fun e2 => h3 e2.symm]
theorem rows_lva (n : Nat) (hn : n ≤ 6) : rowsL n = lva (n - 1) 4 0 := AllLevels_list n (by omega)
theorem rowsL_le (n : Nat) (hn : n ≤ 6) : (rowsL n).length ≤ 1000 := of_decide_eq_true (List.all_eq_true.1 rowsL_small n (by simp; omega))
theorem lvFar_l2 (n : Nat) (hn : n ≤ 6) (i : Nat) (a : List Int × Int) (R : List Int) (d : Nat) : ∀ (j : Nat) (q : List (List Int × Int)), j + d = (rowsL n).length → GoodQ n q → q[i]? = some a →
  Ev (fun k => spec_lvFar.l1 k (allO n) (farQ n (sIn a.1 (a.2 + 1) ((rowsL n).drop j) q)) (rkQ (sIn a.1 (a.2 + 1) ((rowsL n).drop j) q)) (rowsL n) (wrap64 ((i : Int) + 1))) R →
  Ev (fun k => spec_lvFar.l2 k (allO n) (farQ n q) (rkQ q) (rowsL n) (i : Int) (rowsL n) ((rowsL n).length : Int) (j : Int)) R := by
 have hll := rowsL_le n hn
 induction d with
 | zero =>
  intro j q hj _ _ h
  refine Ev.succ ?_
  have g1 : ¬ (j : Int) < ((rowsL n).length : Int) := by omega
  simp only [spec_lvFar.l2, g1, if_false]
  rw [List.drop_eq_nil_of_le (by omega)] at h
  exact h
 | succ d ih =>
  intro j q hj hg ha h
  have hjl : j < (rowsL n).length := by omega
  have hl := rows_ok hn (List.getElem_mem hjl)
  have hi := (List.getElem?_eq_some_iff.1 ha).1
  have ho := hg.ord a (List.mem_of_getElem? ha)
  have hd := hg.dep i a ha
  have hq := hg.le hn
  have hx := topL_isOrd (rowsL n)[j] ho hl.2
  have hal := allO_le hn
  have hr1 := rank_lt hn ho
  have hr2 := rank_lt hn hx
  have hfl : ∀ q, (farQ n q).length = (allO n).length := fun q => by simp [farQ]
  have hrl : (rkQ q).length = q.length := by simp [rkQ]
  have hra : rd (rkQ q) (i : Int) = ((rankL a.1 : Nat) : Int) := by
   rw [rd_nat (rkQ q) i (by omega)]
   unfold rkQ
   rw [List.getElem_map]
   have : q[i] = a := by rw [List.getElem?_eq_getElem hi] at ha; injection ha
   rw [this]
  have hre : rd_L2 (allO n) ((rankL a.1 : Nat) : Int) = a.1 := by
   rw [rd_rows _ _ hr1]
   have := allO_at hn ho
   rw [List.getElem?_eq_getElem hr1] at this
   injection this
  refine Ev.succ ?_
  have g1 : (j : Int) < ((rowsL n).length : Int) := by omega
  have g2 : (0 : Int) ≤ (j : Int) := by omega
  have g3 : (0 : Int) ≤ (i : Int) := by omega
  have g4 : (i : Int) < ((rkQ q).length : Int) := by omega
  have g5 : (0 : Int) ≤ ((rankL a.1 : Nat) : Int) := by omega
  have g6 : ((rankL a.1 : Nat) : Int) < ((allO n).length : Int) := by omega
  simp only [spec_lvFar.l2, g1, g2, g3, g4, if_true, hra, g5, g6, hre, rd_rows (rowsL n) j hjl, wrap_nat j _ hjl (by omega)]
  refine Ev.bind (lvTop_ev a.1 (rowsL n)[j] (by have := ho.1; omega) (by omega) (by rw [ho.1]; exact hl.2)) ?_
  refine Ev.bind (alRank_ev _ (by have := hx.1; omega)) ?_
  have g7 : (0 : Int) ≤ ((rankL (topL a.1 (rowsL n)[j]) : Nat) : Int) := by omega
  have g8 : ((rankL (topL a.1 (rowsL n)[j]) : Nat) : Int) < ((farQ n q).length : Int) := by rw [hfl]; omega
  have g9 : ((rankL a.1 : Nat) : Int) < ((farQ n q).length : Int) := by rw [hfl]; omega
  have g10 : (rkQ q).length < 17592186044416 := by omega
  simp only [g7, g8, g9, g10, if_true, far_at hn q hx, far_at hn q ho, lookF_mem hg (List.mem_of_getElem? ha)]
  rw [List.drop_eq_getElem_cons hjl] at h
  unfold sIn at h
  rw [List.foldl_cons] at h
  have e1 : wrap64 (a.2 + 1) = a.2 + 1 := wrap_in (by omega) (by omega)
  cases hm : q.any (fun e => decide (e.1 = topL a.1 (rowsL n)[j])) with
  | false =>
   have hlt := (lookF_neg hg _).2 hm
   simp only [hlt, if_true, e1]
   have e2 : putD (topL a.1 (rowsL n)[j]) (a.2 + 1) q = q ++ [(topL a.1 (rowsL n)[j], a.2 + 1)] := by unfold putD; rw [hm]; rfl
   rw [e2] at h
   have h3 := ih (j + 1) (q ++ [(topL a.1 (rowsL n)[j], a.2 + 1)]) (by omega) (by rw [← e2]; exact hg.put hx (by omega) (by omega)) (by rw [List.getElem?_append_left hi]; exact ha) h
   rw [far_put hn q hx (a.2 + 1) hm] at h3
   have e3 : rkQ (q ++ [(topL a.1 (rowsL n)[j], a.2 + 1)]) = rkQ q ++ [((rankL (topL a.1 (rowsL n)[j]) : Nat) : Int)] := by simp [rkQ]
   rw [e3] at h3
   exact h3
  | true =>
   have hnl : ¬ lookF q (topL a.1 (rowsL n)[j]) < 0 := fun h2 => by rw [(lookF_neg hg _).1 h2] at hm; cases hm
   simp only [hnl, if_false]
   have e2 : putD (topL a.1 (rowsL n)[j]) (a.2 + 1) q = q := by unfold putD; rw [hm]; rfl
   rw [e2] at h
   exact ih (j + 1) q (by omega) hg ha h
theorem lvFar_l1 (n : Nat) (hn : n ≤ 6) : ∀ (f i : Nat) (q : List (List Int × Int)), i + f = 1001 → GoodQ n q → Ev (fun k => spec_lvFar.l1 k (allO n) (farQ n q) (rkQ q) (rowsL n) (i : Int)) (farQ n (sF (rowsL n) f i q))
 | 0, i, q, hf, hg => by
  have hl := hg.le hn
  have hrl : (rkQ q).length = q.length := by simp [rkQ]
  refine Ev.succ (Ev.ret fun k => ?_)
  rw [spec_lvFar.l1, if_neg (by omega)]
  rfl
 | f + 1, i, q, hf, hg => by
  have hl := hg.le hn
  have hrl : (rkQ q).length = q.length := by simp [rkQ]
  cases e : q[i]? with
  | none =>
   have h1 := List.getElem?_eq_none_iff.1 e
   rw [sF_none e]
   refine Ev.succ (Ev.ret fun k => ?_)
   rw [spec_lvFar.l1, if_neg (by omega)]
  | some a =>
   have hi := (List.getElem?_eq_some_iff.1 e).1
   rw [sF_some e]
   refine Ev.succ ?_
   have g1 : (i : Int) < ((rkQ q).length : Int) := by omega
   simp only [spec_lvFar.l1, g1, if_true]
   refine lvFar_l2 n hn i a _ (rowsL n).length 0 q (by omega) hg e ?_
   rw [List.drop_zero, wrap_nat i 2000 (by omega) (by omega)]
   exact lvFar_l1 n hn f (i + 1) _ (by omega) (sIn_of n hn hg e).1
theorem lvFar_l0 (n : Nat) (hn1 : 2 ≤ n) (hn : n ≤ 6) (d : Nat) : ∀ j, j + d = (allO n).length → Ev (fun k => spec_lvFar.l0 k (n : Int) (allO n) (List.replicate j (-1) ++ List.replicate d 0) ((allO n).length : Int) (j : Int)) (farQ n (depQ n)) := by
 have hal := allO_le hn
 induction d with
 | zero =>
  intro j hj
  obtain ⟨_, p, ps, ep, _⟩ := ordL_head n n hn (Nat.le_refl _)
  have ep : allO n = p :: ps := ep
  refine Ev.succ ?_
  have g1 : ¬ (j : Int) < ((allO n).length : Int) := by omega
  have g2 : 0 < ((List.replicate j (-1 : Int) ++ List.replicate 0 0).length : Int) := by
   rw [ep] at hj
   simp only [List.length_append, List.length_replicate, List.length_cons] at hj ⊢
   omega
  simp only [spec_lvFar.l0, g1, g2, if_true, if_false]
  refine Ev.bind (lvAll_ev n hn1 (by omega) 4 0 (by omega) (by omega) (by omega)) ?_
  rw [← rows_lva n hn]
  have e0 : rankL (idL n) = 0 := by
   have : (List.range 7).all (fun n => rankL (idL n) == 0) = true := by decide +kernel
   have := List.all_eq_true.1 this n (by simp; omega)
   exact eq_of_beq this
  have e1 : (List.replicate j (-1 : Int) ++ List.replicate 0 0).set (0 : Int).toNat 0 = farQ n [(idL n, 0)] := by
   have h := far_put hn [] (idL_isOrd n) 0 rfl
   rw [List.nil_append, e0] at h
   rw [h]
   have h2 : farQ n [] = List.replicate j (-1) := by
    unfold farQ
    rw [List.eq_replicate_iff]
    refine ⟨by simp; omega, fun b hb => ?_⟩
    rw [List.mem_map] at hb
    obtain ⟨x, _, rfl⟩ := hb
    rfl
   rw [h2]
   simp
  have e2 : ([0] : List Int) = rkQ [(idL n, 0)] := by simp [rkQ, e0]
  rw [e1, e2]
  exact lvFar_l1 n hn 1001 0 _ (by omega) (start_good n)
 | succ d ih =>
  intro j hj
  refine Ev.succ ?_
  have g1 : (j : Int) < ((allO n).length : Int) := by omega
  have g2 : (0 : Int) ≤ (j : Int) := by omega
  have g3 : (j : Int) < ((List.replicate j (-1 : Int) ++ List.replicate (d + 1) 0).length : Int) := by simp; omega
  simp only [spec_lvFar.l0, g1, g2, g3, if_true, wrap_nat j (allO n).length (by omega) (by omega)]
  refine Ev.congr (fun k => ?_) (ih (j + 1) (by omega))
  congr 1
  rw [show ((j : Int)).toNat = j from rfl, List.set_append_right _ _ (by simp), List.length_replicate, Nat.sub_self, List.replicate_succ, List.set_cons_zero, List.replicate_succ', List.append_assoc]
  rfl
theorem lvFar_ev (n : Nat) (hn1 : 2 ≤ n) (hn : n ≤ 6) : Ev (fun k => spec_lvFar.f k (n : Int)) (farQ n (depQ n)) := by
 unfold spec_lvFar.f
 refine Ev.bind (alOrders_ev n hn) ?_
 have hal := allO_le hn
 have g1 : (0 : Int) ≤ ((allO n).length : Int) := by omega
 have g2 : (((allO n).length : Int)).toNat ≤ 35184372088832 := by omega
 simp only [g1, g2, if_true, Option.bind_some, List.length_replicate]
 have := lvFar_l0 n hn1 hn (allO n).length 0 (by omega)
 rw [List.replicate_zero, List.nil_append] at this
 exact this
/-- the depths, in whatever order -/
theorem far_perm (n : Nat) (hn : n ≤ 6) : ((depQ n).map (·.2)).Perm (farQ n (depQ n)) := by
 have hg := depQ_good n hn
 have h1 : ((depQ n).map (·.1)).Perm (allO n) := by
  refine sub_perm hg.nd (fun x hx => ?_) ?_
  ·rw [List.mem_map] at hx
   obtain ⟨e, he, rfl⟩ := hx
   exact (allO_mem n _).2 (hg.ord e he)
  ·exact sub_le (allO_nodup hn) (fun x hx => depQ_all n hn ((allO_mem n x).1 hx))
 have h2 := h1.map (lookF (depQ n))
 have h3 : ((depQ n).map (·.1)).map (lookF (depQ n)) = (depQ n).map (·.2) := by
  rw [List.map_map]
  exact List.map_congr_left (fun e he => lookF_mem hg he)
 rw [h3] at h2
 exact h2
def MonoQ (q : List (List Int × Int)) : Prop := ∀ (i j : Nat) (a b : List Int × Int), i ≤ j → q[i]? = some a → q[j]? = some b → a.2 ≤ b.2
def ParQ (n : Nat) (q : List (List Int × Int)) : Prop := ∀ e, e ∈ q → e = (idL n, 0) ∨ ∃ a, a ∈ q ∧ ∃ l, l ∈ rowsL n ∧ e.1 = topL a.1 l ∧ e.2 = a.2 + 1
structure InvQ (n : Nat) (q : List (List Int × Int)) (v : Int) : Prop where
 good : GoodQ n q
 mono : MonoQ q
 par : ParQ n q
 le : ∀ e, e ∈ q → e.2 ≤ v
theorem InvQ.put {n : Nat} (hn : n ≤ 6) {q : List (List Int × Int)} {v : Int} (h : InvQ n q v) {a : List Int × Int} (ha : a ∈ q) (hv : a.2 + 1 = v) {l : List Int} (hl : l ∈ rowsL n) : InvQ n (putD (topL a.1 l) v q) v := by
 obtain ⟨j, hj⟩ := List.getElem?_of_mem ha
 have hd := h.good.dep j a hj
 have hjl := (List.getElem?_eq_some_iff.1 hj).1
 have hg := h.good.put (topL_isOrd l (h.good.ord a ha) (rows_ok hn hl).2) (v := v) (by omega) (by omega)
 by_cases hm : q.any (fun e => decide (e.1 = topL a.1 l)) = true
 ·have e : putD (topL a.1 l) v q = q := by unfold putD; rw [if_pos hm]
  rw [e]; exact h
 ·have e : putD (topL a.1 l) v q = q ++ [(topL a.1 l, v)] := by unfold putD; rw [if_neg hm]
  rw [e] at hg ⊢
  refine ⟨hg, fun i j x y hij hx hy => ?_, fun x hx => ?_, fun x hx => ?_⟩
  ·by_cases hjq : j < q.length
   ·rw [List.getElem?_append_left (by omega)] at hx
    rw [List.getElem?_append_left hjq] at hy
    exact h.mono i j x y hij hx hy
   ·have ey : y.2 = v := by
     have := List.mem_of_getElem? hy
     rw [List.getElem?_append_right (by omega)] at hy
     have h2 := List.mem_of_getElem? hy
     rw [List.mem_singleton] at h2
     rw [h2]
    rw [ey]
    rcases List.mem_append.1 (List.mem_of_getElem? hx) with h2 | h2
    ·exact h.le x h2
    ·rw [List.mem_singleton] at h2
     rw [h2]
     exact Int.le_refl _
  ·rcases List.mem_append.1 hx with h2 | h2
   ·rcases h.par x h2 with h3 | ⟨b, hb, l', hl', h4⟩
    ·exact .inl h3
    ·exact .inr ⟨b, by simp [hb], l', hl', h4⟩
   ·rw [List.mem_singleton] at h2
    subst h2
    exact .inr ⟨a, by simp [ha], l, hl, rfl, hv.symm⟩
  ·rcases List.mem_append.1 hx with h2 | h2
   ·exact h.le x h2
   ·rw [List.mem_singleton] at h2
    rw [h2]
    exact Int.le_refl _
theorem putD_sub {x : List Int} {v : Int} {q : List (List Int × Int)} {e : List Int × Int} (h : e ∈ q) : e ∈ putD x v q := by
 obtain ⟨i, hi⟩ := List.getElem?_of_mem h
 exact List.mem_of_getElem? (putD_keep hi)
theorem sIn_inv {n : Nat} (hn : n ≤ 6) {v : Int} {a : List Int × Int} (hv : a.2 + 1 = v) : ∀ (ls : List (List Int)) {q : List (List Int × Int)}, (∀ l, l ∈ ls → l ∈ rowsL n) → InvQ n q v → a ∈ q → InvQ n (sIn a.1 v ls q) v
 | [], _, _, h, _ => h
 | l :: ls, q, hls, h, ha => sIn_inv hn hv ls (fun l hl => hls l (by simp [hl])) (h.put hn ha hv (hls l (by simp))) (putD_sub ha)
def OptQ (n : Nat) (q : List (List Int × Int)) (e : List Int × Int) : Prop := ∀ l, l ∈ rowsL n → ∃ b, b ∈ q ∧ b.1 = topL e.1 l ∧ b.2 ≤ e.2 + 1
theorem sF_inv {n : Nat} (hn : n ≤ 6) : ∀ (f i : Nat) (q : List (List Int × Int)), i + f = 1001 → GoodQ n q → MonoQ q → ParQ n q → (∀ a, q[i]? = some a → ∀ e, e ∈ q → e.2 ≤ a.2 + 1) → (∀ (j : Nat) (e : List Int × Int), j < i → q[j]? = some e → OptQ n q e) →
  ParQ n (sF (rowsL n) f i q) ∧ MonoQ (sF (rowsL n) f i q) ∧ ∀ e, e ∈ sF (rowsL n) f i q → OptQ n (sF (rowsL n) f i q) e
 | 0, i, q, hf, hg, hm, hp, _, ho => by
  refine ⟨hp, hm, fun e he => ?_⟩
  have he' : e ∈ q := he
  obtain ⟨j, hj⟩ := List.getElem?_of_mem he'
  have h1 := (List.getElem?_eq_some_iff.1 hj).1
  have h2 := hg.le hn
  exact ho j e (by omega) hj
 | f + 1, i, q, hf, hg, hm, hp, hb, ho => by
  cases e : q[i]? with
  | none =>
   rw [sF_none e]
   refine ⟨hp, hm, fun x hx => ?_⟩
   obtain ⟨j, hj⟩ := List.getElem?_of_mem hx
   have h1 := (List.getElem?_eq_some_iff.1 hj).1
   have h4 := List.getElem?_eq_none_iff.1 e
   exact ho j x (by omega) hj
  | some a =>
   rw [sF_some e]
   have ha := List.mem_of_getElem? e
   have hi := sIn_inv hn (v := a.2 + 1) rfl (rowsL n) (fun _ h => h) ⟨hg, hm, hp, hb a e⟩ ha
   obtain ⟨g1, g2, g3, g4⟩ := sIn_of n hn hg e
   have hil := (List.getElem?_eq_some_iff.1 e).1
   have back : ∀ (j : Nat) (b : List Int × Int), j < q.length → (sIn a.1 (a.2 + 1) (rowsL n) q)[j]? = some b → q[j]? = some b := by
    intro j b hj hb2
    have h5 := g3 j q[j] (List.getElem?_eq_getElem hj)
    rw [hb2] at h5
    rw [List.getElem?_eq_getElem hj]
    exact h5.symm
   refine sF_inv hn f (i + 1) _ (by omega) hi.good hi.mono hi.par (fun b hb2 x hx => ?_) (fun j b hj hb2 l hl => ?_)
   ·have h1 := hi.le x hx
    have h2 := hi.mono i (i + 1) a b (by omega) (g3 i a e) hb2
    omega
   ·by_cases hji : j < i
    ·obtain ⟨c, hc1, hc2⟩ := ho j b hji (back j b (by omega) hb2) l hl
     obtain ⟨m, hm2⟩ := List.getElem?_of_mem hc1
     exact ⟨c, List.mem_of_getElem? (g3 m c hm2), hc2⟩
    ·have : j = i := by omega
     subst this
     have h5 := back j b (by omega) hb2
     rw [e] at h5
     injection h5 with h5
     subst h5
     have h6 := g4 l hl
     rw [List.mem_map] at h6
     obtain ⟨c, hc1, hc2⟩ := h6
     exact ⟨c, hc1, hc2, hi.le c hc1⟩
theorem depQ_inv (n : Nat) (hn : n ≤ 6) : ParQ n (depQ n) ∧ ∀ e, e ∈ depQ n → OptQ n (depQ n) e := by
 have h := sF_inv hn 1001 0 [(idL n, 0)] (by omega) (start_good n) (fun i j a b _ ha hb => by
  have h1 := List.mem_of_getElem? ha
  have h2 := List.mem_of_getElem? hb
  rw [List.mem_singleton] at h1 h2
  rw [h1, h2]
  exact Int.le_refl _) (fun e he => .inl (by rwa [List.mem_singleton] at he)) (fun a ha e he => by
  have h1 := List.mem_of_getElem? ha
  rw [List.mem_singleton] at h1 he
  rw [h1, he]
  show (0 : Int) ≤ 0 + 1
  decide) (fun j e hj => by omega)
 exact ⟨h.1, h.2.2⟩
/-- the least depth of an order -/
def dist (n : Nat) (p : List Int) : Int := lookF (depQ n) p
theorem dist_mem {n : Nat} (hn : n ≤ 6) {p : List Int} (hp : isOrd n p) : (p, dist n p) ∈ depQ n := by
 have h := depQ_all n hn hp
 rw [List.mem_map] at h
 obtain ⟨e, he, rfl⟩ := h
 unfold dist
 rw [lookF_mem (depQ_good n hn) he]
 exact he
theorem dist_of {n : Nat} (hn : n ≤ 6) {e : List Int × Int} (he : e ∈ depQ n) : dist n e.1 = e.2 := lookF_mem (depQ_good n hn) he
theorem dist_pos {n : Nat} (hn : n ≤ 6) {p : List Int} (hp : isOrd n p) : 0 ≤ dist n p := by
 obtain ⟨j, hj⟩ := List.getElem?_of_mem (dist_mem hn hp)
 exact ((depQ_good n hn).dep j _ hj).1
theorem dist_step {n : Nat} (hn : n ≤ 6) {p : List Int} (hp : isOrd n p) {l : List Int} (hl : l ∈ rowsL n) : dist n (topL p l) ≤ dist n p + 1 := by
 obtain ⟨b, hb, h1, h2⟩ := (depQ_inv n hn).2 _ (dist_mem hn hp) l hl
 rw [← show b.1 = topL p l from h1, dist_of hn hb]
 exact h2
theorem dist_back {n : Nat} (hn : n ≤ 6) {p : List Int} (hp : isOrd n p) (h : 0 < dist n p) : ∃ q, isOrd n q ∧ ∃ l, l ∈ rowsL n ∧ p = topL q l ∧ dist n p = dist n q + 1 := by
 rcases (depQ_inv n hn).1 _ (dist_mem hn hp) with h1 | ⟨a, ha, l, hl, h1, h2⟩
 ·injection h1 with h1 h2
  omega
 ·exact ⟨a.1, (depQ_good n hn).ord a ha, l, hl, h1, by rw [dist_of hn ha]; exact h2⟩
theorem dist_zero {n : Nat} (hn : n ≤ 6) {p : List Int} (hp : isOrd n p) (h : dist n p = 0) : p = idL n := by
 rcases (depQ_inv n hn).1 _ (dist_mem hn hp) with h1 | ⟨a, ha, l, hl, h1, h2⟩
 ·injection h1
 ·obtain ⟨j, hj⟩ := List.getElem?_of_mem ha
  have := ((depQ_good n hn).dep j _ hj).1
  simp only at h2
  omega
theorem dist_id {n : Nat} (hn : n ≤ 6) : dist n (idL n) = 0 := dist_of hn (List.mem_of_getElem? (sF_keep n hn 1001 0 _ (start_good n) 0 _ rfl))
def levO (n j : Nat) (p : List Int) : List Int := ((List.range n).filter fun r => decide (r % 2 = j % 2 ∧ r + 1 < n) && decide (p.getD r 0 > p.getD (r + 1) 0)).map fun r => ((r : Nat) : Int)
def netOk (n : Nat) : Nat → Nat → List Int → Bool
 | 0, _, p => p == idL n
 | m + 1, j, p => (rowsL n).contains (levO n j p) && (topL (topL p (levO n j p)) (levO n j p) == p) && netOk n m (j + 1) (topL p (levO n j p))
theorem net_all : (List.range 7).all (fun n => (allO n).all fun p => netOk n n 0 p) = true := by decide +kernel
theorem net_dist {n : Nat} (hn : n ≤ 6) : ∀ (m j : Nat) (p : List Int), isOrd n p → netOk n m j p = true → dist n p ≤ (m : Int)
 | 0, _, p, hp, h => by
  have : p = idL n := eq_of_beq h
  rw [this, dist_id hn]
  decide
 | m + 1, j, p, hp, h => by
  unfold netOk at h
  rw [Bool.and_eq_true, Bool.and_eq_true] at h
  have hl : levO n j p ∈ rowsL n := List.contains_iff_mem.1 h.1.1
  have hq := topL_isOrd _ hp (rows_ok hn hl).2
  have h1 := net_dist hn m (j + 1) _ hq h.2
  have h2 := dist_step hn hq hl
  rw [show topL (topL p (levO n j p)) (levO n j p) = p from eq_of_beq h.1.2] at h2
  omega
theorem dist_le {n : Nat} (hn : n ≤ 6) {p : List Int} (hp : isOrd n p) : dist n p ≤ (n : Int) :=
 net_dist hn n 0 p hp (List.all_eq_true.1 (List.all_eq_true.1 net_all n (by simp; omega)) p ((allO_mem n p).2 hp))
def depC (n : Nat) : List Int := (farQ n (depQ n)).foldl bump []
theorem far_in {n : Nat} (hn : n ≤ 6) {x : Int} (hx : x ∈ farQ n (depQ n)) : 0 ≤ x ∧ x ≤ 1000 := by
 have hg := depQ_good n hn
 have := (far_perm n hn).symm.mem_iff.1 hx
 rw [List.mem_map] at this
 obtain ⟨e, he, rfl⟩ := this
 obtain ⟨j, hj⟩ := List.getElem?_of_mem he
 have h1 := hg.dep j e hj
 have h2 := hg.le hn
 have h3 := (List.getElem?_eq_some_iff.1 hj).1
 omega
theorem bump_all : ∀ (l : List Int) (out : List Int), out.length ≤ 1001 → (∀ x, x ∈ l → x ≤ 1000) → (l.foldl bump out).length ≤ 1001
 | [], _, h, _ => h
 | x :: l, out, h, hl => bump_all l (bump out x) (by rw [bump_len]; have := hl x (by simp); omega) (fun y hy => hl y (by simp [hy]))
theorem CountDepths_l1 (far : List Int) (hfar : far.length ≤ 1000) (R : List Int × Bool) (j : Nat) (x : Nat) (hx : x ≤ 1000) (d : Nat) : ∀ (out : List Int), x + 1 - out.length = d → out.length ≤ 1001 →
  Ev (fun k => spec_CountDepths.l0 k (bump out (x : Int)) far (far.length : Int) (wrap64 ((j : Int) + 1))) R → Ev (fun k => spec_CountDepths.l1 k out (x : Int) far (far.length : Int) (j : Int)) R := by
 induction d with
 | zero =>
  intro out hd hl h
  refine Ev.succ ?_
  have g1 : ¬ (out.length : Int) ≤ (x : Int) := by omega
  have g2 : (0 : Int) ≤ (x : Int) := by omega
  have g3 : (x : Int) < (out.length : Int) := by omega
  simp only [spec_CountDepths.l1, g1, g2, g3, if_true, if_false]
  unfold bump at h
  rw [show (x : Int).toNat = x from rfl, hd, List.replicate_zero, List.append_nil] at h
  exact h
 | succ d ih =>
  intro out hd hl h
  refine Ev.succ ?_
  have g1 : (out.length : Int) ≤ (x : Int) := by omega
  have g2 : out.length < 17592186044416 := by omega
  simp only [spec_CountDepths.l1, g1, g2, if_true]
  refine ih (out ++ [0]) (by simp; omega) (by simp; omega) ?_
  have e : bump (out ++ [0]) (x : Int) = bump out (x : Int) := by
   unfold bump
   simp only []
   have e2 : out ++ [0] ++ List.replicate ((x : Int).toNat + 1 - (out ++ [0]).length) (0 : Int) = out ++ List.replicate ((x : Int).toNat + 1 - out.length) 0 := by
    have e3 : (x : Int).toNat + 1 - out.length = d + 1 := by show x + 1 - _ = _; omega
    have e4 : (x : Int).toNat + 1 - (out ++ [0]).length = d := by rw [List.length_append]; show x + 1 - (_ + 1) = _; omega
    rw [e3, e4, List.append_assoc]
    rfl
   rw [e2]
  rw [e]
  exact h
theorem CountDepths_l0 (far : List Int) (hfar : far.length ≤ 1000) (hx : ∀ x, x ∈ far → 0 ≤ x ∧ x ≤ 1000) : Ev (fun k => spec_CountDepths.l0 k [] far (far.length : Int) 0) (far.foldl bump [], true) := by
 have key := Ev.inv (σ := List Int) (L := fun k j s => spec_CountDepths.l0 k s far (far.length : Int) (j : Int)) (r := (far.foldl bump [], true)) (n := far.length)
  (Inv := fun j s => s = (far.take j).foldl bump [])
  (fun s hs => by
   subst hs
   refine Ev.succ (Ev.ret fun k => ?_)
   rw [spec_CountDepths.l0, if_neg (by omega), List.take_length])
  (fun j s hj hs ih => by
   subst hs
   refine Ev.succ ?_
   have h1 : (j : Int) < (far.length : Int) := by omega
   have h0 : (0 : Int) ≤ (j : Int) := by omega
   have hxj := hx far[j] (List.getElem_mem hj)
   obtain ⟨x, ex⟩ : ∃ x : Nat, far[j] = (x : Int) := ⟨far[j].toNat, by omega⟩
   simp only [spec_CountDepths.l0, h1, h0, if_true, rd_nat far j hj, ex]
   refine CountDepths_l1 far hfar _ j x (by omega) _ _ rfl (bump_all _ [] (by simp) (fun y hy => (hx y (List.mem_of_mem_take hy)).2)) ?_
   rw [wrap_nat j far.length hj (by omega)]
   refine ih _ ?_
   rw [take_snoc far j hj, List.foldl_append, ex]
   rfl)
 exact key 0 [] (Nat.zero_le _) rfl
theorem CountDepths_both (a : Int) : ∃ r : List Int × Bool, Ev (fun k => spec_CountDepths.f k a) r ∧ Ev (fun k => impl_CountDepths.f k a) r ∧ r.1.length ≤ 1001 ∧ (2 ≤ a ∧ a ≤ 6 → r = (depC a.toNat, true)) ∧ (¬ (2 ≤ a ∧ a ≤ 6) → r = ([], false)) := by
 by_cases ha : 2 ≤ a ∧ a ≤ 6
 ·obtain ⟨n, rfl⟩ : ∃ n : Nat, a = n := ⟨a.toNat, by omega⟩
  have hn1 : 2 ≤ n := by omega
  have hn : n ≤ 6 := by omega
  refine ⟨(depC n, true), ?_, ?_, ?_, fun _ => rfl, fun h => absurd ha h⟩
  ·unfold spec_CountDepths.f
   simp only [l1In_f, Option.bind_some, show inB (n : Int) 2 6 = true from (inB_iff _ _ _).2 ha, if_true]
   refine Ev.bind (lvFar_ev n hn1 hn) ?_
   exact CountDepths_l0 _ (by unfold farQ; rw [List.length_map]; exact allO_le hn) (fun x hx => far_in hn hx)
  ·unfold impl_CountDepths.f
   simp only [ha, and_self, if_true]
   refine Ev.bind (depths_ev n hn1 hn) ?_
   have hall : (depQ n).all (fun e => decide (0 ≤ e.2 ∧ e.2 < 1000)) = true := by
    rw [List.all_eq_true]
    intro e he
    obtain ⟨j, hj⟩ := List.getElem?_of_mem he
    have hg := depQ_good n hn
    have h1 := hg.dep j e hj
    have h2 := hg.le hn
    have h3 := (List.getElem?_eq_some_iff.1 hj).1
    exact decide_eq_true (by omega)
   simp only [hall, if_true]
   refine Ev.ret fun k => ?_
   rw [bump_perm (far_perm n hn)]
   rfl
  ·exact bump_all _ [] (by simp) (fun y hy => (far_in hn hy).2)
 ·refine ⟨([], false), ?_, ?_, by simp, fun h => absurd h ha, fun _ => rfl⟩
  ·unfold spec_CountDepths.f
   have hf : inB a 2 6 = false := by
    rw [← Bool.not_eq_true, inB_iff]
    exact ha
   simp only [l1In_f, Option.bind_some, hf, Bool.false_eq_true, if_false]
   exact Ev.now _
  ·unfold impl_CountDepths.f
   simp only [ha, if_false]
   exact Ev.now _
theorem bump_count (i : Nat) : ∀ (l out : List Int), (∀ x, x ∈ l → 0 ≤ x) → 0 ≤ out.getD i 0 → out.getD i 0 + (l.length : Int) ≤ 1000000000 → (l.foldl bump out).getD i 0 = out.getD i 0 + ((l.filter fun x => decide (x = (i : Int))).length : Int)
 | [], out, _, _, _ => by simp
 | x :: l, out, hl, h0, hb => by
  have hx := hl x (by simp)
  rw [List.length_cons] at hb
  rw [List.foldl_cons]
  have e := bump_at out x i
  by_cases c : x = (i : Int)
  ·have c2 : i = x.toNat := by omega
   rw [if_pos c2, wrap_in (by omega) (by omega)] at e
   rw [bump_count i l (bump out x) (fun y hy => hl y (by simp [hy])) (by omega) (by omega), e, List.filter_cons_of_pos (by simp [c]), List.length_cons]
   omega
  ·have c2 : ¬ i = x.toNat := by omega
   rw [if_neg c2] at e
   rw [bump_count i l (bump out x) (fun y hy => hl y (by simp [hy])) (by omega) (by omega), e, List.filter_cons_of_neg (by simp [c])]
theorem sum_set : ∀ (o : List Int) (d : Nat) (y : Int), d < o.length → (o.set d y).sum + o.getD d 0 = o.sum + y
 | a :: o, 0, y, _ => by simp; omega
 | a :: o, d + 1, y, h => by
  have := sum_set o d y (by simpa using h)
  simp at this ⊢
  omega
theorem sum_zeros (out : List Int) (m : Nat) : (out ++ List.replicate m (0 : Int)).sum = out.sum := by
 rw [List.sum_append]
 have : (List.replicate m (0 : Int)).sum = 0 := by
  induction m with
  | zero => rfl
  | succ m ih => rw [List.replicate_succ, List.sum_cons, ih]; rfl
 omega
theorem getD_zeros (out : List Int) (m j : Nat) : (out ++ List.replicate m (0 : Int)).getD j 0 = out.getD j 0 := by
 rw [List.getD_eq_getElem?_getD, List.getD_eq_getElem?_getD, List.getElem?_append]
 by_cases h : j < out.length
 ·rw [if_pos h]
 ·rw [if_neg h, List.getElem?_replicate, List.getElem?_eq_none (by omega)]
  split <;> rfl
theorem bump_sum (out : List Int) (x : Int) (h0 : 0 ≤ out.getD x.toNat 0) (h1 : out.getD x.toNat 0 ≤ 1000000000) : (bump out x).sum = out.sum + 1 := by
 unfold bump
 simp only []
 have h := sum_set (out ++ List.replicate (x.toNat + 1 - out.length) 0) x.toNat (wrap64 ((out ++ List.replicate (x.toNat + 1 - out.length) 0).getD x.toNat 0 + 1)) (by simp; omega)
 rw [getD_zeros, sum_zeros] at h
 rw [getD_zeros]
 rw [wrap_in (by omega) (by omega)] at h ⊢
 omega
theorem bumps_sum : ∀ (l out : List Int), (∀ x, x ∈ l → 0 ≤ x) → (∀ i, 0 ≤ out.getD i 0 ∧ out.getD i 0 + (l.length : Int) ≤ 1000000000) → (l.foldl bump out).sum = out.sum + (l.length : Int)
 | [], out, _, _ => by simp
 | x :: l, out, hl, hb => by
  have hx := hb x.toNat
  rw [List.length_cons] at hx
  rw [List.foldl_cons, bumps_sum l (bump out x) (fun y hy => hl y (by simp [hy])) (fun i => ?_), bump_sum out x hx.1 (by omega), List.length_cons]
  ·omega
  ·have hi := hb i
   rw [List.length_cons] at hi
   rw [bump_at]
   by_cases c : i = x.toNat
   ·rw [if_pos c, wrap_in (by omega) (by omega)]
    omega
   ·rw [if_neg c]
    omega
theorem bumps_le (m : Nat) : ∀ (l out : List Int), (∀ x, x ∈ l → x ≤ (m : Int)) → out.length ≤ m + 1 → (l.foldl bump out).length ≤ m + 1
 | [], _, _, h => h
 | x :: l, out, hl, h => bumps_le m l (bump out x) (fun y hy => hl y (by simp [hy])) (by rw [bump_len]; have := hl x (by simp); omega)
theorem bumps_grow : ∀ (l out : List Int), out.length ≤ (l.foldl bump out).length
 | [], _ => Nat.le_refl _
 | x :: l, out => Nat.le_trans (by rw [bump_len]; omega) (bumps_grow l (bump out x))
theorem bumps_ge : ∀ (l out : List Int) (x : Int), x ∈ l → x.toNat + 1 ≤ (l.foldl bump out).length
 | y :: l, out, x, h => by
  rcases List.mem_cons.1 h with rfl | h
  ·exact Nat.le_trans (by rw [bump_len]; omega) (bumps_grow l (bump out x))
  ·exact bumps_ge l (bump out y) x h
theorem ones_ok : (List.range 7).all (fun n => decide ((((rowsL n).filter fun l => !l.isEmpty).map (topL (idL n))).Nodup) && ((rowsL n).filter fun l => !l.isEmpty).length + 1 == (rowsL n).length && ((rowsL n).filter fun l => !l.isEmpty).all fun l => !(topL (idL n) l == idL n)) = true := by decide +kernel
theorem far_map (n : Nat) : farQ n (depQ n) = (allO n).map (dist n) := rfl
theorem far_count (n : Nat) (v : Int) : ((farQ n (depQ n)).filter fun x => decide (x = v)).length = ((allO n).filter fun p => decide (dist n p = v)).length := by
 rw [far_map, List.filter_map, List.length_map]
 rfl
theorem count_zero {n : Nat} (hn : n ≤ 6) : ((allO n).filter fun p => decide (dist n p = 0)).length = 1 := by
 have h : ((allO n).filter fun p => decide (dist n p = 0)).Perm [idL n] := by
  refine sub_perm (List.Pairwise.filter _ (allO_nodup hn)) (fun x hx => ?_) ?_
  ·rw [List.mem_filter] at hx
   rw [List.mem_singleton]
   exact dist_zero hn ((allO_mem n x).1 hx.1) (of_decide_eq_true hx.2)
  ·refine sub_le (a := [idL n]) (by simp) (fun x hx => ?_)
   rw [List.mem_singleton] at hx
   rw [hx, List.mem_filter]
   exact ⟨(allO_mem n _).2 (idL_isOrd n), decide_eq_true (dist_id hn)⟩
 exact h.length_eq
theorem count_one {n : Nat} (hn : n ≤ 6) : ((allO n).filter fun p => decide (dist n p = 1)).length + 1 = (rowsL n).length := by
 have ok := List.all_eq_true.1 ones_ok n (by simp; omega)
 rw [Bool.and_eq_true, Bool.and_eq_true] at ok
 obtain ⟨⟨ok1, ok2⟩, ok3⟩ := ok
 have ok1 := of_decide_eq_true ok1
 have ok2 : _ = _ := eq_of_beq ok2
 rw [List.all_eq_true] at ok3
 have one : ∀ l, l ∈ (rowsL n).filter (fun l => !l.isEmpty) → dist n (topL (idL n) l) = 1 := by
  intro l hl
  have hl2 := (List.mem_filter.1 hl).1
  have ho := topL_isOrd l (idL_isOrd n) (rows_ok hn hl2).2
  have h1 := dist_step hn (idL_isOrd n) hl2
  rw [dist_id hn] at h1
  have h2 := dist_pos hn ho
  have h3 : dist n (topL (idL n) l) ≠ 0 := by
   intro h3
   have h4 := ok3 l hl
   rw [dist_zero hn ho h3] at h4
   simp at h4
  omega
 have h : ((allO n).filter fun p => decide (dist n p = 1)).Perm (((rowsL n).filter fun l => !l.isEmpty).map (topL (idL n))) := by
  have h1 : ∀ x, x ∈ (allO n).filter (fun p => decide (dist n p = 1)) → x ∈ ((rowsL n).filter fun l => !l.isEmpty).map (topL (idL n)) := by
   intro x hx
   rw [List.mem_filter] at hx
   have hd : dist n x = 1 := of_decide_eq_true hx.2
   obtain ⟨q, hq, l, hl, e, hd2⟩ := dist_back hn ((allO_mem n x).1 hx.1) (by omega)
   have hq0 := dist_zero hn hq (by omega)
   subst hq0
   refine List.mem_map.2 ⟨l, List.mem_filter.2 ⟨hl, ?_⟩, e.symm⟩
   cases l with
   | nil =>
    rw [e] at hd
    have : dist n (topL (idL n) []) = 0 := dist_id hn
    omega
   | cons a l => rfl
  refine sub_perm (List.Pairwise.filter _ (allO_nodup hn)) h1 (sub_le ok1 (fun x hx => ?_))
  rw [List.mem_map] at hx
  obtain ⟨l, hl, rfl⟩ := hx
  rw [List.mem_filter]
  exact ⟨(allO_mem n _).2 (topL_isOrd l (idL_isOrd n) (rows_ok hn (List.mem_filter.1 hl).1).2), decide_eq_true (one l hl)⟩
 have := h.length_eq
 rw [List.length_map] at this
 omega
theorem allO_fac : (List.range 7).all (fun n => (allO n).length == (List.range n).foldl (fun a x => a * (x + 1)) 1) = true := by decide +kernel
theorem depC_facts {n : Nat} (hn1 : 2 ≤ n) (hn : n ≤ 6) : (depC n).sum = ((allO n).length : Int) ∧ rd (depC n) 0 = 1 ∧ rd (depC n) 1 = ((rowsL n).length : Int) - 1 ∧ 2 ≤ (depC n).length ∧ (depC n).length ≤ n + 1 ∧ ∀ i : Nat, 0 ≤ (depC n).getD i 0 ∧ (depC n).getD i 0 ≤ 1000 := by
 have hpos : ∀ x, x ∈ farQ n (depQ n) → 0 ≤ x := fun x hx => (far_in hn hx).1
 have hlen : (farQ n (depQ n)).length = (allO n).length := by simp [farQ]
 have hal := allO_le hn
 have hc : ∀ i : Nat, (depC n).getD i 0 = (((allO n).filter fun p => decide (dist n p = (i : Int))).length : Int) := by
  intro i
  unfold depC
  rw [bump_count i _ [] hpos (by simp) (by simp; omega), far_count]
  simp
 refine ⟨?_, ?_, ?_, ?_, ?_, fun i => ?_⟩
 ·unfold depC
  rw [bumps_sum _ [] hpos (fun i => by simp; omega), hlen]
  simp
 ·show (depC n).getD 0 0 = 1
  have h1 := hc 0
  have h2 := count_zero hn
  simp only [Int.natCast_zero] at h1
  omega
 ·show (depC n).getD 1 0 = _
  have h1 := hc 1
  have h2 := count_one hn
  simp only [Int.natCast_one] at h1
  omega
 ·unfold depC
  have hr := rows_one hn (show 0 + 1 < n by omega)
  have ho := topL_isOrd _ (idL_isOrd n) (rows_ok hn hr).2
  have h1 : 1 ≤ ((allO n).filter fun p => decide (dist n p = 1)).length := by
   have := count_one hn
   have h2 : [((0 : Nat) : Int)] ∈ rowsL n := hr
   have h3 : ([] : List Int) ∈ rowsL n := by
    unfold rowsL lvl
    simp
   have h4 := sub_le (a := [[], [((0 : Nat) : Int)]]) (b := rowsL n) (by simp) (fun x hx => by
    rcases List.mem_cons.1 hx with rfl | hx
    ·exact h3
    ·rw [List.mem_singleton] at hx; rw [hx]; exact h2)
   simp at h4
   omega
  obtain ⟨p, hp⟩ := List.exists_mem_of_length_pos (by omega : 0 < ((allO n).filter fun p => decide (dist n p = 1)).length)
  rw [List.mem_filter] at hp
  have hd : dist n p = 1 := of_decide_eq_true hp.2
  have hm : (1 : Int) ∈ farQ n (depQ n) := by rw [far_map, List.mem_map]; exact ⟨p, hp.1, hd⟩
  exact bumps_ge _ [] 1 hm
 ·unfold depC
  refine bumps_le n _ [] (fun x hx => ?_) (by simp)
  rw [far_map, List.mem_map] at hx
  obtain ⟨p, hp, rfl⟩ := hx
  exact dist_le hn ((allO_mem n p).1 hp)
 ·rw [hc i]
  have := List.length_filter_le (fun p => decide (dist n p = (i : Int))) (allO n)
  omega
theorem nRows_refl (l : List (List Int)) (hn : l.length ≤ 1000000) (hr : ∀ x, x ∈ l → x.length ≤ 1000000) : Ev (fun k => laws_nRows.f k l l) true := by
 unfold laws_nRows.f
 simp only [if_true]
 have key := Ev.upto (L := fun k j (_ : Unit) => laws_nRows.l0 k l l (l.length : Int) (j : Int)) (R := fun _ _ => true) (n := l.length)
  (fun _ => by
   refine Ev.succ (Ev.ret fun k => ?_)
   rw [laws_nRows.l0, if_neg (by omega)])
  (fun j _ hj ih => by
   refine Ev.succ ?_
   have h1 : (j : Int) < (l.length : Int) := by omega
   have h0 : (0 : Int) ≤ (j : Int) := by omega
   simp only [laws_nRows.l0, h1, h0, if_true, rd_rows l j hj, wrap_nat j _ hj (by omega)]
   refine Ev.bind (nSame_refl _ (by have := hr l[j] (List.getElem_mem hj); omega)) ?_
   simp only [if_true]
   exact ih ())
 exact key 0 () (Nat.zero_le _)
theorem sum_take (l : List Int) (j : Nat) (h : j < l.length) : (l.take (j + 1)).sum = (l.take j).sum + l[j] := by
 rw [take_snoc l j h, List.sum_append, List.sum_cons, List.sum_nil]
 omega
theorem nSum_ev (l : List Int) (hn : l.length ≤ 1000) (hb : ∀ x, x ∈ l → 0 ≤ x ∧ x ≤ 1000) : Ev (fun k => laws_nSum.f k l) l.sum := by
 have bound : ∀ j, j ≤ l.length → 0 ≤ (l.take j).sum ∧ (l.take j).sum ≤ 1000 * (j : Int) := by
  intro j
  induction j with
  | zero => intro _; simp
  | succ j ih =>
   intro hj
   have h1 := ih (by omega)
   have h2 := hb l[j] (List.getElem_mem (by omega))
   rw [sum_take l j (by omega)]
   omega
 unfold laws_nSum.f
 have key := Ev.inv (σ := Int) (L := fun k j s => laws_nSum.l0 k s l (l.length : Int) (j : Int)) (r := l.sum) (n := l.length)
  (Inv := fun j s => s = (l.take j).sum)
  (fun s hs => by
   subst hs
   refine Ev.succ (Ev.ret fun k => ?_)
   rw [laws_nSum.l0, if_neg (by omega), List.take_length])
  (fun j s hj hs ih => by
   subst hs
   refine Ev.succ ?_
   have h1 : (j : Int) < (l.length : Int) := by omega
   have h0 : (0 : Int) ≤ (j : Int) := by omega
   have h2 := bound j (by omega)
   have h3 := hb l[j] (List.getElem_mem hj)
   simp only [laws_nSum.l0, h1, h0, if_true, rd_nat l j hj, wrap_nat j _ hj (by omega)]
   refine ih _ ?_
   rw [sum_take l j hj]
   exact wrap_in (by omega) (by omega))
 exact key 0 0 (Nat.zero_le _) (by simp)
theorem AllLevels_impl (a : Int) : impl_AllLevels.f a = some (if inB a 2 8 = true then (rowsL a.toNat, true) else ([], false)) := rfl
theorem CountLevels_impl (a : Int) : impl_CountLevels.f a = some (if inB a 2 8 = true then (((rowsL a.toNat).length : Int), true) else (0, false)) := by
 unfold impl_CountLevels.f
 rw [AllLevels_impl]
 cases inB a 2 8 <;> rfl
theorem AllLevels_spec (a : Int) : Ev (fun k => spec_AllLevels.f k a) (if inB a 2 8 = true then (rowsL a.toNat, true) else ([], false)) := by
 unfold spec_AllLevels.f spec_lvWires.f
 simp only [l1In_f, Option.bind_some]
 cases h : inB a 2 8 with
 | false => simpa using Ev.now _
 | true =>
  have ha := (inB_iff _ _ _).1 h
  obtain ⟨n, rfl⟩ : ∃ n : Nat, a = n := ⟨a.toNat, by omega⟩
  simp only [if_true]
  have e : ((n : Int)).toNat = n := by omega
  refine Ev.bind (lvAll_ev n (by omega) (by omega) 4 0 (by omega) (by omega) (by omega)) ?_
  rw [e, show rowsL n = lva (n - 1) 4 0 from AllLevels_list n (by omega)]
  exact Ev.now _
theorem CountLevels_spec (a : Int) : Ev (fun k => spec_CountLevels.f k a) (if inB a 2 8 = true then (((rowsL a.toNat).length : Int), true) else (0, false)) := by
 unfold spec_CountLevels.f spec_lvWires.f
 simp only [l1In_f, Option.bind_some]
 cases h : inB a 2 8 with
 | false => simpa using Ev.now _
 | true =>
  have ha := (inB_iff _ _ _).1 h
  obtain ⟨n, rfl⟩ : ∃ n : Nat, a = n := ⟨a.toNat, by omega⟩
  simp only [if_true]
  have e : ((n : Int)).toNat = n := by omega
  refine Ev.bind (lvAll_ev n (by omega) (by omega) 4 0 (by omega) (by omega) (by omega)) ?_
  rw [e, show rowsL n = lva (n - 1) 4 0 from AllLevels_list n (by omega)]
  exact Ev.now _
/-- a list ahead of another, as the law's helper says it -/
def lessB (a b : List Int) : Bool := (laws_nLess.f 20 a b).getD false
theorem nLess_mono (a b : List Int) : ∀ k, LeO (laws_nLess.f k a b) (laws_nLess.f (k + 1) a b) := fun k => laws_nLess.mono a b k
theorem nLess_ev (a b : List Int) (h : lessB a b = true) : Ev (fun k => laws_nLess.f k a b) true := by
 unfold lessB at h
 cases e : laws_nLess.f 20 a b with
 | none => rw [e] at h; cases h
 | some r =>
  rw [e] at h
  have hr : r = true := h
  subst hr
  refine ⟨20, fun k hk => ?_⟩
  obtain ⟨d, rfl⟩ : ∃ d, k = 20 + d := ⟨k - 20, by omega⟩
  clear hk
  induction d with
  | zero => exact e
  | succ d ih => exact nLess_mono a b _ _ ih
theorem rows_facts : (List.range 9).all (fun n => decide (n < 2) || (decide ((rowsL n).length ≤ 100) && (match rowsL n with | [] => false | p :: _ => p.isEmpty) && ((rowsL n).all fun x => decide (x.length ≤ 8) && lvB (n : Int) x) && ((List.range ((rowsL n).length - 1)).all fun i => lessB ((rowsL n).getD i []) ((rowsL n).getD (i + 1) [])))) = true := by decide +kernel
theorem rows_sums : (List.range 9).all (fun n => decide (n < 4) || (rowsL (n - 1)).length + (rowsL (n - 2)).length == (rowsL n).length) = true := by decide +kernel
theorem rows_at {n : Nat} (hn1 : 2 ≤ n) (hn : n ≤ 8) : (rowsL n).length ≤ 100 ∧ (∃ ps, rowsL n = [] :: ps) ∧ (∀ x, x ∈ rowsL n → x.length ≤ 8 ∧ lvB (n : Int) x = true) ∧ ∀ i, (h : i + 1 < (rowsL n).length) → lessB (rowsL n)[i] (rowsL n)[i + 1] = true := by
 have h := List.all_eq_true.1 rows_facts n (by simp; omega)
 rw [Bool.or_eq_true, Bool.and_eq_true, Bool.and_eq_true, Bool.and_eq_true] at h
 rcases h with h | ⟨⟨⟨h1, h2⟩, h3⟩, h4⟩
 ·exact absurd (of_decide_eq_true h) (by omega)
 ·refine ⟨of_decide_eq_true h1, ?_, fun x hx => ?_, fun i hi => ?_⟩
  ·cases e : rowsL n with
   | nil => rw [e] at h2; cases h2
   | cons p ps =>
    rw [e] at h2
    exact ⟨ps, by rw [List.isEmpty_iff.1 h2]⟩
  ·have := List.all_eq_true.1 h3 x hx
   rw [Bool.and_eq_true] at this
   exact ⟨of_decide_eq_true this.1, this.2⟩
  ·have := List.all_eq_true.1 h4 i (by simp; omega)
   rw [List.getD_eq_getElem?_getD, List.getD_eq_getElem?_getD, List.getElem?_eq_getElem (by omega), List.getElem?_eq_getElem hi] at this
   exact this
theorem rows_sum {n : Nat} (hn1 : 4 ≤ n) (hn : n ≤ 8) : (rowsL (n - 1)).length + (rowsL (n - 2)).length = (rowsL n).length := by
 have h := List.all_eq_true.1 rows_sums n (by simp; omega)
 rw [Bool.or_eq_true] at h
 rcases h with h | h
 ·exact absurd (of_decide_eq_true h) (by omega)
 ·exact eq_of_beq h
theorem apart_gap {o y : Int} (h0 : 0 ≤ o) (h1 : o + 2 ≤ y) (h2 : y ≤ 1000) : apartV o y = true := by
 unfold apartV
 rw [wrap_in (by omega) (by omega), wrap_in (by omega) (by omega)]
 simp
 omega
/-- one level more, one deeper at most -/
theorem level_deeper (m : Nat) : ∀ (b pre : List Int) (out : List (List Int)), (∀ i : Nat, (h : i + 1 < (pre ++ b).length) → (pre ++ b)[i] + 2 ≤ (pre ++ b)[i + 1]) → (∀ x, x ∈ pre ++ b → 0 ≤ x ∧ x ≤ 1000) → out.length ≤ m + 1 → (∀ o, o ∈ out.getD m [] → o ∈ pre) → (b.foldl lvPut out).length ≤ m + 1
 | [], _, _, _, _, h, _ => h
 | y :: b, pre, out, hg, hx, hl, hm => by
  have hlt : ∀ o, o ∈ pre → o + 2 ≤ y := by
   intro o ho
   obtain ⟨i, hi, rfl⟩ := List.getElem_of_mem ho
   have step : ∀ d j : Nat, j + d + 1 = pre.length → (pre ++ y :: b).getD j 0 + 2 ≤ y := by
    intro d
    induction d with
    | zero =>
     intro j hj
     have := hg j (by simp; omega)
     rw [List.getD_eq_getElem?_getD, List.getElem?_eq_getElem (by simp; omega)]
     have e : (pre ++ y :: b)[j + 1]'(by simp; omega) = y := by
      rw [List.getElem_append_right (by omega)]
      simp [show j + 1 - pre.length = 0 by omega]
     rw [e] at this
     exact this
    | succ d ih =>
     intro j hj
     have h1 := ih (j + 1) (by omega)
     have h2 := hg j (by simp; omega)
     rw [List.getD_eq_getElem?_getD, List.getElem?_eq_getElem (by simp; omega)] at h1 ⊢
     simp only [Option.getD_some] at h1 ⊢
     omega
   have := step (pre.length - 1 - i) i (by omega)
   rw [List.getD_eq_getElem?_getD, List.getElem?_eq_getElem (by simp; omega), List.getElem_append_left hi] at this
   exact this
  have hy := hx y (by simp)
  have hfree : (out.getD m []).any (fun o => !(apartV o y)) = false := by
   rw [List.any_eq_false]
   intro o ho
   have h1 := hm o ho
   have h2 := hx o (by simp [h1])
   rw [apart_gap h2.1 (hlt o h1) hy.2]
   simp
  have hat : lvAt out y out.length ≤ m := by
   have := lvAt_le out y out.length
   by_cases c : out.length = m + 1
   ·rw [c]
    rw [lvAt, if_neg (by rw [hfree]; simp)]
    exact lvAt_le out y m
   ·omega
  have hlen : (lvPut out y).length ≤ m + 1 := by
   rw [lvPut_length]
   split <;> omega
  rw [List.foldl_cons]
  refine level_deeper m b (pre ++ [y]) (lvPut out y) (by simpa using hg) (by simpa using hx) hlen (fun o ho => ?_)
  rw [lvPut_getD] at ho
  split at ho
  ·rcases List.mem_append.1 ho with ho | ho
   ·simp [hm o ho]
   ·rw [List.mem_singleton] at ho; simp [ho]
  ·simp [hm o ho]
theorem levels_deep : ∀ (ls : List (List Int)) (m : Nat) (out : List (List Int)), out.length ≤ m → (∀ b, b ∈ ls → (∀ i : Nat, (h : i + 1 < b.length) → b[i] + 2 ≤ b[i + 1]) ∧ ∀ x, x ∈ b → 0 ≤ x ∧ x ≤ 1000) → (ls.flatten.foldl lvPut out).length ≤ m + ls.length
 | [], _, _, h, _ => h
 | b :: ls, m, out, h, hb => by
  have h1 := level_deeper m b [] out (by simpa using (hb b (by simp)).1) (by simpa using (hb b (by simp)).2) (by omega) (fun o ho => by
   rw [List.getD_eq_getElem?_getD, List.getElem?_eq_none h] at ho
   simp at ho)
  rw [List.flatten_cons, List.foldl_append, List.length_cons]
  have := levels_deep ls (m + 1) _ h1 (fun c hc => hb c (by simp [hc]))
  omega
/-- what a level is -/
theorem lvB_gap {n : Nat} (hn1 : 2 ≤ n) (hn : n ≤ 8) {x : List Int} (hx : x.length ≤ 1000) (h : lvB (n : Int) x = true) : (∀ i : Nat, (h : i + 1 < x.length) → x[i] + 2 ≤ x[i + 1]) ∧ ∀ y, y ∈ x → 0 ≤ y ∧ y ≤ 1000 := by
 have he := isLevel_ev (n : Int) x (by omega)
 rw [h] at he
 unfold impl_isLevel.f at he
 have e2 : wrap64 ((n : Int) - 2) = (n : Int) - 2 := wrap_in (by omega) (by omega)
 have key : ∀ d j : Nat, j + d = x.length → (∀ h0 : 0 < j, ∀ h : j - 1 < x.length, 0 ≤ x[j - 1] ∧ x[j - 1] ≤ (n : Int) - 2) → Ev (fun k => impl_isLevel.l0 k (n : Int) x x (x.length : Int) (j : Int)) true → (∀ i : Nat, j ≤ i → (h : i < x.length) → (0 ≤ x[i] ∧ x[i] ≤ (n : Int) - 2) ∧ (∀ h0 : 0 < i, x[i - 1] + 2 ≤ x[i])) := by
  intro d
  induction d with
  | zero => intro j hj _ _ i hi h; omega
  | succ d ih =>
   intro j hj hprev hev i hi hil
   have hjl : j < x.length := by omega
   obtain ⟨K, hK⟩ := hev
   have h1 : (j : Int) < (x.length : Int) := by omega
   have h0 : (0 : Int) ≤ (j : Int) := by omega
   have hk := hK (K + 1) (by omega)
   have hb : impl_between.f x[j] 0 ((n : Int) - 2) = some (inB x[j] 0 ((n : Int) - 2)) := by
    unfold impl_between.f inB
    split <;> simp <;> omega
   simp only [impl_isLevel.l0, h1, h0, if_true, rd_nat x j hjl, e2, hb, Option.bind_some] at hk
   cases hin : inB x[j] 0 ((n : Int) - 2) with
   | false => rw [hin] at hk; simp at hk
   | true =>
    have hin2 : 0 ≤ x[j] ∧ x[j] ≤ (n : Int) - 2 := by unfold inB at hin; simpa using hin
    have cur : (∀ h0 : 0 < j, x[j - 1] + 2 ≤ x[j]) ∧ Ev (fun k => impl_isLevel.l0 k (n : Int) x x (x.length : Int) ((j + 1 : Nat) : Int)) true := by
     have all : ∀ k, K ≤ k → (∀ h0 : 0 < j, x[j - 1] + 2 ≤ x[j]) ∧ impl_isLevel.l0 k (n : Int) x x (x.length : Int) ((j + 1 : Nat) : Int) = some true := by
      intro k hkk
      have hk := hK (k + 1) (by omega)
      simp only [impl_isLevel.l0, h1, h0, if_true, rd_nat x j hjl, e2, hb, Option.bind_some, hin, wrap_nat j _ hjl (by omega)] at hk
      by_cases hj0 : (j : Int) > 0
      ·have e3 : wrap64 ((j : Int) - 1) = ((j - 1 : Nat) : Int) := by unfold wrap64; omega
       have g1 : (0 : Int) ≤ ((j - 1 : Nat) : Int) := by omega
       have g2 : ((j - 1 : Nat) : Int) < (x.length : Int) := by omega
       simp only [hj0, if_true, e3, g1, g2, rd_nat x (j - 1) (by omega)] at hk
       by_cases c : x[j] < wrap64 (x[j - 1] + 2)
       ·rw [if_pos c] at hk; cases hk
       ·rw [if_neg c] at hk
        refine ⟨fun _ => ?_, hk⟩
        have hp := hprev (by omega) (by omega)
        rw [wrap_in (by omega) (by omega)] at c
        omega
      ·simp only [hj0, if_false] at hk
       exact ⟨fun h => by omega, hk⟩
     exact ⟨(all K (Nat.le_refl _)).1, ⟨K, fun k hk => (all k hk).2⟩⟩
    by_cases c : i = j
    ·subst c
     exact ⟨hin2, cur.1⟩
    ·exact ih (j + 1) (by omega) (fun _ _ => by simpa using hin2) cur.2 i (by omega) hil
 have all := key x.length 0 (by omega) (fun h => by omega) he
 refine ⟨fun i h => ?_, fun y hy => ?_⟩
 ·have := (all (i + 1) (by omega) h).2 (by omega)
  simpa using this
 ·obtain ⟨i, hi, rfl⟩ := List.getElem_of_mem hy
  have := (all i (by omega) hi).1
  omega
/-- the call comes to an end with something that meets P -/
def Got {α : Type} (g : Nat → Option α) (P : α → Prop) : Prop := ∃ r, Ev g r ∧ P r
theorem Got.now {α : Type} {P : α → Prop} (r : α) (h : P r) : Got (fun _ => some r) P := ⟨r, Ev.now r, h⟩
theorem Got.bind {α β : Type} {g : Nat → Option α} {f : Nat → α → Option β} {P : α → Prop} {Q : β → Prop} (h : Got g P) (k : ∀ a, P a → Got (fun n => f n a) Q) : Got (fun n => (g n).bind (f n)) Q := by
 obtain ⟨a, h, ha⟩ := h
 obtain ⟨r, k, hr⟩ := k a ha
 exact ⟨r, Ev.bind h k, hr⟩
theorem Got.mono {α : Type} {g : Nat → Option α} {P Q : α → Prop} (h : Got g P) (k : ∀ a, P a → Q a) : Got g Q := by
 obtain ⟨a, h, ha⟩ := h
 exact ⟨a, h, k a ha⟩
theorem Got.succ {α : Type} {g : Nat → Option α} {P : α → Prop} (h : Got (fun k => g (k + 1)) P) : Got g P := by
 obtain ⟨a, h, ha⟩ := h
 exact ⟨a, Ev.succ h, ha⟩
theorem Got.ite {α : Type} {p : Prop} [Decidable p] {f g : Nat → Option α} {P : α → Prop} (h1 : p → Got f P) (h2 : ¬ p → Got g P) : Got (fun k => if p then f k else g k) P := by
 by_cases h : p
 ·simpa [h] using h1 h
 ·simpa [h] using h2 h
theorem Got.iteb {α : Type} {b : Bool} {f g : Nat → Option α} {P : α → Prop} (h1 : b = true → Got f P) (h2 : b = false → Got g P) : Got (fun k => if b = true then f k else g k) P := by
 cases b with
 | true => simpa using h1 rfl
 | false => simpa using h2 rfl
theorem Got.ifp {α : Type} {p : Prop} [Decidable p] {f g : Nat → Option α} {P : α → Prop} (h : p) (h1 : Got f P) : Got (fun k => if p then f k else g k) P := by simpa [h] using h1
theorem Got.ifn {α : Type} {p : Prop} [Decidable p] {f g : Nat → Option α} {P : α → Prop} (h : ¬ p) (h1 : Got g P) : Got (fun k => if p then f k else g k) P := by simpa [h] using h1
theorem Got.one {α : Type} {o : Option α} {P : α → Prop} (h : ∃ r, o = some r ∧ P r) : Got (fun _ => o) P := by
 obtain ⟨r, h, hr⟩ := h
 exact ⟨r, ⟨0, fun _ _ => h⟩, hr⟩
/-- a text of bytes -/
def Bytes (c : List Int) : Prop := c.length ≤ 1048576 ∧ ∀ x ∈ c, 0 ≤ x ∧ x ≤ 255
/-- how far a reader has come: at most so far -/
def Far (a : Int) (n : Nat) : Prop := 0 ≤ a ∧ a ≤ (n : Int)
theorem Far.zero : Far 0 0 := ⟨Int.le_refl _, Int.le_refl _⟩
theorem Far.le {a : Int} {n m : Nat} (h : Far a n) (hm : n ≤ m) : Far a m := ⟨h.1, by have := h.2; omega⟩
theorem and255 (x : Int) (h0 : 0 ≤ x) (h1 : x < 2 ^ 24) : Go.bits .and .u64 x 255 = x % 256 :=
 bits_mask .u64 24 (by decide) (fun n h0 h1 => by simp [IntKind.wrap, IntKind.bits, IntKind.signed]; omega) 8 (by decide) x h0 h1
theorem next_val (y : Int) : 0 ≤ wrap64 (Go.bits .and .u64 ((IntKind.u64.wrap y) / 1099511627776) 255) ∧ wrap64 (Go.bits .and .u64 ((IntKind.u64.wrap y) / 1099511627776) 255) ≤ 255 := by
 have e : IntKind.u64.wrap y = y % 18446744073709551616 := by simp [IntKind.wrap, IntKind.bits, IntKind.signed]
 rw [e, and255 _ (by omega) (by omega), wrap_in (by omega) (by omega)]
 omega
theorem next_got {c : List Int} {a s : Int} {n : Nat} (hc : Bytes c) (ha : Far a n) (hn : n ≤ 1000000000) : ∃ r, spec_l1Cur_next.f c a s = some r ∧ 0 ≤ r.1 ∧ r.1 ≤ 255 ∧ Far r.2.1 (n + 1) := by
 have hw : wrap64 (a + 1) = a + 1 := wrap_in (by have := ha.1; omega) (by have := ha.2; omega)
 have hf : Far (a + 1) (n + 1) := ⟨by have := ha.1; omega, by have := ha.2; omega⟩
 unfold spec_l1Cur_next.f
 rw [hw]
 by_cases h1 : a < (c.length : Int)
 ·rw [if_pos h1, if_pos ha.1]
  obtain ⟨j, rfl⟩ : ∃ j : Nat, a = j := ⟨a.toNat, by have := ha.1; omega⟩
  have hj : j < c.length := by omega
  have hb := hc.2 c[j] (List.getElem_mem hj)
  have hr : rd c (j : Int) = c[j] := rd_nat c j hj
  rw [hr, if_pos (by omega)]
  exact ⟨_, rfl, by rw [wrap_in (by omega) (by omega)]; exact hb.1, by rw [wrap_in (by omega) (by omega)]; exact hb.2, hf⟩
 ·rw [if_neg h1, if_neg (by omega)]
  exact ⟨_, rfl, (next_val _).1, (next_val _).2, hf⟩
theorem pick_got {c : List Int} {a s : Int} {n : Nat} (hc : Bytes c) (ha : Far a n) (hn : n ≤ 1000000000) (m : Int) (hm : m ≤ 200) : ∃ r, spec_l1Cur_pick.f c a s m = some r ∧ 0 ≤ r.1 ∧ (m ≤ 1 → r.1 = 0) ∧ (1 ≤ m → r.1 < m) ∧ Far r.2.1 (n + 1) := by
 unfold spec_l1Cur_pick.f
 by_cases h : m ≤ 1
 ·rw [if_pos h]; exact ⟨_, rfl, Int.le_refl _, fun _ => rfl, fun h => by simp only; omega, ha.le (by omega)⟩
 ·rw [if_neg h]
  obtain ⟨r, e, h0, h1, hf⟩ := next_got (s := s) hc ha hn
  rw [e, Option.bind_some, if_neg (by omega), if_neg (by omega)]
  exact ⟨_, rfl, Int.tmod_nonneg _ h0, fun h' => absurd h' h, fun _ => Int.tmod_lt_of_pos _ (by omega), hf⟩
theorem one_got {c : List Int} {a s : Int} {n : Nat} (hc : Bytes c) (ha : Far a n) (hn : n ≤ 1000000000) (m : Int) (hm : m ≤ 200) : ∃ r, spec_l1Cur_one.f c a s m = some r ∧ Far r.2.1 (n + 1) := by
 obtain ⟨r, e, _, _, _, hf⟩ := pick_got (s := s) hc ha hn m hm
 unfold spec_l1Cur_one.f
 rw [e]
 exact ⟨_, rfl, hf⟩
theorem among_got {c : List Int} {a s : Int} {n : Nat} (hc : Bytes c) (ha : Far a n) (hn : n ≤ 1000000000) (l : List Int) (hl : 1 ≤ l.length ∧ l.length ≤ 200) : ∃ r, spec_l1Cur_among.f c a s l = some r ∧ r.1 ∈ l ∧ Far r.2.1 (n + 1) := by
 obtain ⟨r, e, h0, _, h2, hf⟩ := pick_got (s := s) hc ha hn (l.length : Int) (by omega)
 have h3 := h2 (by omega)
 unfold spec_l1Cur_among.f
 rw [e, Option.bind_some, if_pos h0, if_pos h3]
 obtain ⟨j, hj⟩ : ∃ j : Nat, r.1 = j := ⟨r.1.toNat, by omega⟩
 have hj' : j < l.length := by omega
 refine ⟨_, rfl, ?_, hf⟩
 show rd l r.1 ∈ l
 rw [hj, rd_nat l j hj']
 exact List.getElem_mem hj'
theorem drawAllLevels_got {c : List Int} (hc : Bytes c) : ∃ r, spec_DrawAllLevels.f c = some r := by
 unfold spec_DrawAllLevels.f
 obtain ⟨r, hr, _⟩ := among_got hc Far.zero (by omega) [2, 3, 4, 5, 6, 8, 1, 9, (-1)] (by simp)
 exact ⟨_, by rw [hr]; rfl⟩
theorem drawBrickLadder_got {c : List Int} (hc : Bytes c) : ∃ r, spec_DrawBrickLadder.f c = some r := by
 unfold spec_DrawBrickLadder.f
 obtain ⟨r, hr, _, hf⟩ := among_got hc Far.zero (by omega) [2, 3, 4, 5, 8, 3, 4, 1, 9] (by simp)
 obtain ⟨q, hq, _⟩ := among_got hc (a := r.2.1) (s := r.2.2) hf (by omega) [0, 1, 2, 3, 4, 5, 8, 20, 21, (-1)] (by simp)
 exact ⟨_, by rw [hr, Option.bind_some, hq]; rfl⟩
theorem drawCountDepths_got {c : List Int} (hc : Bytes c) : ∃ r, spec_DrawCountDepths.f c = some r := by
 unfold spec_DrawCountDepths.f
 obtain ⟨r, hr, _⟩ := among_got hc Far.zero (by omega) [2, 3, 4, 5, 3, 4, 6, 1, 7] (by simp)
 exact ⟨_, by rw [hr]; rfl⟩
theorem level_l0 {c : List Int} (hc : Bytes c) (a : Int) (ha : -10 ≤ a ∧ a ≤ 10) (d : Nat) : ∀ (x p s : Int) (n : Nat) (l : List Int), 0 ≤ x → x ≤ 1000 → a - 1 - x ≤ (d : Int) → Far p n → n + d ≤ 500000 → l.length + d ≤ 100 →
  Got (fun k => spec_l1Cur_level.l0 k a l x c p s) (fun r => r.1.length ≤ l.length + d + 1 ∧ Far r.2.1 (n + d + 2)) := by
 have e1 : wrap64 (a - 1) = a - 1 := wrap_in (by omega) (by omega)
 have stop : ∀ (x p s : Int) (n : Nat) (l : List Int), ¬ x < a - 1 → Far p n → n ≤ 500000 → l.length ≤ 100 → Got (fun k => spec_l1Cur_level.l0 k a l x c p s) (fun r => r.1.length ≤ l.length + 1 ∧ Far r.2.1 (n + 2)) := by
  intro x p s n l hx hp hn hl
  refine Got.succ ?_
  simp only [spec_l1Cur_level.l0, e1]
  refine Got.ifn hx ?_
  refine Got.bind (Got.one (one_got hc hp (by omega) 12 (by omega))) (fun r hr => ?_)
  refine Got.iteb (fun _ => ?_) (fun _ => ?_)
  ·refine Got.bind (Got.one (among_got hc hr (by omega) [(-1), 0, a - 1, wrap64 (a - 2), 4611686018427387904] (by simp))) (fun q hq => ?_)
   refine Got.ifp (by omega) ?_
   exact Got.now _ ⟨by simp, hq.2.le (by omega)⟩
  ·exact Got.now _ ⟨by simp only; omega, hr.le (by omega)⟩
 induction d with
 | zero =>
  intro x p s n l h0 hx1 hx hp hn hl
  refine (stop x p s n l (by omega) hp (by omega) (by omega)).mono (fun r hr => ⟨by omega, hr.2.le (by omega)⟩)
 | succ d ih =>
  intro x p s n l h0 hx1 hx hp hn hl
  by_cases h : x < a - 1
  ·refine Got.succ ?_
   simp only [spec_l1Cur_level.l0, e1]
   refine Got.ifp h (Got.ifp (by omega) ?_)
   refine Got.bind (Got.one (pick_got hc hp (by omega) 2 (by omega))) (fun r hr => ?_)
   have hr2 := hr.2.2.1 (by omega)
   have e2 : wrap64 (2 + r.1) = 2 + r.1 := wrap_in (by omega) (by omega)
   have e3 : wrap64 (x + (2 + r.1)) = x + (2 + r.1) := wrap_in (by omega) (by omega)
   rw [e2, e3]
   refine (ih (x + (2 + r.1)) _ _ (n + 1) (l ++ [x]) (by omega) (by omega) (by omega) hr.2.2.2 (by omega) (by simp; omega)).mono (fun q hq => ⟨?_, hq.2.le (by omega)⟩)
   have := hq.1
   simp at this
   omega
  ·exact (stop x p s n l h hp (by omega) (by omega)).mono (fun r hr => ⟨by omega, hr.2.le (by omega)⟩)
theorem level_got {c : List Int} (hc : Bytes c) {p s : Int} {n : Nat} (hp : Far p n) (hn : n ≤ 400000) (a : Int) (ha : -10 ≤ a ∧ a ≤ 10) : Got (fun k => spec_l1Cur_level.f k c p s a) (fun r => r.1.length ≤ 11 ∧ Far r.2.1 (n + 20)) := by
 unfold spec_l1Cur_level.f
 refine Got.bind (Got.one (pick_got hc hp (by omega) 3 (by omega))) (fun r hr => ?_)
 have hr2 := hr.2.2.1 (by omega)
 exact (level_l0 hc a ha 10 r.1 _ _ (n + 1) [] hr.1 (by omega) (by omega) hr.2.2.2 (by omega) (by simp)).mono (fun q hq => ⟨by have := hq.1; simp at this; omega, hq.2.le (by omega)⟩)
theorem drawIsLevel_got {c : List Int} (hc : Bytes c) : Got (fun k => spec_DrawIsLevel.f k c) (fun r => r.2.length ≤ 11) := by
 unfold spec_DrawIsLevel.f
 refine Got.bind (Got.one (among_got hc Far.zero (by omega) [2, 3, 4, 5, 8, 4, 5, 1, 9] (by simp))) (fun r hr => ?_)
 have hm := hr.1
 simp at hm
 refine Got.bind (level_got hc hr.2 (by omega) r.1 (by omega)) (fun q hq => ?_)
 exact Got.now _ hq.1
/-- few levels of few rungs -/
def fewL (l : List (List Int)) : Prop := l.length ≤ 100 ∧ ∀ x, x ∈ l → x.length ≤ 11
theorem drawLol_l0 {c : List Int} (hc : Bytes c) (a : Int) (ha : -10 ≤ a ∧ a ≤ 10) (d : Nat) : ∀ (x p s : Int) (n : Nat) (l : List (List Int)), x ≤ (d : Int) → Far p n → n + 20 * d ≤ 300000 → l.length + d ≤ 50 → (∀ y, y ∈ l → y.length ≤ 11) →
  Got (fun k => spec_DrawLadderOfLevels.l0 k a l x c p s) (fun r => r.1 = a ∧ fewL r.2) := by
 have stop : ∀ (x p s : Int) (n : Nat) (l : List (List Int)), ¬ x > 0 → Far p n → n ≤ 300000 → l.length ≤ 50 → (∀ y, y ∈ l → y.length ≤ 11) → Got (fun k => spec_DrawLadderOfLevels.l0 k a l x c p s) (fun r => r.1 = a ∧ fewL r.2) := by
  intro x p s n l hx hp hn hl hy
  refine Got.succ ?_
  simp only [spec_DrawLadderOfLevels.l0]
  refine Got.ifn hx ?_
  refine Got.bind (Got.one (one_got hc hp (by omega) 14 (by omega))) (fun r hr => ?_)
  refine Got.iteb (fun _ => ?_) (fun _ => ?_)
  ·refine Got.bind (Got.one (pick_got hc hr (by omega) 2 (by omega))) (fun q hq => ?_)
   have hq2 := hq.2.2.1 (by omega)
   have e2 : wrap64 (60 + q.1) = 60 + q.1 := wrap_in (by omega) (by omega)
   rw [e2]
   refine Got.ifp (by omega) (Got.ifp (by omega) ?_)
   refine Got.now _ ⟨rfl, by simp only [List.length_replicate]; omega, fun y hy => ?_⟩
   have := List.eq_of_mem_replicate hy
   rw [this]
   simp
  ·exact Got.now _ ⟨rfl, by simp only; omega, hy⟩
 induction d with
 | zero => intro x p s n l hx hp hn hl hy; exact stop x p s n l (by omega) hp (by omega) (by omega) hy
 | succ d ih =>
  intro x p s n l hx hp hn hl hy
  by_cases h : x > 0
  ·refine Got.succ ?_
   simp only [spec_DrawLadderOfLevels.l0]
   refine Got.ifp h ?_
   refine Got.bind (level_got hc hp (by omega) a ha) (fun r hr => ?_)
   refine Got.ifp (by omega) ?_
   have e2 : wrap64 (x - 1) = x - 1 := wrap_in (by omega) (by omega)
   rw [e2]
   exact ih (x - 1) _ _ (n + 20) (l ++ [r.1]) (by omega) hr.2 (by omega) (by simp; omega) (fun y hm => by
    rcases List.mem_append.1 hm with hm | hm
    ·exact hy y hm
    ·rw [List.mem_singleton] at hm; rw [hm]; exact hr.1)
  ·exact stop x p s n l h hp (by omega) (by omega) hy
theorem drawLol_got {c : List Int} (hc : Bytes c) : Got (fun k => spec_DrawLadderOfLevels.f k c) (fun r => fewL r.2) := by
 unfold spec_DrawLadderOfLevels.f
 refine Got.bind (Got.one (among_got hc Far.zero (by omega) [2, 3, 4, 5, 8, 4, 5, 1, 9] (by simp))) (fun r hr => ?_)
 have hm := hr.1
 simp at hm
 refine Got.bind (Got.one (pick_got hc hr.2 (by omega) 6 (by omega))) (fun q hq => ?_)
 have hq2 := hq.2.2.1 (by omega)
 exact (drawLol_l0 hc r.1 (by omega) 6 q.1 _ _ 2 [] (by omega) (hq.2.2.2.le (by omega)) (by omega) (by simp) (fun y hy => by cases hy)).mono (fun z hz => hz.2)
theorem fewL_flat : ∀ (l : List (List Int)), (∀ x, x ∈ l → x.length ≤ 11) → l.flatten.length ≤ 11 * l.length
 | [], _ => by simp
 | x :: l, h => by
  have h1 := fewL_flat l (fun y hy => h y (by simp [hy]))
  have h2 := h x (by simp)
  rw [List.flatten_cons, List.length_append, List.length_cons]
  omega
theorem nLadder_refl (a : Int) (l : List Int) (hn : l.length ≤ 9223372036854775807) : Ev (fun k => laws_nLadder.f k a l a l) true := by
 unfold laws_nLadder.f
 simp only [if_true]
 exact Ev.bind (nSame_refl l hn) (Ev.now _)
theorem btw_f (a b c : Int) : impl_between.f a b c = some (inB a b c) := by
 unfold impl_between.f inB
 split
 ·rename_i h; simp [h]
 ·rename_i h; simp; omega
/-- so many places from r on, every second one -/
def stp : Nat → Nat → List Int
 | 0, _ => []
 | d + 1, r => (r : Int) :: stp d (r + 2)
theorem stp_length (d : Nat) : ∀ r, (stp d r).length = d := by
 induction d with
 | zero => intro r; rfl
 | succ d ih => intro r; simp [stp, ih]
/-- the rungs of a brick -/
def brickL (n j : Nat) : List Int := stp ((n - 1 - j % 2 + 1) / 2) (j % 2)
def bricksL (n m : Nat) : List Int := (List.range m).flatMap (brickL n)
theorem brickL_length (n j : Nat) (hn : n ≤ 8) : (brickL n j).length ≤ 4 := by unfold brickL; rw [stp_length]; omega
theorem bricksL_succ (n m : Nat) : bricksL n (m + 1) = bricksL n m ++ brickL n m := by
 unfold bricksL; rw [List.range_succ, List.flatMap_append]; simp
theorem bricksL_length (n m : Nat) (hn : n ≤ 8) : (bricksL n m).length ≤ 4 * m := by
 induction m with
 | zero => simp [bricksL]
 | succ m ih => rw [bricksL_succ, List.length_append]; have := brickL_length n m hn; omega
theorem brick_l0 (n : Nat) (hn1 : 2 ≤ n) (hn : n ≤ 8) (d : Nat) : ∀ (q : Nat) (acc : List Int), acc.length + d ≤ 1000 → (n - 1 - q + 1) / 2 = d → q ≤ 10 →
  Ev (fun k => impl_brick.l0 k (n : Int) acc (q : Int)) (acc ++ stp d q) := by
 have hw1 : wrap64 ((n : Int) - 1) = ((n - 1 : Nat) : Int) := by unfold wrap64; omega
 induction d with
 | zero =>
  intro q acc _ hd hq
  refine Ev.succ ?_
  have g1 : ¬ (q : Int) < ((n - 1 : Nat) : Int) := by omega
  simp only [impl_brick.l0, hw1, g1, if_false]
  exact Ev.eq (Ev.now _) (by simp [stp])
 | succ d ih =>
  intro q acc hl hd hq
  refine Ev.succ ?_
  have g1 : (q : Int) < ((n - 1 : Nat) : Int) := by omega
  have g2 : acc.length < 17592186044416 := by omega
  have g3 : wrap64 ((q : Int) + 2) = ((q + 2 : Nat) : Int) := by unfold wrap64; omega
  simp only [impl_brick.l0, hw1, g1, g2, g3, if_true]
  exact Ev.eq (ih (q + 2) (acc ++ [(q : Int)]) (by simp; omega) (by omega) (by omega)) (by simp [stp])
theorem brick_ev (n j : Nat) (hn1 : 2 ≤ n) (hn : n ≤ 8) : Ev (fun k => impl_brick.f k (n : Int) (j : Int)) (brickL n j) := by
 unfold impl_brick.f
 have g2 : Int.tmod (j : Int) 2 = ((j % 2 : Nat) : Int) := by rw [Int.tmod_eq_emod_of_nonneg (by omega)]; omega
 rw [g2]
 exact brick_l0 n hn1 hn _ (j % 2) [] (by simp; omega) rfl (by omega)
theorem lvBricks_l1 (n m : Nat) (hn1 : 2 ≤ n) (hn : n ≤ 8) (j : Nat) (r : List Int) (d : Nat) : ∀ (q : Nat) (acc : List Int), acc.length + d ≤ 1000 → (n - 1 - q + 1) / 2 = d → q ≤ 10 →
  Ev (fun k => spec_lvBricks.l0 k (n : Int) (m : Int) (acc ++ stp d q) (wrap64 ((j : Int) + 1))) r → Ev (fun k => spec_lvBricks.l1 k (n : Int) (m : Int) acc (j : Int) (q : Int)) r := by
 have hw1 : wrap64 ((n : Int) - 1) = ((n - 1 : Nat) : Int) := by unfold wrap64; omega
 induction d with
 | zero =>
  intro q acc _ hd hq h
  refine Ev.succ ?_
  have g1 : ¬ (q : Int) < ((n - 1 : Nat) : Int) := by omega
  simp only [spec_lvBricks.l1, hw1, g1, if_false]
  simpa [stp] using h
 | succ d ih =>
  intro q acc hl hd hq h
  refine Ev.succ ?_
  have g1 : (q : Int) < ((n - 1 : Nat) : Int) := by omega
  have g2 : acc.length < 17592186044416 := by omega
  have g3 : wrap64 ((q : Int) + 2) = ((q + 2 : Nat) : Int) := by unfold wrap64; omega
  simp only [spec_lvBricks.l1, hw1, g1, g2, g3, if_true]
  refine ih (q + 2) (acc ++ [(q : Int)]) (by simp; omega) (by omega) (by omega) ?_
  simpa [stp] using h
theorem lvBricks_ev (n m : Nat) (hn1 : 2 ≤ n) (hn : n ≤ 8) (hm : m ≤ 100) : Ev (fun k => spec_lvBricks.f k (n : Int) (m : Int)) (bricksL n m) := by
 have key := Ev.inv (σ := List Int) (L := fun k j s => spec_lvBricks.l0 k (n : Int) (m : Int) s (j : Int)) (r := bricksL n m) (n := m)
  (Inv := fun j s => s = bricksL n j)
  (fun s hs => by
   subst hs
   refine Ev.succ (Ev.ret fun k => ?_)
   rw [spec_lvBricks.l0, if_neg (by omega)])
  (fun j s hj hs ih => by
   subst hs
   refine Ev.succ ?_
   have g1 : (j : Int) < (m : Int) := by omega
   have g2 : Int.tmod (j : Int) 2 = ((j % 2 : Nat) : Int) := by rw [Int.tmod_eq_emod_of_nonneg (by omega)]; omega
   have hl := bricksL_length n j hn
   simp only [spec_lvBricks.l0, g1, if_true, g2]
   refine lvBricks_l1 n m hn1 hn j _ _ (j % 2) _ (by omega) rfl (by omega) ?_
   rw [wrap_nat j m hj (by omega)]
   exact ih _ (bricksL_succ n j).symm)
 exact key 0 [] (Nat.zero_le _) rfl
theorem bricks_ev (n m : Nat) (hn1 : 2 ≤ n) (hn : n ≤ 8) (hm : m ≤ 100) : Ev (fun k => impl_bricks.f k (n : Int) (m : Int)) (ifLadder n (bricksL n m)) := by
 have key := Ev.inv (σ := List Int) (L := fun k j s => impl_bricks.l0 k (n : Int) (m : Int) (j : Int) (n : Int) s) (r := ifLadder n (bricksL n m)) (n := m)
  (Inv := fun j s => s = bricksL n j)
  (fun s hs => by
   subst hs
   refine Ev.succ ?_
   have g1 : ¬ (m : Int) < (m : Int) := by omega
   simp only [impl_bricks.l0, g1, if_false, checked_f, Option.bind_some]
   exact Ev.now _)
  (fun j s hj hs ih => by
   subst hs
   refine Ev.succ ?_
   have g1 : (j : Int) < (m : Int) := by omega
   have hl := bricksL_length n j hn
   have hb := brickL_length n j hn
   have g2 : (bricksL n j).length + (brickL n j).length < 17592186044416 := by omega
   simp only [impl_bricks.l0, g1, if_true, wrap_nat j m hj (by omega)]
   refine Ev.bind (brick_ev n j hn1 hn) ?_
   simp only [g2, if_true]
   exact ih _ (bricksL_succ n j).symm)
 exact key 0 [] (Nat.zero_le _) rfl
theorem ifLadder_good (a : Int) (l : List Int) : (ifLadder a l).2.2 = true → (ifLadder a l).1 = a ∧ isLadderB a (ifLadder a l).2.1 = true := by
 unfold ifLadder
 by_cases h : isLadderB a l = true
 ·rw [if_pos h]; exact fun _ => ⟨rfl, h⟩
 ·rw [if_neg h]; simp
theorem BrickLadder_both (a x : Int) : ∃ r, Ev (fun k => spec_BrickLadder.f k a x) r ∧ Ev (fun k => impl_BrickLadder.f k a x) r ∧ r.2.1.length ≤ 60 ∧ (r.2.2 = true → r.1 = a ∧ isLadderB a r.2.1 = true) := by
 unfold spec_BrickLadder.f impl_BrickLadder.f spec_lvWires.f impl_isWires.f
 simp only [l1In_f, btw_f, Option.bind_some]
 have fail : Ev (fun k => spec_BrickLadder.j0 k a x true) (0, [], false) := Ev.succ (Ev.ret fun k => by rw [spec_BrickLadder.j0]; rfl)
 cases h1 : inB a 2 8 with
 | false => exact ⟨_, by simpa using fail, by simpa using Ev.now _, by simp, by simp⟩
 | true =>
  cases h2 : inB x 0 20 with
  | false => exact ⟨_, by simpa using fail, by simpa using Ev.now _, by simp, by simp⟩
  | true =>
   have ha := (inB_iff _ _ _).1 h1
   have hx := (inB_iff _ _ _).1 h2
   obtain ⟨n, rfl⟩ : ∃ n : Nat, a = n := ⟨a.toNat, by omega⟩
   obtain ⟨m, rfl⟩ : ∃ n : Nat, x = n := ⟨x.toNat, by omega⟩
   refine ⟨ifLadder n (bricksL n m), ?_, ?_, ifLadder_length _ _, ifLadder_good _ _⟩
   ·simp only [if_true, Bool.not_true]
    refine Ev.succ ?_
    simp only [spec_BrickLadder.j0, Bool.false_eq_true, if_false]
    exact Ev.bind (lvBricks_ev n m (by omega) (by omega) (by omega)) (Ev.bind (laIf_ev _ _) (Ev.now _))
   ·simp only [if_true]
    exact Ev.bind (bricks_ev n m (by omega) (by omega) (by omega)) (Ev.now _)
def ovr (w r : Int) : Int := if w = r then wrap64 (r + 1) else if w = wrap64 (r + 1) then r else w
/-- Where one comes out. -/
def endOf (w : Int) (rungs : List Int) : Int := rungs.foldl ovr w
def downs (w : Int) : List Int → List Int
 | [] => [w]
 | r :: l => w :: downs (ovr w r) l
theorem downs_length (l : List Int) : ∀ w, (downs w l).length = l.length + 1 := by
 induction l with
 | nil => intro w; rfl
 | cons r l ih => intro w; simp [downs, ih]
theorem downs_last (l : List Int) : ∀ w, (downs w l)[l.length]? = some (endOf w l) := by
 induction l with
 | nil => intro w; rfl
 | cons r l ih => intro w; simp [downs, endOf]; exact ih _
theorem downs_snoc (l : List Int) (r : Int) : ∀ w, downs w (l ++ [r]) = downs w l ++ [ovr (endOf w l) r] := by
 induction l with
 | nil => intro w; rfl
 | cons q l ih => intro w; simp [downs, ih, endOf]
theorem endOf_snoc (l : List Int) (r w : Int) : endOf w (l ++ [r]) = ovr (endOf w l) r := by simp [endOf]
/-- The result. -/
def res (n : Nat) (l : List Int) : List Int := (List.range n).map fun (i : Nat) => endOf (i : Int) l
theorem res_length (n : Nat) (l : List Int) : (res n l).length = n := by simp [res]
theorem res_take (n j : Nat) (l : List Int) (h : j < n) : (res n l).take (j + 1) = (res n l).take j ++ [endOf (j : Int) l] := by
 have hj : j < (res n l).length := by rw [res_length]; exact h
 rw [take_snoc _ j hj]; simp [res]
theorem over_f (w r : Int) : impl_over.f w r = some (ovr w r) := by
 unfold impl_over.f ovr; split
 ·rfl
 ·split <;> rfl
theorem way_ev (a : Int) (l : List Int) (w : Int) (hn : l.length ≤ 1000000) : Ev (fun k => impl_way.f k a l w) (downs w l) := by
 have key := Ev.inv (σ := Int × List Int) (L := fun k j s => impl_way.l0 k s.1 s.2 l (l.length : Int) (j : Int)) (r := downs w l) (n := l.length)
  (Inv := fun j s => s.1 = endOf w (l.take j) ∧ s.2 = downs w (l.take j))
  (fun s hs => by
   obtain ⟨s1, s2⟩ := s; obtain ⟨rfl, rfl⟩ := hs
   refine Ev.succ (Ev.ret fun k => ?_)
   rw [impl_way.l0, if_neg (by omega), List.take_length])
  (fun j s hj hs ih => by
   obtain ⟨s1, s2⟩ := s; obtain ⟨rfl, rfl⟩ := hs
   refine Ev.succ ?_
   have h1 : (j : Int) < (l.length : Int) := by omega
   have h0 : (0 : Int) ≤ (j : Int) := by omega
   have h2 : (downs w (l.take j)).length < 17592186044416 := by rw [downs_length, List.length_take]; omega
   simp only [impl_way.l0, h1, h0, h2, if_true, rd_nat l j hj, wrap_nat j _ hj (by omega), over_f, Option.bind_some]
   have e1 : ovr (endOf w (l.take j)) l[j] = endOf w (l.take (j + 1)) := by rw [take_snoc l j hj, endOf_snoc]
   have e2 : downs w (l.take j) ++ [ovr (endOf w (l.take j)) l[j]] = downs w (l.take (j + 1)) := by rw [take_snoc l j hj, downs_snoc]
   exact ih (_, _) ⟨e1, e2⟩)
 exact key 0 (w, [w]) (Nat.zero_le _) ⟨rfl, rfl⟩
theorem result_ev (n : Nat) (l : List Int) (hn : n ≤ 8) (hl : l.length ≤ 1000000) : Ev (fun k => impl_result.f k (n : Int) l) (res n l) := by
 have key := Ev.inv (σ := List Int) (L := fun k j s => impl_result.l0 k (n : Int) l s (n : Int) (j : Int)) (r := res n l) (n := n)
  (Inv := fun j s => s = (res n l).take j)
  (fun s hs => by
   subst hs
   refine Ev.succ (Ev.ret fun k => ?_)
   rw [impl_result.l0, if_neg (by omega), List.take_of_length_le (by rw [res_length]; omega)])
  (fun j s hj hs ih => by
   subst hs
   refine Ev.succ ?_
   have h1 : (j : Int) < (n : Int) := by omega
   have h3 : ((res n l).take j).length < 17592186044416 := by rw [List.length_take, res_length]; omega
   simp only [impl_result.l0, h1, if_true, wrap_nat j n hj (by omega)]
   refine Ev.bind (way_ev (n : Int) l (j : Int) hl) ?_
   have e0 : wrap64 (((downs (j : Int) l).length : Int) - 1) = (l.length : Int) := by rw [downs_length]; unfold wrap64; omega
   have h0 : (0 : Int) ≤ (l.length : Int) := by omega
   have h2 : (l.length : Int) < ((downs (j : Int) l).length : Int) := by rw [downs_length]; omega
   have e : rd (downs (j : Int) l) (l.length : Int) = endOf (j : Int) l := by
    unfold rd; rw [nat_toNat, List.getD_eq_getElem?_getD, downs_last]; rfl
   simp only [e0, h0, h2, h3, if_true, e]
   exact ih _ (res_take n j l hj).symm)
 exact key 0 [] (Nat.zero_le _) rfl
theorem laOver_f (w r : Int) : spec_laOver.f w r = some (ovr w r) := by
 unfold spec_laOver.f ovr; split
 ·rfl
 ·split <;> rfl
theorem laDown_ev (l : List Int) (w : Int) (hn : l.length ≤ 1000000) : Ev (fun k => spec_laDown.f k l w) (downs w l) := by
 have key := Ev.inv (σ := Int × List Int) (L := fun k j s => spec_laDown.l0 k s.1 s.2 l (l.length : Int) (j : Int)) (r := downs w l) (n := l.length)
  (Inv := fun j s => s.1 = endOf w (l.take j) ∧ s.2 = downs w (l.take j))
  (fun s hs => by
   obtain ⟨s1, s2⟩ := s; obtain ⟨rfl, rfl⟩ := hs
   refine Ev.succ (Ev.ret fun k => ?_)
   rw [spec_laDown.l0, if_neg (by omega), List.take_length])
  (fun j s hj hs ih => by
   obtain ⟨s1, s2⟩ := s; obtain ⟨rfl, rfl⟩ := hs
   refine Ev.succ ?_
   have h1 : (j : Int) < (l.length : Int) := by omega
   have h0 : (0 : Int) ≤ (j : Int) := by omega
   have h2 : (downs w (l.take j)).length < 17592186044416 := by rw [downs_length, List.length_take]; omega
   simp only [spec_laDown.l0, h1, h0, h2, if_true, rd_nat l j hj, wrap_nat j _ hj (by omega), laOver_f, Option.bind_some]
   have e1 : ovr (endOf w (l.take j)) l[j] = endOf w (l.take (j + 1)) := by rw [take_snoc l j hj, endOf_snoc]
   have e2 : downs w (l.take j) ++ [ovr (endOf w (l.take j)) l[j]] = downs w (l.take (j + 1)) := by rw [take_snoc l j hj, downs_snoc]
   exact ih (_, _) ⟨e1, e2⟩)
 exact key 0 (w, [w]) (Nat.zero_le _) ⟨rfl, rfl⟩
theorem laResult_ev (n : Nat) (l : List Int) (hn : n ≤ 8) (hl : l.length ≤ 1000000) : Ev (fun k => spec_laResult.f k (n : Int) l) (res n l) := by
 have key := Ev.inv (σ := List Int) (L := fun k j s => spec_laResult.l0 k (n : Int) l s (j : Int)) (r := res n l) (n := n)
  (Inv := fun j s => s = (res n l).take j)
  (fun s hs => by
   subst hs
   refine Ev.succ (Ev.ret fun k => ?_)
   rw [spec_laResult.l0, if_neg (by omega), List.take_of_length_le (by rw [res_length]; omega)])
  (fun j s hj hs ih => by
   subst hs
   refine Ev.succ ?_
   have h1 : (j : Int) < (n : Int) := by omega
   have h0 : (0 : Int) ≤ (l.length : Int) := by omega
   have h2 : (l.length : Int) < ((downs (j : Int) l).length : Int) := by rw [downs_length]; omega
   have h3 : ((res n l).take j).length < 17592186044416 := by rw [List.length_take, res_length]; omega
   simp only [spec_laResult.l0, h1, if_true, wrap_nat j n hj (by omega)]
   refine Ev.bind (laDown_ev l (j : Int) hl) ?_
   have e : rd (downs (j : Int) l) (l.length : Int) = endOf (j : Int) l := by
    unfold rd; rw [nat_toNat, List.getD_eq_getElem?_getD, downs_last]; rfl
   simp only [h0, h2, h3, if_true, e]
   exact ih _ (res_take n j l hj).symm)
 exact key 0 [] (Nat.zero_le _) rfl
theorem levelsOf_impl {n : Nat} {l : List Int} (h : isLadderB (n : Int) l = true) : Ev (fun k => impl_levelsOf.f k (n : Int) l) ((lvPuts [] l).map isoL) := by
 have hl := (isLadderB_iff _ l).1 h
 have hok0 : LevOk n [] := fun _ h => by cases h
 obtain ⟨hok, hlen⟩ := lvPuts_ok (by omega : n ≤ 8) l [] hl.2.2.2 hok0
 unfold impl_levelsOf.f
 have g : l.length ≤ 1000 := by omega
 simp only [g, if_true]
 exact sortAll_ev (by omega : n ≤ 8) _ hok
theorem bk_l3 (L : List (List Int)) (hL : fewL L) (w : Int) (h : isLadderB w L.flatten = true) (hlv : ∀ x, x ∈ L → lvB w x = true) (d : Nat) : ∀ (j : Nat), j + d = L.length → Ev (fun k => laws_FnBricksAndLevels.l3 k L ((L.take j).flatten.length : Int) L (L.length : Int) (j : Int) w L.flatten) true := by
 have hl := (isLadderB_iff _ _).1 h
 obtain ⟨n, rfl⟩ : ∃ n : Nat, w = n := ⟨w.toNat, by omega⟩
 have hflat := fewL_flat L hL.2
 have hL1 := hL.1
 induction d with
 | zero =>
  intro j hj
  refine Ev.succ ?_
  have g1 : ¬ (j : Int) < (L.length : Int) := by omega
  simp only [laws_FnBricksAndLevels.l3, g1, if_false]
  rw [show L.take j = L from List.take_of_length_le (by omega)]
  have hd : Ev (fun k => impl_DepthOf.f k (n : Int) L.flatten) (((lvPuts [] L.flatten).length : Int), true) := by
   unfold impl_DepthOf.f impl_LevelsOf.f impl_isLadder.f
   simp only [Option.bind_some, h, if_true]
   refine Ev.bind (Ev.bind (levelsOf_impl h) (Ev.now _)) ?_
   refine Ev.eq (Ev.now _) ?_
   simp
  refine Ev.bind hd ?_
  have g2 : ((lvPuts [] L.flatten).length : Int) ≤ (L.length : Int) := by
   have := levels_deep L 0 [] (by simp) (fun b hb => lvB_gap (by omega) (by omega) (by have := hL.2 b hb; omega) (hlv b hb))
   show (((L.flatten.foldl lvPut []).length : Nat) : Int) ≤ _
   omega
  simp only [if_true, g2, decide_true]
  exact Ev.now _
 | succ d ih =>
  intro j hj
  have hjl : j < L.length := by omega
  refine Ev.succ ?_
  have g1 : (j : Int) < (L.length : Int) := by omega
  have g2 : (0 : Int) ≤ (j : Int) := by omega
  have hx := hL.2 L[j] (List.getElem_mem hjl)
  have e1 : (L.take (j + 1)).flatten.length = (L.take j).flatten.length + L[j].length := by
   rw [take_snoc L j hjl, List.flatten_append, List.length_append]
   simp
  have hle : (L.take j).flatten.length ≤ 11 * (L.take j).length := fewL_flat _ (fun x hx => hL.2 x (List.mem_of_mem_take hx))
  rw [List.length_take] at hle
  have e2 : wrap64 (((L.take j).flatten.length : Int) + (L[j].length : Int)) = ((L.take (j + 1)).flatten.length : Int) := by
   rw [e1]
   unfold wrap64; omega
  simp only [laws_FnBricksAndLevels.l3, g1, g2, if_true, rd_rows L j hjl, wrap_nat j _ hjl (by omega), e2]
  exact ih (j + 1) (by omega)
theorem bk_j5 (w : Int) (L : List (List Int)) (hL : fewL L) (r : Int × List Int × Bool) (hr : r.2.2 = true → r = (w, L.flatten, true) ∧ isLadderB w L.flatten = true ∧ ∀ x, x ∈ L → lvB w x = true) : Ev (fun k => laws_FnBricksAndLevels.j5 k L r.2.2 r.1 r.2.1) true := by
 refine Ev.succ ?_
 simp only [laws_FnBricksAndLevels.j5]
 refine Ev.iteb (fun h => ?_) (fun _ => Ev.now _)
 obtain ⟨rfl, h1, h2⟩ := hr h
 have := bk_l3 L hL w h1 h2 L.length 0 (by omega)
 rw [List.take_zero] at this
 exact this
def fac (m : Nat) : Nat := (List.range m).foldl (fun a x => a * (x + 1)) 1
theorem fac_succ (m : Nat) : fac (m + 1) = fac m * (m + 1) := by
 unfold fac
 rw [List.range_succ, List.foldl_append]
 rfl
theorem fac_small : (List.range 8).all (fun m => decide (fac m ≤ 100000)) = true := by decide
theorem fac_step (x : Nat) (h1 : 1 ≤ x) (h : x ≤ 7) : wrap64 (((fac (x - 1) : Nat) : Int) * (x : Int)) = ((fac x : Nat) : Int) := by
 have e0 : fac (x - 1) * x = fac x := by
  have := fac_succ (x - 1)
  rw [show x - 1 + 1 = x by omega] at this
  exact this.symm
 have hb : fac x ≤ 100000 := of_decide_eq_true (List.all_eq_true.1 fac_small x (List.mem_range.2 (by omega)))
 rw [← Int.natCast_mul, e0]
 generalize fac x = F at hb
 unfold wrap64; omega
/-- the counts of depths, as the law looks at them -/
structure CntOk (n : Nat) (C : List Int) (R : Int) : Prop where
 sum : C.sum = ((fac n : Nat) : Int)
 zero : rd C 0 = 1
 one : rd C 1 = R - 1
 len : 2 ≤ C.length ∧ C.length ≤ n + 1
 ent : ∀ y, y ∈ C → 0 ≤ y ∧ y ≤ 1000
 cnt : impl_CountLevels.f (n : Int) = some (R, true)
 few : 0 ≤ R ∧ R ≤ 1000
theorem cnt_ok (n : Nat) (hn1 : 2 ≤ n) (hn : n ≤ 6) : ∃ R, CntOk n (depC n) R := by
 obtain ⟨f1, f2, f3, f4, f5, f6⟩ := depC_facts hn1 hn
 have hin : inB (n : Int) 2 8 = true := (inB_iff _ _ _).2 (by omega)
 have e1 : (allO n).length = fac n := eq_of_beq (List.all_eq_true.1 allO_fac n (List.mem_range.2 (by omega)))
 have hrl := rowsL_le n hn
 refine ⟨((rowsL n).length : Int), by rw [f1, e1], f2, f3, ⟨f4, f5⟩, fun y hy => ?_, by rw [CountLevels_impl, if_pos hin]; rfl, ?_⟩
 ·obtain ⟨i, hi, rfl⟩ := List.getElem_of_mem hy
  have := f6 i
  rw [List.getD_eq_getElem?_getD, List.getElem?_eq_getElem hi] at this
  exact this
 ·generalize (rowsL n).length = R at hrl
  omega
theorem bk_l2 (n : Nat) (hn1 : 2 ≤ n) (hn : n ≤ 6) (C : List Int) (R : Int) (hC : CntOk n C R) (w : Int) (L : List (List Int)) (hL : fewL L) (r : Int × List Int × Bool) (hr : r.2.2 = true → r = (w, L.flatten, true) ∧ isLadderB w L.flatten = true ∧ ∀ x, x ∈ L → lvB w x = true) (d : Nat) : ∀ x : Nat, x + d = n + 1 → 1 ≤ x →
  Ev (fun k => laws_FnBricksAndLevels.l2 k (n : Int) C L r.2.2 ((fac (x - 1) : Nat) : Int) (x : Int) r.1 r.2.1) true := by
 induction d with
 | zero =>
  intro x hx _
  refine Ev.succ ?_
  have g1 : ¬ (x : Int) ≤ (n : Int) := by omega
  simp only [laws_FnBricksAndLevels.l2, g1, if_false, hC.cnt, Option.bind_some, if_true]
  have hl := hC.len
  refine Ev.bind (nSum_ev C (by omega) hC.ent) ?_
  have g2 : C.sum = ((fac (x - 1) : Nat) : Int) := by rw [hC.sum, show x - 1 = n by omega]
  have g3 : (0 : Int) < (C.length : Int) := by omega
  have g4 : (1 : Int) < (C.length : Int) := by omega
  have hR := hC.few
  have e2 : wrap64 (R - 1) = R - 1 := wrap_in (by omega) (by omega)
  have e3 : wrap64 ((n : Int) + 1) = (n : Int) + 1 := wrap_in (by omega) (by omega)
  have g5 : ¬ (C.length : Int) > (n : Int) + 1 := by omega
  simp only [g2, g3, g4, hC.zero, hC.one, e2, e3, g5, if_true, if_false]
  exact bk_j5 w L hL r hr
 | succ d ih =>
  intro x hx h1
  refine Ev.succ ?_
  have g1 : (x : Int) ≤ (n : Int) := by omega
  simp only [laws_FnBricksAndLevels.l2, g1, if_true, fac_step x h1 (by omega), wrap_nat x 100 (by omega) (by omega)]
  exact ih (x + 1) (by omega) (by omega)
theorem isLevel_two (a : Int) (x : List Int) (hx : x.length ≤ 1000) : ∃ r, Ev (fun k => impl_IsLevel.f k a x) r ∧ Ev (fun k => spec_IsLevel.f k a x) r := by
 unfold impl_IsLevel.f spec_IsLevel.f spec_lvWires.f impl_isWires.f
 simp only [l1In_f, btw_f, Option.bind_some]
 cases inB a 2 8 with
 | false => exact ⟨(false, false), by simpa using Ev.now _, by simpa using Ev.now _⟩
 | true =>
  refine ⟨(lvB a x, true), ?_, ?_⟩
  ·simp only [if_true]
   exact Ev.bind (isLevel_ev a x (by omega)) (Ev.now _)
  ·simp only [if_true]
   exact Ev.bind (lvGood_ev a x (by omega)) (Ev.now _)
theorem bk_j3 {c : List Int} (hc : Bytes c) : Ev (fun k => laws_FnBricksAndLevels.j3 k c) true := by
 refine Ev.succ ?_
 simp only [laws_FnBricksAndLevels.j3]
 obtain ⟨d, hd⟩ := drawCountDepths_got hc
 obtain ⟨rc, hcs, hci, hcl, hct, hcf⟩ := CountDepths_both d
 obtain ⟨⟨w, L⟩, hdl, hL⟩ := drawLol_got hc
 have hL : fewL L := hL
 have hflat := fewL_flat L hL.2
 have hL1 := hL.1
 obtain ⟨r, hls, hli, hlen, hr⟩ := lol_both w L (by omega) (by omega)
 obtain ⟨⟨u, x⟩, hdi, hxl⟩ := drawIsLevel_got hc
 obtain ⟨rl, hii, his⟩ := isLevel_two u x (by simp only at hxl; omega)
 simp only [hd, Option.bind_some]
 refine Ev.bind hci (Ev.bind hcs (Ev.bind hdl (Ev.bind hli (Ev.bind hls (Ev.bind hdi (Ev.bind hii (Ev.bind his ?_)))))))
 simp only [bne_self_eq_false, Bool.false_eq_true, if_false]
 refine Ev.bind (nSame_refl _ (by omega)) ?_
 simp only [if_true]
 refine Ev.bind (nLadder_refl _ _ (by omega)) ?_
 simp only [if_true]
 refine Ev.iteb (fun h => ?_) (fun _ => bk_j5 w L hL r hr)
 by_cases hdn : 2 ≤ d ∧ d ≤ 6
 ·obtain ⟨n, rfl⟩ : ∃ n : Nat, d = n := ⟨d.toNat, by omega⟩
  have e1 : rc = (depC n, true) := hct hdn
  rw [e1]
  obtain ⟨R, hR⟩ := cnt_ok n (by omega) (by omega)
  exact bk_l2 n (by omega) (by omega) (depC n) R hR w L hL r hr (n - 1) 2 (by omega) (by omega)
 ·rw [hcf hdn] at h
  cases h
theorem rev_ok : (List.range 9).all (fun m => decide (m < 2) || (res m (bricksL m m) == (List.range m).map fun i => ((m - 1 - i : Nat) : Int))) = true := by decide +kernel
theorem bricks_vals (a x : Int) : ∃ r, Ev (fun k => spec_BrickLadder.f k a x) r ∧ Ev (fun k => impl_BrickLadder.f k a x) r ∧ r.2.1.length ≤ 60 ∧ (r.2.2 = true → r.1 = a ∧ isLadderB a r.2.1 = true ∧ r.2.1 = bricksL a.toNat x.toNat) := by
 obtain ⟨r, hs, hi, hl, hg⟩ := BrickLadder_both a x
 refine ⟨r, hs, hi, hl, fun h => ⟨(hg h).1, (hg h).2, ?_⟩⟩
 have hi2 : Ev (fun k => impl_BrickLadder.f k a x) (if inB a 2 8 = true ∧ inB x 0 20 = true then ifLadder a (bricksL a.toNat x.toNat) else (0, [], false)) := by
  unfold impl_BrickLadder.f impl_isWires.f
  simp only [btw_f, Option.bind_some]
  cases h1 : inB a 2 8 with
  | false => simpa using Ev.now _
  | true =>
   cases h2 : inB x 0 20 with
   | false => simpa using Ev.now _
   | true =>
    have ha := (inB_iff _ _ _).1 h1
    have hx := (inB_iff _ _ _).1 h2
    obtain ⟨n, rfl⟩ : ∃ n : Nat, a = n := ⟨a.toNat, by omega⟩
    obtain ⟨m, rfl⟩ : ∃ n : Nat, x = n := ⟨x.toNat, by omega⟩
    simp only [if_true, and_self]
    exact Ev.bind (bricks_ev n m (by omega) (by omega) (by omega)) (Ev.now _)
 have e := Ev.uniq hi hi2
 rw [e] at h ⊢
 by_cases c : inB a 2 8 = true ∧ inB x 0 20 = true
 ·rw [if_pos c] at h ⊢
  unfold ifLadder at h ⊢
  by_cases c2 : isLadderB a (bricksL a.toNat x.toNat) = true
  ·rw [if_pos c2]
  ·rw [if_neg c2] at h; cases h
 ·rw [if_neg c] at h; cases h
theorem bk_l1 {c : List Int} (hc : Bytes c) (m : Nat) (hm1 : 2 ≤ m) (hm : m ≤ 8) (d : Nat) : ∀ j : Nat, j + d = m → Ev (fun k => laws_FnBricksAndLevels.l1 k c (m : Int) (res m (bricksL m m)) ((res m (bricksL m m)).length : Int) (j : Int)) true := by
 have hrev : res m (bricksL m m) = (List.range m).map fun i => ((m - 1 - i : Nat) : Int) := by
  have h := List.all_eq_true.1 rev_ok m (by simp; omega)
  rw [Bool.or_eq_true] at h
  rcases h with h | h
  ·exact absurd (of_decide_eq_true h) (by omega)
  ·exact eq_of_beq h
 have hlen : (res m (bricksL m m)).length = m := by rw [hrev]; simp
 induction d with
 | zero =>
  intro j hj
  refine Ev.succ ?_
  have g1 : ¬ (j : Int) < ((res m (bricksL m m)).length : Int) := by omega
  simp only [laws_FnBricksAndLevels.l1, g1, if_false]
  exact bk_j3 hc
 | succ d ih =>
  intro j hj
  refine Ev.succ ?_
  have g1 : (j : Int) < ((res m (bricksL m m)).length : Int) := by omega
  have g2 : (0 : Int) ≤ (j : Int) := by omega
  have e1 : rd (res m (bricksL m m)) (j : Int) = ((m - 1 - j : Nat) : Int) := by
   rw [rd_nat _ j (by omega)]
   simp only [hrev, List.getElem_map, List.getElem_range]
  have e2 : wrap64 ((m : Int) - 1) = (m : Int) - 1 := wrap_in (by omega) (by omega)
  have e3 : wrap64 ((m : Int) - 1 - (j : Int)) = ((m - 1 - j : Nat) : Int) := by unfold wrap64; omega
  simp only [laws_FnBricksAndLevels.l1, g1, g2, if_true, e1, e2, e3, wrap_nat j 100 (by omega) (by omega)]
  exact ih (j + 1) (by omega)
theorem bk_j1 {c : List Int} (hc : Bytes c) : Ev (fun k => laws_FnBricksAndLevels.j1 k c) true := by
 refine Ev.succ ?_
 simp only [laws_FnBricksAndLevels.j1]
 obtain ⟨⟨m, x⟩, hd⟩ := drawBrickLadder_got hc
 obtain ⟨⟨r0, r1, r2⟩, hs, hi, hl, hg⟩ := bricks_vals m x
 simp only [hd, Option.bind_some]
 refine Ev.bind hi (Ev.bind hs ?_)
 simp only at hl hg
 cases r2 with
 | false =>
  have ho1 : Ev (fun k => impl_BrickOrder.f k m x) ([], false) := Ev.bind hi (by simp only [Bool.false_eq_true, if_false]; exact Ev.now _)
  have ho2 : Ev (fun k => spec_BrickOrder.f k m x) ([], false) := Ev.bind hs (by simp only [Bool.false_eq_true, if_false]; exact Ev.now _)
  refine Ev.bind ho1 (Ev.bind ho2 ?_)
  simp only [bne_self_eq_false, Bool.false_eq_true, if_false]
  refine Ev.bind (nLadder_refl _ _ (by omega)) ?_
  simp only [if_true]
  refine Ev.bind (nSame_refl _ (by simp)) ?_
  simp only [if_true]
  exact bk_j3 hc
 | true =>
  obtain ⟨rfl, hlad, hval⟩ := hg rfl
  have hgl := (isLadderB_iff _ _).1 hlad
  obtain ⟨n, rfl⟩ : ∃ n : Nat, r0 = n := ⟨r0.toNat, by omega⟩
  have hri := result_ev n r1 (by omega) (by omega)
  have ho1 : Ev (fun k => impl_BrickOrder.f k (n : Int) x) (res n r1, true) := Ev.bind hi (by simp only [if_true]; exact Ev.bind hri (Ev.now _))
  have ho2 : Ev (fun k => spec_BrickOrder.f k (n : Int) x) (res n r1, true) := Ev.bind hs (by simp only [if_true]; exact Ev.bind (laResult_ev n r1 (by omega) (by omega)) (Ev.now _))
  have hrl : (res n r1).length = n := res_length n r1
  have hres : Ev (fun k => impl_ResultOf.f k (n : Int) r1) (res n r1, true) := by
   unfold impl_ResultOf.f impl_isLadder.f
   simp only [Option.bind_some, hlad, if_true]
   exact Ev.bind hri (Ev.now _)
  refine Ev.bind ho1 (Ev.bind ho2 ?_)
  simp only [bne_self_eq_false, Bool.false_eq_true, if_false]
  refine Ev.bind (nLadder_refl _ _ (by omega)) ?_
  simp only [if_true]
  refine Ev.bind (nSame_refl _ (by omega)) ?_
  simp only [if_true]
  refine Ev.bind hres ?_
  simp only [if_true]
  refine Ev.bind (nSame_refl _ (by omega)) ?_
  simp only [if_true]
  refine Ev.ite (fun hx => ?_) (fun _ => bk_j3 hc)
  subst hx
  have e1 : r1 = bricksL n n := hval
  rw [e1]
  exact bk_l1 hc n (by omega) (by omega) n 0 (by omega)
/-- the list of all levels, as the law looks at it -/
structure RowsOk (n : Nat) (W : List (List Int)) : Prop where
 few : W.length ≤ 100
 head : ∃ ps, W = [] :: ps
 lev : ∀ x, x ∈ W → x.length ≤ 8 ∧ lvB (n : Int) x = true
 less : ∀ i, (h : i + 1 < W.length) → lessB W[i] W[i + 1] = true
 sum : 4 ≤ n → ∃ a b : Int, impl_CountLevels.f (((n - 1 : Nat) : Int)) = some (a, true) ∧ impl_CountLevels.f (((n - 2 : Nat) : Int)) = some (b, true) ∧ wrap64 (a + b) = (W.length : Int)
theorem rowsOk (n : Nat) (hn1 : 2 ≤ n) (hn : n ≤ 8) : RowsOk n (rowsL n) := by
 obtain ⟨f1, f2, f3, f4⟩ := rows_at hn1 hn
 refine ⟨f1, f2, f3, f4, fun h4 => ?_⟩
 have i1 : inB (((n - 1 : Nat) : Int)) 2 8 = true := (inB_iff _ _ _).2 (by omega)
 have i2 : inB (((n - 2 : Nat) : Int)) 2 8 = true := (inB_iff _ _ _).2 (by omega)
 refine ⟨((rowsL (n - 1)).length : Int), ((rowsL (n - 2)).length : Int), by rw [CountLevels_impl, if_pos i1]; rfl, by rw [CountLevels_impl, if_pos i2]; rfl, ?_⟩
 have hs := rows_sum (n := n) h4 hn
 generalize (rowsL (n - 1)).length = a at hs
 generalize (rowsL (n - 2)).length = b at hs
 generalize (rowsL n).length = c at hs f1
 unfold wrap64; omega
theorem bk_l0 {c : List Int} (hc : Bytes c) (n : Nat) (hn1 : 2 ≤ n) (hn : n ≤ 8) (W : List (List Int)) (hW : RowsOk n W) (d : Nat) : ∀ j : Nat, j + d = W.length → Ev (fun k => laws_FnBricksAndLevels.l0 k c (n : Int) W (W.length : Int) W (W.length : Int) (j : Int)) true := by
 have f1 := hW.few
 have hin : inB (n : Int) 2 8 = true := (inB_iff _ _ _).2 (by omega)
 induction d with
 | zero =>
  intro j hj
  refine Ev.succ ?_
  have g1 : ¬ (j : Int) < (W.length : Int) := by omega
  simp only [laws_FnBricksAndLevels.l0, g1, if_false]
  refine Ev.ite (fun h4 => ?_) (fun _ => bk_j1 hc)
  have e1 : wrap64 ((n : Int) - 1) = ((n - 1 : Nat) : Int) := by unfold wrap64; omega
  have e2 : wrap64 ((n : Int) - 2) = ((n - 2 : Nat) : Int) := by unfold wrap64; omega
  obtain ⟨a, b, c1, c2, e3⟩ := hW.sum (by omega)
  simp only [e1, e2, c1, c2, Option.bind_some, if_true, e3]
  exact bk_j1 hc
 | succ d ih =>
  intro j hj
  have hjl : j < W.length := by omega
  refine Ev.succ ?_
  have g1 : (j : Int) < (W.length : Int) := by omega
  have g2 : (0 : Int) ≤ (j : Int) := by omega
  have hx := hW.lev W[j] (List.getElem_mem hjl)
  have hil : Ev (fun k => impl_IsLevel.f k (n : Int) W[j]) (true, true) := by
   unfold impl_IsLevel.f impl_isWires.f
   simp only [btw_f, Option.bind_some, hin, if_true]
   refine Ev.bind (isLevel_ev (n : Int) _ (by omega)) ?_
   rw [hx.2]
   exact Ev.now _
  simp only [laws_FnBricksAndLevels.l0, g1, g2, if_true, rd_rows W j hjl, wrap_nat j _ hjl (by omega)]
  refine Ev.bind hil ?_
  simp only [if_true]
  refine Ev.ite (fun h0 => ?_) (fun _ => ih (j + 1) (by omega))
  have e1 : wrap64 ((j : Int) - 1) = ((j - 1 : Nat) : Int) := by unfold wrap64; omega
  have g3 : (0 : Int) ≤ ((j - 1 : Nat) : Int) := by omega
  have g4 : ((j - 1 : Nat) : Int) < (W.length : Int) := by omega
  simp only [e1, g3, g4, if_true, rd_rows W (j - 1) (by omega)]
  have hless := hW.less (j - 1) (by omega)
  have e5 : W[j - 1 + 1]'(by omega) = W[j] := by congr 1; omega
  rw [e5] at hless
  refine Ev.bind (nLess_ev _ _ hless) ?_
  simp only [if_true]
  exact ih (j + 1) (by omega)
theorem FnBricksAndLevels : ∀ (l0 : List Int) (l1 : List Int), l0.length ≤ maxLen → (∀ x ∈ l0, (Lit.int .u8 x).wf = true) → l1.length ≤ maxLen → (∀ x ∈ l1, (Lit.int .u8 x).wf = true) → ∃ k, laws_FnBricksAndLevels.f k l0 l1 = some true := by
 intro c1 c2 h1 b1 h2 b2
 refine Ev.rounds ?_
 unfold laws_FnBricksAndLevels.f
 obtain ⟨t, ht, hts⟩ := big_ev c1 c2 h1 h2
 simp only [ht, Option.bind_some]
 refine Ev.iteb (fun _ => Ev.now _) (fun hf => ?_)
 obtain ⟨hl1, hl2⟩ := hts hf
 have hc1 : Bytes c1 := ⟨hl1, bytes_of b1⟩
 have hc2 : Bytes c2 := ⟨hl2, bytes_of b2⟩
 obtain ⟨a, ha⟩ := drawAllLevels_got hc1
 simp only [ha, Option.bind_some, AllLevels_impl, CountLevels_impl]
 refine Ev.bind (AllLevels_spec a) ?_
 refine Ev.bind (CountLevels_spec a) ?_
 cases hin : inB a 2 8 with
 | false =>
  simp only [bne_self_eq_false, Bool.false_eq_true, if_false]
  refine Ev.bind (nRows_refl [] (by simp) (fun x hx => by cases hx)) ?_
  simp only [if_true]
  exact bk_j1 hc2
 | true =>
  have hb := (inB_iff _ _ _).1 hin
  obtain ⟨n, rfl⟩ : ∃ n : Nat, a = n := ⟨a.toNat, by omega⟩
  have hW := rowsOk n (by omega) (by omega)
  simp only [if_true, Int.toNat_natCast, bne_self_eq_false, Bool.false_eq_true, if_false]
  generalize rowsL n = W at hW
  have hf := hW.few
  refine Ev.bind (nRows_refl W (by omega) (fun x hx => by have := (hW.lev x hx).1; omega)) ?_
  obtain ⟨ps, f2⟩ := hW.head
  have g1 : (0 : Int) < (W.length : Int) := by rw [f2, List.length_cons]; omega
  have g2 : (((rd_L2 W 0).length : Nat) : Int) = 0 := by rw [f2]; rfl
  simp only [if_true, g1, g2]
  exact bk_l0 hc2 n (by omega) (by omega) W hW W.length 0 (by omega)
end Go.Proofs.YtpgbfkgmmkchnaaGreat.Q
